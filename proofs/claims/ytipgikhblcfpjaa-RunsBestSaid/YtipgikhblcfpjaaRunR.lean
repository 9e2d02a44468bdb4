/- A part of the proof: contracts of functions of the program, shown by walking through their code in an abstract machine. Condition: none. -/
import Derived.Test.YtipgikhblcfpjaaRunQ
import Derived.Test.YtipgikhblcfpjaaRunI
import Derived.Test.YtipgikhblcfpjaaRunF
set_option linter.unusedVariables false
set_option linter.unusedSimpArgs false
namespace Go.Abs.Run
open Go Go.Proofs
set_option maxHeartbeats 4000000
set_option maxRecDepth 8000
-- @SEAT 10
theorem ediv_of {a b q r : Int} (hb : 0 < b) (e : b * q + r = a) (h1 : 0 ≤ r) (h2 : r < b) : a / b = q := by
  have h3 := (Int.le_ediv_iff_mul_le (a := q) (b := a) hb).2 (by rw [Int.mul_comm]; omega)
  have h4 := (Int.ediv_lt_iff_lt_mul (a := a) (b := q + 1) hb).2 (by rw [Int.add_mul, Int.mul_comm]; omega)
  omega
-- @FN 33
theorem floor33 {a b : Int} (hb : 0 < b ∧ b ≤ 1000000000000000) (ha : -1000000000000000 ≤ a ∧ a ≤ 1000000000000000) : SC Try.prog 33 [.int .i64 a, .int .i64 b] [] fun v l => v = .int .i64 (a / b) ∧ l = [] := by
  refine SC.enter Try.func33 rfl (by rw [Try.ntmps33]; simp) fun σ hσ => ?_
  rw [Try.ntmps33]
  have e := Int.mul_tdiv_add_tmod a b
  have r1 := Int.lt_tmod_of_pos a hb.1
  have r2 := Int.tmod_lt_of_pos a hb.1
  have qb : -1000000000000000 ≤ a.tdiv b ∧ a.tdiv b ≤ 1000000000000000 := by
    have h1 : (a.tdiv b).natAbs ≤ a.natAbs := by rw [Int.natAbs_tdiv]; exact Nat.div_le_self _ _
    omega
  have hq : -9223372036854775808 ≤ a.tdiv b ∧ a.tdiv b ≤ 9223372036854775807 := by omega
  repeat (first | refine SGo.seq ?_ | refine SGo.skip ?_ | refine SGo.inBlock ?_ | refine SGo.block ?_ | refine SGo.scope ?_ | refine SGo.inScope ?_ | refine SGo.label ?_ | refine SGo.exit rfl ?_)
  refine SGo.reg ?_
  refine SReg.as rfl rfl rfl ?_
  refine SReg.nil ?_
  repeat (first | refine SGo.seq ?_ | refine SGo.skip ?_ | refine SGo.inBlock ?_ | refine SGo.block ?_ | refine SGo.scope ?_ | refine SGo.inScope ?_ | refine SGo.label ?_ | refine SGo.exit rfl ?_)
  repeat (first | refine SGo.seq ?_ | refine SGo.skip ?_ | refine SGo.inBlock ?_ | refine SGo.block ?_ | refine SGo.scope ?_ | refine SGo.inScope ?_ | refine SGo.label ?_ | refine SGo.exit rfl ?_)
  refine SGo.reg ?_
  refine SReg.mv rfl rfl rfl ?_
  refine SReg.mv rfl rfl rfl ?_
  refine SReg.ex rfl rfl (fun _ _ => ex_quo rfl rfl (by first | assumption | omega | decide) (by first | assumption | omega | decide)) ?_
  refine SReg.as rfl rfl rfl ?_
  refine SReg.nil ?_
  repeat (first | refine SGo.seq ?_ | refine SGo.skip ?_ | refine SGo.inBlock ?_ | refine SGo.block ?_ | refine SGo.scope ?_ | refine SGo.inScope ?_ | refine SGo.label ?_ | refine SGo.exit rfl ?_)
  repeat (first | refine SGo.seq ?_ | refine SGo.skip ?_ | refine SGo.inBlock ?_ | refine SGo.block ?_ | refine SGo.scope ?_ | refine SGo.inScope ?_ | refine SGo.label ?_ | refine SGo.exit rfl ?_)
  refine SGo.reg ?_
  refine SReg.mv rfl rfl rfl ?_
  refine SReg.mv rfl rfl rfl ?_
  refine SReg.ex rfl rfl (fun _ _ => ex_rem rfl rfl (by first | assumption | omega | decide)) ?_
  refine SReg.ex rfl rfl (fun _ _ => by first | exact ex_bool (ex_lss rfl rfl) (by assumption) | exact ex_lss rfl rfl) ?_
  refine SReg.nil ?_
  repeat (first | refine SGo.seq ?_ | refine SGo.skip ?_ | refine SGo.inBlock ?_ | refine SGo.block ?_ | refine SGo.scope ?_ | refine SGo.inScope ?_ | refine SGo.label ?_ | refine SGo.exit rfl ?_)
  refine SGo.condD rfl (fun h => ?_) (fun h => ?_)
  · repeat (first | refine SGo.seq ?_ | refine SGo.skip ?_ | refine SGo.inBlock ?_ | refine SGo.block ?_ | refine SGo.scope ?_ | refine SGo.inScope ?_ | refine SGo.label ?_ | refine SGo.exit rfl ?_)
    refine SGo.reg ?_
    refine SReg.mv rfl rfl rfl ?_
    refine SReg.ex rfl rfl (fun _ _ => ex_sub rfl rfl (by first | assumption | omega | decide)) ?_
    refine SReg.as rfl rfl rfl ?_
    refine SReg.nil ?_
    repeat (first | refine SGo.seq ?_ | refine SGo.skip ?_ | refine SGo.inBlock ?_ | refine SGo.block ?_ | refine SGo.scope ?_ | refine SGo.inScope ?_ | refine SGo.label ?_ | refine SGo.exit rfl ?_)
    repeat (first | refine SGo.seq ?_ | refine SGo.skip ?_ | refine SGo.inBlock ?_ | refine SGo.block ?_ | refine SGo.scope ?_ | refine SGo.inScope ?_ | refine SGo.label ?_ | refine SGo.exit rfl ?_)
    refine SGo.reg ?_
    refine SReg.mv rfl rfl rfl ?_
    refine SReg.as rfl rfl rfl ?_
    refine SReg.nil ?_
    repeat (first | refine SGo.seq ?_ | refine SGo.skip ?_ | refine SGo.inBlock ?_ | refine SGo.block ?_ | refine SGo.scope ?_ | refine SGo.inScope ?_ | refine SGo.label ?_ | refine SGo.exit rfl ?_)
    refine SGo.ret Try.func33 (fun τ hτ => ares_tmp rfl ares_nil) fun τ hτ => ⟨_, hτ, ?_, rfl⟩
    rw [ediv_of (q := a.tdiv b - 1) (r := a.tmod b + b) hb.1 (by rw [Int.mul_sub, Int.mul_one]; omega) (by omega) (by omega)]; rfl
  · repeat (first | refine SGo.seq ?_ | refine SGo.skip ?_ | refine SGo.inBlock ?_ | refine SGo.block ?_ | refine SGo.scope ?_ | refine SGo.inScope ?_ | refine SGo.label ?_ | refine SGo.exit rfl ?_)
    repeat (first | refine SGo.seq ?_ | refine SGo.skip ?_ | refine SGo.inBlock ?_ | refine SGo.block ?_ | refine SGo.scope ?_ | refine SGo.inScope ?_ | refine SGo.label ?_ | refine SGo.exit rfl ?_)
    refine SGo.reg ?_
    refine SReg.mv rfl rfl rfl ?_
    refine SReg.as rfl rfl rfl ?_
    refine SReg.nil ?_
    repeat (first | refine SGo.seq ?_ | refine SGo.skip ?_ | refine SGo.inBlock ?_ | refine SGo.block ?_ | refine SGo.scope ?_ | refine SGo.inScope ?_ | refine SGo.label ?_ | refine SGo.exit rfl ?_)
    refine SGo.ret Try.func33 (fun τ hτ => ares_tmp rfl ares_nil) fun τ hτ => ⟨_, hτ, ?_, rfl⟩
    rw [ediv_of (q := a.tdiv b) (r := a.tmod b) hb.1 e (by omega) (by omega)]; rfl
/-- What a list of zeros becomes, one by one. -/
theorem set_mid {α : Type} (xs : List α) (n : Nat) (z v : α) (h : 0 < n) : (xs ++ List.replicate n z).set xs.length v = (xs ++ [v]) ++ List.replicate (n - 1) z := by
  obtain ⟨m, rfl⟩ : ∃ m, n = m + 1 := ⟨n - 1, by omega⟩
  rw [List.set_append_right _ _ (Nat.le_refl _)]
  simp [List.replicate_succ]
theorem ediv_bnd {a b : Int} (hb : 2 ≤ b) (ha : -1000000000000 ≤ a ∧ a ≤ 1000000000000) : -1000000000001 ≤ a / b ∧ a / b ≤ 1000000000001 := by
  constructor
  · exact (Int.le_ediv_iff_mul_le (by omega)).2 (by omega)
  · have := (Int.ediv_lt_iff_lt_mul (a := a) (b := 1000000000001) (c := b) (by omega)).2 (by omega)
    omega
theorem numL_take {zs : List Int} {T lim : Int} {k : Nat} (hk : k < zs.length) : (numL zs T lim).take (k + 1) = (numL zs T lim).take k ++ [numF T zs.sum lim (zs.getD k 0)] := by
  rw [take_succ' 0 (by simpa [numL] using hk), numL_getD hk]
theorem numL_len (zs : List Int) (T lim : Int) : (numL zs T lim).length = zs.length := by simp [numL]
theorem bnd_sum {zs : List Int} {M : Int} (h : ∀ x ∈ zs, 0 ≤ x ∧ x ≤ M) : 0 ≤ zs.sum ∧ zs.sum ≤ M * (zs.length : Int) := by
  induction zs with
  | nil => simp
  | cons a l ih =>
    have h1 := h a (by simp)
    have h2 := ih fun x hx => h x (by simp [hx])
    simp only [List.sum_cons, List.length_cons]
    rw [Int.natCast_add, Int.mul_add]
    omega
-- @FN 32
theorem numbers32 {B1 B2 B3 : Nat} {c : Option Nat} {off cap : Nat} {cs : List Value} {rw : Bool} {zs : List Int} {T lim : Int} (hz : (cs.drop off).take zs.length = zs.map (Value.int .i64)) (hl : zs.length ≤ 100) (hT : 0 ≤ T ∧ T ≤ 1000) (hlim : -100000000000 ≤ lim ∧ lim ≤ 100000000000) (hw : ∀ x ∈ zs, 1 ≤ x ∧ x ≤ 65536) (hs : 1 ≤ zs.sum ∧ zs.sum ≤ 10000000) :
    SC Try.prog 32 [.int .i64 lim, .pointer (some ⟨B1, 0, none⟩), .pointer (some ⟨B2, 0, none⟩), .pointer (some ⟨B3, 0, none⟩)] [(some B1, .cells [gv c off zs.length cap] 22 true), (some B2, .cells [.int .i64 T] 3 true), (some B3, .cells [.int .i64 zs.sum] 3 true), (c, .cells cs 3 rw)]
      fun v l => ∃ C, v = .tuple #[sv (some C) zs.length, .int .i64 (numL zs T lim).sum] ∧ l = [(some C, .cells ((numL zs T lim).map (Value.int .i64)) 3 true)] := by
  refine SC.enter Try.func32 rfl (by rw [Try.ntmps32]; simp) fun σ hσ => ?_
  rw [Try.ntmps32]
  repeat (first | refine SGo.seq ?_ | refine SGo.skip ?_ | refine SGo.inBlock ?_ | refine SGo.block ?_ | refine SGo.scope ?_ | refine SGo.inScope ?_ | refine SGo.label ?_ | refine SGo.exit rfl ?_)
  refine SGo.reg ?_
  refine SReg.as rfl rfl rfl ?_
  refine SReg.as rfl rfl rfl ?_
  refine SReg.nil ?_
  repeat (first | refine SGo.seq ?_ | refine SGo.skip ?_ | refine SGo.inBlock ?_ | refine SGo.block ?_ | refine SGo.scope ?_ | refine SGo.inScope ?_ | refine SGo.label ?_ | refine SGo.exit rfl ?_)
  repeat (first | refine SGo.seq ?_ | refine SGo.skip ?_ | refine SGo.inBlock ?_ | refine SGo.block ?_ | refine SGo.scope ?_ | refine SGo.inScope ?_ | refine SGo.label ?_ | refine SGo.exit rfl ?_)
  refine SGo.reg ?_
  refine SReg.ld rfl rfl rfl (by first | exact sld_cell (tf (by rfl)) rfl (by first | assumption | rfl) | exact sld_sub (d := (0 : Int)) (by assumption) (tf (by rfl)) rfl rfl (by omega) | exact sld_at (0 : Int) (tf (by rfl)) rfl rfl (by omega) | exact sld_sub (d := false) (by assumption) (tf (by rfl)) rfl rfl (by omega) | exact sld_at false (tf (by rfl)) rfl rfl (by omega) | exact sld_all (tf (by rfl)) rfl (by first | rfl | (simp; done))) ?_
  refine SReg.valG rfl rfl (sx_lenG rfl (tf (by rfl)) (by first | exact hz_nil (by assumption) | exact map_nil | exact len_nil (by first | assumption | rfl | (simp; done)))) ?_
  refine SReg.makeSlice rfl rfl rfl (amakeSlice_at (n := zs.length) (m := zs.length) ty22 ty3 rfl rfl (Nat.le_refl _) (by omega) (by omega)) fun C => ?_
  rw [zerosL_one rfl]
  refine SReg.as rfl rfl rfl ?_
  refine SReg.as rfl rfl rfl ?_
  refine SReg.nil ?_
  repeat (first | refine SGo.seq ?_ | refine SGo.skip ?_ | refine SGo.inBlock ?_ | refine SGo.block ?_ | refine SGo.scope ?_ | refine SGo.inScope ?_ | refine SGo.label ?_ | refine SGo.exit rfl ?_)
  repeat (first | refine SGo.seq ?_ | refine SGo.skip ?_ | refine SGo.inBlock ?_ | refine SGo.block ?_ | refine SGo.scope ?_ | refine SGo.inScope ?_ | refine SGo.label ?_ | refine SGo.exit rfl ?_)
  refine SGo.reg ?_
  refine SReg.ld rfl rfl rfl (by first | exact sld_cell (tf (by rfl)) rfl (by first | assumption | rfl) | exact sld_sub (d := (0 : Int)) (by assumption) (tf (by rfl)) rfl rfl (by omega) | exact sld_at (0 : Int) (tf (by rfl)) rfl rfl (by omega) | exact sld_sub (d := false) (by assumption) (tf (by rfl)) rfl rfl (by omega) | exact sld_at false (tf (by rfl)) rfl rfl (by omega) | exact sld_all (tf (by rfl)) rfl (by first | rfl | (simp; done))) ?_
  refine SReg.valG rfl rfl (sx_lenG rfl (tf (by rfl)) (by first | exact hz_nil (by assumption) | exact map_nil | exact len_nil (by first | assumption | rfl | (simp; done)))) ?_
  refine SReg.mv rfl rfl rfl ?_
  refine SReg.nil ?_
  repeat (first | refine SGo.seq ?_ | refine SGo.skip ?_ | refine SGo.inBlock ?_ | refine SGo.block ?_ | refine SGo.scope ?_ | refine SGo.inScope ?_ | refine SGo.label ?_ | refine SGo.exit rfl ?_)
  have hnl := numL_len zs T lim
  refine SGo.loopI (ι := Nat) (F := fun k => [(0, .int .i64 lim), (1, .pointer (some ⟨B1, 0, none⟩)), (2, .pointer (some ⟨B2, 0, none⟩)), (3, .pointer (some ⟨B3, 0, none⟩)), (7, sv (some C) zs.length), (8, .int .i64 ((numL zs T lim).take k).sum), (14, gv c off zs.length cap), (15, .int .i64 (zs.length : Nat)), (16, .int .i64 (k : Nat))])
    (O := fun _ => [(some B1, .cells [gv c off zs.length cap] 22 true), (some B2, .cells [.int .i64 T] 3 true), (some B3, .cells [.int .i64 zs.sum] 3 true), (c, .cells cs 3 rw)]) (l0 := fun k => [(some C, .cells (((numL zs T lim).take k).map (Value.int .i64) ++ List.replicate (zs.length - k) (.int .i64 0)) 3 true)]) (I := fun k => k ≤ zs.length) (μ := fun k => zs.length - k) ?_ (x0 := 0) (Nat.zero_le _) ⟨rfl, rfl, rfl, rfl, rfl, rfl, rfl, rfl, rfl, trivial⟩ rfl (by simp)
  rintro k hk next
  have hlenC : (((numL zs T lim).take k).map (Value.int .i64) ++ List.replicate (zs.length - k) (Value.int .i64 0)).length = zs.length := by simp [hnl]; omega
  repeat (first | refine SGo.seq ?_ | refine SGo.skip ?_ | refine SGo.inBlock ?_ | refine SGo.block ?_ | refine SGo.scope ?_ | refine SGo.inScope ?_ | refine SGo.label ?_ | refine SGo.exit rfl ?_)
  refine SGo.reg ?_
  refine SReg.ex rfl rfl (fun _ _ => by first | exact ex_bool (ex_lss rfl rfl) (by assumption) | exact ex_lss rfl rfl) ?_
  refine SReg.nil ?_
  repeat (first | refine SGo.seq ?_ | refine SGo.skip ?_ | refine SGo.inBlock ?_ | refine SGo.block ?_ | refine SGo.scope ?_ | refine SGo.inScope ?_ | refine SGo.label ?_ | refine SGo.exit rfl ?_)
  refine SGo.condD rfl (fun h => ?_) (fun h => ?_)
  · have hk' : k < zs.length := by omega
    obtain ⟨w, hwd⟩ : ∃ w, w = zs.getD k 0 := ⟨_, rfl⟩
    have hwb : 1 ≤ w ∧ w ≤ 65536 := hw w (by rw [hwd, List.getD_eq_getElem?_getD, List.getElem?_eq_getElem hk']; exact List.getElem_mem hk')
    have hTw : 0 ≤ 2 * T * w ∧ 2 * T * w ≤ 131072000 := by
      have h1 := Int.mul_le_mul (show 2 * T ≤ 2000 by omega) hwb.2 (by omega) (by omega)
      have h2 := Int.mul_nonneg (show 0 ≤ 2 * T by omega) (show 0 ≤ w by omega)
      omega
    have hTw' : -9223372036854775808 ≤ 2 * T * w ∧ 2 * T * w ≤ 9223372036854775807 := by omega
    have hfb := ediv_bnd (a := lim + 2 * T * w - zs.sum) (b := 2 * zs.sum) (by omega) (by omega)
    have hF : 1 ≤ numF T zs.sum lim w ∧ numF T zs.sum lim w ≤ 1000000000002 := by unfold numF; omega
    have hmax : (if (lim + 2 * T * w - zs.sum) / (2 * zs.sum) + 1 > 1 then (lim + 2 * T * w - zs.sum) / (2 * zs.sum) + 1 else 1) = numF T zs.sum lim w := by unfold numF; split <;> omega
    have hts := take_sum (zs := numL zs T lim) (k := k) (by omega)
    have hsb := bnd_sum (zs := (numL zs T lim).take k) (M := 1000000000002) fun x hx => by
      have := List.mem_of_mem_take hx
      simp only [numL, List.mem_map] at this
      obtain ⟨y, hy, rfl⟩ := this
      have hyb := hw y hy
      have h1 := Int.mul_le_mul (show 2 * T ≤ 2000 by omega) hyb.2 (by omega) (by omega)
      have h2 := Int.mul_nonneg (show 0 ≤ 2 * T by omega) (show 0 ≤ y by omega)
      have := ediv_bnd (a := lim + 2 * T * y - zs.sum) (b := 2 * zs.sum) (by omega) (by omega)
      unfold numF; omega
    rw [List.length_take, hnl, Nat.min_eq_left hk] at hsb
    rw [numL_getD hk', ← hwd] at hts
    repeat (first | refine SGo.seq ?_ | refine SGo.skip ?_ | refine SGo.inBlock ?_ | refine SGo.block ?_ | refine SGo.scope ?_ | refine SGo.inScope ?_ | refine SGo.label ?_ | refine SGo.exit rfl ?_)
    refine SGo.reg ?_
    refine SReg.mv rfl rfl rfl ?_
    refine SReg.idxG rfl rfl rfl rfl (tf (by rfl)) (tf (by rfl)) (by first | assumption | rfl) (by omega) (by first | exact hz_nil (by assumption) | exact map_nil | exact len_nil (by first | assumption | rfl | (simp; done))) (fun _ hidx => ?_)
    cases hidx
    refine SReg.ld rfl rfl rfl (by first | exact sld_cell (tf (by rfl)) rfl (by first | assumption | rfl) | exact sld_sub (d := (0 : Int)) (by assumption) (tf (by rfl)) rfl rfl (by omega) | exact sld_at (0 : Int) (tf (by rfl)) rfl rfl (by omega) | exact sld_sub (d := false) (by assumption) (tf (by rfl)) rfl rfl (by omega) | exact sld_at false (tf (by rfl)) rfl rfl (by omega) | exact sld_all (tf (by rfl)) rfl (by first | rfl | (simp; done))) ?_
    refine SReg.as rfl rfl rfl ?_
    refine SReg.as rfl rfl rfl ?_
    refine SReg.nil ?_
    repeat (first | refine SGo.seq ?_ | refine SGo.skip ?_ | refine SGo.inBlock ?_ | refine SGo.block ?_ | refine SGo.scope ?_ | refine SGo.inScope ?_ | refine SGo.label ?_ | refine SGo.exit rfl ?_)
    rw [← hwd]
    repeat (first | refine SGo.seq ?_ | refine SGo.skip ?_ | refine SGo.inBlock ?_ | refine SGo.block ?_ | refine SGo.scope ?_ | refine SGo.inScope ?_ | refine SGo.label ?_ | refine SGo.exit rfl ?_)
    refine SGo.reg ?_
    refine SReg.mv rfl rfl rfl ?_
    refine SReg.mv rfl rfl rfl ?_
    refine SReg.mv rfl rfl rfl ?_
    refine SReg.ld rfl rfl rfl (by first | exact sld_cell (tf (by rfl)) rfl (by first | assumption | rfl) | exact sld_sub (d := (0 : Int)) (by assumption) (tf (by rfl)) rfl rfl (by omega) | exact sld_at (0 : Int) (tf (by rfl)) rfl rfl (by omega) | exact sld_sub (d := false) (by assumption) (tf (by rfl)) rfl rfl (by omega) | exact sld_at false (tf (by rfl)) rfl rfl (by omega) | exact sld_all (tf (by rfl)) rfl (by first | rfl | (simp; done))) ?_
    refine SReg.ex rfl rfl (fun _ _ => ex_mul rfl rfl (by first | assumption | omega | decide)) ?_
    refine SReg.mv rfl rfl rfl ?_
    refine SReg.ex rfl rfl (fun _ _ => ex_mul rfl rfl (by first | assumption | omega | decide)) ?_
    refine SReg.ex rfl rfl (fun _ _ => ex_add rfl rfl (by first | assumption | omega | decide)) ?_
    refine SReg.ld rfl rfl rfl (by first | exact sld_cell (tf (by rfl)) rfl (by first | assumption | rfl) | exact sld_sub (d := (0 : Int)) (by assumption) (tf (by rfl)) rfl rfl (by omega) | exact sld_at (0 : Int) (tf (by rfl)) rfl rfl (by omega) | exact sld_sub (d := false) (by assumption) (tf (by rfl)) rfl rfl (by omega) | exact sld_at false (tf (by rfl)) rfl rfl (by omega) | exact sld_all (tf (by rfl)) rfl (by first | rfl | (simp; done))) ?_
    refine SReg.ex rfl rfl (fun _ _ => ex_sub rfl rfl (by first | assumption | omega | decide)) ?_
    refine SReg.ld rfl rfl rfl (by first | exact sld_cell (tf (by rfl)) rfl (by first | assumption | rfl) | exact sld_sub (d := (0 : Int)) (by assumption) (tf (by rfl)) rfl rfl (by omega) | exact sld_at (0 : Int) (tf (by rfl)) rfl rfl (by omega) | exact sld_sub (d := false) (by assumption) (tf (by rfl)) rfl rfl (by omega) | exact sld_at false (tf (by rfl)) rfl rfl (by omega) | exact sld_all (tf (by rfl)) rfl (by first | rfl | (simp; done))) ?_
    refine SReg.ex rfl rfl (fun _ _ => ex_mul rfl rfl (by first | assumption | omega | decide)) ?_
    refine SReg.go (floor33 (by omega) (by omega)) rfl rfl (by kernel_rfl) ⟨_, .refl _, List.nil_sublist _⟩ ?_
    rintro _ _ ⟨rfl, rfl⟩
    dsimp only [List.cons_append, List.nil_append]
    refine SReg.ex rfl rfl (fun _ _ => ex_add rfl rfl (by first | assumption | omega | decide)) ?_
    refine SReg.ex rfl rfl (fun _ _ => ex_call rfl (v := .int .i64 (if (lim + 2 * T * w - zs.sum) / (2 * zs.sum) + 1 > 1 then (lim + 2 * T * w - zs.sum) / (2 * zs.sum) + 1 else 1)) rfl) ?_
    rw [hmax]
    refine SReg.idxG rfl rfl rfl rfl (tf (by rfl)) (tf (by rfl)) (by first | assumption | rfl) (by omega) (by first | exact hz_nil (by assumption) | exact map_nil | exact len_nil (by first | assumption | rfl | (simp; done))) (fun _ hidx => ?_)
    cases hidx
    refine SReg.store rfl rfl (.new (.head _)) ty3 rfl (by rw [hlenC]; simp only; omega) rfl ?_
    have e1 : setRange (((numL zs T lim).take k).map (Value.int .i64) ++ List.replicate (zs.length - k) (Value.int .i64 0)) (0 + k * 1) (Value.int .i64 (numF T zs.sum lim w)).cells.toList = ((numL zs T lim).take (k + 1)).map (Value.int .i64) ++ List.replicate (zs.length - (k + 1)) (Value.int .i64 0) := by
      show (_ : List Value).set (0 + k * 1) _ = _
      have hkl : 0 + k * 1 = (((numL zs T lim).take k).map (Value.int .i64)).length := by simp [hnl]; omega
      rw [hkl, set_mid _ _ _ _ (by omega), numL_take hk', List.map_append, ← hwd]
      rfl
    rw [e1]
    have hlenD : (((numL zs T lim).take (k + 1)).map (Value.int .i64) ++ List.replicate (zs.length - (k + 1)) (Value.int .i64 0)).length = zs.length := by simp [hnl]; omega
    refine SReg.nil ?_
    repeat (first | refine SGo.seq ?_ | refine SGo.skip ?_ | refine SGo.inBlock ?_ | refine SGo.block ?_ | refine SGo.scope ?_ | refine SGo.inScope ?_ | refine SGo.label ?_ | refine SGo.exit rfl ?_)
    repeat (first | refine SGo.seq ?_ | refine SGo.skip ?_ | refine SGo.inBlock ?_ | refine SGo.block ?_ | refine SGo.scope ?_ | refine SGo.inScope ?_ | refine SGo.label ?_ | refine SGo.exit rfl ?_)
    refine SGo.reg ?_
    refine SReg.mv rfl rfl rfl ?_
    refine SReg.mv rfl rfl rfl ?_
    refine SReg.mv rfl rfl rfl ?_
    refine SReg.idxG rfl rfl rfl rfl (tf (by rfl)) (tf (by rfl)) (by first | assumption | rfl) (by omega) (by first | exact hz_nil (by assumption) | exact map_nil | exact len_nil (by first | assumption | rfl | (simp; done))) (fun _ hidx => ?_)
    cases hidx
    refine SReg.ld rfl rfl rfl (sld_cell (v := .int .i64 (numF T zs.sum lim w)) ty3 rfl ?_) ?_
    · rw [Nat.zero_add, Nat.mul_one, numL_take hk', List.map_append, List.append_assoc, List.getElem?_append_right (by simp [hnl]; omega)]
      have : k - (((numL zs T lim).take k).map (Value.int .i64)).length = 0 := by simp [hnl]; omega
      rw [this, ← hwd]; rfl
    refine SReg.ex rfl rfl (fun _ _ => ex_add rfl rfl (by first | assumption | omega | decide)) ?_
    refine SReg.as rfl rfl rfl ?_
    refine SReg.nil ?_
    repeat (first | refine SGo.seq ?_ | refine SGo.skip ?_ | refine SGo.inBlock ?_ | refine SGo.block ?_ | refine SGo.scope ?_ | refine SGo.inScope ?_ | refine SGo.label ?_ | refine SGo.exit rfl ?_)
    repeat (first | refine SGo.seq ?_ | refine SGo.skip ?_ | refine SGo.inBlock ?_ | refine SGo.block ?_ | refine SGo.scope ?_ | refine SGo.inScope ?_ | refine SGo.label ?_ | refine SGo.exit rfl ?_)
    refine SGo.reg ?_
    refine SReg.ex rfl rfl (fun _ _ => ex_add rfl rfl (by first | assumption | omega | decide)) ?_
    refine SReg.mv rfl rfl rfl ?_
    refine SReg.nil ?_
    repeat (first | refine SGo.seq ?_ | refine SGo.skip ?_ | refine SGo.inBlock ?_ | refine SGo.block ?_ | refine SGo.scope ?_ | refine SGo.inScope ?_ | refine SGo.label ?_ | refine SGo.exit rfl ?_)
    refine next (k + 1) _ (by omega) (by omega) ⟨rfl, rfl, rfl, rfl, rfl, ?_, rfl, rfl, rfl, trivial⟩
    rw [hts]; rfl
  · have hkz : k = zs.length := by omega
    subst hkz
    rw [List.take_of_length_le (by omega)]
    repeat (first | refine SGo.seq ?_ | refine SGo.skip ?_ | refine SGo.inBlock ?_ | refine SGo.block ?_ | refine SGo.scope ?_ | refine SGo.inScope ?_ | refine SGo.label ?_ | refine SGo.exit rfl ?_)
    repeat (first | refine SGo.seq ?_ | refine SGo.skip ?_ | refine SGo.inBlock ?_ | refine SGo.block ?_ | refine SGo.scope ?_ | refine SGo.inScope ?_ | refine SGo.label ?_ | refine SGo.exit rfl ?_)
    refine SGo.reg ?_
    refine SReg.mv rfl rfl rfl ?_
    refine SReg.mv rfl rfl rfl ?_
    refine SReg.as rfl rfl rfl ?_
    refine SReg.as rfl rfl rfl ?_
    refine SReg.nil ?_
    repeat (first | refine SGo.seq ?_ | refine SGo.skip ?_ | refine SGo.inBlock ?_ | refine SGo.block ?_ | refine SGo.scope ?_ | refine SGo.inScope ?_ | refine SGo.label ?_ | refine SGo.exit rfl ?_)
    exact SGo.ret Try.func32 (fun τ hτ => ares_tmp rfl (ares_tmp rfl ares_nil)) fun τ hτ => ⟨_, hτ, C, rfl, by simp⟩
end Go.Abs.Run

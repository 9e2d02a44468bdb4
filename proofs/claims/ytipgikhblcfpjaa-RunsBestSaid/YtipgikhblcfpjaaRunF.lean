/- A part of the proof: contracts of functions of the program, shown by walking through their code in an abstract machine. Condition: none. -/
import Derived.Test.YtipgikhblcfpjaaRunD
import Derived.Test.YtipgikhblcfpjaaRunE
set_option linter.unusedVariables false
set_option linter.unusedSimpArgs false
namespace Go.Abs.Run
open Go Go.Proofs
set_option maxHeartbeats 4000000
set_option maxRecDepth 8000
-- @SEAT 10
/-- Bars and spaces told out. -/
def exP : Nat → List Int → List Bool
  | _, [] => []
  | i, w :: ws => List.replicate w.toNat (decide ((i : Int).tmod 2 = 0)) ++ exP (i + 1) ws
theorem exP_app : ∀ (xs ys : List Int) (i : Nat), exP i (xs ++ ys) = exP i xs ++ exP (i + xs.length) ys
  | [], ys, i => by simp [exP]
  | x :: xs, ys, i => by
    simp only [List.cons_append, exP, exP_app xs ys (i + 1), List.append_assoc, List.length_cons]
    rw [show i + 1 + xs.length = i + (xs.length + 1) by omega]
theorem take_succ' {α : Type} {zs : List α} {k : Nat} (d : α) (hk : k < zs.length) : zs.take (k + 1) = zs.take k ++ [zs.getD k d] := by
  rw [List.take_add_one, List.getElem?_eq_getElem hk, List.getD_eq_getElem?_getD, List.getElem?_eq_getElem hk]; rfl
theorem exP_take {zs : List Int} {k : Nat} (hk : k < zs.length) : exP 0 (zs.take (k + 1)) = exP 0 (zs.take k) ++ List.replicate (zs.getD k 0).toNat (decide ((k : Int).tmod 2 = 0)) := by
  rw [take_succ' 0 hk, exP_app]
  simp only [exP, List.append_nil, List.length_take, Nat.min_eq_left (Nat.le_of_lt hk), Nat.zero_add]
theorem exP_len : ∀ {zs : List Int} {i : Nat}, zs.any (fun w => !wOk w) = false → ((exP i zs).length : Int) = zs.sum
  | [], _, _ => rfl
  | z :: zs, i, h => by
    simp only [List.any_cons, Bool.or_eq_false_iff, Bool.not_eq_false', wOk, Bool.and_eq_true, decide_eq_true_eq] at h
    have := exP_len (zs := zs) (i := i + 1) (by simpa [wOk] using h.2)
    simp only [exP, List.length_append, List.length_replicate, List.sum_cons]
    omega
theorem sum_take_le {zs : List Int} (h : zs.any (fun w => !wOk w) = false) (k : Nat) : (zs.take k).sum ≤ zs.sum := by
  have e : zs.sum = (zs.take k).sum + (zs.drop k).sum := by rw [← List.sum_append, List.take_append_drop]
  have := sum_bnd (zs := zs.drop k) (by
    rw [List.any_eq_false] at h ⊢
    exact fun x hx => h x (List.mem_of_mem_drop hx))
  omega
def modP (zs : List Int) : List Bool × Int :=
  if zs.length = 0 then ([], 5) else if zs.length % 2 = 0 then ([], 7) else if zs.any (fun w => !wOk w) then ([], 3) else if zs.sum > 65536 then ([], 4) else (exP 0 zs, 0)
/-- Modules and an error are handed back. -/
def RB (m : List Bool) (e : Int) (v : Value) (l : SH) : Prop := ∃ c, v = .tuple #[sv c m.length, .int .i64 e] ∧ l = [(c, .cells (m.map Value.bool) 4 true)]
theorem bs25 (b : Bool) (σ : AHeap) (id : Nat) : abuildSlice Try.prog σ id 25 1 [(0, .bool b)] = some (.slice (some ⟨id, 0, none⟩) 1 1, σ.set id (.cells [.bool b] 4 true)) := abuildSlice_one ty25 ty4 rfl rfl rfl σ id
theorem rb_nil {σ τ : AHeap} {o l : SH} {e : Int} (h : Hp σ o l τ) : SRet σ o (RB [] e) (.tuple #[.slice none 0 0, .int .i64 e]) τ := ⟨_, (h.less (List.nil_sublist _)).nilE 4 true, none, rfl, rfl⟩
-- @FN 11
theorem modules11 {c : Option Nat} {off cap : Nat} {cs : List Value} {rw : Bool} {zs : List Int} (hz : (cs.drop off).take zs.length = zs.map (Value.int .i64)) (hl : zs.length ≤ 100000000000) :
    SC Try.prog 11 [gv c off zs.length cap] [(c, .cells cs 3 rw)] (RB (modP zs).1 (modP zs).2) := by
  refine SC.enter Try.func11 rfl (by rw [Try.ntmps11]; simp) fun σ hσ => ?_
  rw [Try.ntmps11]
  have htm : ((zs.length : Nat) : Int).tmod 2 = ((zs.length % 2 : Nat) : Int) := rfl
  repeat (first | refine SGo.seq ?_ | refine SGo.skip ?_ | refine SGo.inBlock ?_ | refine SGo.block ?_ | refine SGo.scope ?_ | refine SGo.inScope ?_ | refine SGo.label ?_ | refine SGo.exit rfl ?_)
  refine SGo.reg ?_
  refine SReg.as rfl rfl rfl ?_
  refine SReg.as rfl rfl rfl ?_
  refine SReg.nil ?_
  repeat (first | refine SGo.seq ?_ | refine SGo.skip ?_ | refine SGo.inBlock ?_ | refine SGo.block ?_ | refine SGo.scope ?_ | refine SGo.inScope ?_ | refine SGo.label ?_ | refine SGo.exit rfl ?_)
  repeat (first | refine SGo.seq ?_ | refine SGo.skip ?_ | refine SGo.inBlock ?_ | refine SGo.block ?_ | refine SGo.scope ?_ | refine SGo.inScope ?_ | refine SGo.label ?_ | refine SGo.exit rfl ?_)
  refine SGo.reg ?_
  refine SReg.mv rfl rfl rfl ?_
  refine SReg.valG rfl rfl (sx_lenG rfl (tf (by rfl)) (by first | exact hz_nil (by assumption) | exact map_nil | exact len_nil (by first | assumption | rfl | (simp; done)))) ?_
  refine SReg.ex rfl rfl (fun _ _ => by first | exact ex_bool (ex_gtr rfl rfl) (by assumption) | exact ex_gtr rfl rfl) ?_
  refine SReg.mv rfl rfl rfl ?_
  refine SReg.join (fun fr' => Has [(0, gv c off zs.length cap), (16, .bool (decide ((zs.length : Int) > 0) && decide (((zs.length : Int)).tmod 2 = 0)))] fr') ?_ fun nx => ?_
  rotate_left
  · cases g : decide ((zs.length : Int) > 0) with
    | true =>
      first | refine SReg.skipG rfl rfl ?_ | (refine SReg.mv rfl rfl rfl ?_)
      first | refine SReg.skipG rfl rfl ?_ | (refine SReg.valG rfl rfl (sx_lenG rfl (tf (by rfl)) (by first | exact hz_nil (by assumption) | exact map_nil | exact len_nil (by first | assumption | rfl | (simp; done)))) ?_)
      first | refine SReg.skipG rfl rfl ?_ | (refine SReg.ex rfl rfl (fun _ _ => ex_rem rfl rfl (by first | assumption | omega | decide)) ?_)
      first | refine SReg.skipG rfl rfl ?_ | (refine SReg.ex rfl rfl (fun _ _ => by first | exact ex_bool (ex_eql rfl rfl) (by assumption) | exact ex_eql rfl rfl) ?_)
      refine SReg.ex rfl rfl (fun _ _ => by first | exact ex_pickT rfl rfl | exact ex_pickF rfl rfl) ?_
      refine SReg.nil ?_
      repeat (first | refine SGo.seq ?_ | refine SGo.skip ?_ | refine SGo.inBlock ?_ | refine SGo.block ?_ | refine SGo.scope ?_ | refine SGo.inScope ?_ | refine SGo.label ?_ | refine SGo.exit rfl ?_)
      exact nx _ ⟨rfl, by rw [g, Bool.true_and]; rfl, trivial⟩
    | false =>
      first | refine SReg.skipG rfl rfl ?_ | (refine SReg.mv rfl rfl rfl ?_)
      first | refine SReg.skipG rfl rfl ?_ | (refine SReg.valG rfl rfl (sx_lenG rfl (tf (by rfl)) (by first | exact hz_nil (by assumption) | exact map_nil | exact len_nil (by first | assumption | rfl | (simp; done)))) ?_)
      first | refine SReg.skipG rfl rfl ?_ | (refine SReg.ex rfl rfl (fun _ _ => ex_rem rfl rfl (by first | assumption | omega | decide)) ?_)
      first | refine SReg.skipG rfl rfl ?_ | (refine SReg.ex rfl rfl (fun _ _ => by first | exact ex_bool (ex_eql rfl rfl) (by assumption) | exact ex_eql rfl rfl) ?_)
      refine SReg.ex rfl rfl (fun _ _ => by first | exact ex_pickT rfl rfl | exact ex_pickF rfl rfl) ?_
      refine SReg.nil ?_
      repeat (first | refine SGo.seq ?_ | refine SGo.skip ?_ | refine SGo.inBlock ?_ | refine SGo.block ?_ | refine SGo.scope ?_ | refine SGo.inScope ?_ | refine SGo.label ?_ | refine SGo.exit rfl ?_)
      exact nx _ ⟨rfl, by rw [g, Bool.false_and]; rfl, trivial⟩
  intro fr' hF
  refine SGo.has hF ?_
  refine SGo.condB rfl (fun h => ?_) (fun h => ?_)
  · repeat (first | refine SGo.seq ?_ | refine SGo.skip ?_ | refine SGo.inBlock ?_ | refine SGo.block ?_ | refine SGo.scope ?_ | refine SGo.inScope ?_ | refine SGo.label ?_ | refine SGo.exit rfl ?_)
    refine SGo.reg ?_
    refine SReg.as rfl rfl rfl ?_
    refine SReg.as rfl rfl rfl ?_
    refine SReg.nil ?_
    repeat (first | refine SGo.seq ?_ | refine SGo.skip ?_ | refine SGo.inBlock ?_ | refine SGo.block ?_ | refine SGo.scope ?_ | refine SGo.inScope ?_ | refine SGo.label ?_ | refine SGo.exit rfl ?_)
    have e : modP zs = ([], 7) := by
      simp only [Bool.and_eq_true, decide_eq_true_eq] at h
      rw [modP, if_neg (by omega), if_pos (by omega)]
    rw [e]
    exact SGo.ret Try.func11 (fun τ hτ => ares_tmp rfl (ares_tmp rfl ares_nil)) fun τ hτ => rb_nil hτ
  have hne : ¬ ((zs.length : Int) > 0 ∧ ((zs.length : Int)).tmod 2 = 0) := by
    intro hh; rw [decide_eq_true hh.1, decide_eq_true hh.2] at h; cases h
  repeat (first | refine SGo.seq ?_ | refine SGo.skip ?_ | refine SGo.inBlock ?_ | refine SGo.block ?_ | refine SGo.scope ?_ | refine SGo.inScope ?_ | refine SGo.label ?_ | refine SGo.exit rfl ?_)
  refine SGo.reg ?_
  refine SReg.mv rfl rfl rfl ?_
  refine SReg.go (check27 hz (by omega)) rfl rfl (by kernel_rfl) ⟨_, .refl _, .refl _⟩ ?_
  rintro _ _ ⟨rfl, rfl⟩
  refine SReg.as rfl rfl rfl ?_
  refine SReg.nil ?_
  repeat (first | refine SGo.seq ?_ | refine SGo.skip ?_ | refine SGo.inBlock ?_ | refine SGo.block ?_ | refine SGo.scope ?_ | refine SGo.inScope ?_ | refine SGo.label ?_ | refine SGo.exit rfl ?_)
  repeat (first | refine SGo.seq ?_ | refine SGo.skip ?_ | refine SGo.inBlock ?_ | refine SGo.block ?_ | refine SGo.scope ?_ | refine SGo.inScope ?_ | refine SGo.label ?_ | refine SGo.exit rfl ?_)
  refine SGo.reg ?_
  refine SReg.mv rfl rfl rfl ?_
  refine SReg.ex rfl rfl (fun _ _ => by first | exact ex_bool (ex_neq rfl rfl) (by assumption) | exact ex_neq rfl rfl) ?_
  refine SReg.nil ?_
  repeat (first | refine SGo.seq ?_ | refine SGo.skip ?_ | refine SGo.inBlock ?_ | refine SGo.block ?_ | refine SGo.scope ?_ | refine SGo.inScope ?_ | refine SGo.label ?_ | refine SGo.exit rfl ?_)
  refine SGo.condD rfl (fun h => ?_) (fun h => ?_)
  · repeat (first | refine SGo.seq ?_ | refine SGo.skip ?_ | refine SGo.inBlock ?_ | refine SGo.block ?_ | refine SGo.scope ?_ | refine SGo.inScope ?_ | refine SGo.label ?_ | refine SGo.exit rfl ?_)
    refine SGo.reg ?_
    refine SReg.mv rfl rfl rfl ?_
    refine SReg.as rfl rfl rfl ?_
    refine SReg.as rfl rfl rfl ?_
    refine SReg.nil ?_
    repeat (first | refine SGo.seq ?_ | refine SGo.skip ?_ | refine SGo.inBlock ?_ | refine SGo.block ?_ | refine SGo.scope ?_ | refine SGo.inScope ?_ | refine SGo.label ?_ | refine SGo.exit rfl ?_)
    have e : modP zs = ([], chkE zs) := by
      unfold modP chkE at *
      split
      · rfl
      · rename_i h0
        rw [if_neg (by omega)]
        rw [if_neg h0] at h
        split at h
        · rename_i h1; simp only [h1, if_true]
        · exact absurd rfl h
    rw [e]
    exact SGo.ret Try.func11 (fun τ hτ => ares_tmp rfl (ares_tmp rfl ares_nil)) fun τ hτ => rb_nil hτ
  have hchk : chkE zs = 0 := by simpa using h
  have h0 : zs.length ≠ 0 := fun h0 => by rw [chkE, if_pos h0] at hchk; omega
  have hok : zs.any (fun w => !wOk w) = false := by
    rw [chkE, if_neg h0] at hchk
    split at hchk
    · omega
    · rename_i h1; simpa using h1
  repeat (first | refine SGo.seq ?_ | refine SGo.skip ?_ | refine SGo.inBlock ?_ | refine SGo.block ?_ | refine SGo.scope ?_ | refine SGo.inScope ?_ | refine SGo.label ?_ | refine SGo.exit rfl ?_)
  refine SGo.reg ?_
  refine SReg.as rfl rfl rfl ?_
  refine SReg.nil ?_
  repeat (first | refine SGo.seq ?_ | refine SGo.skip ?_ | refine SGo.inBlock ?_ | refine SGo.block ?_ | refine SGo.scope ?_ | refine SGo.inScope ?_ | refine SGo.label ?_ | refine SGo.exit rfl ?_)
  repeat (first | refine SGo.seq ?_ | refine SGo.skip ?_ | refine SGo.inBlock ?_ | refine SGo.block ?_ | refine SGo.scope ?_ | refine SGo.inScope ?_ | refine SGo.label ?_ | refine SGo.exit rfl ?_)
  refine SGo.reg ?_
  refine SReg.mv rfl rfl rfl ?_
  refine SReg.valG rfl rfl (sx_lenG rfl (tf (by rfl)) (by first | exact hz_nil (by assumption) | exact map_nil | exact len_nil (by first | assumption | rfl | (simp; done)))) ?_
  refine SReg.mv rfl rfl rfl ?_
  refine SReg.nil ?_
  repeat (first | refine SGo.seq ?_ | refine SGo.skip ?_ | refine SGo.inBlock ?_ | refine SGo.block ?_ | refine SGo.scope ?_ | refine SGo.inScope ?_ | refine SGo.label ?_ | refine SGo.exit rfl ?_)
  refine SGo.nilE 4 true ?_
  refine SGo.loopI (ι := Nat × Option Nat) (F := fun x => [(5, sv x.2 (exP 0 (zs.take x.1)).length), (22, gv c off zs.length cap), (23, .int .i64 (zs.length : Nat)), (24, .int .i64 (x.1 : Nat))]) (O := fun _ => [(c, .cells cs 3 rw)]) (l0 := fun x => [(x.2, .cells ((exP 0 (zs.take x.1)).map Value.bool) 4 true)])
    (I := fun x => x.1 ≤ zs.length ∧ (zs.take x.1).sum ≤ 65536) (μ := fun x => zs.length - x.1) ?_ (x0 := (0, none)) ⟨Nat.zero_le _, by simp⟩ ⟨rfl, rfl, rfl, rfl, trivial⟩ rfl rfl
  rintro ⟨k, c'⟩ ⟨hk, hs⟩ next
  simp only at hk hs ⊢
  have hlen := exP_len (zs := zs.take k) (i := 0) (by rw [List.any_eq_false] at hok ⊢; exact fun x hx => hok x (List.mem_of_mem_take hx))
  repeat (first | refine SGo.seq ?_ | refine SGo.skip ?_ | refine SGo.inBlock ?_ | refine SGo.block ?_ | refine SGo.scope ?_ | refine SGo.inScope ?_ | refine SGo.label ?_ | refine SGo.exit rfl ?_)
  refine SGo.reg ?_
  refine SReg.ex rfl rfl (fun _ _ => by first | exact ex_bool (ex_lss rfl rfl) (by assumption) | exact ex_lss rfl rfl) ?_
  refine SReg.nil ?_
  repeat (first | refine SGo.seq ?_ | refine SGo.skip ?_ | refine SGo.inBlock ?_ | refine SGo.block ?_ | refine SGo.scope ?_ | refine SGo.inScope ?_ | refine SGo.label ?_ | refine SGo.exit rfl ?_)
  refine SGo.condD rfl (fun h => ?_) (fun h => ?_)
  · have hk' : k < zs.length := by omega
    have hw : wOk (zs.getD k 0) = true := by
      rw [List.any_eq_false] at hok
      have := hok (zs.getD k 0) (by rw [List.getD_eq_getElem?_getD, List.getElem?_eq_getElem hk']; exact List.getElem_mem hk')
      simpa using this
    simp only [wOk, Bool.and_eq_true, decide_eq_true_eq] at hw
    repeat (first | refine SGo.seq ?_ | refine SGo.skip ?_ | refine SGo.inBlock ?_ | refine SGo.block ?_ | refine SGo.scope ?_ | refine SGo.inScope ?_ | refine SGo.label ?_ | refine SGo.exit rfl ?_)
    refine SGo.reg ?_
    refine SReg.mv rfl rfl rfl ?_
    refine SReg.idxG rfl rfl rfl rfl (tf (by rfl)) (tf (by rfl)) (by first | assumption | rfl) (by omega) (by first | exact hz_nil (by assumption) | exact map_nil | exact len_nil (by first | assumption | rfl | (simp; done))) (fun _ hidx => ?_)
    cases hidx
    refine SReg.ld rfl rfl rfl (by first | exact sld_cell (tf (by rfl)) rfl (by first | assumption | rfl) | exact sld_sub (d := (0 : Int)) (by assumption) (tf (by rfl)) rfl rfl (by omega) | exact sld_at (0 : Int) (tf (by rfl)) rfl rfl (by omega) | exact sld_sub (d := false) (by assumption) (tf (by rfl)) rfl rfl (by omega) | exact sld_at false (tf (by rfl)) rfl rfl (by omega) | exact sld_all (tf (by rfl)) rfl (by first | rfl | (simp; done))) ?_
    refine SReg.as rfl rfl rfl ?_
    refine SReg.as rfl rfl rfl ?_
    refine SReg.nil ?_
    repeat (first | refine SGo.seq ?_ | refine SGo.skip ?_ | refine SGo.inBlock ?_ | refine SGo.block ?_ | refine SGo.scope ?_ | refine SGo.inScope ?_ | refine SGo.label ?_ | refine SGo.exit rfl ?_)
    repeat (first | refine SGo.seq ?_ | refine SGo.skip ?_ | refine SGo.inBlock ?_ | refine SGo.block ?_ | refine SGo.scope ?_ | refine SGo.inScope ?_ | refine SGo.label ?_ | refine SGo.exit rfl ?_)
    refine SGo.reg ?_
    refine SReg.mv rfl rfl rfl ?_
    refine SReg.mv rfl rfl rfl ?_
    refine SReg.valG rfl rfl (sx_lenG rfl (tf (by rfl)) (by first | exact hz_nil (by assumption) | exact map_nil | exact len_nil (by first | assumption | rfl | (simp; done)))) ?_
    refine SReg.ex rfl rfl (fun _ _ => ex_sub rfl rfl (by first | assumption | omega | decide)) ?_
    refine SReg.ex rfl rfl (fun _ _ => by first | exact ex_bool (ex_gtr rfl rfl) (by assumption) | exact ex_gtr rfl rfl) ?_
    refine SReg.nil ?_
    repeat (first | refine SGo.seq ?_ | refine SGo.skip ?_ | refine SGo.inBlock ?_ | refine SGo.block ?_ | refine SGo.scope ?_ | refine SGo.inScope ?_ | refine SGo.label ?_ | refine SGo.exit rfl ?_)
    refine SGo.condD rfl (fun h2 => ?_) (fun h2 => ?_)
    · repeat (first | refine SGo.seq ?_ | refine SGo.skip ?_ | refine SGo.inBlock ?_ | refine SGo.block ?_ | refine SGo.scope ?_ | refine SGo.inScope ?_ | refine SGo.label ?_ | refine SGo.exit rfl ?_)
      refine SGo.reg ?_
      refine SReg.as rfl rfl rfl ?_
      refine SReg.as rfl rfl rfl ?_
      refine SReg.nil ?_
      repeat (first | refine SGo.seq ?_ | refine SGo.skip ?_ | refine SGo.inBlock ?_ | refine SGo.block ?_ | refine SGo.scope ?_ | refine SGo.inScope ?_ | refine SGo.label ?_ | refine SGo.exit rfl ?_)
      have e : modP zs = ([], 4) := by
        have := sum_take_le hok (k + 1)
        rw [take_sum hk'] at this
        rw [modP, if_neg h0, if_neg (by omega), if_neg (by rw [hok]; simp), if_pos (by omega)]
      rw [e]
      exact SGo.ret Try.func11 (fun τ hτ => ares_tmp rfl (ares_tmp rfl ares_nil)) fun τ hτ => rb_nil hτ
    · have hx := exP_take hk'
      obtain ⟨N, hN⟩ : ∃ N : Nat, zs.getD k 0 = (N : Int) := ⟨(zs.getD k 0).toNat, by omega⟩
      have hts := take_sum hk'
      rw [hN] at hx hw h2 hts ⊢
      rw [Int.toNat_natCast] at hx
      repeat (first | refine SGo.seq ?_ | refine SGo.skip ?_ | refine SGo.inBlock ?_ | refine SGo.block ?_ | refine SGo.scope ?_ | refine SGo.inScope ?_ | refine SGo.label ?_ | refine SGo.exit rfl ?_)
      refine SGo.reg ?_
      refine SReg.mv rfl rfl rfl ?_
      refine SReg.mv rfl rfl rfl ?_
      refine SReg.ex rfl rfl (fun _ _ => ex_rem rfl rfl (by first | assumption | omega | decide)) ?_
      refine SReg.ex rfl rfl (fun _ _ => by first | exact ex_bool (ex_eql rfl rfl) (by assumption) | exact ex_eql rfl rfl) ?_
      refine SReg.buildSlice rfl rfl (bs25 _) fun A => ?_
      refine SReg.mv rfl rfl rfl ?_
      refine SReg.go (repeat28 (N := N) (by omega) (by omega)) rfl rfl (by kernel_rfl) ⟨_, .refl _, .cons _ (.cons_cons _ (.cons _ .slnil))⟩ ?_
      rintro _ _ ⟨C, rfl, rfl⟩
      dsimp only [List.cons_append, List.nil_append]
      refine SReg.append (m := N) (news := List.replicate N (.bool (decide ((k : Int).tmod 2 = 0)))) (L := fun c2 => [(some C, _), (some A, _), (c2, _)]) rfl rfl (fun c2 => .tail _ (.tail _ (.head _))) ty25 ty4 rfl (fun τ hτ => asrc_sv hτ ty25 (by simp) (by omega)) (by simp) (by simp) (by omega) (by omega) (by omega) fun c2 => ?_
      refine SReg.as rfl rfl rfl ?_
      refine SReg.nil ?_
      repeat (first | refine SGo.seq ?_ | refine SGo.skip ?_ | refine SGo.inBlock ?_ | refine SGo.block ?_ | refine SGo.scope ?_ | refine SGo.inScope ?_ | refine SGo.label ?_ | refine SGo.exit rfl ?_)
      repeat (first | refine SGo.seq ?_ | refine SGo.skip ?_ | refine SGo.inBlock ?_ | refine SGo.block ?_ | refine SGo.scope ?_ | refine SGo.inScope ?_ | refine SGo.label ?_ | refine SGo.exit rfl ?_)
      refine SGo.reg ?_
      refine SReg.ex rfl rfl (fun _ _ => ex_add rfl rfl (by first | assumption | omega | decide)) ?_
      refine SReg.mv rfl rfl rfl ?_
      refine SReg.nil ?_
      repeat (first | refine SGo.seq ?_ | refine SGo.skip ?_ | refine SGo.inBlock ?_ | refine SGo.block ?_ | refine SGo.scope ?_ | refine SGo.inScope ?_ | refine SGo.label ?_ | refine SGo.exit rfl ?_)
      refine SGo.less (l' := [(c2, .cells ((exP 0 (zs.take (k + 1))).map Value.bool) 4 true)]) (by rw [hx, List.map_append, List.map_replicate]; exact .cons _ (.cons _ (.refl _))) ?_
      refine next (k + 1, c2) _ (by simp only; omega) ⟨by simp only; omega, by simp only; omega⟩ ⟨?_, rfl, rfl, rfl, trivial⟩
      simp only [hx, List.length_append, List.length_replicate]; rfl
  · have hkz : k = zs.length := by omega
    subst hkz
    rw [List.take_of_length_le (Nat.le_refl _)] at hs ⊢
    repeat (first | refine SGo.seq ?_ | refine SGo.skip ?_ | refine SGo.inBlock ?_ | refine SGo.block ?_ | refine SGo.scope ?_ | refine SGo.inScope ?_ | refine SGo.label ?_ | refine SGo.exit rfl ?_)
    repeat (first | refine SGo.seq ?_ | refine SGo.skip ?_ | refine SGo.inBlock ?_ | refine SGo.block ?_ | refine SGo.scope ?_ | refine SGo.inScope ?_ | refine SGo.label ?_ | refine SGo.exit rfl ?_)
    refine SGo.reg ?_
    refine SReg.mv rfl rfl rfl ?_
    refine SReg.as rfl rfl rfl ?_
    refine SReg.as rfl rfl rfl ?_
    refine SReg.nil ?_
    repeat (first | refine SGo.seq ?_ | refine SGo.skip ?_ | refine SGo.inBlock ?_ | refine SGo.block ?_ | refine SGo.scope ?_ | refine SGo.inScope ?_ | refine SGo.label ?_ | refine SGo.exit rfl ?_)
    have e : modP zs = (exP 0 zs, 0) := by rw [modP, if_neg h0, if_neg (by omega), if_neg (by rw [hok]; simp), if_neg (by omega)]
    rw [e]
    exact SGo.ret Try.func11 (fun τ hτ => ares_tmp rfl (ares_tmp rfl ares_nil)) fun τ hτ => ⟨_, hτ, c', rfl, rfl⟩
end Go.Abs.Run

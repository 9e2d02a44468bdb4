/- A part of the proof: contracts of functions of the program, shown by walking through their code in an abstract machine. Condition: none. -/
import Derived.Test.YtipgikhblcfpjaaRunE
set_option linter.unusedVariables false
set_option linter.unusedSimpArgs false
namespace Go.Abs.Run
open Go Go.Proofs
set_option maxHeartbeats 4000000
set_option maxRecDepth 8000
-- @SEAT 10
/-- How many light modules lie ahead. -/
def lm (row : List Bool) : Nat := (row.takeWhile (!·)).length
theorem lm_le (row : List Bool) : lm row ≤ row.length := by
  induction row with
  | nil => exact Nat.le_refl _
  | cons a l ih =>
    unfold lm at *
    cases a
    · simp only [List.takeWhile_cons, Bool.not_false, if_true, List.length_cons]; omega
    · simp
theorem lm_eq : ∀ {row : List Bool} {k : Nat}, k ≤ row.length → (∀ j, j < k → row.getD j false = false) → (k = row.length ∨ row.getD k false = true) → lm row = k
  | [], k, h, _, _ => by simp at h; subst h; rfl
  | a :: l, 0, _, _, h => by
    rcases h with h | h
    · simp at h
    · have : a = true := by simpa using h
      subst this; rfl
  | a :: l, k + 1, hk, h, h2 => by
    have ha : a = false := by simpa using h 0 (by omega)
    subst ha
    have := lm_eq (row := l) (k := k) (by simpa using hk) (fun j hj => by simpa using h (j + 1) (by omega)) (h2.imp (fun h => by simpa using h) (fun h => by simpa using h))
    unfold lm at *
    simp only [List.takeWhile_cons, Bool.not_false, if_true, List.length_cons, this]
theorem rev_getD {row : List Bool} {j : Nat} (h : j < row.length) : row.reverse.getD j false = row.getD (row.length - 1 - j) false := by
  rw [List.getD_eq_getElem?_getD, List.getD_eq_getElem?_getD, List.getElem?_reverse h]
-- @FN 30
theorem index30 {c : Option Nat} {off cap : Nat} {cs : List Value} {rw : Bool} {zs : List Bool} (hz : (cs.drop off).take zs.length = zs.map Value.bool) (hl : zs.length ≤ 9223372036854775806) :
    SC Try.prog 30 [gv c off zs.length cap, .bool true] [(c, .cells cs 4 rw)] fun v l => v = .int .i64 (if lm zs = zs.length then -1 else (lm zs : Int)) ∧ l = [] := by
  refine SC.enter Try.func30 rfl (by rw [Try.ntmps30]; simp) fun σ hσ => ?_
  rw [Try.ntmps30]
  -- @EXTRA ex_bin rfl rfl (eqlB _ _)
  repeat (first | refine SGo.seq ?_ | refine SGo.skip ?_ | refine SGo.inBlock ?_ | refine SGo.block ?_ | refine SGo.scope ?_ | refine SGo.inScope ?_ | refine SGo.label ?_ | refine SGo.exit rfl ?_)
  refine SGo.reg ?_
  refine SReg.as rfl rfl rfl ?_
  refine SReg.nil ?_
  repeat (first | refine SGo.seq ?_ | refine SGo.skip ?_ | refine SGo.inBlock ?_ | refine SGo.block ?_ | refine SGo.scope ?_ | refine SGo.inScope ?_ | refine SGo.label ?_ | refine SGo.exit rfl ?_)
  repeat (first | refine SGo.seq ?_ | refine SGo.skip ?_ | refine SGo.inBlock ?_ | refine SGo.block ?_ | refine SGo.scope ?_ | refine SGo.inScope ?_ | refine SGo.label ?_ | refine SGo.exit rfl ?_)
  refine SGo.reg ?_
  refine SReg.mv rfl rfl rfl ?_
  refine SReg.valG rfl rfl (sx_lenG rfl (tf (by rfl)) (by first | exact hz_nil (by assumption) | exact map_nil | exact len_nil (by first | assumption | rfl | (simp; done)))) ?_
  refine SReg.mv rfl rfl rfl ?_
  refine SReg.nil ?_
  repeat (first | refine SGo.seq ?_ | refine SGo.skip ?_ | refine SGo.inBlock ?_ | refine SGo.block ?_ | refine SGo.scope ?_ | refine SGo.inScope ?_ | refine SGo.label ?_ | refine SGo.exit rfl ?_)
  refine SGo.loopI (ι := Nat) (F := fun k => [(0, gv c off zs.length cap), (1, .bool true), (7, .int .i64 (zs.length : Nat)), (8, .int .i64 (k : Nat))]) (O := fun _ => [(c, .cells cs 4 rw)]) (l0 := fun _ => []) (I := fun k => k ≤ zs.length ∧ ∀ j, j < k → zs.getD j false = false) (μ := fun k => zs.length - k) ?_ (x0 := 0) ⟨Nat.zero_le _, fun j hj => by omega⟩ ⟨rfl, rfl, rfl, rfl, trivial⟩ rfl rfl
  rintro k ⟨hk, hk2⟩ next
  repeat (first | refine SGo.seq ?_ | refine SGo.skip ?_ | refine SGo.inBlock ?_ | refine SGo.block ?_ | refine SGo.scope ?_ | refine SGo.inScope ?_ | refine SGo.label ?_ | refine SGo.exit rfl ?_)
  refine SGo.reg ?_
  refine SReg.ex rfl rfl (fun _ _ => by first | exact ex_bool (ex_lss rfl rfl) (by assumption) | exact ex_lss rfl rfl | exact ex_bin rfl rfl (eqlB _ _)) ?_
  refine SReg.nil ?_
  repeat (first | refine SGo.seq ?_ | refine SGo.skip ?_ | refine SGo.inBlock ?_ | refine SGo.block ?_ | refine SGo.scope ?_ | refine SGo.inScope ?_ | refine SGo.label ?_ | refine SGo.exit rfl ?_)
  refine SGo.condD rfl (fun h => ?_) (fun h => ?_)
  · have hk' : k < zs.length := by omega
    repeat (first | refine SGo.seq ?_ | refine SGo.skip ?_ | refine SGo.inBlock ?_ | refine SGo.block ?_ | refine SGo.scope ?_ | refine SGo.inScope ?_ | refine SGo.label ?_ | refine SGo.exit rfl ?_)
    refine SGo.reg ?_
    refine SReg.mv rfl rfl rfl ?_
    refine SReg.as rfl rfl rfl ?_
    refine SReg.nil ?_
    repeat (first | refine SGo.seq ?_ | refine SGo.skip ?_ | refine SGo.inBlock ?_ | refine SGo.block ?_ | refine SGo.scope ?_ | refine SGo.inScope ?_ | refine SGo.label ?_ | refine SGo.exit rfl ?_)
    repeat (first | refine SGo.seq ?_ | refine SGo.skip ?_ | refine SGo.inBlock ?_ | refine SGo.block ?_ | refine SGo.scope ?_ | refine SGo.inScope ?_ | refine SGo.label ?_ | refine SGo.exit rfl ?_)
    refine SGo.reg ?_
    refine SReg.mv rfl rfl rfl ?_
    refine SReg.mv rfl rfl rfl ?_
    refine SReg.mv rfl rfl rfl ?_
    refine SReg.idxG rfl rfl rfl rfl (tf (by rfl)) (tf (by rfl)) (by first | assumption | rfl) (by omega) (by first | exact hz_nil (by assumption) | exact map_nil | exact len_nil (by first | assumption | rfl | (simp; done))) (fun _ hidx => ?_)
    cases hidx
    refine SReg.ld rfl rfl rfl (by first | exact sld_cell (tf (by rfl)) rfl (by first | assumption | rfl) | exact sld_sub (d := (0 : Int)) (by assumption) (tf (by rfl)) rfl rfl (by omega) | exact sld_at (0 : Int) (tf (by rfl)) rfl rfl (by omega) | exact sld_sub (d := false) (by assumption) (tf (by rfl)) rfl rfl (by omega) | exact sld_at false (tf (by rfl)) rfl rfl (by omega) | exact sld_all (tf (by rfl)) rfl (by first | rfl | (simp; done))) ?_
    refine SReg.ex rfl rfl (fun _ _ => by first | exact ex_bool (ex_eql rfl rfl) (by assumption) | exact ex_eql rfl rfl | exact ex_bin rfl rfl (eqlB _ _)) ?_
    refine SReg.nil ?_
    repeat (first | refine SGo.seq ?_ | refine SGo.skip ?_ | refine SGo.inBlock ?_ | refine SGo.block ?_ | refine SGo.scope ?_ | refine SGo.inScope ?_ | refine SGo.label ?_ | refine SGo.exit rfl ?_)
    refine SGo.condD rfl (fun hb => ?_) (fun hb => ?_)
    · repeat (first | refine SGo.seq ?_ | refine SGo.skip ?_ | refine SGo.inBlock ?_ | refine SGo.block ?_ | refine SGo.scope ?_ | refine SGo.inScope ?_ | refine SGo.label ?_ | refine SGo.exit rfl ?_)
      refine SGo.reg ?_
      refine SReg.mv rfl rfl rfl ?_
      refine SReg.as rfl rfl rfl ?_
      refine SReg.nil ?_
      repeat (first | refine SGo.seq ?_ | refine SGo.skip ?_ | refine SGo.inBlock ?_ | refine SGo.block ?_ | refine SGo.scope ?_ | refine SGo.inScope ?_ | refine SGo.label ?_ | refine SGo.exit rfl ?_)
      have e := lm_eq hk hk2 (.inr hb.symm)
      exact SGo.ret Try.func30 (fun τ hτ => ares_tmp rfl ares_nil) fun τ hτ => ⟨_, hτ, by rw [e, if_neg (by omega)]; rfl, rfl⟩
    · repeat (first | refine SGo.seq ?_ | refine SGo.skip ?_ | refine SGo.inBlock ?_ | refine SGo.block ?_ | refine SGo.scope ?_ | refine SGo.inScope ?_ | refine SGo.label ?_ | refine SGo.exit rfl ?_)
      refine SGo.reg ?_
      refine SReg.ex rfl rfl (fun _ _ => by first | exact ex_add rfl rfl (by first | assumption | omega | decide) | exact ex_bin rfl rfl (eqlB _ _)) ?_
      refine SReg.mv rfl rfl rfl ?_
      refine SReg.nil ?_
      repeat (first | refine SGo.seq ?_ | refine SGo.skip ?_ | refine SGo.inBlock ?_ | refine SGo.block ?_ | refine SGo.scope ?_ | refine SGo.inScope ?_ | refine SGo.label ?_ | refine SGo.exit rfl ?_)
      refine next (k + 1) _ (by omega) ⟨by omega, fun j hj => ?_⟩ ⟨rfl, rfl, rfl, rfl, trivial⟩
      rcases Nat.lt_or_ge j k with h' | h'
      · exact hk2 j h'
      · rw [show j = k by omega]; cases hv : zs.getD k false with
        | false => rfl
        | true => exact absurd hv.symm hb
  · repeat (first | refine SGo.seq ?_ | refine SGo.skip ?_ | refine SGo.inBlock ?_ | refine SGo.block ?_ | refine SGo.scope ?_ | refine SGo.inScope ?_ | refine SGo.label ?_ | refine SGo.exit rfl ?_)
    repeat (first | refine SGo.seq ?_ | refine SGo.skip ?_ | refine SGo.inBlock ?_ | refine SGo.block ?_ | refine SGo.scope ?_ | refine SGo.inScope ?_ | refine SGo.label ?_ | refine SGo.exit rfl ?_)
    refine SGo.reg ?_
    refine SReg.as rfl rfl rfl ?_
    refine SReg.nil ?_
    repeat (first | refine SGo.seq ?_ | refine SGo.skip ?_ | refine SGo.inBlock ?_ | refine SGo.block ?_ | refine SGo.scope ?_ | refine SGo.inScope ?_ | refine SGo.label ?_ | refine SGo.exit rfl ?_)
    have e := lm_eq hk hk2 (.inl (by omega))
    exact SGo.ret Try.func30 (fun τ hτ => ares_tmp rfl ares_nil) fun τ hτ => ⟨_, hτ, by rw [e, if_pos (by omega)]; rfl, rfl⟩
theorem lm_rev {row : List Bool} {r : Nat} (hr : r < row.length) (h : ∀ j, j < r → row.getD (row.length - 1 - j) false = false) (h2 : row.getD (row.length - 1 - r) false = true) : lm row.reverse = r :=
  lm_eq (by simp; omega) (fun j hj => by rw [rev_getD (by omega)]; exact h j hj) (.inr (by rw [rev_getD hr]; exact h2))
theorem lm_rev_all {row : List Bool} (h : ∀ j, j < row.length → row.getD (row.length - 1 - j) false = false) : lm row.reverse = row.length :=
  lm_eq (by simp) (fun j hj => by rw [rev_getD (by omega)]; exact h j hj) (.inl (by simp))
theorem lm_spec : ∀ (row : List Bool), (∀ j, j < lm row → row.getD j false = false) ∧ (lm row = row.length ∨ row.getD (lm row) false = true)
  | [] => ⟨fun j hj => (by cases hj), .inl rfl⟩
  | a :: l => by
    have ih := lm_spec l
    cases a with
    | true => exact ⟨fun j hj => (by cases hj), .inr rfl⟩
    | false =>
      have e : lm (false :: l) = lm l + 1 := by unfold lm; simp [List.takeWhile_cons]
      rw [e]
      refine ⟨fun j hj => ?_, ih.2.imp (fun h => by simp [h]) (fun h => by simpa using h)⟩
      cases j with
      | zero => rfl
      | succ j => simpa using ih.1 j (by omega)
-- @FN 14
theorem margins14 {c : Option Nat} {off cap : Nat} {cs : List Value} {rw : Bool} {zs : List Bool} (hz : (cs.drop off).take zs.length = zs.map Value.bool) (hl : zs.length ≤ 9223372036854775806) :
    SC Try.prog 14 [gv c off zs.length cap] [(c, .cells cs 4 rw)] fun v l => v = .tuple #[.int .i64 (lm zs : Nat), .int .i64 (lm zs.reverse : Nat)] ∧ l = [] := by
  refine SC.enter Try.func14 rfl (by rw [Try.ntmps14]; simp) fun σ hσ => ?_
  rw [Try.ntmps14]
  obtain ⟨s1, s2⟩ := lm_spec zs
  have s3 := lm_le zs
  repeat (first | refine SGo.seq ?_ | refine SGo.skip ?_ | refine SGo.inBlock ?_ | refine SGo.block ?_ | refine SGo.scope ?_ | refine SGo.inScope ?_ | refine SGo.label ?_ | refine SGo.exit rfl ?_)
  refine SGo.reg ?_
  refine SReg.as rfl rfl rfl ?_
  refine SReg.as rfl rfl rfl ?_
  refine SReg.nil ?_
  repeat (first | refine SGo.seq ?_ | refine SGo.skip ?_ | refine SGo.inBlock ?_ | refine SGo.block ?_ | refine SGo.scope ?_ | refine SGo.inScope ?_ | refine SGo.label ?_ | refine SGo.exit rfl ?_)
  repeat (first | refine SGo.seq ?_ | refine SGo.skip ?_ | refine SGo.inBlock ?_ | refine SGo.block ?_ | refine SGo.scope ?_ | refine SGo.inScope ?_ | refine SGo.label ?_ | refine SGo.exit rfl ?_)
  refine SGo.reg ?_
  refine SReg.mv rfl rfl rfl ?_
  refine SReg.go (index30 hz hl) rfl rfl (by kernel_rfl) ⟨_, .refl _, .refl _⟩ ?_
  rintro _ _ ⟨rfl, rfl⟩
  dsimp only [List.cons_append, List.nil_append]
  refine SReg.as rfl rfl rfl ?_
  refine SReg.nil ?_
  repeat (first | refine SGo.seq ?_ | refine SGo.skip ?_ | refine SGo.inBlock ?_ | refine SGo.block ?_ | refine SGo.scope ?_ | refine SGo.inScope ?_ | refine SGo.label ?_ | refine SGo.exit rfl ?_)
  repeat (first | refine SGo.seq ?_ | refine SGo.skip ?_ | refine SGo.inBlock ?_ | refine SGo.block ?_ | refine SGo.scope ?_ | refine SGo.inScope ?_ | refine SGo.label ?_ | refine SGo.exit rfl ?_)
  refine SGo.reg ?_
  refine SReg.mv rfl rfl rfl ?_
  refine SReg.ex rfl rfl (fun _ _ => by first | exact ex_bool (ex_lss rfl rfl) (by assumption) | exact ex_lss rfl rfl) ?_
  refine SReg.nil ?_
  repeat (first | refine SGo.seq ?_ | refine SGo.skip ?_ | refine SGo.inBlock ?_ | refine SGo.block ?_ | refine SGo.scope ?_ | refine SGo.inScope ?_ | refine SGo.label ?_ | refine SGo.exit rfl ?_)
  refine SGo.condD rfl (fun h => ?_) (fun h => ?_)
  · repeat (first | refine SGo.seq ?_ | refine SGo.skip ?_ | refine SGo.inBlock ?_ | refine SGo.block ?_ | refine SGo.scope ?_ | refine SGo.inScope ?_ | refine SGo.label ?_ | refine SGo.exit rfl ?_)
    refine SGo.reg ?_
    refine SReg.mv rfl rfl rfl ?_
    refine SReg.valG rfl rfl (sx_lenG rfl (tf (by rfl)) (by first | exact hz_nil (by assumption) | exact map_nil | exact len_nil (by first | assumption | rfl | (simp; done)))) ?_
    refine SReg.mv rfl rfl rfl ?_
    refine SReg.valG rfl rfl (sx_lenG rfl (tf (by rfl)) (by first | exact hz_nil (by assumption) | exact map_nil | exact len_nil (by first | assumption | rfl | (simp; done)))) ?_
    refine SReg.as rfl rfl rfl ?_
    refine SReg.as rfl rfl rfl ?_
    refine SReg.nil ?_
    repeat (first | refine SGo.seq ?_ | refine SGo.skip ?_ | refine SGo.inBlock ?_ | refine SGo.block ?_ | refine SGo.scope ?_ | refine SGo.inScope ?_ | refine SGo.label ?_ | refine SGo.exit rfl ?_)
    have e : lm zs = zs.length := by
      split at h
      · assumption
      · omega
    have e2 : lm zs.reverse = zs.length := lm_rev_all fun j hj => s1 _ (by omega)
    exact SGo.ret Try.func14 (fun τ hτ => ares_tmp rfl (ares_tmp rfl ares_nil)) fun τ hτ => ⟨_, hτ, by rw [e, e2]; rfl, rfl⟩
  have hne : lm zs ≠ zs.length := fun e => by rw [if_pos e] at h; omega
  rw [if_neg hne]
  have hd := s2.resolve_left hne
  repeat (first | refine SGo.seq ?_ | refine SGo.skip ?_ | refine SGo.inBlock ?_ | refine SGo.block ?_ | refine SGo.scope ?_ | refine SGo.inScope ?_ | refine SGo.label ?_ | refine SGo.exit rfl ?_)
  refine SGo.reg ?_
  refine SReg.mv rfl rfl rfl ?_
  refine SReg.valG rfl rfl (sx_lenG rfl (tf (by rfl)) (by first | exact hz_nil (by assumption) | exact map_nil | exact len_nil (by first | assumption | rfl | (simp; done)))) ?_
  refine SReg.ex rfl rfl (fun _ _ => ex_sub rfl rfl (by first | assumption | omega | decide)) ?_
  refine SReg.as rfl rfl rfl ?_
  refine SReg.nil ?_
  repeat (first | refine SGo.seq ?_ | refine SGo.skip ?_ | refine SGo.inBlock ?_ | refine SGo.block ?_ | refine SGo.scope ?_ | refine SGo.inScope ?_ | refine SGo.label ?_ | refine SGo.exit rfl ?_)
  refine SGo.loopI (ι := Nat) (F := fun r => [(0, gv c off zs.length cap), (2, .int .i64 (lm zs : Nat)), (3, .int .i64 (r : Nat)), (4, .int .i64 ((zs.length : Int) - 1 - (r : Int)))]) (O := fun _ => [(c, .cells cs 4 rw)]) (l0 := fun _ => []) (I := fun r => r + lm zs < zs.length ∧ ∀ j, j < r → zs.getD (zs.length - 1 - j) false = false) (μ := fun r => zs.length - r) ?_ (x0 := 0) ⟨by omega, fun j hj => by omega⟩ ⟨rfl, rfl, rfl, by simp; rfl, trivial⟩ rfl rfl
  rintro r ⟨hr, hr2⟩ next
  have hi : (zs.length : Int) - 1 - (r : Int) = ((zs.length - 1 - r : Nat) : Int) := by omega
  repeat (first | refine SGo.seq ?_ | refine SGo.skip ?_ | refine SGo.inBlock ?_ | refine SGo.block ?_ | refine SGo.scope ?_ | refine SGo.inScope ?_ | refine SGo.label ?_ | refine SGo.exit rfl ?_)
  refine SGo.reg ?_
  refine SReg.mv rfl rfl rfl ?_
  refine SReg.mv rfl rfl rfl ?_
  refine SReg.idxG rfl rfl rfl rfl (tf (by rfl)) (tf (by rfl)) (by first | assumption | rfl) (by omega) (by first | exact hz_nil (by assumption) | exact map_nil | exact len_nil (by first | assumption | rfl | (simp; done))) (fun _ hidx => ?_)
  cases hidx
  refine SReg.ld rfl rfl rfl (by first | exact sld_cell (tf (by rfl)) rfl (by first | assumption | rfl) | exact sld_sub (d := (0 : Int)) (by assumption) (tf (by rfl)) rfl rfl (by omega) | exact sld_at (0 : Int) (tf (by rfl)) rfl rfl (by omega) | exact sld_sub (d := false) (by assumption) (tf (by rfl)) rfl rfl (by omega) | exact sld_at false (tf (by rfl)) rfl rfl (by omega) | exact sld_all (tf (by rfl)) rfl (by first | rfl | (simp; done))) ?_
  refine SReg.ex rfl rfl (fun _ _ => by first | exact ex_bool (ex_not rfl) (by assumption) | exact ex_not rfl) ?_
  refine SReg.nil ?_
  repeat (first | refine SGo.seq ?_ | refine SGo.skip ?_ | refine SGo.inBlock ?_ | refine SGo.block ?_ | refine SGo.scope ?_ | refine SGo.inScope ?_ | refine SGo.label ?_ | refine SGo.exit rfl ?_)
  cases hb : zs.getD (zs.length - 1 - r) false with
  | true =>
    refine SGo.condF (by simp only [hb]; rfl) ?_
    repeat (first | refine SGo.seq ?_ | refine SGo.skip ?_ | refine SGo.inBlock ?_ | refine SGo.block ?_ | refine SGo.scope ?_ | refine SGo.inScope ?_ | refine SGo.label ?_ | refine SGo.exit rfl ?_)
    repeat (first | refine SGo.seq ?_ | refine SGo.skip ?_ | refine SGo.inBlock ?_ | refine SGo.block ?_ | refine SGo.scope ?_ | refine SGo.inScope ?_ | refine SGo.label ?_ | refine SGo.exit rfl ?_)
    refine SGo.reg ?_
    refine SReg.mv rfl rfl rfl ?_
    refine SReg.mv rfl rfl rfl ?_
    refine SReg.as rfl rfl rfl ?_
    refine SReg.as rfl rfl rfl ?_
    refine SReg.nil ?_
    repeat (first | refine SGo.seq ?_ | refine SGo.skip ?_ | refine SGo.inBlock ?_ | refine SGo.block ?_ | refine SGo.scope ?_ | refine SGo.inScope ?_ | refine SGo.label ?_ | refine SGo.exit rfl ?_)
    have e2 : lm zs.reverse = r := lm_rev (by omega) hr2 hb
    exact SGo.ret Try.func14 (fun τ hτ => ares_tmp rfl (ares_tmp rfl ares_nil)) fun τ hτ => ⟨_, hτ, by rw [e2]; rfl, rfl⟩
  | false =>
    refine SGo.condT (by simp only [hb]; rfl) ?_
    repeat (first | refine SGo.seq ?_ | refine SGo.skip ?_ | refine SGo.inBlock ?_ | refine SGo.block ?_ | refine SGo.scope ?_ | refine SGo.inScope ?_ | refine SGo.label ?_ | refine SGo.exit rfl ?_)
    refine SGo.reg ?_
    refine SReg.mv rfl rfl rfl ?_
    refine SReg.ex rfl rfl (fun _ _ => ex_add rfl rfl (by first | assumption | omega | decide)) ?_
    refine SReg.as rfl rfl rfl ?_
    refine SReg.nil ?_
    repeat (first | refine SGo.seq ?_ | refine SGo.skip ?_ | refine SGo.inBlock ?_ | refine SGo.block ?_ | refine SGo.scope ?_ | refine SGo.inScope ?_ | refine SGo.label ?_ | refine SGo.exit rfl ?_)
    repeat (first | refine SGo.seq ?_ | refine SGo.skip ?_ | refine SGo.inBlock ?_ | refine SGo.block ?_ | refine SGo.scope ?_ | refine SGo.inScope ?_ | refine SGo.label ?_ | refine SGo.exit rfl ?_)
    refine SGo.reg ?_
    refine SReg.mv rfl rfl rfl ?_
    refine SReg.ex rfl rfl (fun _ _ => ex_sub rfl rfl (by first | assumption | omega | decide)) ?_
    refine SReg.as rfl rfl rfl ?_
    refine SReg.nil ?_
    repeat (first | refine SGo.seq ?_ | refine SGo.skip ?_ | refine SGo.inBlock ?_ | refine SGo.block ?_ | refine SGo.scope ?_ | refine SGo.inScope ?_ | refine SGo.label ?_ | refine SGo.exit rfl ?_)
    refine next (r + 1) _ (by omega) ⟨?_, fun j hj => ?_⟩ ⟨rfl, rfl, rfl, ?_, trivial⟩
    · rcases Nat.lt_or_ge (r + 1 + lm zs) zs.length with h' | h'
      · exact h'
      · rw [show zs.length - 1 - r = lm zs by omega, hd] at hb; cases hb
    · rcases Nat.lt_or_ge j r with h' | h'
      · exact hr2 j h'
      · rw [show j = r by omega]; exact hb
    · show some (Value.int .i64 _) = _
      congr 2; omega
-- @FN 15
theorem refMargins15 {c : Option Nat} {off cap : Nat} {cs : List Value} {rw : Bool} {zs : List Bool} (hz : (cs.drop off).take zs.length = zs.map Value.bool) (hl : zs.length ≤ 9223372036854775806) :
    SC Try.prog 15 [gv c off zs.length cap] [(c, .cells cs 4 rw)] fun v l => v = .tuple #[.int .i64 (lm zs : Nat), .int .i64 (lm zs.reverse : Nat)] ∧ l = [] := by
  refine SC.enter Try.func15 rfl (by rw [Try.ntmps15]; simp) fun σ hσ => ?_
  rw [Try.ntmps15]
  repeat (first | refine SGo.seq ?_ | refine SGo.skip ?_ | refine SGo.inBlock ?_ | refine SGo.block ?_ | refine SGo.scope ?_ | refine SGo.inScope ?_ | refine SGo.label ?_ | refine SGo.exit rfl ?_)
  refine SGo.reg ?_
  refine SReg.as rfl rfl rfl ?_
  refine SReg.as rfl rfl rfl ?_
  refine SReg.nil ?_
  repeat (first | refine SGo.seq ?_ | refine SGo.skip ?_ | refine SGo.inBlock ?_ | refine SGo.block ?_ | refine SGo.scope ?_ | refine SGo.inScope ?_ | refine SGo.label ?_ | refine SGo.exit rfl ?_)
  repeat (first | refine SGo.seq ?_ | refine SGo.skip ?_ | refine SGo.inBlock ?_ | refine SGo.block ?_ | refine SGo.scope ?_ | refine SGo.inScope ?_ | refine SGo.label ?_ | refine SGo.exit rfl ?_)
  refine SGo.reg ?_
  refine SReg.as rfl rfl rfl ?_
  refine SReg.as rfl rfl rfl ?_
  refine SReg.nil ?_
  repeat (first | refine SGo.seq ?_ | refine SGo.skip ?_ | refine SGo.inBlock ?_ | refine SGo.block ?_ | refine SGo.scope ?_ | refine SGo.inScope ?_ | refine SGo.label ?_ | refine SGo.exit rfl ?_)
  refine SGo.loopI (ι := Nat) (F := fun k => [(0, gv c off zs.length cap), (4, .int .i64 (k : Nat)), (5, .int .i64 0)]) (O := fun _ => [(c, .cells cs 4 rw)]) (l0 := fun _ => []) (I := fun k => k ≤ zs.length ∧ ∀ j, j < k → zs.getD j false = false) (μ := fun k => zs.length - k) ?_ (x0 := 0) ⟨Nat.zero_le _, fun j hj => by omega⟩ ⟨rfl, rfl, rfl, trivial⟩ rfl rfl
  rintro k ⟨hk, hk2⟩ next
  repeat (first | refine SGo.seq ?_ | refine SGo.skip ?_ | refine SGo.inBlock ?_ | refine SGo.block ?_ | refine SGo.scope ?_ | refine SGo.inScope ?_ | refine SGo.label ?_ | refine SGo.exit rfl ?_)
  refine SGo.reg ?_
  refine SReg.mv rfl rfl rfl ?_
  refine SReg.mv rfl rfl rfl ?_
  refine SReg.valG rfl rfl (sx_lenG rfl (tf (by rfl)) (by first | exact hz_nil (by assumption) | exact map_nil | exact len_nil (by first | assumption | rfl | (simp; done)))) ?_
  refine SReg.ex rfl rfl (fun _ _ => by first | exact ex_bool (ex_lss rfl rfl) (by assumption) | exact ex_lss rfl rfl) ?_
  refine SReg.mv rfl rfl rfl ?_
  refine SReg.join (fun fr' => Has [(0, gv c off zs.length cap), (4, .int .i64 (k : Nat)), (5, .int .i64 0), (16, .bool (decide (k < zs.length) && !zs.getD k false))] fr') ?_ fun nx => ?_
  rotate_left
  · cases g : decide (((k : Nat) : Int) < (zs.length : Int)) with
    | true =>
      have g' : k < zs.length := by have := of_decide_eq_true g; omega
      first | refine SReg.skipG rfl rfl ?_ | (refine SReg.mv rfl rfl rfl ?_)
      first | refine SReg.skipG rfl rfl ?_ | (refine SReg.mv rfl rfl rfl ?_)
      first | refine SReg.skipG rfl rfl ?_ | (refine SReg.idxG rfl rfl rfl rfl (tf (by rfl)) (tf (by rfl)) (by first | assumption | rfl) (by omega) (by first | exact hz_nil (by assumption) | exact map_nil | exact len_nil (by first | assumption | rfl | (simp; done))) (fun _ hidx => ?_); cases hidx)
      first | refine SReg.skipG rfl rfl ?_ | (refine SReg.ld rfl rfl rfl (by first | exact sld_cell (tf (by rfl)) rfl (by first | assumption | rfl) | exact sld_sub (d := (0 : Int)) (by assumption) (tf (by rfl)) rfl rfl (by omega) | exact sld_at (0 : Int) (tf (by rfl)) rfl rfl (by omega) | exact sld_sub (d := false) (by assumption) (tf (by rfl)) rfl rfl (by omega) | exact sld_at false (tf (by rfl)) rfl rfl (by omega) | exact sld_all (tf (by rfl)) rfl (by first | rfl | (simp; done))) ?_)
      first | refine SReg.skipG rfl rfl ?_ | (refine SReg.ex rfl rfl (fun _ _ => by first | exact ex_bool (ex_not rfl) (by assumption) | exact ex_not rfl) ?_)
      refine SReg.ex rfl rfl (fun _ _ => by first | exact ex_pickT rfl rfl | exact ex_pickF rfl rfl) ?_
      refine SReg.nil ?_
      repeat (first | refine SGo.seq ?_ | refine SGo.skip ?_ | refine SGo.inBlock ?_ | refine SGo.block ?_ | refine SGo.scope ?_ | refine SGo.inScope ?_ | refine SGo.label ?_ | refine SGo.exit rfl ?_)
      exact nx _ ⟨rfl, rfl, rfl, by rw [decide_eq_true g', Bool.true_and]; rfl, trivial⟩
    | false =>
      have g' : ¬ k < zs.length := by have := of_decide_eq_false g; omega
      first | refine SReg.skipG rfl rfl ?_ | (refine SReg.mv rfl rfl rfl ?_)
      first | refine SReg.skipG rfl rfl ?_ | (refine SReg.mv rfl rfl rfl ?_)
      first | refine SReg.skipG rfl rfl ?_ | (refine SReg.idxG rfl rfl rfl rfl (tf (by rfl)) (tf (by rfl)) (by first | assumption | rfl) (by omega) (by first | exact hz_nil (by assumption) | exact map_nil | exact len_nil (by first | assumption | rfl | (simp; done))) (fun _ hidx => ?_); cases hidx)
      first | refine SReg.skipG rfl rfl ?_ | (refine SReg.ld rfl rfl rfl (by first | exact sld_cell (tf (by rfl)) rfl (by first | assumption | rfl) | exact sld_sub (d := (0 : Int)) (by assumption) (tf (by rfl)) rfl rfl (by omega) | exact sld_at (0 : Int) (tf (by rfl)) rfl rfl (by omega) | exact sld_sub (d := false) (by assumption) (tf (by rfl)) rfl rfl (by omega) | exact sld_at false (tf (by rfl)) rfl rfl (by omega) | exact sld_all (tf (by rfl)) rfl (by first | rfl | (simp; done))) ?_)
      first | refine SReg.skipG rfl rfl ?_ | (refine SReg.ex rfl rfl (fun _ _ => by first | exact ex_bool (ex_not rfl) (by assumption) | exact ex_not rfl) ?_)
      refine SReg.ex rfl rfl (fun _ _ => by first | exact ex_pickT rfl rfl | exact ex_pickF rfl rfl) ?_
      refine SReg.nil ?_
      repeat (first | refine SGo.seq ?_ | refine SGo.skip ?_ | refine SGo.inBlock ?_ | refine SGo.block ?_ | refine SGo.scope ?_ | refine SGo.inScope ?_ | refine SGo.label ?_ | refine SGo.exit rfl ?_)
      exact nx _ ⟨rfl, rfl, rfl, by rw [decide_eq_false g', Bool.false_and]; rfl, trivial⟩
  intro fr' hF
  refine SGo.has hF ?_
  refine SGo.condB rfl (fun h => ?_) (fun h => ?_)
  · simp only [Bool.and_eq_true, decide_eq_true_eq, Bool.not_eq_true'] at h
    repeat (first | refine SGo.seq ?_ | refine SGo.skip ?_ | refine SGo.inBlock ?_ | refine SGo.block ?_ | refine SGo.scope ?_ | refine SGo.inScope ?_ | refine SGo.label ?_ | refine SGo.exit rfl ?_)
    refine SGo.reg ?_
    refine SReg.mv rfl rfl rfl ?_
    refine SReg.ex rfl rfl (fun _ _ => ex_add rfl rfl (by first | assumption | omega | decide)) ?_
    refine SReg.as rfl rfl rfl ?_
    refine SReg.nil ?_
    repeat (first | refine SGo.seq ?_ | refine SGo.skip ?_ | refine SGo.inBlock ?_ | refine SGo.block ?_ | refine SGo.scope ?_ | refine SGo.inScope ?_ | refine SGo.label ?_ | refine SGo.exit rfl ?_)
    refine next (k + 1) _ (by omega) ⟨by omega, fun j hj => ?_⟩ ⟨rfl, rfl, rfl, trivial⟩
    rcases Nat.lt_or_ge j k with h' | h'
    · exact hk2 j h'
    · rw [show j = k by omega]; exact h.2
  have e1 : lm zs = k := by
    refine lm_eq hk hk2 ?_
    rcases Nat.lt_or_ge k zs.length with h' | h'
    · rw [decide_eq_true h'] at h; exact .inr (by simpa using h)
    · exact .inl (by omega)
  rw [e1]
  clear next
  repeat (first | refine SGo.seq ?_ | refine SGo.skip ?_ | refine SGo.inBlock ?_ | refine SGo.block ?_ | refine SGo.scope ?_ | refine SGo.inScope ?_ | refine SGo.label ?_ | refine SGo.exit rfl ?_)
  refine SGo.loopI (ι := Nat) (F := fun r => [(0, gv c off zs.length cap), (4, .int .i64 (k : Nat)), (5, .int .i64 (r : Nat))]) (O := fun _ => [(c, .cells cs 4 rw)]) (l0 := fun _ => []) (I := fun r => r ≤ zs.length ∧ ∀ j, j < r → zs.getD (zs.length - 1 - j) false = false) (μ := fun r => zs.length - r) ?_ (x0 := 0) ⟨Nat.zero_le _, fun j hj => by omega⟩ ⟨rfl, rfl, rfl, trivial⟩ rfl rfl
  rintro r ⟨hr, hr2⟩ next
  repeat (first | refine SGo.seq ?_ | refine SGo.skip ?_ | refine SGo.inBlock ?_ | refine SGo.block ?_ | refine SGo.scope ?_ | refine SGo.inScope ?_ | refine SGo.label ?_ | refine SGo.exit rfl ?_)
  refine SGo.reg ?_
  refine SReg.mv rfl rfl rfl ?_
  refine SReg.mv rfl rfl rfl ?_
  refine SReg.valG rfl rfl (sx_lenG rfl (tf (by rfl)) (by first | exact hz_nil (by assumption) | exact map_nil | exact len_nil (by first | assumption | rfl | (simp; done)))) ?_
  refine SReg.ex rfl rfl (fun _ _ => by first | exact ex_bool (ex_lss rfl rfl) (by assumption) | exact ex_lss rfl rfl) ?_
  refine SReg.mv rfl rfl rfl ?_
  refine SReg.join (fun fr' => Has [(0, gv c off zs.length cap), (4, .int .i64 (k : Nat)), (5, .int .i64 (r : Nat)), (33, .bool (decide (r < zs.length) && !zs.getD (zs.length - 1 - r) false))] fr') ?_ fun nx => ?_
  rotate_left
  · cases g : decide (((r : Nat) : Int) < (zs.length : Int)) with
    | true =>
      have g' : r < zs.length := by have := of_decide_eq_true g; omega
      have hi : (zs.length : Int) - 1 - (r : Int) = ((zs.length - 1 - r : Nat) : Int) := by omega
      first | refine SReg.skipG rfl rfl ?_ | (refine SReg.mv rfl rfl rfl ?_)
      first | refine SReg.skipG rfl rfl ?_ | (refine SReg.mv rfl rfl rfl ?_)
      first | refine SReg.skipG rfl rfl ?_ | (refine SReg.valG rfl rfl (sx_lenG rfl (tf (by rfl)) (by first | exact hz_nil (by assumption) | exact map_nil | exact len_nil (by first | assumption | rfl | (simp; done)))) ?_)
      first | refine SReg.skipG rfl rfl ?_ | (refine SReg.ex rfl rfl (fun _ _ => ex_sub rfl rfl (by first | assumption | omega | decide)) ?_)
      first | refine SReg.skipG rfl rfl ?_ | (refine SReg.mv rfl rfl rfl ?_)
      first | refine SReg.skipG rfl rfl ?_ | (refine SReg.ex rfl rfl (fun _ _ => ex_sub rfl rfl (by first | assumption | omega | decide)) ?_)
      first | refine SReg.skipG rfl rfl ?_ | (refine SReg.idxG rfl rfl rfl rfl (tf (by rfl)) (tf (by rfl)) (by first | assumption | rfl) (by omega) (by first | exact hz_nil (by assumption) | exact map_nil | exact len_nil (by first | assumption | rfl | (simp; done))) (fun _ hidx => ?_); cases hidx)
      first | refine SReg.skipG rfl rfl ?_ | (refine SReg.ld rfl rfl rfl (by first | exact sld_cell (tf (by rfl)) rfl (by first | assumption | rfl) | exact sld_sub (d := (0 : Int)) (by assumption) (tf (by rfl)) rfl rfl (by omega) | exact sld_at (0 : Int) (tf (by rfl)) rfl rfl (by omega) | exact sld_sub (d := false) (by assumption) (tf (by rfl)) rfl rfl (by omega) | exact sld_at false (tf (by rfl)) rfl rfl (by omega) | exact sld_all (tf (by rfl)) rfl (by first | rfl | (simp; done))) ?_)
      first | refine SReg.skipG rfl rfl ?_ | (refine SReg.ex rfl rfl (fun _ _ => by first | exact ex_bool (ex_not rfl) (by assumption) | exact ex_not rfl) ?_)
      refine SReg.ex rfl rfl (fun _ _ => by first | exact ex_pickT rfl rfl | exact ex_pickF rfl rfl) ?_
      refine SReg.nil ?_
      repeat (first | refine SGo.seq ?_ | refine SGo.skip ?_ | refine SGo.inBlock ?_ | refine SGo.block ?_ | refine SGo.scope ?_ | refine SGo.inScope ?_ | refine SGo.label ?_ | refine SGo.exit rfl ?_)
      exact nx _ ⟨rfl, rfl, rfl, by rw [decide_eq_true g', Bool.true_and]; rfl, trivial⟩
    | false =>
      have g' : ¬ r < zs.length := by have := of_decide_eq_false g; omega
      first | refine SReg.skipG rfl rfl ?_ | (refine SReg.mv rfl rfl rfl ?_)
      first | refine SReg.skipG rfl rfl ?_ | (refine SReg.mv rfl rfl rfl ?_)
      first | refine SReg.skipG rfl rfl ?_ | (refine SReg.valG rfl rfl (sx_lenG rfl (tf (by rfl)) (by first | exact hz_nil (by assumption) | exact map_nil | exact len_nil (by first | assumption | rfl | (simp; done)))) ?_)
      first | refine SReg.skipG rfl rfl ?_ | (refine SReg.ex rfl rfl (fun _ _ => ex_sub rfl rfl (by first | assumption | omega | decide)) ?_)
      first | refine SReg.skipG rfl rfl ?_ | (refine SReg.mv rfl rfl rfl ?_)
      first | refine SReg.skipG rfl rfl ?_ | (refine SReg.ex rfl rfl (fun _ _ => ex_sub rfl rfl (by first | assumption | omega | decide)) ?_)
      first | refine SReg.skipG rfl rfl ?_ | (refine SReg.idxG rfl rfl rfl rfl (tf (by rfl)) (tf (by rfl)) (by first | assumption | rfl) (by omega) (by first | exact hz_nil (by assumption) | exact map_nil | exact len_nil (by first | assumption | rfl | (simp; done))) (fun _ hidx => ?_); cases hidx)
      first | refine SReg.skipG rfl rfl ?_ | (refine SReg.ld rfl rfl rfl (by first | exact sld_cell (tf (by rfl)) rfl (by first | assumption | rfl) | exact sld_sub (d := (0 : Int)) (by assumption) (tf (by rfl)) rfl rfl (by omega) | exact sld_at (0 : Int) (tf (by rfl)) rfl rfl (by omega) | exact sld_sub (d := false) (by assumption) (tf (by rfl)) rfl rfl (by omega) | exact sld_at false (tf (by rfl)) rfl rfl (by omega) | exact sld_all (tf (by rfl)) rfl (by first | rfl | (simp; done))) ?_)
      first | refine SReg.skipG rfl rfl ?_ | (refine SReg.ex rfl rfl (fun _ _ => by first | exact ex_bool (ex_not rfl) (by assumption) | exact ex_not rfl) ?_)
      refine SReg.ex rfl rfl (fun _ _ => by first | exact ex_pickT rfl rfl | exact ex_pickF rfl rfl) ?_
      refine SReg.nil ?_
      repeat (first | refine SGo.seq ?_ | refine SGo.skip ?_ | refine SGo.inBlock ?_ | refine SGo.block ?_ | refine SGo.scope ?_ | refine SGo.inScope ?_ | refine SGo.label ?_ | refine SGo.exit rfl ?_)
      exact nx _ ⟨rfl, rfl, rfl, by rw [decide_eq_false g', Bool.false_and]; rfl, trivial⟩
  intro fr' hF
  refine SGo.has hF ?_
  refine SGo.condB rfl (fun h => ?_) (fun h => ?_)
  · simp only [Bool.and_eq_true, decide_eq_true_eq, Bool.not_eq_true'] at h
    repeat (first | refine SGo.seq ?_ | refine SGo.skip ?_ | refine SGo.inBlock ?_ | refine SGo.block ?_ | refine SGo.scope ?_ | refine SGo.inScope ?_ | refine SGo.label ?_ | refine SGo.exit rfl ?_)
    refine SGo.reg ?_
    refine SReg.mv rfl rfl rfl ?_
    refine SReg.ex rfl rfl (fun _ _ => ex_add rfl rfl (by first | assumption | omega | decide)) ?_
    refine SReg.as rfl rfl rfl ?_
    refine SReg.nil ?_
    repeat (first | refine SGo.seq ?_ | refine SGo.skip ?_ | refine SGo.inBlock ?_ | refine SGo.block ?_ | refine SGo.scope ?_ | refine SGo.inScope ?_ | refine SGo.label ?_ | refine SGo.exit rfl ?_)
    refine next (r + 1) _ (by omega) ⟨by omega, fun j hj => ?_⟩ ⟨rfl, rfl, rfl, trivial⟩
    rcases Nat.lt_or_ge j r with h' | h'
    · exact hr2 j h'
    · rw [show j = r by omega]; exact h.2
  have e2 : lm zs.reverse = r := by
    rcases Nat.lt_or_ge r zs.length with h' | h'
    · rw [decide_eq_true h'] at h; exact lm_rev h' hr2 (by simpa using h)
    · have hrz : r = zs.length := by omega
      rw [hrz] at hr2 ⊢; exact lm_rev_all hr2
  repeat (first | refine SGo.seq ?_ | refine SGo.skip ?_ | refine SGo.inBlock ?_ | refine SGo.block ?_ | refine SGo.scope ?_ | refine SGo.inScope ?_ | refine SGo.label ?_ | refine SGo.exit rfl ?_)
  repeat (first | refine SGo.seq ?_ | refine SGo.skip ?_ | refine SGo.inBlock ?_ | refine SGo.block ?_ | refine SGo.scope ?_ | refine SGo.inScope ?_ | refine SGo.label ?_ | refine SGo.exit rfl ?_)
  refine SGo.reg ?_
  refine SReg.mv rfl rfl rfl ?_
  refine SReg.mv rfl rfl rfl ?_
  refine SReg.as rfl rfl rfl ?_
  refine SReg.as rfl rfl rfl ?_
  refine SReg.nil ?_
  repeat (first | refine SGo.seq ?_ | refine SGo.skip ?_ | refine SGo.inBlock ?_ | refine SGo.block ?_ | refine SGo.scope ?_ | refine SGo.inScope ?_ | refine SGo.label ?_ | refine SGo.exit rfl ?_)
  exact SGo.ret Try.func15 (fun τ hτ => ares_tmp rfl (ares_tmp rfl ares_nil)) fun τ hτ => ⟨_, hτ, by rw [e2]; rfl, rfl⟩
end Go.Abs.Run

/- A part of the proof: contracts of functions of the program, shown by walking through their code in an abstract machine. Condition: none. -/
import Derived.Test.YtipgikhblcfpjaaRunR
set_option linter.unusedVariables false
set_option linter.unusedSimpArgs false
namespace Go.Abs.Run
open Go Go.Proofs
set_option maxHeartbeats 8000000
set_option maxRecDepth 8000
-- @SEAT 10
/-- Numbers and an error are handed back. -/
def RIE (m : List Int) (e : Int) (v : Value) (l : SH) : Prop := ∃ c, v = .tuple #[sv c m.length, .int .i64 e] ∧ l = [(c, .cells (m.map (Value.int .i64)) 3 true)]
theorem rie_nil {σ τ : AHeap} {o l : SH} {e : Int} {Q : Value → SH → Prop} (h : Hp σ o l τ) (hq : ∀ v l, RIE [] e v l → Q v l) : SRet σ o Q (.tuple #[.slice none 0 0, .int .i64 e]) τ := ⟨_, (h.less (List.nil_sublist _)).nilE 3 true, hq _ _ ⟨none, rfl, rfl⟩⟩
def qE (zs : List Int) (T : Int) : Int := if zs.length = 0 then 5 else if chkE zs ≠ 0 ∨ T < (zs.length : Int) ∨ T > 65536 then 3 else 0
theorem fillQ_len (nx : List Int) (T : Int) (o : List Int) (n : Int) : ∀ i, (fillQ nx T o n i).1.length = o.length
  | 0 => rfl
  | i + 1 => by
    have := fillQ_len nx T o n i
    simp only [fillQ]; split
    · simp [this]
    · exact this
theorem wOk_all {zs : List Int} (h : zs.any (fun w => !wOk w) = false) : ∀ x ∈ zs, 1 ≤ x ∧ x ≤ 65536 := fun x hx => by
  rw [List.any_eq_false] at h
  have := h x hx
  simp only [wOk, Bool.not_eq_true, Bool.not_eq_false', Bool.and_eq_true, decide_eq_true_eq] at this
  omega
theorem chk_ok {zs : List Int} (h : chkE zs = 0) : zs.length ≠ 0 ∧ zs.any (fun w => !wOk w) = false := by
  unfold chkE at h
  split at h
  · omega
  · rename_i h0
    split at h
    · omega
    · rename_i h1; exact ⟨h0, by simpa using h1⟩
theorem numL_lo {zs : List Int} {T : Int} (hw : ∀ x ∈ zs, 1 ≤ x ∧ x ≤ 65536) (hT : 0 ≤ T) (h0 : zs.length ≠ 0) : (numL zs T (-4 * zs.sum * T - 4)).sum = (zs.length : Int) := by
  have hg := sum_ge (p := zs) fun i hi => by
    have := hw (zs.getD i 0) (by rw [List.getD_eq_getElem?_getD, List.getElem?_eq_getElem hi]; exact List.getElem_mem hi)
    omega
  have e : ∀ x ∈ zs, numF T zs.sum (-4 * zs.sum * T - 4) x = 1 := fun x hx => by
    obtain ⟨i, hi, rfl⟩ := List.getElem_of_mem hx
    have h2 := hg.2 i hi
    have e1 : zs.getD i 0 = zs[i] := by rw [List.getD_eq_getElem?_getD, List.getElem?_eq_getElem hi]; rfl
    rw [e1] at h2
    have h3 := Int.mul_le_mul_of_nonneg_left (show zs[i] ≤ zs.sum by omega) (show 0 ≤ 2 * T by omega)
    have h4 : -4 * zs.sum * T = -2 * (2 * T * zs.sum) := by
      rw [Int.mul_assoc, Int.mul_comm zs.sum T, Int.mul_assoc 2 T, ← Int.mul_assoc (-2) 2]; rfl
    have h5 := Int.mul_nonneg (show 0 ≤ 2 * T by omega) (show 0 ≤ zs.sum by omega)
    have := (Int.ediv_lt_iff_lt_mul (a := -4 * zs.sum * T - 4 + 2 * T * zs[i] - zs.sum) (b := 1) (c := 2 * zs.sum) (by omega)).2 (by rw [h4]; omega)
    unfold numF
    omega
  have : ∀ (l : List Int), (∀ x ∈ l, numF T zs.sum (-4 * zs.sum * T - 4) x = 1) → (l.map (numF T zs.sum (-4 * zs.sum * T - 4))).sum = (l.length : Int) := by
    intro l
    induction l with
    | nil => intro _; rfl
    | cons a l ih =>
      intro h
      simp only [List.map_cons, List.sum_cons, List.length_cons, ih fun x hx => h x (by simp [hx]), h a (by simp)]
      omega
  exact this zs e
theorem numL_hi {zs : List Int} {T : Int} (hw : ∀ x ∈ zs, 1 ≤ x ∧ x ≤ 65536) (hT : 0 ≤ T) (h0 : zs.length ≠ 0) : T < (numL zs T (4 * zs.sum * (T + 1))).sum := by
  have hg := sum_ge (p := zs) fun i hi => by
    have := hw (zs.getD i 0) (by rw [List.getD_eq_getElem?_getD, List.getElem?_eq_getElem hi]; exact List.getElem_mem hi)
    omega
  have hn := sum_ge (p := numL zs T (4 * zs.sum * (T + 1))) fun i hi => by rw [numL_getD (by simpa [numL] using hi)]; exact numF_pos _ _ _ _
  have h1 := hn.2 0 (by rw [numL_len]; omega)
  rw [numL_getD (by omega), numL_len] at h1
  have hw0 := hw (zs.getD 0 0) (by rw [List.getD_eq_getElem?_getD, List.getElem?_eq_getElem (by omega)]; exact List.getElem_mem _)
  have h3 := Int.mul_nonneg (show 0 ≤ 2 * T by omega) (show 0 ≤ zs.getD 0 0 by omega)
  have h4 : 4 * zs.sum * (T + 1) = T * (4 * zs.sum) + 4 * zs.sum := by rw [Int.mul_add, Int.mul_one, Int.mul_comm]
  have h5 := (Int.le_ediv_iff_mul_le (a := T) (b := 4 * zs.sum * (T + 1) + 2 * T * zs.getD 0 0 - zs.sum) (c := 2 * zs.sum) (by omega)).2 (by
    rw [h4]
    have e : T * (4 * zs.sum) = T * (2 * zs.sum) + T * (2 * zs.sum) := by rw [← Int.mul_add]; congr 1; omega
    have := Int.mul_nonneg hT (show 0 ≤ 2 * zs.sum by omega)
    rw [e]; omega)
  unfold numF at h1
  omega
-- @FN 19
theorem quantize19 {c : Option Nat} {off cap : Nat} {cs : List Value} {rw : Bool} {zs : List Int} {T : Int} (hz : (cs.drop off).take zs.length = zs.map (Value.int .i64)) (hl : zs.length ≤ 60) (hTb : T ≤ 500 ∨ T > 65536) (hTr : -9223372036854775808 ≤ T ∧ T ≤ 9223372036854775807) :
    SC Try.prog 19 [gv c off zs.length cap, .int .i64 T] [(c, .cells cs 3 rw)] fun v l => (qE zs T ≠ 0 ∧ RIE [] (qE zs T) v l) ∨ (qE zs T = 0 ∧ ∃ p, Good zs T p ∧ RIE p 0 v l) := by
  refine SC.enter Try.func19 rfl (by rw [Try.ntmps19]; simp) fun σ hσ => ?_
  rw [Try.ntmps19]
  refine SGo.seq (SGo.reg ?_)
  refine SReg.box rfl rfl (gv_tuple _ _ _ _) (tb rfl) fun B1 => ?_
  rw [gv_cells]
  refine SReg.box rfl rfl rfl (tb rfl) fun B2 => ?_
  refine SReg.as rfl rfl rfl ?_
  refine SReg.as rfl rfl rfl ?_
  refine SReg.nil ?_
  repeat (first | refine SGo.seq ?_ | refine SGo.skip ?_ | refine SGo.inBlock ?_ | refine SGo.block ?_ | refine SGo.scope ?_ | refine SGo.inScope ?_ | refine SGo.label ?_ | refine SGo.exit rfl ?_)
  refine SGo.reg ?_
  refine SReg.ld rfl rfl rfl (by first | exact sld_cell (tf (by rfl)) rfl (by first | assumption | rfl) | exact sld_sub (d := (0 : Int)) (by assumption) (tf (by rfl)) rfl rfl (by omega) | exact sld_at (0 : Int) (tf (by rfl)) rfl rfl (by omega) | exact sld_sub (d := false) (by assumption) (tf (by rfl)) rfl rfl (by omega) | exact sld_at false (tf (by rfl)) rfl rfl (by omega) | exact sld_all (tf (by rfl)) rfl (by first | rfl | (simp; done))) ?_
  refine SReg.valG rfl rfl (sx_lenG rfl (tf (by rfl)) (by first | exact hz_nil (by assumption) | exact map_nil | exact len_nil (by first | assumption | rfl | (simp; done)))) ?_
  refine SReg.ex rfl rfl (fun _ _ => by first | exact ex_bool (ex_eql rfl rfl) (by assumption) | exact ex_eql rfl rfl) ?_
  refine SReg.as rfl rfl rfl ?_
  refine SReg.nil ?_
  repeat (first | refine SGo.seq ?_ | refine SGo.skip ?_ | refine SGo.inBlock ?_ | refine SGo.block ?_ | refine SGo.scope ?_ | refine SGo.inScope ?_ | refine SGo.label ?_ | refine SGo.exit rfl ?_)
  refine SGo.condD rfl (fun h => ?_) (fun h => ?_)
  · repeat (first | refine SGo.seq ?_ | refine SGo.skip ?_ | refine SGo.inBlock ?_ | refine SGo.block ?_ | refine SGo.scope ?_ | refine SGo.inScope ?_ | refine SGo.label ?_ | refine SGo.exit rfl ?_)
    refine SGo.reg ?_
    refine SReg.as rfl rfl rfl ?_
    refine SReg.as rfl rfl rfl ?_
    refine SReg.nil ?_
    repeat (first | refine SGo.seq ?_ | refine SGo.skip ?_ | refine SGo.inBlock ?_ | refine SGo.block ?_ | refine SGo.scope ?_ | refine SGo.inScope ?_ | refine SGo.label ?_ | refine SGo.exit rfl ?_)
    have e : qE zs T = 5 := by rw [qE, if_pos (by omega)]
    rw [e]
    exact SGo.ret Try.func19 (fun τ hτ => ares_tmp rfl (ares_tmp rfl ares_nil)) fun τ hτ => rie_nil hτ fun v l h => .inl ⟨by decide, h⟩
  have h0 : zs.length ≠ 0 := by omega
  repeat (first | refine SGo.seq ?_ | refine SGo.skip ?_ | refine SGo.inBlock ?_ | refine SGo.block ?_ | refine SGo.scope ?_ | refine SGo.inScope ?_ | refine SGo.label ?_ | refine SGo.exit rfl ?_)
  refine SGo.reg ?_
  refine SReg.ld rfl rfl rfl (by first | exact sld_cell (tf (by rfl)) rfl (by first | assumption | rfl) | exact sld_sub (d := (0 : Int)) (by assumption) (tf (by rfl)) rfl rfl (by omega) | exact sld_at (0 : Int) (tf (by rfl)) rfl rfl (by omega) | exact sld_sub (d := false) (by assumption) (tf (by rfl)) rfl rfl (by omega) | exact sld_at false (tf (by rfl)) rfl rfl (by omega) | exact sld_all (tf (by rfl)) rfl (by first | rfl | (simp; done))) ?_
  refine SReg.valG rfl rfl (sx_lenG rfl (tf (by rfl)) (by first | exact hz_nil (by assumption) | exact map_nil | exact len_nil (by first | assumption | rfl | (simp; done)))) ?_
  refine SReg.ex rfl rfl (fun _ _ => by first | exact ex_bool (ex_gtr rfl rfl) (by assumption) | exact ex_gtr rfl rfl) ?_
  refine SReg.as rfl rfl rfl ?_
  refine SReg.nil ?_
  repeat (first | refine SGo.seq ?_ | refine SGo.skip ?_ | refine SGo.inBlock ?_ | refine SGo.block ?_ | refine SGo.scope ?_ | refine SGo.inScope ?_ | refine SGo.label ?_ | refine SGo.exit rfl ?_)
  refine SGo.condD rfl (fun h => by omega) fun _ => ?_
  repeat (first | refine SGo.seq ?_ | refine SGo.skip ?_ | refine SGo.inBlock ?_ | refine SGo.block ?_ | refine SGo.scope ?_ | refine SGo.inScope ?_ | refine SGo.label ?_ | refine SGo.exit rfl ?_)
  refine SGo.reg ?_
  refine SReg.ld rfl rfl rfl (by first | exact sld_cell (tf (by rfl)) rfl (by first | assumption | rfl) | exact sld_sub (d := (0 : Int)) (by assumption) (tf (by rfl)) rfl rfl (by omega) | exact sld_at (0 : Int) (tf (by rfl)) rfl rfl (by omega) | exact sld_sub (d := false) (by assumption) (tf (by rfl)) rfl rfl (by omega) | exact sld_at false (tf (by rfl)) rfl rfl (by omega) | exact sld_all (tf (by rfl)) rfl (by first | rfl | (simp; done))) ?_
  refine SReg.go (check27 hz (by omega)) rfl rfl (by kernel_rfl) ⟨_, .refl _, .cons_cons _ (List.nil_sublist _)⟩ ?_
  rintro _ _ ⟨rfl, rfl⟩
  dsimp only [List.cons_append, List.nil_append]
  refine SReg.join (fun fr' => Has [(2, .pointer (some ⟨B1, 0, none⟩)), (3, .pointer (some ⟨B2, 0, none⟩)), (28, .bool (decide (chkE zs ≠ 0) || (decide (T < (zs.length : Int)) || decide (T > 65536))))] fr') ?_ fun nx => ?_
  rotate_left
  · refine SReg.ex rfl rfl (fun _ _ => by first | exact ex_bool (ex_neq rfl rfl) (by assumption) | exact ex_neq rfl rfl) ?_
    refine SReg.mv rfl rfl rfl ?_
    cases g : decide (chkE zs ≠ 0) with
    | true =>
      first | refine SReg.skipG rfl rfl ?_ | (refine SReg.ld rfl rfl rfl (by first | exact sld_cell (tf (by rfl)) rfl (by first | assumption | rfl) | exact sld_sub (d := (0 : Int)) (by assumption) (tf (by rfl)) rfl rfl (by omega) | exact sld_at (0 : Int) (tf (by rfl)) rfl rfl (by omega) | exact sld_sub (d := false) (by assumption) (tf (by rfl)) rfl rfl (by omega) | exact sld_at false (tf (by rfl)) rfl rfl (by omega) | exact sld_all (tf (by rfl)) rfl (by first | rfl | (simp; done))) ?_)
      first | refine SReg.skipG rfl rfl ?_ | (refine SReg.ld rfl rfl rfl (by first | exact sld_cell (tf (by rfl)) rfl (by first | assumption | rfl) | exact sld_sub (d := (0 : Int)) (by assumption) (tf (by rfl)) rfl rfl (by omega) | exact sld_at (0 : Int) (tf (by rfl)) rfl rfl (by omega) | exact sld_sub (d := false) (by assumption) (tf (by rfl)) rfl rfl (by omega) | exact sld_at false (tf (by rfl)) rfl rfl (by omega) | exact sld_all (tf (by rfl)) rfl (by first | rfl | (simp; done))) ?_)
      first | refine SReg.skipG rfl rfl ?_ | (refine SReg.valG rfl rfl (sx_lenG rfl (tf (by rfl)) (by first | exact hz_nil (by assumption) | exact map_nil | exact len_nil (by first | assumption | rfl | (simp; done)))) ?_)
      first | refine SReg.skipG rfl rfl ?_ | (refine SReg.ex rfl rfl (fun _ _ => by first | exact ex_bool (ex_lss rfl rfl) (by assumption) | exact ex_lss rfl rfl) ?_)
      refine SReg.ex rfl rfl (fun _ _ => by first | exact ex_pickT rfl rfl | exact ex_pickF rfl rfl) ?_
      refine SReg.mv rfl rfl rfl ?_
      first | refine SReg.skipG rfl rfl ?_ | (refine SReg.ld rfl rfl rfl (by first | exact sld_cell (tf (by rfl)) rfl (by first | assumption | rfl) | exact sld_sub (d := (0 : Int)) (by assumption) (tf (by rfl)) rfl rfl (by omega) | exact sld_at (0 : Int) (tf (by rfl)) rfl rfl (by omega) | exact sld_sub (d := false) (by assumption) (tf (by rfl)) rfl rfl (by omega) | exact sld_at false (tf (by rfl)) rfl rfl (by omega) | exact sld_all (tf (by rfl)) rfl (by first | rfl | (simp; done))) ?_)
      first | refine SReg.skipG rfl rfl ?_ | (refine SReg.ex rfl rfl (fun _ _ => by first | exact ex_bool (ex_gtr rfl rfl) (by assumption) | exact ex_gtr rfl rfl) ?_)
      refine SReg.ex rfl rfl (fun _ _ => by first | exact ex_pickT rfl rfl | exact ex_pickF rfl rfl) ?_
      refine SReg.as rfl rfl rfl ?_
      refine SReg.nil ?_
      repeat (first | refine SGo.seq ?_ | refine SGo.skip ?_ | refine SGo.inBlock ?_ | refine SGo.block ?_ | refine SGo.scope ?_ | refine SGo.inScope ?_ | refine SGo.label ?_ | refine SGo.exit rfl ?_)
      exact nx _ ⟨rfl, rfl, by rw [g, Bool.true_or]; rfl, trivial⟩
    | false =>
      first | refine SReg.skipG rfl rfl ?_ | (refine SReg.ld rfl rfl rfl (by first | exact sld_cell (tf (by rfl)) rfl (by first | assumption | rfl) | exact sld_sub (d := (0 : Int)) (by assumption) (tf (by rfl)) rfl rfl (by omega) | exact sld_at (0 : Int) (tf (by rfl)) rfl rfl (by omega) | exact sld_sub (d := false) (by assumption) (tf (by rfl)) rfl rfl (by omega) | exact sld_at false (tf (by rfl)) rfl rfl (by omega) | exact sld_all (tf (by rfl)) rfl (by first | rfl | (simp; done))) ?_)
      first | refine SReg.skipG rfl rfl ?_ | (refine SReg.ld rfl rfl rfl (by first | exact sld_cell (tf (by rfl)) rfl (by first | assumption | rfl) | exact sld_sub (d := (0 : Int)) (by assumption) (tf (by rfl)) rfl rfl (by omega) | exact sld_at (0 : Int) (tf (by rfl)) rfl rfl (by omega) | exact sld_sub (d := false) (by assumption) (tf (by rfl)) rfl rfl (by omega) | exact sld_at false (tf (by rfl)) rfl rfl (by omega) | exact sld_all (tf (by rfl)) rfl (by first | rfl | (simp; done))) ?_)
      first | refine SReg.skipG rfl rfl ?_ | (refine SReg.valG rfl rfl (sx_lenG rfl (tf (by rfl)) (by first | exact hz_nil (by assumption) | exact map_nil | exact len_nil (by first | assumption | rfl | (simp; done)))) ?_)
      first | refine SReg.skipG rfl rfl ?_ | (refine SReg.ex rfl rfl (fun _ _ => by first | exact ex_bool (ex_lss rfl rfl) (by assumption) | exact ex_lss rfl rfl) ?_)
      refine SReg.ex rfl rfl (fun _ _ => by first | exact ex_pickT rfl rfl | exact ex_pickF rfl rfl) ?_
      refine SReg.mv rfl rfl rfl ?_
      cases g2 : decide (T < (zs.length : Int)) with
      | true =>
        first | refine SReg.skipG rfl rfl ?_ | (refine SReg.ld rfl rfl rfl (by first | exact sld_cell (tf (by rfl)) rfl (by first | assumption | rfl) | exact sld_sub (d := (0 : Int)) (by assumption) (tf (by rfl)) rfl rfl (by omega) | exact sld_at (0 : Int) (tf (by rfl)) rfl rfl (by omega) | exact sld_sub (d := false) (by assumption) (tf (by rfl)) rfl rfl (by omega) | exact sld_at false (tf (by rfl)) rfl rfl (by omega) | exact sld_all (tf (by rfl)) rfl (by first | rfl | (simp; done))) ?_)
        first | refine SReg.skipG rfl rfl ?_ | (refine SReg.ex rfl rfl (fun _ _ => by first | exact ex_bool (ex_gtr rfl rfl) (by assumption) | exact ex_gtr rfl rfl) ?_)
        refine SReg.ex rfl rfl (fun _ _ => by first | exact ex_pickT rfl rfl | exact ex_pickF rfl rfl) ?_
        refine SReg.as rfl rfl rfl ?_
        refine SReg.nil ?_
        repeat (first | refine SGo.seq ?_ | refine SGo.skip ?_ | refine SGo.inBlock ?_ | refine SGo.block ?_ | refine SGo.scope ?_ | refine SGo.inScope ?_ | refine SGo.label ?_ | refine SGo.exit rfl ?_)
        exact nx _ ⟨rfl, rfl, by rw [g, g2, Bool.false_or, Bool.true_or]; rfl, trivial⟩
      | false =>
        first | refine SReg.skipG rfl rfl ?_ | (refine SReg.ld rfl rfl rfl (by first | exact sld_cell (tf (by rfl)) rfl (by first | assumption | rfl) | exact sld_sub (d := (0 : Int)) (by assumption) (tf (by rfl)) rfl rfl (by omega) | exact sld_at (0 : Int) (tf (by rfl)) rfl rfl (by omega) | exact sld_sub (d := false) (by assumption) (tf (by rfl)) rfl rfl (by omega) | exact sld_at false (tf (by rfl)) rfl rfl (by omega) | exact sld_all (tf (by rfl)) rfl (by first | rfl | (simp; done))) ?_)
        first | refine SReg.skipG rfl rfl ?_ | (refine SReg.ex rfl rfl (fun _ _ => by first | exact ex_bool (ex_gtr rfl rfl) (by assumption) | exact ex_gtr rfl rfl) ?_)
        refine SReg.ex rfl rfl (fun _ _ => by first | exact ex_pickT rfl rfl | exact ex_pickF rfl rfl) ?_
        refine SReg.as rfl rfl rfl ?_
        refine SReg.nil ?_
        repeat (first | refine SGo.seq ?_ | refine SGo.skip ?_ | refine SGo.inBlock ?_ | refine SGo.block ?_ | refine SGo.scope ?_ | refine SGo.inScope ?_ | refine SGo.label ?_ | refine SGo.exit rfl ?_)
        exact nx _ ⟨rfl, rfl, by rw [g, g2, Bool.false_or, Bool.false_or]; rfl, trivial⟩
  intro fr' hF
  refine SGo.has hF ?_
  refine SGo.condB rfl (fun h => ?_) (fun h => ?_)
  · repeat (first | refine SGo.seq ?_ | refine SGo.skip ?_ | refine SGo.inBlock ?_ | refine SGo.block ?_ | refine SGo.scope ?_ | refine SGo.inScope ?_ | refine SGo.label ?_ | refine SGo.exit rfl ?_)
    refine SGo.reg ?_
    refine SReg.as rfl rfl rfl ?_
    refine SReg.as rfl rfl rfl ?_
    refine SReg.nil ?_
    repeat (first | refine SGo.seq ?_ | refine SGo.skip ?_ | refine SGo.inBlock ?_ | refine SGo.block ?_ | refine SGo.scope ?_ | refine SGo.inScope ?_ | refine SGo.label ?_ | refine SGo.exit rfl ?_)
    have e : qE zs T = 3 := by
      rw [qE, if_neg h0, if_pos]
      simpa using h
    rw [e]
    exact SGo.ret Try.func19 (fun τ hτ => ares_tmp rfl (ares_tmp rfl ares_nil)) fun τ hτ => rie_nil hτ fun v l h => .inl ⟨by decide, h⟩
  have h' : chkE zs = 0 ∧ ¬ T < (zs.length : Int) ∧ ¬ T > 65536 := by
    simp only [Bool.or_eq_false_iff, decide_eq_false_iff_not] at h
    exact ⟨by omega, h.2⟩
  obtain ⟨hc, ht1, ht2⟩ := h'
  have hq0 : qE zs T = 0 := by rw [qE, if_neg h0, if_neg (by omega)]
  obtain ⟨_, hok⟩ := chk_ok hc
  have hw := wOk_all hok
  have hT : 0 ≤ T ∧ T ≤ 500 := by omega
  have hsb := sum_bnd hok
  repeat (first | refine SGo.seq ?_ | refine SGo.skip ?_ | refine SGo.inBlock ?_ | refine SGo.block ?_ | refine SGo.scope ?_ | refine SGo.inScope ?_ | refine SGo.label ?_ | refine SGo.exit rfl ?_)
  refine SGo.reg ?_
  refine SReg.alloc rfl ty3 rfl fun B3 => ?_
  refine SReg.store rfl rfl (.new (.head _)) ty3 rfl (by simp [Value.cells]) rfl ?_
  refine SReg.nil ?_
  repeat (first | refine SGo.seq ?_ | refine SGo.skip ?_ | refine SGo.inBlock ?_ | refine SGo.block ?_ | refine SGo.scope ?_ | refine SGo.inScope ?_ | refine SGo.label ?_ | refine SGo.exit rfl ?_)
  refine SGo.reg ?_
  refine SReg.ld rfl rfl rfl (by first | exact sld_cell (tf (by rfl)) rfl (by first | assumption | rfl) | exact sld_sub (d := (0 : Int)) (by assumption) (tf (by rfl)) rfl rfl (by omega) | exact sld_at (0 : Int) (tf (by rfl)) rfl rfl (by omega) | exact sld_sub (d := false) (by assumption) (tf (by rfl)) rfl rfl (by omega) | exact sld_at false (tf (by rfl)) rfl rfl (by omega) | exact sld_all (tf (by rfl)) rfl (by first | rfl | (simp; done))) ?_
  refine SReg.valG rfl rfl (sx_lenG rfl (tf (by rfl)) (by first | exact hz_nil (by assumption) | exact map_nil | exact len_nil (by first | assumption | rfl | (simp; done)))) ?_
  refine SReg.mv rfl rfl rfl ?_
  refine SReg.nil ?_
  repeat (first | refine SGo.seq ?_ | refine SGo.skip ?_ | refine SGo.inBlock ?_ | refine SGo.block ?_ | refine SGo.scope ?_ | refine SGo.inScope ?_ | refine SGo.label ?_ | refine SGo.exit rfl ?_)
  refine SGo.loopI (ι := Nat) (F := fun k => [(2, .pointer (some ⟨B1, 0, none⟩)), (3, .pointer (some ⟨B2, 0, none⟩)), (6, .pointer (some ⟨B3, 0, none⟩)), (42, gv c off zs.length cap), (43, .int .i64 (zs.length : Nat)), (44, .int .i64 (k : Nat))])
    (O := fun _ => [(c, .cells cs 3 rw)]) (l0 := fun k => [(some B3, .cells [.int .i64 (zs.take k).sum] 3 true), (some B2, .cells [.int .i64 T] 3 true), (some B1, .cells [gv c off zs.length cap] 22 true)]) (I := fun k => k ≤ zs.length) (μ := fun k => zs.length - k) ?_ (x0 := 0) (Nat.zero_le _) ⟨rfl, rfl, rfl, rfl, rfl, rfl, trivial⟩ rfl rfl
  rintro k hk next
  repeat (first | refine SGo.seq ?_ | refine SGo.skip ?_ | refine SGo.inBlock ?_ | refine SGo.block ?_ | refine SGo.scope ?_ | refine SGo.inScope ?_ | refine SGo.label ?_ | refine SGo.exit rfl ?_)
  refine SGo.reg ?_
  refine SReg.ex rfl rfl (fun _ _ => by first | exact ex_bool (ex_lss rfl rfl) (by assumption) | exact ex_lss rfl rfl) ?_
  refine SReg.nil ?_
  repeat (first | refine SGo.seq ?_ | refine SGo.skip ?_ | refine SGo.inBlock ?_ | refine SGo.block ?_ | refine SGo.scope ?_ | refine SGo.inScope ?_ | refine SGo.label ?_ | refine SGo.exit rfl ?_)
  refine SGo.condD rfl (fun h => ?_) (fun h => ?_)
  · have hk' : k < zs.length := by omega
    have hts := take_sum hk'
    have hle := sum_take_le hok k
    have hle1 := sum_take_le hok (k + 1)
    have hge := bnd_sum (zs := zs.take k) (M := 65536) fun x hx => by have := hw x (List.mem_of_mem_take hx); omega
    have hge1 := bnd_sum (zs := zs.take (k + 1)) (M := 65536) fun x hx => by have := hw x (List.mem_of_mem_take hx); omega
    repeat (first | refine SGo.seq ?_ | refine SGo.skip ?_ | refine SGo.inBlock ?_ | refine SGo.block ?_ | refine SGo.scope ?_ | refine SGo.inScope ?_ | refine SGo.label ?_ | refine SGo.exit rfl ?_)
    refine SGo.reg ?_
    refine SReg.idxG rfl rfl rfl rfl (tf (by rfl)) (tf (by rfl)) (by first | assumption | rfl) (by omega) (by first | exact hz_nil (by assumption) | exact map_nil | exact len_nil (by first | assumption | rfl | (simp; done))) (fun _ hidx => ?_)
    cases hidx
    refine SReg.ld rfl rfl rfl (by first | exact sld_cell (tf (by rfl)) rfl (by first | assumption | rfl) | exact sld_sub (d := (0 : Int)) (by assumption) (tf (by rfl)) rfl rfl (by omega) | exact sld_at (0 : Int) (tf (by rfl)) rfl rfl (by omega) | exact sld_sub (d := false) (by assumption) (tf (by rfl)) rfl rfl (by omega) | exact sld_at false (tf (by rfl)) rfl rfl (by omega) | exact sld_all (tf (by rfl)) rfl (by first | rfl | (simp; done))) ?_
    refine SReg.as rfl rfl rfl ?_
    refine SReg.nil ?_
    repeat (first | refine SGo.seq ?_ | refine SGo.skip ?_ | refine SGo.inBlock ?_ | refine SGo.block ?_ | refine SGo.scope ?_ | refine SGo.inScope ?_ | refine SGo.label ?_ | refine SGo.exit rfl ?_)
    repeat (first | refine SGo.seq ?_ | refine SGo.skip ?_ | refine SGo.inBlock ?_ | refine SGo.block ?_ | refine SGo.scope ?_ | refine SGo.inScope ?_ | refine SGo.label ?_ | refine SGo.exit rfl ?_)
    refine SGo.reg ?_
    refine SReg.ld rfl rfl rfl (by first | exact sld_cell (tf (by rfl)) rfl (by first | assumption | rfl) | exact sld_sub (d := (0 : Int)) (by assumption) (tf (by rfl)) rfl rfl (by omega) | exact sld_at (0 : Int) (tf (by rfl)) rfl rfl (by omega) | exact sld_sub (d := false) (by assumption) (tf (by rfl)) rfl rfl (by omega) | exact sld_at false (tf (by rfl)) rfl rfl (by omega) | exact sld_all (tf (by rfl)) rfl (by first | rfl | (simp; done))) ?_
    refine SReg.mv rfl rfl rfl ?_
    refine SReg.ex rfl rfl (fun _ _ => ex_add rfl rfl (by first | assumption | omega | decide)) ?_
    refine SReg.store rfl rfl (.new (.head _)) ty3 rfl (by simp) rfl ?_
    refine SReg.nil ?_
    repeat (first | refine SGo.seq ?_ | refine SGo.skip ?_ | refine SGo.inBlock ?_ | refine SGo.block ?_ | refine SGo.scope ?_ | refine SGo.inScope ?_ | refine SGo.label ?_ | refine SGo.exit rfl ?_)
    repeat (first | refine SGo.seq ?_ | refine SGo.skip ?_ | refine SGo.inBlock ?_ | refine SGo.block ?_ | refine SGo.scope ?_ | refine SGo.inScope ?_ | refine SGo.label ?_ | refine SGo.exit rfl ?_)
    refine SGo.reg ?_
    refine SReg.ex rfl rfl (fun _ _ => ex_add rfl rfl (by first | assumption | omega | decide)) ?_
    refine SReg.mv rfl rfl rfl ?_
    refine SReg.nil ?_
    repeat (first | refine SGo.seq ?_ | refine SGo.skip ?_ | refine SGo.inBlock ?_ | refine SGo.block ?_ | refine SGo.scope ?_ | refine SGo.inScope ?_ | refine SGo.label ?_ | refine SGo.exit rfl ?_)
    refine SGo.less (l' := [(some B3, .cells [.int .i64 (zs.take (k + 1)).sum] 3 true), _, _]) (by rw [hts]; exact .refl _) ?_
    exact next (k + 1) _ (by omega) (by omega) ⟨rfl, rfl, rfl, rfl, rfl, rfl, trivial⟩
  clear next
  have hkz : k = zs.length := by omega
  subst hkz
  rw [List.take_of_length_le (Nat.le_refl _)]
  have hs : 1 ≤ zs.sum ∧ zs.sum ≤ 3932160 := by omega
  have hp0 := Int.mul_le_mul (show zs.sum ≤ 3932160 by omega) hT.2 hT.1 (by omega)
  have hp1 := Int.mul_nonneg (show 0 ≤ zs.sum by omega) hT.1
  have el : -4 * zs.sum * T = -4 * (zs.sum * T) := Int.mul_assoc _ _ _
  have eh : 4 * zs.sum * (T + 1) = 4 * (zs.sum * T) + 4 * zs.sum := by rw [Int.mul_add, Int.mul_one, Int.mul_assoc]
  have hlo : -9223372036854775808 ≤ -4 * zs.sum * T ∧ -4 * zs.sum * T ≤ 9223372036854775807 := by rw [el]; omega
  have hlo2 : -9223372036854775808 ≤ -4 * zs.sum * T - 4 ∧ -4 * zs.sum * T - 4 ≤ 9223372036854775807 := by rw [el]; omega
  have hhi : -9223372036854775808 ≤ 4 * zs.sum * (T + 1) ∧ 4 * zs.sum * (T + 1) ≤ 9223372036854775807 := by rw [eh]; omega
  repeat (first | refine SGo.seq ?_ | refine SGo.skip ?_ | refine SGo.inBlock ?_ | refine SGo.block ?_ | refine SGo.scope ?_ | refine SGo.inScope ?_ | refine SGo.label ?_ | refine SGo.exit rfl ?_)
  repeat (first | refine SGo.seq ?_ | refine SGo.skip ?_ | refine SGo.inBlock ?_ | refine SGo.block ?_ | refine SGo.scope ?_ | refine SGo.inScope ?_ | refine SGo.label ?_ | refine SGo.exit rfl ?_)
  refine SGo.reg ?_
  refine SReg.ex rfl rfl (fun _ _ => ex_makeFunc rfl rfl) ?_
  refine SReg.as rfl rfl rfl ?_
  refine SReg.nil ?_
  repeat (first | refine SGo.seq ?_ | refine SGo.skip ?_ | refine SGo.inBlock ?_ | refine SGo.block ?_ | refine SGo.scope ?_ | refine SGo.inScope ?_ | refine SGo.label ?_ | refine SGo.exit rfl ?_)
  repeat (first | refine SGo.seq ?_ | refine SGo.skip ?_ | refine SGo.inBlock ?_ | refine SGo.block ?_ | refine SGo.scope ?_ | refine SGo.inScope ?_ | refine SGo.label ?_ | refine SGo.exit rfl ?_)
  refine SGo.draw [([0, 1, 2, 3, 4], 10, [5, 6, 7, 8, 9]), ([5, 6, 7, 8, 9], 11, [])] [] mixed (by kernel_rfl) ?_
  refine SDW.read rfl rfl rfl rfl (sx_load rfl (by first | exact sld_cell (tf (by rfl)) rfl (by first | assumption | rfl) | exact sld_sub (d := (0 : Int)) (by assumption) (tf (by rfl)) rfl rfl (by omega) | exact sld_at (0 : Int) (tf (by rfl)) rfl rfl (by omega) | exact sld_sub (d := false) (by assumption) (tf (by rfl)) rfl rfl (by omega) | exact sld_at false (tf (by rfl)) rfl rfl (by omega) | exact sld_all (tf (by rfl)) rfl (by first | rfl | (simp; done)))) ?_
  refine SDW.read rfl rfl rfl rfl (sx_of (fun _ _ => ex_mul rfl rfl (by first | assumption | omega | decide))) ?_
  refine SDW.read rfl rfl rfl rfl (sx_load rfl (by first | exact sld_cell (tf (by rfl)) rfl (by first | assumption | rfl) | exact sld_sub (d := (0 : Int)) (by assumption) (tf (by rfl)) rfl rfl (by omega) | exact sld_at (0 : Int) (tf (by rfl)) rfl rfl (by omega) | exact sld_sub (d := false) (by assumption) (tf (by rfl)) rfl rfl (by omega) | exact sld_at false (tf (by rfl)) rfl rfl (by omega) | exact sld_all (tf (by rfl)) rfl (by first | rfl | (simp; done)))) ?_
  refine SDW.read rfl rfl rfl rfl (sx_of (fun _ _ => ex_mul rfl rfl (by first | assumption | omega | decide))) ?_
  refine SDW.read rfl rfl rfl rfl (sx_of (fun _ _ => ex_sub rfl rfl (by first | assumption | omega | decide))) ?_
  refine SDW.assignM rfl rfl rfl rfl ?_
  refine SDW.read rfl rfl rfl rfl (sx_load rfl (by first | exact sld_cell (tf (by rfl)) rfl (by first | assumption | rfl) | exact sld_sub (d := (0 : Int)) (by assumption) (tf (by rfl)) rfl rfl (by omega) | exact sld_at (0 : Int) (tf (by rfl)) rfl rfl (by omega) | exact sld_sub (d := false) (by assumption) (tf (by rfl)) rfl rfl (by omega) | exact sld_at false (tf (by rfl)) rfl rfl (by omega) | exact sld_all (tf (by rfl)) rfl (by first | rfl | (simp; done)))) ?_
  refine SDW.read rfl rfl rfl rfl (sx_of (fun _ _ => ex_mul rfl rfl (by first | assumption | omega | decide))) ?_
  refine SDW.read rfl rfl rfl rfl (sx_load rfl (by first | exact sld_cell (tf (by rfl)) rfl (by first | assumption | rfl) | exact sld_sub (d := (0 : Int)) (by assumption) (tf (by rfl)) rfl rfl (by omega) | exact sld_at (0 : Int) (tf (by rfl)) rfl rfl (by omega) | exact sld_sub (d := false) (by assumption) (tf (by rfl)) rfl rfl (by omega) | exact sld_at false (tf (by rfl)) rfl rfl (by omega) | exact sld_all (tf (by rfl)) rfl (by first | rfl | (simp; done)))) ?_
  refine SDW.read rfl rfl rfl rfl (sx_of (fun _ _ => ex_add rfl rfl (by first | assumption | omega | decide))) ?_
  refine SDW.read rfl rfl rfl rfl (sx_of (fun _ _ => ex_mul rfl rfl (by first | assumption | omega | decide))) ?_
  refine SDW.eff rfl rfl rfl (sx_of fun _ _ => ex_assign rfl) ?_
  refine SDW.done ?_
  repeat (first | refine SGo.seq ?_ | refine SGo.skip ?_ | refine SGo.inBlock ?_ | refine SGo.block ?_ | refine SGo.scope ?_ | refine SGo.inScope ?_ | refine SGo.label ?_ | refine SGo.exit rfl ?_)
  refine SGo.loopI (ι := Int × Int) (F := fun x => [(3, .pointer (some ⟨B2, 0, none⟩)), (9, .func (.func 32) #[] #[.pointer (some ⟨B1, 0, none⟩), .pointer (some ⟨B2, 0, none⟩), .pointer (some ⟨B3, 0, none⟩)]), (10, .int .i64 x.1), (11, .int .i64 x.2)])
    (O := fun _ => [(c, .cells cs 3 rw)]) (l0 := fun _ => [(some B3, .cells [.int .i64 zs.sum] 3 true), (some B2, .cells [.int .i64 T] 3 true), (some B1, .cells [gv c off zs.length cap] 22 true)]) (I := fun x => x.1 < x.2 ∧ -100000000000 ≤ x.1 ∧ x.2 ≤ 100000000000 ∧ (numL zs T x.1).sum ≤ T ∧ T < (numL zs T x.2).sum) (μ := fun x => (x.2 - x.1).toNat) ?_ (x0 := (-4 * zs.sum * T - 4, 4 * zs.sum * (T + 1)))
    ⟨by simp only; rw [el, eh]; omega, by simp only; rw [el]; omega, by simp only; rw [eh]; omega, by simp only; rw [numL_lo hw hT.1 h0]; omega, numL_hi hw hT.1 h0⟩ ⟨rfl, rfl, rfl, rfl, trivial⟩ rfl rfl
  rintro ⟨lo, hi⟩ ⟨i1, i2, i3, i4, i5⟩ next
  simp only at i1 i2 i3 i4 i5 ⊢
  repeat (first | refine SGo.seq ?_ | refine SGo.skip ?_ | refine SGo.inBlock ?_ | refine SGo.block ?_ | refine SGo.scope ?_ | refine SGo.inScope ?_ | refine SGo.label ?_ | refine SGo.exit rfl ?_)
  refine SGo.reg ?_
  refine SReg.mv rfl rfl rfl ?_
  refine SReg.mv rfl rfl rfl ?_
  refine SReg.ex rfl rfl (fun _ _ => ex_sub rfl rfl (by first | assumption | omega | decide)) ?_
  refine SReg.ex rfl rfl (fun _ _ => by first | exact ex_bool (ex_gtr rfl rfl) (by assumption) | exact ex_gtr rfl rfl) ?_
  refine SReg.nil ?_
  repeat (first | refine SGo.seq ?_ | refine SGo.skip ?_ | refine SGo.inBlock ?_ | refine SGo.block ?_ | refine SGo.scope ?_ | refine SGo.inScope ?_ | refine SGo.label ?_ | refine SGo.exit rfl ?_)
  refine SGo.condD rfl (fun h => ?_) (fun h => ?_)
  · have hm1 := (Int.le_ediv_iff_mul_le (a := lo + 1) (b := lo + hi) (c := 2) (by omega)).2 (by omega)
    have hm2 := (Int.ediv_lt_iff_lt_mul (a := lo + hi) (b := hi) (c := 2) (by omega)).2 (by omega)
    obtain ⟨mid, hmid⟩ : ∃ mid, mid = (lo + hi) / 2 := ⟨_, rfl⟩
    rw [← hmid] at hm1 hm2
    repeat (first | refine SGo.seq ?_ | refine SGo.skip ?_ | refine SGo.inBlock ?_ | refine SGo.block ?_ | refine SGo.scope ?_ | refine SGo.inScope ?_ | refine SGo.label ?_ | refine SGo.exit rfl ?_)
    refine SGo.reg ?_
    refine SReg.mv rfl rfl rfl ?_
    refine SReg.mv rfl rfl rfl ?_
    refine SReg.ex rfl rfl (fun _ _ => ex_add rfl rfl (by first | assumption | omega | decide)) ?_
    refine SReg.go (floor33 (by omega) (by omega)) rfl rfl (by kernel_rfl) ⟨_, .refl _, List.nil_sublist _⟩ ?_
    rintro _ _ ⟨rfl, rfl⟩
    rw [← hmid]
    dsimp only [List.cons_append, List.nil_append]
    refine SReg.as rfl rfl rfl ?_
    refine SReg.nil ?_
    repeat (first | refine SGo.seq ?_ | refine SGo.skip ?_ | refine SGo.inBlock ?_ | refine SGo.block ?_ | refine SGo.scope ?_ | refine SGo.inScope ?_ | refine SGo.label ?_ | refine SGo.exit rfl ?_)
    repeat (first | refine SGo.seq ?_ | refine SGo.skip ?_ | refine SGo.inBlock ?_ | refine SGo.block ?_ | refine SGo.scope ?_ | refine SGo.inScope ?_ | refine SGo.label ?_ | refine SGo.exit rfl ?_)
    refine SGo.reg ?_
    refine SReg.mv rfl rfl rfl ?_
    refine SReg.mv rfl rfl rfl ?_
    refine SReg.go (numbers32 (lim := mid) hz (by omega) (by omega) (by omega) hw (by omega)) rfl rfl (by kernel_rfl) ⟨_, List.reverse_perm _, .refl _⟩ ?_
    rintro _ _ ⟨C, rfl, rfl⟩
    dsimp only [List.cons_append, List.nil_append]
    refine SReg.mv rfl rfl rfl ?_
    refine SReg.ex rfl rfl (fun _ _ => ex_extract rfl rfl) ?_
    refine SReg.ex rfl rfl (fun _ _ => ex_extract rfl rfl) ?_
    refine SReg.as rfl rfl rfl ?_
    refine SReg.as rfl rfl rfl ?_
    refine SReg.nil ?_
    repeat (first | refine SGo.seq ?_ | refine SGo.skip ?_ | refine SGo.inBlock ?_ | refine SGo.block ?_ | refine SGo.scope ?_ | refine SGo.inScope ?_ | refine SGo.label ?_ | refine SGo.exit rfl ?_)
    repeat (first | refine SGo.seq ?_ | refine SGo.skip ?_ | refine SGo.inBlock ?_ | refine SGo.block ?_ | refine SGo.scope ?_ | refine SGo.inScope ?_ | refine SGo.label ?_ | refine SGo.exit rfl ?_)
    refine SGo.reg ?_
    refine SReg.mv rfl rfl rfl ?_
    refine SReg.ld rfl rfl rfl (by first | exact sld_cell (tf (by rfl)) rfl (by first | assumption | rfl) | exact sld_sub (d := (0 : Int)) (by assumption) (tf (by rfl)) rfl rfl (by omega) | exact sld_at (0 : Int) (tf (by rfl)) rfl rfl (by omega) | exact sld_sub (d := false) (by assumption) (tf (by rfl)) rfl rfl (by omega) | exact sld_at false (tf (by rfl)) rfl rfl (by omega) | exact sld_all (tf (by rfl)) rfl (by first | rfl | (simp; done))) ?_
    refine SReg.ex rfl rfl (fun _ _ => by first | exact ex_bool (ex_leq rfl rfl) (by assumption) | exact ex_leq rfl rfl) ?_
    refine SReg.nil ?_
    repeat (first | refine SGo.seq ?_ | refine SGo.skip ?_ | refine SGo.inBlock ?_ | refine SGo.block ?_ | refine SGo.scope ?_ | refine SGo.inScope ?_ | refine SGo.label ?_ | refine SGo.exit rfl ?_)
    refine SGo.condD rfl (fun h2 => ?_) (fun h2 => ?_)
    · repeat (first | refine SGo.seq ?_ | refine SGo.skip ?_ | refine SGo.inBlock ?_ | refine SGo.block ?_ | refine SGo.scope ?_ | refine SGo.inScope ?_ | refine SGo.label ?_ | refine SGo.exit rfl ?_)
      refine SGo.reg ?_
      refine SReg.mv rfl rfl rfl ?_
      refine SReg.as rfl rfl rfl ?_
      refine SReg.nil ?_
      repeat (first | refine SGo.seq ?_ | refine SGo.skip ?_ | refine SGo.inBlock ?_ | refine SGo.block ?_ | refine SGo.scope ?_ | refine SGo.inScope ?_ | refine SGo.label ?_ | refine SGo.exit rfl ?_)
      refine SGo.less (.cons _ (.refl _)) ?_
      exact next (mid, hi) _ (by simp only; omega) ⟨by simp only; omega, by simp only; omega, by simp only; omega, h2, i5⟩ ⟨rfl, rfl, rfl, rfl, trivial⟩
    · repeat (first | refine SGo.seq ?_ | refine SGo.skip ?_ | refine SGo.inBlock ?_ | refine SGo.block ?_ | refine SGo.scope ?_ | refine SGo.inScope ?_ | refine SGo.label ?_ | refine SGo.exit rfl ?_)
      refine SGo.reg ?_
      refine SReg.mv rfl rfl rfl ?_
      refine SReg.as rfl rfl rfl ?_
      refine SReg.nil ?_
      repeat (first | refine SGo.seq ?_ | refine SGo.skip ?_ | refine SGo.inBlock ?_ | refine SGo.block ?_ | refine SGo.scope ?_ | refine SGo.inScope ?_ | refine SGo.label ?_ | refine SGo.exit rfl ?_)
      refine SGo.less (.cons _ (.refl _)) ?_
      exact next (lo, mid) _ (by simp only; omega) ⟨by simp only; omega, by simp only; omega, by simp only; omega, i4, by simp only; omega⟩ ⟨rfl, rfl, rfl, rfl, trivial⟩
  clear next
  have hhi : hi = lo + 1 := by omega
  subst hhi
  have hgood := fillQ_good (zs := zs) (T := T) (lo := lo) (by omega) i4 i5
  repeat (first | refine SGo.seq ?_ | refine SGo.skip ?_ | refine SGo.inBlock ?_ | refine SGo.block ?_ | refine SGo.scope ?_ | refine SGo.inScope ?_ | refine SGo.label ?_ | refine SGo.exit rfl ?_)
  repeat (first | refine SGo.seq ?_ | refine SGo.skip ?_ | refine SGo.inBlock ?_ | refine SGo.block ?_ | refine SGo.scope ?_ | refine SGo.inScope ?_ | refine SGo.label ?_ | refine SGo.exit rfl ?_)
  refine SGo.reg ?_
  refine SReg.mv rfl rfl rfl ?_
  refine SReg.mv rfl rfl rfl ?_
  refine SReg.go (numbers32 (lim := lo) hz (by omega) (by omega) (by omega) hw (by omega)) rfl rfl (by kernel_rfl) ⟨_, List.reverse_perm _, .refl _⟩ ?_
  rintro _ _ ⟨C1, rfl, rfl⟩
  dsimp only [List.cons_append, List.nil_append]
  refine SReg.mv rfl rfl rfl ?_
  refine SReg.ex rfl rfl (fun _ _ => ex_extract rfl rfl) ?_
  refine SReg.ex rfl rfl (fun _ _ => ex_extract rfl rfl) ?_
  refine SReg.as rfl rfl rfl ?_
  refine SReg.as rfl rfl rfl ?_
  refine SReg.nil ?_
  repeat (first | refine SGo.seq ?_ | refine SGo.skip ?_ | refine SGo.inBlock ?_ | refine SGo.block ?_ | refine SGo.scope ?_ | refine SGo.inScope ?_ | refine SGo.label ?_ | refine SGo.exit rfl ?_)
  repeat (first | refine SGo.seq ?_ | refine SGo.skip ?_ | refine SGo.inBlock ?_ | refine SGo.block ?_ | refine SGo.scope ?_ | refine SGo.inScope ?_ | refine SGo.label ?_ | refine SGo.exit rfl ?_)
  refine SGo.reg ?_
  refine SReg.mv rfl rfl rfl ?_
  refine SReg.mv rfl rfl rfl ?_
  refine SReg.go (numbers32 (lim := lo + 1) hz (by omega) (by omega) (by omega) hw (by omega)) rfl rfl (by kernel_rfl) ⟨_, List.reverse_perm _, .cons_cons _ (.cons _ (.refl _))⟩ ?_
  rintro _ _ ⟨C2, rfl, rfl⟩
  dsimp only [List.cons_append, List.nil_append]
  refine SReg.mv rfl rfl rfl ?_
  refine SReg.ex rfl rfl (fun _ _ => ex_extract rfl rfl) ?_
  refine SReg.ex rfl rfl (fun _ _ => ex_extract rfl rfl) ?_
  refine SReg.as rfl rfl rfl ?_
  refine SReg.as rfl rfl rfl ?_
  refine SReg.nil ?_
  repeat (first | refine SGo.seq ?_ | refine SGo.skip ?_ | refine SGo.inBlock ?_ | refine SGo.block ?_ | refine SGo.scope ?_ | refine SGo.inScope ?_ | refine SGo.label ?_ | refine SGo.exit rfl ?_)
  obtain ⟨o0, ho0⟩ : ∃ o0, o0 = numL zs T lo := ⟨_, rfl⟩
  obtain ⟨nx, hnx⟩ : ∃ nx, nx = numL zs T (lo + 1) := ⟨_, rfl⟩
  have hol : o0.length = zs.length := by rw [ho0, numL_len]
  have hnl : nx.length = zs.length := by rw [hnx, numL_len]
  rw [← ho0] at i4 hgood ⊢
  rw [← hnx] at hgood ⊢
  have hfb : ∀ i, i ≤ zs.length → (fillQ nx T o0 o0.sum i).2 ≤ T ∧ (o0.sum ≤ (fillQ nx T o0 o0.sum i).2) := by
    intro i
    induction i with
    | zero => intro _; exact ⟨i4, Int.le_refl _⟩
    | succ i ih =>
      intro hi
      obtain ⟨a, b⟩ := ih (by omega)
      simp only [fillQ]
      split
      · rename_i hc
        simp only [Bool.and_eq_true, decide_eq_true_eq] at hc
        simp only; omega
      · exact ⟨a, b⟩
  have ho0p := sum_ge (p := o0) fun i hi => by rw [ho0, numL_getD (by omega)]; exact numF_pos _ _ _ _
  refine SGo.has (F := [(3, .pointer (some ⟨B2, 0, none⟩)), (15, sv (some C1) zs.length), (16, .int .i64 o0.sum), (17, sv (some C2) zs.length)]) ⟨rfl, rfl, rfl, rfl, trivial⟩ ?_
  have hm0 : (o0.map (Value.int .i64)).length = zs.length := by rw [List.length_map]; omega
  repeat (first | refine SGo.seq ?_ | refine SGo.skip ?_ | refine SGo.inBlock ?_ | refine SGo.block ?_ | refine SGo.scope ?_ | refine SGo.inScope ?_ | refine SGo.label ?_ | refine SGo.exit rfl ?_)
  refine SGo.reg ?_
  refine SReg.mv rfl rfl rfl ?_
  refine SReg.valG rfl rfl (sx_lenG rfl (tf (by rfl)) (by first | exact hz_nil (by assumption) | exact map_nil | exact len_nil (by first | assumption | rfl | (simp; done)))) ?_
  refine SReg.mv rfl rfl rfl ?_
  refine SReg.nil ?_
  repeat (first | refine SGo.seq ?_ | refine SGo.skip ?_ | refine SGo.inBlock ?_ | refine SGo.block ?_ | refine SGo.scope ?_ | refine SGo.inScope ?_ | refine SGo.label ?_ | refine SGo.exit rfl ?_)
  refine SGo.loopI (ι := Nat) (F := fun i => [(3, .pointer (some ⟨B2, 0, none⟩)), (15, sv (some C1) zs.length), (16, .int .i64 (fillQ nx T o0 o0.sum i).2), (17, sv (some C2) zs.length), (95, .int .i64 (zs.length : Nat)), (96, .int .i64 (i : Nat))])
    (O := fun _ => [(c, .cells cs 3 rw)]) (l0 := fun i => [(some C2, .cells (nx.map (Value.int .i64)) 3 true), (some C1, .cells ((fillQ nx T o0 o0.sum i).1.map (Value.int .i64)) 3 true), (some B3, .cells [.int .i64 zs.sum] 3 true), (some B2, .cells [.int .i64 T] 3 true), (some B1, .cells [gv c off zs.length cap] 22 true)]) (I := fun i => i ≤ zs.length) (μ := fun i => zs.length - i) ?_ (x0 := 0) (Nat.zero_le _) ⟨rfl, rfl, rfl, rfl, rfl, rfl, trivial⟩ rfl rfl
  rintro i hi next
  have hfl := fillQ_len nx T o0 o0.sum i
  have hfbi := hfb i hi
  obtain ⟨q, m, hqm⟩ : ∃ q m, fillQ nx T o0 o0.sum i = (q, m) := ⟨_, _, rfl⟩
  rw [hqm] at hfl hfbi ⊢
  simp only at hfl hfbi ⊢
  repeat (first | refine SGo.seq ?_ | refine SGo.skip ?_ | refine SGo.inBlock ?_ | refine SGo.block ?_ | refine SGo.scope ?_ | refine SGo.inScope ?_ | refine SGo.label ?_ | refine SGo.exit rfl ?_)
  refine SGo.reg ?_
  refine SReg.ex rfl rfl (fun _ _ => by first | exact ex_bool (ex_lss rfl rfl) (by assumption) | exact ex_lss rfl rfl) ?_
  refine SReg.nil ?_
  repeat (first | refine SGo.seq ?_ | refine SGo.skip ?_ | refine SGo.inBlock ?_ | refine SGo.block ?_ | refine SGo.scope ?_ | refine SGo.inScope ?_ | refine SGo.label ?_ | refine SGo.exit rfl ?_)
  refine SGo.condD rfl (fun h => ?_) (fun h => ?_)
  · have hi' : i < zs.length := by omega
    have hmq : (q.map (Value.int .i64)).length = zs.length := by rw [List.length_map]; omega
    have hmn : (nx.map (Value.int .i64)).length = zs.length := by rw [List.length_map]; omega
    repeat (first | refine SGo.seq ?_ | refine SGo.skip ?_ | refine SGo.inBlock ?_ | refine SGo.block ?_ | refine SGo.scope ?_ | refine SGo.inScope ?_ | refine SGo.label ?_ | refine SGo.exit rfl ?_)
    refine SGo.reg ?_
    refine SReg.mv rfl rfl rfl ?_
    refine SReg.as rfl rfl rfl ?_
    refine SReg.nil ?_
    repeat (first | refine SGo.seq ?_ | refine SGo.skip ?_ | refine SGo.inBlock ?_ | refine SGo.block ?_ | refine SGo.scope ?_ | refine SGo.inScope ?_ | refine SGo.label ?_ | refine SGo.exit rfl ?_)
    repeat (first | refine SGo.seq ?_ | refine SGo.skip ?_ | refine SGo.inBlock ?_ | refine SGo.block ?_ | refine SGo.scope ?_ | refine SGo.inScope ?_ | refine SGo.label ?_ | refine SGo.exit rfl ?_)
    refine SGo.draw [] [0, 1, 2, 3, 4, 5, 6, 7, 8, 9, 10, 11, 12, 13] mixed (by kernel_rfl) ?_
    refine SDW.readL rfl rfl rfl rfl (sx_of fun _ _ => ex_move rfl) ?_
    refine SDW.readL rfl rfl rfl rfl (sx_load rfl (by first | exact sld_cell (tf (by rfl)) rfl (by first | assumption | rfl) | exact sld_sub (d := (0 : Int)) (by assumption) (tf (by rfl)) rfl rfl (by omega) | exact sld_at (0 : Int) (tf (by rfl)) rfl rfl (by omega) | exact sld_sub (d := false) (by assumption) (tf (by rfl)) rfl rfl (by omega) | exact sld_at false (tf (by rfl)) rfl rfl (by omega) | exact sld_all (tf (by rfl)) rfl (by first | rfl | (simp; done)))) ?_
    refine SDW.readL rfl rfl rfl rfl (sx_of (fun _ _ => by first | exact ex_bool (ex_lss rfl rfl) (by assumption) | exact ex_lss rfl rfl)) ?_
    refine SDW.readL rfl rfl rfl rfl (sx_of fun _ _ => ex_move rfl) ?_
    refine SDW.join (fun fr' => Has [(3, .pointer (some ⟨B2, 0, none⟩)), (15, sv (some C1) zs.length), (16, .int .i64 m), (17, sv (some C2) zs.length), (19, .int .i64 (i : Nat)), (95, .int .i64 (zs.length : Nat)), (96, .int .i64 (i : Nat)), (112, .bool (decide (m < T) && decide (nx.getD i 0 > q.getD i 0)))] fr') ?_ fun nxt => ?_
    rotate_left
    · cases g : decide (m < T) with
      | true =>
        first | refine SDW.skipL rfl rfl rfl ?_ | (refine SDW.readL rfl rfl rfl rfl (sx_of fun _ _ => ex_move rfl) ?_)
        first | refine SDW.skipL rfl rfl rfl ?_ | (refine SDW.readL rfl rfl rfl rfl (sx_of fun _ _ => ex_move rfl) ?_)
        first | refine SDW.skipL rfl rfl rfl ?_ | (refine SDW.idxL rfl rfl rfl rfl rfl rfl (tf (by rfl)) (tf (by rfl)) (by first | assumption | rfl) (by omega) (by first | exact hz_nil (by assumption) | exact map_nil | exact len_nil (by first | assumption | rfl | (simp; done))) (fun _ hidx => ?_); cases hidx)
        first | refine SDW.skipL rfl rfl rfl ?_ | (refine SDW.readL rfl rfl rfl rfl (sx_load rfl (by first | exact sld_cell (tf (by rfl)) rfl (by first | assumption | rfl) | exact sld_sub (d := (0 : Int)) (by assumption) (tf (by rfl)) rfl rfl (by omega) | exact sld_at (0 : Int) (tf (by rfl)) rfl rfl (by omega) | exact sld_sub (d := false) (by assumption) (tf (by rfl)) rfl rfl (by omega) | exact sld_at false (tf (by rfl)) rfl rfl (by omega) | exact sld_all (tf (by rfl)) rfl (by first | rfl | (simp; done)))) ?_)
        first | refine SDW.skipL rfl rfl rfl ?_ | (refine SDW.readL rfl rfl rfl rfl (sx_of fun _ _ => ex_move rfl) ?_)
        first | refine SDW.skipL rfl rfl rfl ?_ | (refine SDW.readL rfl rfl rfl rfl (sx_of fun _ _ => ex_move rfl) ?_)
        first | refine SDW.skipL rfl rfl rfl ?_ | (refine SDW.idxL rfl rfl rfl rfl rfl rfl (tf (by rfl)) (tf (by rfl)) (by first | assumption | rfl) (by omega) (by first | exact hz_nil (by assumption) | exact map_nil | exact len_nil (by first | assumption | rfl | (simp; done))) (fun _ hidx => ?_); cases hidx)
        first | refine SDW.skipL rfl rfl rfl ?_ | (refine SDW.readL rfl rfl rfl rfl (sx_load rfl (by first | exact sld_cell (tf (by rfl)) rfl (by first | assumption | rfl) | exact sld_sub (d := (0 : Int)) (by assumption) (tf (by rfl)) rfl rfl (by omega) | exact sld_at (0 : Int) (tf (by rfl)) rfl rfl (by omega) | exact sld_sub (d := false) (by assumption) (tf (by rfl)) rfl rfl (by omega) | exact sld_at false (tf (by rfl)) rfl rfl (by omega) | exact sld_all (tf (by rfl)) rfl (by first | rfl | (simp; done)))) ?_)
        first | refine SDW.skipL rfl rfl rfl ?_ | (refine SDW.readL rfl rfl rfl rfl (sx_of (fun _ _ => by first | exact ex_bool (ex_gtr rfl rfl) (by assumption) | exact ex_gtr rfl rfl)) ?_)
        refine SDW.readL rfl rfl rfl rfl (sx_of (fun _ _ => by first | exact ex_pickT rfl rfl | exact ex_pickF rfl rfl)) ?_
        refine SDW.done ?_
        repeat (first | refine SGo.seq ?_ | refine SGo.skip ?_ | refine SGo.inBlock ?_ | refine SGo.block ?_ | refine SGo.scope ?_ | refine SGo.inScope ?_ | refine SGo.label ?_ | refine SGo.exit rfl ?_)
        exact nxt _ ⟨rfl, rfl, rfl, rfl, rfl, rfl, rfl, by rw [g, Bool.true_and]; rfl, trivial⟩
      | false =>
        first | refine SDW.skipL rfl rfl rfl ?_ | (refine SDW.readL rfl rfl rfl rfl (sx_of fun _ _ => ex_move rfl) ?_)
        first | refine SDW.skipL rfl rfl rfl ?_ | (refine SDW.readL rfl rfl rfl rfl (sx_of fun _ _ => ex_move rfl) ?_)
        first | refine SDW.skipL rfl rfl rfl ?_ | (refine SDW.idxL rfl rfl rfl rfl rfl rfl (tf (by rfl)) (tf (by rfl)) (by first | assumption | rfl) (by omega) (by first | exact hz_nil (by assumption) | exact map_nil | exact len_nil (by first | assumption | rfl | (simp; done))) (fun _ hidx => ?_); cases hidx)
        first | refine SDW.skipL rfl rfl rfl ?_ | (refine SDW.readL rfl rfl rfl rfl (sx_load rfl (by first | exact sld_cell (tf (by rfl)) rfl (by first | assumption | rfl) | exact sld_sub (d := (0 : Int)) (by assumption) (tf (by rfl)) rfl rfl (by omega) | exact sld_at (0 : Int) (tf (by rfl)) rfl rfl (by omega) | exact sld_sub (d := false) (by assumption) (tf (by rfl)) rfl rfl (by omega) | exact sld_at false (tf (by rfl)) rfl rfl (by omega) | exact sld_all (tf (by rfl)) rfl (by first | rfl | (simp; done)))) ?_)
        first | refine SDW.skipL rfl rfl rfl ?_ | (refine SDW.readL rfl rfl rfl rfl (sx_of fun _ _ => ex_move rfl) ?_)
        first | refine SDW.skipL rfl rfl rfl ?_ | (refine SDW.readL rfl rfl rfl rfl (sx_of fun _ _ => ex_move rfl) ?_)
        first | refine SDW.skipL rfl rfl rfl ?_ | (refine SDW.idxL rfl rfl rfl rfl rfl rfl (tf (by rfl)) (tf (by rfl)) (by first | assumption | rfl) (by omega) (by first | exact hz_nil (by assumption) | exact map_nil | exact len_nil (by first | assumption | rfl | (simp; done))) (fun _ hidx => ?_); cases hidx)
        first | refine SDW.skipL rfl rfl rfl ?_ | (refine SDW.readL rfl rfl rfl rfl (sx_load rfl (by first | exact sld_cell (tf (by rfl)) rfl (by first | assumption | rfl) | exact sld_sub (d := (0 : Int)) (by assumption) (tf (by rfl)) rfl rfl (by omega) | exact sld_at (0 : Int) (tf (by rfl)) rfl rfl (by omega) | exact sld_sub (d := false) (by assumption) (tf (by rfl)) rfl rfl (by omega) | exact sld_at false (tf (by rfl)) rfl rfl (by omega) | exact sld_all (tf (by rfl)) rfl (by first | rfl | (simp; done)))) ?_)
        first | refine SDW.skipL rfl rfl rfl ?_ | (refine SDW.readL rfl rfl rfl rfl (sx_of (fun _ _ => by first | exact ex_bool (ex_gtr rfl rfl) (by assumption) | exact ex_gtr rfl rfl)) ?_)
        refine SDW.readL rfl rfl rfl rfl (sx_of (fun _ _ => by first | exact ex_pickT rfl rfl | exact ex_pickF rfl rfl)) ?_
        refine SDW.done ?_
        repeat (first | refine SGo.seq ?_ | refine SGo.skip ?_ | refine SGo.inBlock ?_ | refine SGo.block ?_ | refine SGo.scope ?_ | refine SGo.inScope ?_ | refine SGo.label ?_ | refine SGo.exit rfl ?_)
        exact nxt _ ⟨rfl, rfl, rfl, rfl, rfl, rfl, rfl, by rw [g, Bool.false_and]; rfl, trivial⟩
    intro fr' hF
    refine SGo.has hF ?_
    have hn := next (i + 1)
    simp only [fillQ, hqm] at hn
    refine SGo.condB rfl (fun hb => ?_) (fun hb => ?_)
    · rw [hb, if_pos rfl] at hn
      simp only [Bool.and_eq_true, decide_eq_true_eq] at hb
      have hqb := (sum_ge (p := o0) fun i hi => by rw [ho0, numL_getD (by omega)]; exact numF_pos _ _ _ _).1
      have hq4 : -9223372036854775808 ≤ q.getD i 0 + 1 ∧ q.getD i 0 + 1 ≤ 9223372036854775807 := by
        have hinv := fillQ_inv (nx := nx) (T := T) (o := o0) (hnl.trans hol.symm) rfl i4 (fun j hj => by
          obtain ⟨a, b, d⟩ := numF_next (T := T) (s := zs.sum) (lim := lo) (w := zs.getD j 0) (by omega)
          rw [ho0, hnx, numL_getD (by omega), numL_getD (by omega)]; omega) i (by omega)
        rw [hqm] at hinv
        obtain ⟨_, _, _, h4, _⟩ := hinv
        have h5 := ho0p.2 i (by omega)
        have h6 := ho0p.2 i (by omega)
        have hp := numF_pos T zs.sum lo (zs.getD i 0)
        rw [← numL_getD hi', ← ho0] at hp
        rcases h4 i (by omega) with h | h <;> simp only at h <;> omega
      repeat (first | refine SGo.seq ?_ | refine SGo.skip ?_ | refine SGo.inBlock ?_ | refine SGo.block ?_ | refine SGo.scope ?_ | refine SGo.inScope ?_ | refine SGo.label ?_ | refine SGo.exit rfl ?_)
      refine SGo.reg ?_
      refine SReg.mv rfl rfl rfl ?_
      refine SReg.mv rfl rfl rfl ?_
      refine SReg.idxG rfl rfl rfl rfl (tf (by rfl)) (tf (by rfl)) (by first | assumption | rfl) (by omega) (by first | exact hz_nil (by assumption) | exact map_nil | exact len_nil (by first | assumption | rfl | (simp; done))) (fun _ hidx => ?_)
      cases hidx
      refine SReg.ld rfl rfl rfl (by first | exact sld_cell (tf (by rfl)) rfl (by first | assumption | rfl) | exact sld_sub (d := (0 : Int)) (by assumption) (tf (by rfl)) rfl rfl (by omega) | exact sld_at (0 : Int) (tf (by rfl)) rfl rfl (by omega) | exact sld_sub (d := false) (by assumption) (tf (by rfl)) rfl rfl (by omega) | exact sld_at false (tf (by rfl)) rfl rfl (by omega) | exact sld_all (tf (by rfl)) rfl (by first | rfl | (simp; done))) ?_
      refine SReg.ex rfl rfl (fun _ _ => ex_add rfl rfl (by first | assumption | omega | decide)) ?_
      refine SReg.idxG rfl rfl rfl rfl (tf (by rfl)) (tf (by rfl)) (by first | assumption | rfl) (by omega) (by first | exact hz_nil (by assumption) | exact map_nil | exact len_nil (by first | assumption | rfl | (simp; done))) (fun _ hidx => ?_)
      cases hidx
      refine SReg.store rfl rfl (.new (.tail _ (.head _))) ty3 rfl (by rw [hmq]; simp only; omega) rfl ?_
      have e1 : setRange (q.map (Value.int .i64)) (0 + i * 1) (Value.int .i64 (q.getD i 0 + 1)).cells.toList = (q.set i (q.getD i 0 + 1)).map (Value.int .i64) := by
        show (q.map (Value.int .i64)).set (0 + i * 1) _ = _
        rw [Nat.zero_add, Nat.mul_one, List.map_set]
      rw [e1]
      refine SReg.nil ?_
      repeat (first | refine SGo.seq ?_ | refine SGo.skip ?_ | refine SGo.inBlock ?_ | refine SGo.block ?_ | refine SGo.scope ?_ | refine SGo.inScope ?_ | refine SGo.label ?_ | refine SGo.exit rfl ?_)
      repeat (first | refine SGo.seq ?_ | refine SGo.skip ?_ | refine SGo.inBlock ?_ | refine SGo.block ?_ | refine SGo.scope ?_ | refine SGo.inScope ?_ | refine SGo.label ?_ | refine SGo.exit rfl ?_)
      refine SGo.reg ?_
      refine SReg.mv rfl rfl rfl ?_
      refine SReg.ex rfl rfl (fun _ _ => ex_add rfl rfl (by first | assumption | omega | decide)) ?_
      refine SReg.as rfl rfl rfl ?_
      refine SReg.nil ?_
      repeat (first | refine SGo.seq ?_ | refine SGo.skip ?_ | refine SGo.inBlock ?_ | refine SGo.block ?_ | refine SGo.scope ?_ | refine SGo.inScope ?_ | refine SGo.label ?_ | refine SGo.exit rfl ?_)
      repeat (first | refine SGo.seq ?_ | refine SGo.skip ?_ | refine SGo.inBlock ?_ | refine SGo.block ?_ | refine SGo.scope ?_ | refine SGo.inScope ?_ | refine SGo.label ?_ | refine SGo.exit rfl ?_)
      refine SGo.reg ?_
      refine SReg.ex rfl rfl (fun _ _ => ex_add rfl rfl (by first | assumption | omega | decide)) ?_
      refine SReg.mv rfl rfl rfl ?_
      refine SReg.nil ?_
      repeat (first | refine SGo.seq ?_ | refine SGo.skip ?_ | refine SGo.inBlock ?_ | refine SGo.block ?_ | refine SGo.scope ?_ | refine SGo.inScope ?_ | refine SGo.label ?_ | refine SGo.exit rfl ?_)
      exact hn _ (by omega) (by omega) ⟨rfl, rfl, rfl, rfl, rfl, rfl, trivial⟩
    · rw [hb] at hn
      simp only [Bool.false_eq_true, if_false] at hn
      repeat (first | refine SGo.seq ?_ | refine SGo.skip ?_ | refine SGo.inBlock ?_ | refine SGo.block ?_ | refine SGo.scope ?_ | refine SGo.inScope ?_ | refine SGo.label ?_ | refine SGo.exit rfl ?_)
      refine SGo.reg ?_
      refine SReg.ex rfl rfl (fun _ _ => ex_add rfl rfl (by first | assumption | omega | decide)) ?_
      refine SReg.mv rfl rfl rfl ?_
      refine SReg.nil ?_
      repeat (first | refine SGo.seq ?_ | refine SGo.skip ?_ | refine SGo.inBlock ?_ | refine SGo.block ?_ | refine SGo.scope ?_ | refine SGo.inScope ?_ | refine SGo.label ?_ | refine SGo.exit rfl ?_)
      exact hn _ (by omega) (by omega) ⟨rfl, rfl, rfl, rfl, rfl, rfl, trivial⟩
  · have hiz : i = zs.length := by omega
    subst hiz
    rw [hqm] at hgood
    repeat (first | refine SGo.seq ?_ | refine SGo.skip ?_ | refine SGo.inBlock ?_ | refine SGo.block ?_ | refine SGo.scope ?_ | refine SGo.inScope ?_ | refine SGo.label ?_ | refine SGo.exit rfl ?_)
    repeat (first | refine SGo.seq ?_ | refine SGo.skip ?_ | refine SGo.inBlock ?_ | refine SGo.block ?_ | refine SGo.scope ?_ | refine SGo.inScope ?_ | refine SGo.label ?_ | refine SGo.exit rfl ?_)
    refine SGo.reg ?_
    refine SReg.mv rfl rfl rfl ?_
    refine SReg.as rfl rfl rfl ?_
    refine SReg.as rfl rfl rfl ?_
    refine SReg.nil ?_
    repeat (first | refine SGo.seq ?_ | refine SGo.skip ?_ | refine SGo.inBlock ?_ | refine SGo.block ?_ | refine SGo.scope ?_ | refine SGo.inScope ?_ | refine SGo.label ?_ | refine SGo.exit rfl ?_)
    refine SGo.ret Try.func19 (fun τ hτ => ares_tmp rfl (ares_tmp rfl ares_nil)) fun τ hτ => SRet.mk hτ (l' := [(some C1, .cells (q.map (Value.int .i64)) 3 true)]) (.cons _ (.cons_cons _ (List.nil_sublist _))) (.inr ⟨hq0, q, hgood, some C1, ?_, rfl⟩)
    have := hgood.len
    simp only at this
    rw [this]; rfl
end Go.Abs.Run

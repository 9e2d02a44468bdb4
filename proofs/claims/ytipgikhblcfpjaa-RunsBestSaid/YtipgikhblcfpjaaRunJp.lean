/- A part of the proof: contracts of functions of the program, shown by walking through their code in an abstract machine. Condition: none. -/
import Derived.Test.YtipgikhblcfpjaaRunJ
set_option linter.unusedVariables false
set_option linter.unusedSimpArgs false
namespace Go.Abs.Run
open Go Go.Proofs
set_option maxHeartbeats 4000000
/-- Both say the same. -/
theorem widths_same (row : List Bool) : trimA (outA row row.length).1 = refW row := by
  obtain ⟨s1, s2⟩ := lm_spec row
  obtain ⟨r1, r2⟩ := lm_spec row.reverse
  have h1 := lm_le row
  have h2 := lm_le row.reverse
  rw [List.length_reverse] at h2 r2
  -- as long as all is light
  have A0 : ∀ i, i ≤ lm row → (outA row i).1 = [] := by
    intro i
    induction i with
    | zero => intro _; rfl
    | succ i ih =>
      intro hi
      have := ih (by omega)
      have hl := s1 i (by omega)
      simp only [outA, this, hl]
      split
      · simp
      · exact this
  by_cases hall : lm row = row.length
  · have hA := A0 row.length (by omega)
    rw [hA, refW, show row.length - lm row.reverse - lm row = 0 by omega]
    rfl
  have hd : row.getD (lm row) false = true := s2.resolve_left hall
  have hlt : lm row < row.length := by omega
  -- the last dark one
  have hrl : lm row.reverse < row.length := by
    rcases Nat.lt_or_ge (lm row.reverse) row.length with h | h
    · exact h
    · have := r1 (row.length - 1 - lm row) (by omega)
      rw [rev_getD (by omega), show row.length - 1 - (row.length - 1 - lm row) = lm row by omega, hd] at this
      cases this
  have hr2 : row.getD (row.length - 1 - lm row.reverse) false = true := by
    have := r2.resolve_left (by omega)
    rwa [rev_getD hrl] at this
  have hr1 : ∀ j, j < lm row.reverse → row.getD (row.length - 1 - j) false = false := fun j hj => by
    have := r1 j hj
    rwa [rev_getD (by omega)] at this
  have hae : lm row + lm row.reverse < row.length := by
    rcases Nat.lt_or_ge (lm row + lm row.reverse) row.length with h | h
    · exact h
    · have := s1 (row.length - 1 - lm row.reverse)
      rcases Nat.lt_or_ge (row.length - 1 - lm row.reverse) (lm row) with h' | h'
      · rw [this h'] at hr2; cases hr2
      · omega
  obtain ⟨a, ha⟩ : ∃ a, a = lm row := ⟨_, rfl⟩
  obtain ⟨b, hb⟩ : ∃ b, b = lm row.reverse := ⟨_, rfl⟩
  rw [← ha] at s1 hd hlt hae A0
  rw [← hb] at hr1 hr2 hae hrl
  rw [refW, ← ha, ← hb]
  obtain ⟨e, he⟩ : ∃ e, e = row.length - b := ⟨_, rfl⟩
  rw [← he]
  -- at the first dark one
  have Aa : outA row a = ([], a) := by
    cases a with
    | zero => rfl
    | succ a =>
      have h0 := A0 a (by omega)
      have hl := s1 a (by omega)
      have hend : runEnd row a = true := by
        rw [runEnd, hd, hl]; simp
      simp only [outA, hend, h0, hl, if_true]
      simp
  have inv : ∀ j, j ≤ e - a → outA row (a + j) = ((outB row a e j).1, a + j - (outB row a e j).2) ∧ (outB row a e j).2 ≤ j ∧
      (0 < (outB row a e j).2 → row.getD (a + j - 1) false = decide ((outB row a e j).1.length % 2 = 0)) ∧
      ((outB row a e j).2 = 0 → 0 < j → row.getD (a + j - 1) false = decide ((outB row a e j).1.length % 2 = 1)) ∧
      ((outB row a e j).2 = 0 → 0 < j → a + j = e ∨ row.getD (a + j) false ≠ row.getD (a + j - 1) false) ∧
      (0 < (outB row a e j).2 → row.getD (a + j) false = row.getD (a + j - 1) false ∧ a + j ≠ e) ∧ ((outB row a e j).2 = 0 → j = 0 → (outB row a e j).1 = []) := by
    intro j
    induction j with
    | zero => intro _; exact ⟨Aa, Nat.le_refl _, fun h => by simp [outB] at h, fun _ h => by omega, fun _ h => by omega, fun h => by simp [outB] at h, fun _ _ => rfl⟩
    | succ j ih =>
      intro hj
      obtain ⟨i1, i2, i3, i4, i5, i6, i7⟩ := ih (by omega)
      obtain ⟨o, n, hon⟩ : ∃ o n, outB row a e j = (o, n) := ⟨_, _, rfl⟩
      simp only [hon] at i1 i2 i3 i4 i5 i6 i7
      -- the colour of this module
      have col : row.getD (a + j) false = decide (o.length % 2 = 0) := by
        rcases Nat.eq_zero_or_pos n with h0 | h0
        · rcases Nat.eq_zero_or_pos j with hj0 | hj0
          · rw [i7 h0 hj0, hj0, Nat.add_zero, hd]; rfl
          · have c1 := i4 h0 hj0
            have c2 := (i5 h0 hj0).resolve_left (by omega)
            rw [c1] at c2
            cases hv : row.getD (a + j) false with
            | true =>
              rw [hv] at c2
              have : ¬ o.length % 2 = 1 := fun h => c2 (by rw [decide_eq_true h])
              rw [decide_eq_true (by omega)]
            | false =>
              rw [hv] at c2
              have : o.length % 2 = 1 := by
                rcases Nat.mod_two_eq_zero_or_one o.length with h | h
                · exact absurd (by rw [decide_eq_false (by omega)]) c2
                · exact h
              rw [decide_eq_false (by omega)]
        · rw [(i6 h0).1, i3 h0]
      have hend : runEnd row (a + j) = (decide (a + j + 1 = e) || decide (row.getD (a + j + 1) false ≠ row.getD (a + j) false)) := by
        rw [runEnd]
        by_cases hl : a + j + 1 = row.length
        · rw [decide_eq_true hl, decide_eq_true (show a + j + 1 = e by omega)]
        · rw [decide_eq_false hl, Bool.false_or]
          by_cases hE : a + j + 1 = e
          · rw [decide_eq_true hE, Bool.true_or]
            have hdk : row.getD (a + j) false = true := by rw [show a + j = row.length - 1 - b by omega]; exact hr2
            have hlt2 : row.getD (a + j + 1) false = false := by
              have := hr1 (b - 1) (by omega)
              rwa [show row.length - 1 - (b - 1) = a + j + 1 by omega] at this
            rw [hdk, hlt2]; rfl
          · rw [decide_eq_false hE, Bool.false_or]
      have happ : (row.getD (a + j) false || decide (0 < o.length)) = true := by
        rw [col]
        rcases Nat.eq_zero_or_pos o.length with h | h
        · rw [h]; rfl
        · rw [decide_eq_true (p := 0 < o.length) h, Bool.or_true]
      have eA : outA row (a + (j + 1)) = if runEnd row (a + j) then (o ++ [((a + j : Nat) : Int) + 1 - ((a + j - n : Nat) : Int)], a + j + 1) else (o, a + j - n) := by
        show outA row (a + j + 1) = _
        simp only [outA, i1, happ, if_true]
      rw [eA, hend]
      simp only [outB, hon]
      split
      · rename_i hE
        have hE' : a + j + 1 = e ∨ row.getD (a + j + 1) false ≠ row.getD (a + j) false := by simpa using hE
        refine ⟨?_, by simp only; omega, fun h => by simp only at h; omega, fun _ _ => ?_, fun _ _ => ?_, fun h => by simp only at h; omega, fun _ h => by omega⟩
        · refine Prod.ext ?_ (by simp only; omega)
          simp only
          rw [show ((a + j : Nat) : Int) + 1 - ((a + j - n : Nat) : Int) = (n : Int) + 1 by omega]
        · simp only [List.length_append, List.length_cons, List.length_nil]
          rw [show a + (j + 1) - 1 = a + j by omega, col]
          exact decide_eq_decide.2 (by omega)
        · rw [show a + (j + 1) - 1 = a + j by omega]
          exact hE'
      · rename_i hE
        have hE' : ¬ (a + j + 1 = e) ∧ row.getD (a + j + 1) false = row.getD (a + j) false := by simpa using hE
        refine ⟨?_, by simp only; omega, fun _ => ?_, fun h => by simp only at h; omega, fun h => by simp only at h; omega, fun _ => ?_, fun h => by simp only at h; omega⟩
        · exact Prod.ext rfl (by simp only; omega)
        · rw [show a + (j + 1) - 1 = a + j by omega]; exact col
        · rw [show a + (j + 1) - 1 = a + j by omega]; exact ⟨hE'.2, hE'.1⟩
  obtain ⟨i1, i2, i3, i4, i5, i6, i7⟩ := inv (e - a) (Nat.le_refl _)
  have hae' : a + (e - a) = e := by omega
  obtain ⟨o, n, hon⟩ : ∃ o n, outB row a e (e - a) = (o, n) := ⟨_, _, rfl⟩
  simp only [hon, hae'] at i1 i2 i3 i4 i5 i6 i7 ⊢
  have hn0 : n = 0 := by
    rcases Nat.eq_zero_or_pos n with h | h
    · exact h
    · exact absurd rfl (i6 h).2
  have hodd : o.length % 2 = 1 := by
    have := i4 hn0 (by omega)
    rw [show e - 1 = row.length - 1 - b by omega, hr2] at this
    simpa using this.symm
  -- behind the last dark one
  have tail : ∀ i, e + i < row.length → (outA row (e + i)).1 = o := by
    intro i
    induction i with
    | zero => intro _; rw [Nat.add_zero, i1]
    | succ i ih =>
      intro hi
      have := ih (by omega)
      have hl1 : row.getD (e + i) false = false := by
        have := hr1 (row.length - 1 - (e + i)) (by omega)
        rwa [show row.length - 1 - (row.length - 1 - (e + i)) = e + i by omega] at this
      have hl2 : row.getD (e + i + 1) false = false := by
        have := hr1 (row.length - 1 - (e + i + 1)) (by omega)
        rwa [show row.length - 1 - (row.length - 1 - (e + i + 1)) = e + i + 1 by omega] at this
      have hend : runEnd row (e + i) = false := by
        rw [runEnd, hl1, hl2, decide_eq_false (by omega)]; rfl
      show (outA row (e + i + 1)).1 = o
      simp only [outA, hend, Bool.false_eq_true, if_false, this]
  by_cases hb0 : e = row.length
  · rw [← hb0, i1]
    simp only [trimA]
    rw [show (o.length + 1) % 2 = 0 by omega, Nat.zero_mul, Nat.sub_zero, List.take_length]
  · have hL : row.length = e + (row.length - 1 - e) + 1 := by omega
    have ht := tail (row.length - 1 - e) (by omega)
    have hend : runEnd row (e + (row.length - 1 - e)) = true := by
      rw [runEnd, decide_eq_true (by omega), Bool.true_or]
    have hlen : 0 < o.length := by omega
    rw [hL]
    simp only [outA, hend, if_true, ht, decide_eq_true hlen, Bool.or_true, trimA, List.length_append, List.length_cons, List.length_nil]
    rw [show (o.length + (0 + 1) + 1) % 2 = 1 by omega, Nat.min_eq_left (by omega)]
    simp
end Go.Abs.Run

/- A part of the proof: contracts of functions of the program, shown by walking through their code in an abstract machine. Condition: none. -/
import Derived.Test.YtehahpnpandppaaLayL
set_option linter.unusedVariables false
set_option linter.unusedSimpArgs false
namespace Go.Abs.Lay
open Go Go.Proofs

theorem dataL_some (i : Nat) (hi : i < 30) : dataOf i = ((dataL.getD i 0 : Nat) : Int) := dataOf_list i hi
/-- Of some rows: the first of those with the least number. -/
def bestOf (D : Nat → Nat) : Nat × Nat → List Nat → Nat × Nat
  | s, [] => s
  | s, j :: r => bestOf D (if Nat.beq s.1 0 || Nat.blt (D j) s.1 then (D j, j) else s) r
theorem bestOf_append (D : Nat → Nat) : ∀ (a b : List Nat) (s : Nat × Nat), bestOf D s (a ++ b) = bestOf D (bestOf D s a) b
  | [], _, _ => rfl
  | j :: r, b, s => by simp only [List.cons_append, bestOf]; exact bestOf_append D r b _
def may (n : Nat) (sq : Bool) (j : Nat) : Bool := Nat.ble n (dataL.getD j 0) && (Nat.blt j 24 || !sq)
theorem pickF_best (n : Nat) (sq : Bool) : ∀ (m i : Nat) (s : Nat × Nat), i + m = 30 → pickF n sq s (dataL.drop i) i = bestOf (fun j => dataL.getD j 0) s ((List.range' i m).filter (may n sq))
  | 0, i, s, h => by
    have : i = 30 := by omega
    subst this; cases s; rfl
  | m + 1, i, s, h => by
    rw [dataL_drop i (by omega), pickF_cons, pickF_best n sq m (i + 1) _ (by omega), List.range'_succ, List.filter_cons, stepB, may]
    generalize (Nat.ble n (dataL.getD i 0) && (Nat.blt i 24 || !sq)) = p
    cases p with
    | false => simp
    | true => simp [bestOf]
theorem best_min (D : Nat → Nat) (K : List Nat) (hD : ∀ j ∈ K, 0 < D j) : ∀ k, k < K.length → bestOf D (0, 0) (K.take (k + 1)) = (D (K.getD (minI (fun i => ((D (K.getD i 0) : Nat) : Int)) k) 0), K.getD (minI (fun i => ((D (K.getD i 0) : Nat) : Int)) k) 0) ∧ minI (fun i => ((D (K.getD i 0) : Nat) : Int)) k ≤ k := by
  intro k
  induction k with
  | zero =>
    intro hk
    cases K with
    | nil => cases hk
    | cons a r => exact ⟨rfl, Nat.le_refl _⟩
  | succ k ih =>
    intro hk
    obtain ⟨e, hle⟩ := ih (by omega)
    have hg : K.getD (k + 1) 0 = K[k + 1] := by simp [List.getD_eq_getElem?_getD, List.getElem?_eq_getElem hk]
    have ht : K.take (k + 1 + 1) = K.take (k + 1) ++ [K.getD (k + 1) 0] := by rw [hg]; exact (List.take_append_getElem hk).symm
    rw [ht, bestOf_append, e]
    generalize hM : minI (fun i => ((D (K.getD i 0) : Nat) : Int)) k = M at *
    have hMK : K.getD M 0 ∈ K := by simp [List.getD_eq_getElem?_getD, List.getElem?_eq_getElem (show M < K.length by omega)]
    have h0 := hD _ hMK
    simp only [bestOf, minI, hM]
    have hb : Nat.beq (D (K.getD M 0)) 0 = false := by
      cases hx : Nat.beq (D (K.getD M 0)) 0 with
      | false => rfl
      | true => have := Nat.eq_of_beq_eq_true hx; omega
    rw [hb, Bool.false_or]
    by_cases hlt : D (K.getD (k + 1) 0) < D (K.getD M 0)
    · rw [if_pos (show ((D (K.getD (k + 1) 0) : Nat) : Int) < ((D (K.getD M 0) : Nat) : Int) by omega)]
      have : Nat.blt (D (K.getD (k + 1) 0)) (D (K.getD M 0)) = true := Nat.ble_eq_true_of_le hlt
      rw [this]
      exact ⟨rfl, Nat.le_refl _⟩
    · rw [if_neg (show ¬ ((D (K.getD (k + 1) 0) : Nat) : Int) < ((D (K.getD M 0) : Nat) : Int) by omega)]
      have : Nat.blt (D (K.getD (k + 1) 0)) (D (K.getD M 0)) = false := by
        cases hx : Nat.blt (D (K.getD (k + 1) 0)) (D (K.getD M 0)) with
        | false => rfl
        | true => exact absurd (Nat.le_of_ble_eq_true hx) hlt
      rw [this]
      exact ⟨rfl, by omega⟩
theorem not_lt_ble (n : Int) (d : Nat) (h : 1 ≤ n) : (!decide (((d : Nat) : Int) < n)) = Nat.ble n.toNat d := by
  cases hx : Nat.ble n.toNat d with
  | true => have := Nat.le_of_ble_eq_true hx; simp; omega
  | false => have : ¬ n.toNat ≤ d := fun h => by rw [Nat.ble_eq_true_of_le h] at hx; cases hx
             simp; omega
theorem kept_may (n : Int) (sq : Bool) (h : 1 ≤ n) : fitKept n sq = (List.range' 0 30).filter (may n.toNat sq) := by
  have e : ∀ l : List Nat, (∀ i ∈ l, i < 30) → l.filter (fun i => !decide (dataOf i < n)) = l.filter (fun i => Nat.ble n.toNat (dataL.getD i 0)) := by
    intro l hl
    refine List.filter_congr fun i hi => ?_
    rw [dataOf_list i (hl i hi), not_lt_ble n _ h]
  simp only [fitKept, kept]
  cases sq with
  | false =>
    simp only [Bool.false_eq_true, if_false]
    rw [e _ (fun i hi => by simpa using hi), ← List.range_eq_range']
    refine List.filter_congr fun i _ => ?_
    simp [may]
  | true =>
    simp only [if_true]
    rw [e _ (fun i hi => by have := List.mem_range.1 hi; omega)]
    have e2 : List.range' 0 30 = List.range 24 ++ [24, 25, 26, 27, 28, 29] := by rfl
    rw [e2, List.filter_append]
    have e3 : [24, 25, 26, 27, 28, 29].filter (may n.toNat true) = [] := by
      rw [List.filter_eq_nil_iff]; intro a ha
      have : Nat.blt a 24 = false := by simp at ha; rcases ha with rfl | rfl | rfl | rfl | rfl | rfl <;> rfl
      simp [may, this]
    rw [e3, List.append_nil]
    refine List.filter_congr fun i hi => ?_
    have : Nat.blt i 24 = true := Nat.ble_eq_true_of_le (by have := List.mem_range.1 hi; omega)
    simp [may, this]
theorem refB_fit (n : Int) (sq : Bool) (h : 1 ≤ n) (h2 : n ≤ 1558) : refB n sq = ((dataL.getD (fitRow n sq) 0), fitRow n sq) ∧ 0 < dataL.getD (fitRow n sq) 0 := by
  have e1 : refB n sq = bestOf (fun j => dataL.getD j 0) (0, 0) ((List.range' 0 30).filter (may n.toNat sq)) := pickF_best n.toNat sq 30 0 (0, 0) rfl
  rw [← kept_may n sq h] at e1
  have hmem : ∀ j ∈ fitKept n sq, j < 30 := by
    intro j hj; rw [kept_may n sq h] at hj; have := (List.mem_filter.1 hj).1; simp at this; omega
  have h23 : 23 ∈ fitKept n sq := by
    rw [kept_may n sq h, List.mem_filter]
    refine ⟨by simp, ?_⟩
    have : Nat.ble n.toNat (dataL.getD 23 0) = true := Nat.ble_eq_true_of_le (by show n.toNat ≤ 1558; omega)
    simp only [may, this]; rfl
  have hlen : 0 < (fitKept n sq).length := List.length_pos_of_mem h23
  have hf : fitRow n sq = (fitKept n sq).getD (minI (fun i => ((dataL.getD ((fitKept n sq).getD i 0) 0 : Nat) : Int)) ((fitKept n sq).length - 1)) 0 := by
    unfold fitRow
    congr 2
    funext i
    rw [dataOf_list]
    by_cases hi : i < (fitKept n sq).length
    · have : (fitKept n sq).getD i 0 ∈ fitKept n sq := by simp [List.getD_eq_getElem?_getD, List.getElem?_eq_getElem hi]
      exact hmem _ this
    · have : (fitKept n sq).getD i 0 = 0 := by simp [List.getD_eq_getElem?_getD, List.getElem?_eq_none (show (fitKept n sq).length ≤ i by omega)]
      omega
  have key := best_min (fun j => dataL.getD j 0) (fitKept n sq) (fun j hj => dataL_pos j (hmem j hj)) ((fitKept n sq).length - 1) (by omega)
  rw [show (fitKept n sq).length - 1 + 1 = (fitKept n sq).length by omega, List.take_length, ← e1, ← hf] at key
  refine ⟨key.1, dataL_pos _ (hmem _ ?_)⟩
  rw [hf]
  generalize hM : minI (fun i => ((dataL.getD ((fitKept n sq).getD i 0) 0 : Nat) : Int)) ((fitKept n sq).length - 1) = M at *
  simp [List.getD_eq_getElem?_getD, List.getElem?_eq_getElem (show M < (fitKept n sq).length by omega)]
theorem refB_big (n : Int) (sq : Bool) (h2 : 1558 < n) : refB n sq = (0, 0) := by
  have e1 : refB n sq = bestOf (fun j => dataL.getD j 0) (0, 0) ((List.range' 0 30).filter (may n.toNat sq)) := pickF_best n.toNat sq 30 0 (0, 0) rfl
  have hall : ∀ j, j < 30 → dataL.getD j 0 ≤ 1558 := by
    have h : (List.range 30).all (fun i => Nat.ble (dataL.getD i 0) 1558) = true := by kernel_rfl
    intro i hi
    simp only [List.all_eq_true, List.mem_range] at h
    exact Nat.le_of_ble_eq_true (h i hi)
  have e3 : (List.range' 0 30).filter (may n.toNat sq) = [] := by
    rw [List.filter_eq_nil_iff]; intro a ha
    have ha : a < 30 := by simp at ha; omega
    have := hall a ha
    have : Nat.ble n.toNat (dataL.getD a 0) = false := by
      cases hx : Nat.ble n.toNat (dataL.getD a 0) with
      | false => rfl
      | true => have := Nat.le_of_ble_eq_true hx; omega
    rw [may, this]; simp
  rw [e1, e3]; rfl
/-- Fit and the reference's Fit agree. -/
theorem ref_fit (n : Int) (sq : Bool) : refV n sq = fitV n sq ∧ refE n sq = fitE n := by
  unfold refV fitV refE fitE
  by_cases h : n < 1
  · simp only [if_pos h, if_pos (Or.inl h : n < 1 ∨ (refB n sq).1 = 0), if_pos (Or.inl h : n < 1 ∨ n > 1558)]; exact ⟨trivial, trivial⟩
  · by_cases h2 : n > 1558
    · have hb : (refB n sq).1 = 0 := by rw [refB_big n sq h2]
      simp only [if_neg h, if_pos h2, if_pos hb, if_pos (Or.inr hb : n < 1 ∨ (refB n sq).1 = 0), if_pos (Or.inr h2 : n < 1 ∨ n > 1558)]; exact ⟨trivial, trivial⟩
    · obtain ⟨hb, h0⟩ := refB_fit n sq (by omega) (by omega)
      have h0' : ¬ (refB n sq).1 = 0 := by rw [hb]; simp only; omega
      simp only [if_neg h, if_neg h2, if_neg h0', if_neg (show ¬ (n < 1 ∨ (refB n sq).1 = 0) by omega), if_neg (show ¬ (n < 1 ∨ n > 1558) by omega)]
      rw [hb]; exact ⟨rfl, trivial⟩
end Go.Abs.Lay

/- A part of the proof: contracts of functions of the program, shown by walking through their code in an abstract machine. Condition: none. -/
import Derived.Test.YtipgikhblcfpjaaRunE
set_option linter.unusedVariables false
set_option linter.unusedSimpArgs false
namespace Go.Abs.Run
open Go Go.Proofs
/-! Quantizing, in plain numbers. -/
def numF (T s lim w : Int) : Int := max 1 ((lim + 2 * T * w - s) / (2 * s) + 1)
def numL (zs : List Int) (T lim : Int) : List Int := zs.map (numF T zs.sum lim)
/-- The cost of raising a number. -/
def cst (T s w r : Int) : Int := s * (2 * r + 1) - 2 * T * w
theorem cst_le {T s lim w r : Int} (hs : 0 < s) : cst T s w r ≤ lim ↔ r ≤ (lim + 2 * T * w - s) / (2 * s) := by
  rw [Int.le_ediv_iff_mul_le (by omega), cst]
  have e : s * (2 * r + 1) = r * (2 * s) + s := by rw [Int.mul_add, Int.mul_one, Int.mul_left_comm, Int.mul_left_comm r 2 s, Int.mul_comm s r]
  rw [e]
  omega
theorem cst_mono {T s w r r' : Int} (hs : 0 < s) (h : r ≤ r') : cst T s w r ≤ cst T s w r' := by
  unfold cst
  have := Int.mul_le_mul_of_nonneg_left (show 2 * r + 1 ≤ 2 * r' + 1 by omega) (Int.le_of_lt hs)
  omega
theorem cst_lt {T s w r r' : Int} (hs : 0 < s) (h : r < r') : cst T s w r < cst T s w r' := by
  unfold cst
  have := Int.mul_lt_mul_of_pos_left (show 2 * r + 1 < 2 * r' + 1 by omega) hs
  omega
theorem numF_pos (T s lim w : Int) : 1 ≤ numF T s lim w := by unfold numF; omega
theorem numF_hi {T s lim w r : Int} (hs : 0 < s) (hr : 1 ≤ r) : r + 1 ≤ numF T s lim w ↔ cst T s w r ≤ lim := by
  rw [cst_le hs]; unfold numF; omega
theorem numF_next {T s lim w : Int} (hs : 0 < s) : numF T s lim w ≤ numF T s (lim + 1) w ∧ (numF T s lim w < numF T s (lim + 1) w → numF T s (lim + 1) w = numF T s lim w + 1 ∧ cst T s w (numF T s lim w) = lim + 1) ∧ (numF T s (lim + 1) w = numF T s lim w → lim + 1 < cst T s w (numF T s lim w)) := by
  have p := numF_pos T s lim w
  obtain ⟨a, ha⟩ : ∃ a, a = numF T s lim w := ⟨_, rfl⟩
  obtain ⟨b, hb⟩ : ∃ b, b = numF T s (lim + 1) w := ⟨_, rfl⟩
  have h1 : ∀ r, 1 ≤ r → (r + 1 ≤ a ↔ cst T s w r ≤ lim) := fun r hr => by rw [ha]; exact numF_hi hs hr
  have h2 : ∀ r, 1 ≤ r → (r + 1 ≤ b ↔ cst T s w r ≤ lim + 1) := fun r hr => by rw [hb]; exact numF_hi hs hr
  rw [← ha] at p ⊢
  rw [← hb]
  have pb : 1 ≤ b := by rw [hb]; exact numF_pos _ _ _ _
  have hca : lim < cst T s w a := by
    have := h1 a p; omega
  refine ⟨?_, fun h => ?_, fun h => ?_⟩
  · rcases Int.lt_or_le b a with h | h
    · have e1 := (h1 b pb).1 (by omega)
      have e2 := (h2 b pb).2 (by omega)
      omega
    · exact h
  · have e1 := (h2 a p).1 (by omega)
    have e2 : cst T s w a = lim + 1 := by omega
    refine ⟨?_, e2⟩
    rcases Int.lt_or_le (a + 1) b with h' | h'
    · have e3 := (h2 (a + 1) (by omega)).1 (by omega)
      have e4 := cst_lt (T := T) (w := w) hs (show a < a + 1 by omega)
      omega
    · omega
  · have := h2 a p; omega
/-- What is asked of the numbers. -/
structure Good (zs : List Int) (T : Int) (p : List Int) : Prop where
  len : p.length = zs.length
  pos : ∀ i, i < p.length → 1 ≤ p.getD i 0
  sum : p.sum = T
  ord : ∀ i j, i < p.length → j < p.length → 1 < p.getD i 0 → cst T zs.sum (zs.getD i 0) (p.getD i 0 - 1) < cst T zs.sum (zs.getD j 0) (p.getD j 0) ∨ (cst T zs.sum (zs.getD i 0) (p.getD i 0 - 1) = cst T zs.sum (zs.getD j 0) (p.getD j 0) ∧ i < j)
theorem sum_le : ∀ {p q : List Int}, p.length = q.length → (∀ i, i < p.length → p.getD i 0 ≤ q.getD i 0) → p.sum ≤ q.sum ∧ (p.sum = q.sum → p = q)
  | [], [], _, _ => ⟨Int.le_refl _, fun _ => rfl⟩
  | [], _ :: _, h, _ => by simp at h
  | _ :: _, [], h, _ => by simp at h
  | a :: p, b :: q, h, hle => by
    obtain ⟨h1, h2⟩ := sum_le (p := p) (q := q) (by simpa using h) fun i hi => by simpa using hle (i + 1) (by simpa using hi)
    have h0 : a ≤ b := by simpa using hle 0 (by simp)
    simp only [List.sum_cons]
    refine ⟨by omega, fun e => ?_⟩
    rw [show a = b by omega, h2 (by omega)]
theorem sum_ge {p : List Int} (h : ∀ i, i < p.length → 1 ≤ p.getD i 0) : (p.length : Int) ≤ p.sum ∧ ∀ i, i < p.length → p.getD i 0 + (p.length : Int) - 1 ≤ p.sum := by
  induction p with
  | nil => exact ⟨by simp, fun i hi => by simp at hi⟩
  | cons a p ih =>
    obtain ⟨h1, h2⟩ := ih fun i hi => by simpa using h (i + 1) (by simpa using hi)
    have h0 : 1 ≤ a := by simpa using h 0 (by simp)
    simp only [List.sum_cons, List.length_cons]
    refine ⟨by omega, fun i hi => ?_⟩
    cases i with
    | zero => simp; omega
    | succ i =>
      have := h2 i (by simpa using hi)
      simp at this ⊢; omega
theorem Good.uniq {zs : List Int} {T : Int} {p q : List Int} (hs : 0 < zs.sum) (hp : Good zs T p) (hq : Good zs T q) : p = q := by
  have hl : p.length = q.length := hp.len.trans hq.len.symm
  rcases Classical.em (∀ i, i < p.length → p.getD i 0 ≤ q.getD i 0) with h | h
  · exact (sum_le hl h).2 (hp.sum.trans hq.sum.symm)
  rcases Classical.em (∀ i, i < q.length → q.getD i 0 ≤ p.getD i 0) with h' | h'
  · exact ((sum_le hl.symm h').2 (hq.sum.trans hp.sum.symm)).symm
  exfalso
  obtain ⟨i, hi⟩ := Classical.not_forall.1 h
  obtain ⟨hi, h1⟩ := Classical.not_imp.1 hi
  obtain ⟨j, hj⟩ := Classical.not_forall.1 h'
  obtain ⟨hj, h2⟩ := Classical.not_imp.1 hj
  have p1 := hq.pos i (by omega)
  have p2 := hp.pos j (by omega)
  have o1 := hp.ord i j hi (by omega) (by omega)
  have o2 := hq.ord j i hj (by omega) (by omega)
  have m1 := cst_mono (T := T) (w := zs.getD i 0) hs (show q.getD i 0 ≤ p.getD i 0 - 1 by omega)
  have m2 := cst_mono (T := T) (w := zs.getD j 0) hs (show p.getD j 0 ≤ q.getD j 0 - 1 by omega)
  omega
/-! The last steps. -/
def fillQ (nx : List Int) (T : Int) (o : List Int) (n : Int) : Nat → List Int × Int
  | 0 => (o, n)
  | i + 1 => if decide ((fillQ nx T o n i).2 < T) && decide (nx.getD i 0 > (fillQ nx T o n i).1.getD i 0) then ((fillQ nx T o n i).1.set i ((fillQ nx T o n i).1.getD i 0 + 1), (fillQ nx T o n i).2 + 1) else fillQ nx T o n i
theorem getD_set (l : List Int) (i j : Nat) (v : Int) (hi : i < l.length) : (l.set i v).getD j 0 = if i = j then v else l.getD j 0 := by
  rw [List.getD_eq_getElem?_getD, List.getElem?_set]
  split
  · rename_i h; subst h; simp [hi]
  · rw [List.getD_eq_getElem?_getD]
theorem sum_set : ∀ (l : List Int) (i : Nat) (v : Int), i < l.length → (l.set i v).sum = l.sum - l.getD i 0 + v
  | [], i, v, h => by simp at h
  | a :: l, 0, v, _ => by simp; omega
  | a :: l, i + 1, v, h => by
    have := sum_set l i v (by simpa using h)
    simp only [List.set_cons_succ, List.sum_cons, this]
    simp; omega
theorem fillQ_inv {nx : List Int} {T : Int} {o : List Int} {n : Int} (hl : nx.length = o.length) (hn : n = o.sum) (hT : n ≤ T) (hnx : ∀ i, i < o.length → o.getD i 0 ≤ nx.getD i 0 ∧ nx.getD i 0 ≤ o.getD i 0 + 1) : ∀ i, i ≤ o.length →
    (fillQ nx T o n i).1.length = o.length ∧ (fillQ nx T o n i).2 = (fillQ nx T o n i).1.sum ∧ (fillQ nx T o n i).2 ≤ T ∧
    (∀ j, j < o.length → (fillQ nx T o n i).1.getD j 0 = o.getD j 0 ∨ (j < i ∧ (fillQ nx T o n i).1.getD j 0 = o.getD j 0 + 1 ∧ nx.getD j 0 = o.getD j 0 + 1)) ∧
    (∀ j, j < i → nx.getD j 0 = o.getD j 0 + 1 → (fillQ nx T o n i).1.getD j 0 = o.getD j 0 → (fillQ nx T o n i).2 = T ∧ ∀ j', j' < o.length → (fillQ nx T o n i).1.getD j' 0 = o.getD j' 0 + 1 → j' < j) := by
  intro i
  induction i with
  | zero => intro _; exact ⟨rfl, hn, hT, fun j _ => .inl rfl, fun j hj => by omega⟩
  | succ i ih =>
    intro hi
    obtain ⟨i1, i2, i3, i4, i5⟩ := ih (by omega)
    have hii := hnx i (by omega)
    obtain ⟨q, m, hqm⟩ : ∃ q m, fillQ nx T o n i = (q, m) := ⟨_, _, rfl⟩
    simp only [fillQ, hqm] at i1 i2 i3 i4 i5 ⊢
    have hqi : q.getD i 0 = o.getD i 0 := by rcases i4 i (by omega) with h | h; exact h; omega
    split
    · rename_i hc
      simp only [Bool.and_eq_true, decide_eq_true_eq] at hc
      have hset := fun j => getD_set q i j (q.getD i 0 + 1) (by omega)
      refine ⟨by simp [i1], by simp only; rw [sum_set _ _ _ (by omega)]; omega, by simp only; omega, fun j hj => ?_, fun j hj hjn hjo => ?_⟩
      · simp only; rw [hset j]
        split
        · rename_i e; subst e; exact .inr ⟨by omega, by omega, by omega⟩
        · rcases i4 j hj with h | h
          · exact .inl h
          · exact .inr ⟨by omega, h.2⟩
      · simp only at hjo; rw [hset j] at hjo
        split at hjo
        · rename_i e; subst e; omega
        · rename_i e
          have := (i5 j (by omega) hjn hjo).1
          omega
    · rename_i hc
      have hc' : ¬ (m < T ∧ nx.getD i 0 > q.getD i 0) := fun h => hc (by simp only [Bool.and_eq_true, decide_eq_true_eq]; exact h)
      refine ⟨i1, i2, i3, fun j hj => ?_, fun j hj hjn hjo => ?_⟩
      · rcases i4 j hj with h | h
        · exact .inl h
        · exact .inr ⟨by omega, h.2⟩
      · rcases Nat.lt_or_ge j i with h | h
        · exact i5 j h hjn hjo
        · have e : j = i := by omega
          subst e
          have hm : m = T := by omega
          refine ⟨by first | exact hm | (rw [hqm]; exact hm), fun j' hj' h' => ?_⟩
          have h' : q.getD j' 0 = o.getD j' 0 + 1 := by first | exact h' | (rw [hqm] at h'; exact h')
          rcases i4 j' hj' with h2 | h2
          · omega
          · exact h2.1
theorem numL_getD {zs : List Int} {T lim : Int} {i : Nat} (hi : i < zs.length) : (numL zs T lim).getD i 0 = numF T zs.sum lim (zs.getD i 0) := by
  rw [numL, List.getD_eq_getElem?_getD, List.getElem?_map, List.getElem?_eq_getElem hi, List.getD_eq_getElem?_getD, List.getElem?_eq_getElem hi]; rfl
theorem fillQ_good {zs : List Int} {T lo : Int} (hs : 0 < zs.sum) (h1 : (numL zs T lo).sum ≤ T) (h2 : T < (numL zs T (lo + 1)).sum) : Good zs T (fillQ (numL zs T (lo + 1)) T (numL zs T lo) (numL zs T lo).sum zs.length).1 := by
  have hl0 : (numL zs T lo).length = zs.length := by simp [numL]
  have hl1 : (numL zs T (lo + 1)).length = zs.length := by simp [numL]
  have hnext : ∀ i, i < zs.length → _ := fun i hi => numF_next (T := T) (s := zs.sum) (lim := lo) (w := zs.getD i 0) hs
  have hnx : ∀ i, i < (numL zs T lo).length → (numL zs T lo).getD i 0 ≤ (numL zs T (lo + 1)).getD i 0 ∧ (numL zs T (lo + 1)).getD i 0 ≤ (numL zs T lo).getD i 0 + 1 := fun i hi => by
    rw [hl0] at hi
    obtain ⟨a, b, c⟩ := hnext i hi
    rw [numL_getD hi, numL_getD hi]
    omega
  obtain ⟨i1, i2, i3, i4, i5⟩ := fillQ_inv (nx := numL zs T (lo + 1)) (T := T) (o := numL zs T lo) (hl1.trans hl0.symm) rfl h1 hnx zs.length (by omega)
  obtain ⟨q, m, hqm⟩ : ∃ q m, fillQ (numL zs T (lo + 1)) T (numL zs T lo) (numL zs T lo).sum zs.length = (q, m) := ⟨_, _, rfl⟩
  rw [hqm] at i1 i2 i3 i4 i5 ⊢
  simp only at i1 i2 i3 i4 i5 ⊢
  rw [hl0] at i1 i4 i5
  have hmT : m = T := by
    rcases Int.lt_or_le m T with h | h
    · have : q = numL zs T (lo + 1) := by
        refine List.ext_getElem (by omega) fun j hj hj' => ?_
        have e1 : q.getD j 0 = q[j] := by rw [List.getD_eq_getElem?_getD, List.getElem?_eq_getElem hj]; rfl
        have e2 : (numL zs T (lo + 1)).getD j 0 = (numL zs T (lo + 1))[j] := by rw [List.getD_eq_getElem?_getD, List.getElem?_eq_getElem hj']; rfl
        rw [← e1, ← e2]
        have hx := hnx j (by omega)
        rcases i4 j (by omega) with h4 | h4
        · rcases Classical.em ((numL zs T (lo + 1)).getD j 0 = (numL zs T lo).getD j 0 + 1) with h6 | h6
          · have := (i5 j (by omega) h6 h4).1; omega
          · omega
        · omega
      rw [← this, ← i2] at h2; omega
    · omega
  refine ⟨by omega, fun i hi => ?_, by omega, fun i j hi hj hpi => ?_⟩
  · have hp := numF_pos T zs.sum lo (zs.getD i 0)
    rw [← numL_getD (by omega)] at hp
    rcases i4 i (by omega) with h | h <;> omega
  · have hi' : i < zs.length := by omega
    have hj' : j < zs.length := by omega
    obtain ⟨ai, bi, ci⟩ := hnext i hi'
    obtain ⟨aj, bj, cj⟩ := hnext j hj'
    have pi := numF_pos T zs.sum lo (zs.getD i 0)
    have pj := numF_pos T zs.sum lo (zs.getD j 0)
    have hi2 := @numF_hi T zs.sum lo (zs.getD i 0) (q.getD i 0 - 1) hs (by omega)
    have I4 := i4 i hi'
    have J4 := i4 j hj'
    have I5 := i5 j hj'
    rw [numL_getD hi', numL_getD hi'] at I4
    rw [numL_getD hj', numL_getD hj'] at J4 I5
    -- the cost of the one that is not taken
    have hcj : lo + 1 ≤ cst T zs.sum (zs.getD j 0) (q.getD j 0) ∧ (cst T zs.sum (zs.getD j 0) (q.getD j 0) = lo + 1 → q.getD j 0 = numF T zs.sum lo (zs.getD j 0) ∧ numF T zs.sum (lo + 1) (zs.getD j 0) = numF T zs.sum lo (zs.getD j 0) + 1) := by
      rcases J4 with h | ⟨_, h, h'⟩
      · rw [h]
        rcases Int.lt_or_le (numF T zs.sum lo (zs.getD j 0)) (numF T zs.sum (lo + 1) (zs.getD j 0)) with hh | hh
        · exact ⟨by have := (bj hh).2; omega, fun _ => ⟨rfl, (bj hh).1⟩⟩
        · have := cj (by omega)
          exact ⟨by omega, fun e => by omega⟩
      · have e1 := (bj (by omega)).2
        have e2 := cst_lt (T := T) (w := zs.getD j 0) hs (show numF T zs.sum lo (zs.getD j 0) < q.getD j 0 by omega)
        exact ⟨by omega, fun e => by omega⟩
    rcases I4 with h | ⟨_, h, h'⟩
    · have := hi2.1 (by omega)
      exact .inl (by omega)
    · have e1 := (bi (by omega)).2
      have e2 : q.getD i 0 - 1 = numF T zs.sum lo (zs.getD i 0) := by omega
      rw [e2, e1]
      rcases Int.lt_or_le (lo + 1) (cst T zs.sum (zs.getD j 0) (q.getD j 0)) with hh | hh
      · exact .inl hh
      · have hc := hcj.2 (by omega)
        refine .inr ⟨by omega, (I5 hc.2 hc.1).2 i hi' ?_⟩
        rw [numL_getD hi']; exact h
end Go.Abs.Run

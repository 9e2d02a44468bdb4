/- A part of the proof: contracts of functions of the program, shown by walking through their code in an abstract machine. Condition: none. -/
import Derived.Test.YtipgikhblcfpjaaRunJ
import Derived.Test.YtipgikhblcfpjaaRunK
set_option linter.unusedVariables false
set_option linter.unusedSimpArgs false
namespace Go.Abs.Run
open Go Go.Proofs
set_option maxHeartbeats 4000000
/-! A row is its margins and its bars and spaces. -/
theorem ends_of {row : List Bool} (hall : lm row ≠ row.length) : row.getD (lm row) false = true ∧ lm row < row.length ∧ lm row.reverse < row.length ∧ row.getD (row.length - 1 - lm row.reverse) false = true ∧ lm row + lm row.reverse < row.length ∧ (∀ j, j < lm row.reverse → row.getD (row.length - 1 - j) false = false) := by
  obtain ⟨s1, s2⟩ := lm_spec row
  obtain ⟨r1, r2⟩ := lm_spec row.reverse
  have h1 := lm_le row
  have h2 := lm_le row.reverse
  rw [List.length_reverse] at h2 r2
  have hd : row.getD (lm row) false = true := s2.resolve_left hall
  have hlt : lm row < row.length := by omega
  have hrl : lm row.reverse < row.length := by
    rcases Nat.lt_or_ge (lm row.reverse) row.length with h | h
    · exact h
    · have := r1 (row.length - 1 - lm row) (by omega)
      rw [rev_getD (by omega), show row.length - 1 - (row.length - 1 - lm row) = lm row by omega, hd] at this
      cases this
  have hr2 : row.getD (row.length - 1 - lm row.reverse) false = true := by
    have := r2.resolve_left (by omega)
    rwa [rev_getD hrl] at this
  have hr1 : ∀ j, j < lm row.reverse → row.getD (row.length - 1 - j) false = false := fun j hj => by
    have := r1 j hj
    rwa [rev_getD (by omega)] at this
  refine ⟨hd, hlt, hrl, hr2, ?_, hr1⟩
  rcases Nat.lt_or_ge (lm row + lm row.reverse) row.length with h | h
  · exact h
  · rcases Nat.lt_or_ge (row.length - 1 - lm row.reverse) (lm row) with h' | h'
    · rw [s1 _ h'] at hr2; cases hr2
    · omega
theorem dec_tmod (n : Nat) : decide (((n : Nat) : Int).tmod 2 = 0) = decide (n % 2 = 0) := by
  have e : ((n : Nat) : Int).tmod 2 = ((n % 2 : Nat) : Int) := rfl
  rw [e]; exact decide_eq_decide.2 (by omega)
theorem exP_snoc (o : List Int) (w : Int) : exP 0 (o ++ [w]) = exP 0 o ++ List.replicate w.toNat (decide (o.length % 2 = 0)) := by
  rw [exP_app]
  simp only [exP, List.append_nil, Nat.zero_add, dec_tmod]
theorem outB_inv {row : List Bool} {a e : Nat} (he : e ≤ row.length) (hd : row.getD a false = true) : ∀ j, a + j ≤ e →
    (row.drop a).take j = exP 0 (outB row a e j).1 ++ List.replicate (outB row a e j).2 (decide ((outB row a e j).1.length % 2 = 0)) ∧ (∀ x ∈ (outB row a e j).1, 1 ≤ x) ∧ (outB row a e j).1.sum + ((outB row a e j).2 : Int) = (j : Int) ∧
      (0 < (outB row a e j).2 → row.getD (a + j - 1) false = decide ((outB row a e j).1.length % 2 = 0)) ∧
      ((outB row a e j).2 = 0 → 0 < j → row.getD (a + j - 1) false = decide ((outB row a e j).1.length % 2 = 1)) ∧
      ((outB row a e j).2 = 0 → 0 < j → a + j = e ∨ row.getD (a + j) false ≠ row.getD (a + j - 1) false) ∧
      (0 < (outB row a e j).2 → row.getD (a + j) false = row.getD (a + j - 1) false ∧ a + j ≠ e) ∧ ((outB row a e j).2 = 0 → j = 0 → (outB row a e j).1 = []) := by
  intro j
  induction j with
  | zero => intro _; exact ⟨by simp [outB, exP], fun x hx => by simp [outB] at hx, by simp [outB], fun h => by simp [outB] at h, fun _ h => by omega, fun _ h => by omega, fun h => by simp [outB] at h, fun _ _ => rfl⟩
  | succ j ih =>
    intro hj
    obtain ⟨i0, i1, i2, i3, i4, i5, i6, i7⟩ := ih (by omega)
    obtain ⟨o, n, hon⟩ : ∃ o n, outB row a e j = (o, n) := ⟨_, _, rfl⟩
    simp only [hon] at i0 i1 i2 i3 i4 i5 i6 i7
    have col : row.getD (a + j) false = decide (o.length % 2 = 0) := by
      rcases Nat.eq_zero_or_pos n with h0 | h0
      · rcases Nat.eq_zero_or_pos j with hj0 | hj0
        · rw [i7 h0 hj0, hj0, Nat.add_zero, hd]; rfl
        · have c1 := i4 h0 hj0
          have c2 := (i5 h0 hj0).resolve_left (by omega)
          rw [c1] at c2
          cases hv : row.getD (a + j) false with
          | true =>
            rw [hv] at c2
            have : ¬ o.length % 2 = 1 := fun h => c2 (by rw [decide_eq_true h])
            rw [decide_eq_true (by omega)]
          | false =>
            rw [hv] at c2
            have : o.length % 2 = 1 := by
              rcases Nat.mod_two_eq_zero_or_one o.length with h | h
              · exact absurd (by rw [decide_eq_false (by omega)]) c2
              · exact h
            rw [decide_eq_false (by omega)]
      · rw [(i6 h0).1, i3 h0]
    have htk : (row.drop a).take (j + 1) = (row.drop a).take j ++ [decide (o.length % 2 = 0)] := by
      rw [take_succ' false (by rw [List.length_drop]; omega)]
      congr 2
      rw [← col, List.getD_eq_getElem?_getD, List.getD_eq_getElem?_getD, List.getElem?_drop]
    rw [htk, i0]
    simp only [outB, hon]
    split
    · rename_i hE
      have hE' : a + j + 1 = e ∨ row.getD (a + j + 1) false ≠ row.getD (a + j) false := by simpa using hE
      refine ⟨?_, fun x hx => ?_, ?_, fun h => by simp only at h; omega, fun _ _ => ?_, fun _ _ => ?_, fun h => by simp only at h; omega, fun _ h => by omega⟩
      · simp only [List.replicate_zero, List.append_nil]
        rw [exP_snoc, List.append_assoc, show ((n : Int) + 1).toNat = n + 1 by omega, List.replicate_succ']
      · simp only [List.mem_append, List.mem_singleton] at hx
        rcases hx with hx | hx
        · exact i1 x hx
        · omega
      · simp only [List.sum_append, List.sum_cons, List.sum_nil]; omega
      · simp only [List.length_append, List.length_cons, List.length_nil]
        rw [show a + (j + 1) - 1 = a + j by omega, col]
        exact decide_eq_decide.2 (by omega)
      · rw [show a + (j + 1) - 1 = a + j by omega]
        exact hE'
    · rename_i hE
      have hE' : ¬ (a + j + 1 = e) ∧ row.getD (a + j + 1) false = row.getD (a + j) false := by simpa using hE
      refine ⟨?_, i1, by simp only; omega, fun _ => ?_, fun h => by simp only at h; omega, fun h => by simp only at h; omega, fun _ => ?_, fun h => by simp only at h; omega⟩
      · simp only; rw [List.append_assoc, List.replicate_succ']
      · rw [show a + (j + 1) - 1 = a + j by omega]; exact col
      · rw [show a + (j + 1) - 1 = a + j by omega]; exact ⟨hE'.2, hE'.1⟩
/-- What the widths say of a row that is not all light. -/
theorem refW_spec {row : List Bool} (hall : lm row ≠ row.length) :
    (row.drop (lm row)).take (row.length - lm row.reverse - lm row) = exP 0 (refW row) ∧ (∀ x ∈ refW row, 1 ≤ x) ∧ (refW row).sum = ((row.length - lm row.reverse - lm row : Nat) : Int) ∧ (refW row).length % 2 = 1 := by
  obtain ⟨hd, hlt, hrl, hr2, hae, hr1⟩ := ends_of hall
  obtain ⟨i0, i1, i2, i3, i4, i5, i6, i7⟩ := outB_inv (row := row) (a := lm row) (e := row.length - lm row.reverse) (by omega) hd (row.length - lm row.reverse - lm row) (by omega)
  have hn0 : (outB row (lm row) (row.length - lm row.reverse) (row.length - lm row.reverse - lm row)).2 = 0 := by
    rcases Nat.eq_zero_or_pos (outB row (lm row) (row.length - lm row.reverse) (row.length - lm row.reverse - lm row)).2 with h | h
    · exact h
    · exact absurd (by omega) (i6 h).2
  rw [hn0] at i0 i2
  simp only [List.replicate_zero, List.append_nil] at i0
  refine ⟨i0, i1, by simpa [refW] using i2, ?_⟩
  have := i4 hn0 (by omega)
  rw [show lm row + (row.length - lm row.reverse - lm row) - 1 = row.length - 1 - lm row.reverse by omega, hr2] at this
  simpa [refW] using this.symm
theorem row_parts {row : List Bool} (hall : lm row ≠ row.length) : row = List.replicate (lm row) false ++ (exP 0 (refW row) ++ List.replicate (lm row.reverse) false) := by
  obtain ⟨hd, hlt, hrl, hr2, hae, hr1⟩ := ends_of hall
  obtain ⟨s1, _⟩ := lm_spec row
  have h1 : row.take (lm row) = List.replicate (lm row) false := by
    refine List.ext_getElem (by simp; omega) fun i hi hi' => ?_
    have := s1 i (by simpa using hi')
    rw [List.getD_eq_getElem?_getD, List.getElem?_eq_getElem (by simp at hi'; omega)] at this
    simpa using this
  have h3 : (row.drop (lm row)).drop (row.length - lm row.reverse - lm row) = List.replicate (lm row.reverse) false := by
    rw [List.drop_drop]
    refine List.ext_getElem (by simp; omega) fun i hi hi' => ?_
    have hi2 : i < lm row.reverse := by simpa using hi'
    have := hr1 (lm row.reverse - 1 - i) (by omega)
    rw [show row.length - 1 - (lm row.reverse - 1 - i) = lm row + (row.length - lm row.reverse - lm row) + i by omega, List.getD_eq_getElem?_getD, List.getElem?_eq_getElem (by omega)] at this
    simpa using this
  have h2 := (refW_spec hall).1
  have e1 := List.take_append_drop (lm row) row
  have e2 := List.take_append_drop (row.length - lm row.reverse - lm row) (row.drop (lm row))
  rw [h2, h3] at e2
  rw [h1, ← e2] at e1
  exact e1.symm
theorem refW_light {row : List Bool} (hall : lm row = row.length) : refW row = [] := by
  have h1 := lm_le row.reverse
  rw [List.length_reverse] at h1
  rw [refW, show row.length - lm row.reverse - lm row = 0 by omega]; rfl
theorem lm_light {row : List Bool} (hall : lm row = row.length) : lm row.reverse = row.length := lm_rev_all fun j hj => (lm_spec row).1 _ (by omega)
/-! Of one row, one list of widths. -/
theorem rep_split {x y : Nat} {b : Bool} {s t : List Bool} (hs : s = [] ∨ s.head? = some (!b)) (ht : t = [] ∨ t.head? = some (!b)) (h : List.replicate x b ++ s = List.replicate y b ++ t) : x = y ∧ s = t := by
  induction x generalizing y with
  | zero =>
    cases y with
    | zero => exact ⟨rfl, by simpa using h⟩
    | succ y =>
      simp only [List.replicate_zero, List.nil_append, List.replicate_succ, List.cons_append] at h
      rcases hs with hs | hs
      · rw [hs] at h; cases h
      · rw [h] at hs; simp at hs
  | succ x ih =>
    cases y with
    | zero =>
      simp only [List.replicate_zero, List.nil_append, List.replicate_succ, List.cons_append] at h
      rcases ht with ht | ht
      · rw [ht] at h; cases h
      · rw [← h] at ht; simp at ht
    | succ y =>
      simp only [List.replicate_succ, List.cons_append, List.cons.injEq, true_and] at h
      obtain ⟨h1, h2⟩ := ih h
      exact ⟨by omega, h2⟩
theorem exP_head {i : Nat} {w : List Int} {r : List Bool} (hw : ∀ x ∈ w, 1 ≤ x) (hne : w ≠ []) : (exP i w ++ r).head? = some (decide (i % 2 = 0)) := by
  cases w with
  | nil => exact absurd rfl hne
  | cons x w =>
    have hx := hw x (by simp)
    obtain ⟨n, hn⟩ : ∃ n, x.toNat = n + 1 := ⟨x.toNat - 1, by omega⟩
    simp only [exP, hn, List.replicate_succ, List.cons_append, List.head?_cons, dec_tmod]
theorem light_head (n : Nat) : List.replicate n false = [] ∨ (List.replicate n false).head? = some false := by
  cases n with
  | zero => exact .inl rfl
  | succ n => exact .inr rfl
theorem exP_uniq : ∀ {w w' : List Int} {i b b' : Nat}, (∀ x ∈ w, 1 ≤ x) → (∀ x ∈ w', 1 ≤ x) → (i + w.length) % 2 = 1 → (i + w'.length) % 2 = 1 → exP i w ++ List.replicate b false = exP i w' ++ List.replicate b' false → w = w'
  | [], [], _, _, _, _, _, _, _, _ => rfl
  | [], y :: w', i, b, b', _, h', hp, hp', h => by
    exfalso
    -- there is a dark one on the right only
    have hi : i % 2 = 1 := by simpa using hp
    cases w' with
    | nil => simp at hp'; omega
    | cons z w' =>
      have hz := h' z (by simp)
      have hmem : true ∈ exP i (y :: z :: w') ++ List.replicate b' false := by
        simp only [exP, List.mem_append, List.mem_replicate, dec_tmod]
        exact .inl (.inr (.inl ⟨by omega, (decide_eq_true (by omega)).symm⟩))
      rw [← h] at hmem
      simp [exP, List.mem_replicate] at hmem
  | y :: w', [], i, b, b', h', _, hp', hp, h => by
    exfalso
    have hi : i % 2 = 1 := by simpa using hp
    cases w' with
    | nil => simp at hp'; omega
    | cons z w' =>
      have hz := h' z (by simp)
      have hmem : true ∈ exP i (y :: z :: w') ++ List.replicate b false := by
        simp only [exP, List.mem_append, List.mem_replicate, dec_tmod]
        exact .inl (.inr (.inl ⟨by omega, (decide_eq_true (by omega)).symm⟩))
      rw [h] at hmem
      simp [exP, List.mem_replicate] at hmem
  | x :: w, y :: w', i, b, b', hw, hw', hp, hp', h => by
    have hx := hw x (by simp)
    have hy := hw' y (by simp)
    have rest : ∀ {w : List Int} {b : Nat}, (∀ x ∈ w, 1 ≤ x) → (i + 1 + w.length) % 2 = 1 → (exP (i + 1) w ++ List.replicate b false) = [] ∨ (exP (i + 1) w ++ List.replicate b false).head? = some (!decide ((i : Int).tmod 2 = 0)) := by
      intro w b hw hpw
      rw [dec_tmod]
      cases w with
      | nil =>
        have hi : i % 2 = 0 := by simp at hpw; omega
        rw [decide_eq_true hi]
        simpa [exP] using light_head b
      | cons z w =>
        right
        rw [exP_head hw (by simp)]
        rcases Nat.mod_two_eq_zero_or_one i with hi | hi
        · rw [decide_eq_true hi, decide_eq_false (by omega)]; rfl
        · rw [decide_eq_false (p := i % 2 = 0) (by omega), decide_eq_true (by omega)]; rfl
    simp only [exP, List.append_assoc] at h
    have hpw : (i + 1 + w.length) % 2 = 1 := by simp only [List.length_cons] at hp; omega
    have hpw' : (i + 1 + w'.length) % 2 = 1 := by simp only [List.length_cons] at hp'; omega
    obtain ⟨h1, h2⟩ := rep_split (rest (fun x hx => hw x (by simp [hx])) hpw) (rest (fun x hx => hw' x (by simp [hx])) hpw') h
    rw [exP_uniq (fun x hx => hw x (by simp [hx])) (fun x hx => hw' x (by simp [hx])) hpw hpw' h2, show x = y by omega]
/-! Stretched rows. -/
theorem exR_app (n : Nat) (x y : List Bool) : exR n (x ++ y) = exR n x ++ exR n y := by simp [exR]
theorem exR_rep (n m : Nat) (b : Bool) : exR n (List.replicate m b) = List.replicate (m * n) b := by
  induction m with
  | zero => simp [exR]
  | succ m ih =>
    rw [List.replicate_succ, show b :: List.replicate m b = [b] ++ List.replicate m b from rfl, exR_app, ih]
    simp only [exR, List.map_cons, List.map_nil, List.flatten_cons, List.flatten_nil, List.append_nil]
    rw [List.replicate_append_replicate]
    congr 1
    rw [Nat.succ_mul]; omega
theorem exR_exP (n : Nat) : ∀ (w : List Int) (i : Nat), (∀ x ∈ w, 1 ≤ x) → exR n (exP i w) = exP i (w.map ((n : Int) * ·))
  | [], _, _ => rfl
  | x :: w, i, h => by
    have hx := h x (by simp)
    obtain ⟨m, rfl⟩ : ∃ m : Nat, x = (m : Int) := ⟨x.toNat, by omega⟩
    simp only [exP, List.map_cons, exR_app, exR_rep, exR_exP n w (i + 1) fun x hx => h x (by simp [hx])]
    congr 2
    have e : (n : Int) * (m : Int) = ((n * m : Nat) : Int) := (Int.natCast_mul n m).symm
    rw [e, Int.toNat_natCast, Int.toNat_natCast, Nat.mul_comm]
theorem stretch_widths {row : List Bool} {n : Nat} (hn : 1 ≤ n) (hall : lm row ≠ row.length) : lm (exR n row) ≠ (exR n row).length ∧ refW (exR n row) = (refW row).map ((n : Int) * ·) := by
  have hparts := row_parts hall
  obtain ⟨_, w1, _, w2⟩ := refW_spec hall
  have hst : exR n row = List.replicate (lm row * n) false ++ (exP 0 ((refW row).map ((n : Int) * ·)) ++ List.replicate (lm row.reverse * n) false) := by
    have := congrArg (exR n) hparts
    rw [exR_app, exR_app, exR_rep, exR_rep, exR_exP n _ _ w1] at this
    exact this
  have w1' : ∀ x ∈ (refW row).map ((n : Int) * ·), 1 ≤ x := fun x hx => by
    obtain ⟨y, hy, rfl⟩ := List.mem_map.1 hx
    have := w1 y hy
    have h2 := Int.mul_le_mul (show (1 : Int) ≤ n by omega) this (by omega) (by omega)
    omega
  have hne : (refW row).map ((n : Int) * ·) ≠ [] := fun h => by
    have := congrArg List.length h
    rw [List.length_map] at this
    rw [this] at w2; simp at w2
  have hlight : lm (exR n row) ≠ (exR n row).length := fun h => by
    have hm : true ∈ exR n row := by
      rw [hst]
      have := exP_head (i := 0) (r := List.replicate (lm row.reverse * n) false) w1' hne
      exact List.mem_append_right _ (List.mem_of_mem_head? (by rw [this]; rfl))
    obtain ⟨i, hi, he⟩ := List.getElem_of_mem hm
    have := (lm_spec (exR n row)).1 i (by omega)
    rw [List.getD_eq_getElem?_getD, List.getElem?_eq_getElem hi, he] at this
    cases this
  refine ⟨hlight, ?_⟩
  have hparts' := row_parts hlight
  obtain ⟨_, v1, _, v2⟩ := refW_spec hlight
  rw [hst] at hparts'
  -- the margin first
  rw [← hst] at hparts'
  have hne' : refW (exR n row) ≠ [] := fun h => by rw [h] at v2; simp at v2
  have h2 := hst.symm.trans hparts'
  obtain ⟨_, h3⟩ := rep_split (b := false) (.inr (exP_head (i := 0) w1' hne)) (.inr (exP_head (i := 0) v1 hne')) h2
  exact (exP_uniq w1' v1 (by simpa using w2) (by simpa using v2) h3).symm
theorem exR_getD {n r : Nat} (hr : r < n) : ∀ {row : List Bool} {q : Nat}, q < row.length → (exR n row).getD (q * n + r) false = row.getD q false
  | [], q, h => by simp at h
  | x :: row, 0, _ => by
    simp only [exR, List.map_cons, List.flatten_cons, Nat.zero_mul, Nat.zero_add]
    rw [List.getD_eq_getElem?_getD, List.getElem?_append_left (by simpa using hr), List.getElem?_replicate, if_pos hr]; rfl
  | x :: row, q + 1, h => by
    have := exR_getD hr (row := row) (q := q) (by simpa using h)
    simp only [exR, List.map_cons, List.flatten_cons] at *
    rw [List.getD_eq_getElem?_getD, List.getElem?_append_right (by simp [Nat.succ_mul]; omega), List.length_replicate, Nat.succ_mul, show q * n + n + r - n = q * n + r by omega, ← List.getD_eq_getElem?_getD, this]
    rfl
theorem shr_stretch {row : List Bool} {n : Nat} (hn : 1 ≤ n) : ∀ i, i ≤ row.length * n → shr (exR n row) n i = some (row.take ((i + n - 1) / n)) := by
  intro i
  induction i with
  | zero =>
    intro _
    rw [show (0 + n - 1) / n = 0 from Nat.div_eq_of_lt (by omega)]; rfl
  | succ i ih =>
    intro hi
    have ih := ih (by omega)
    obtain ⟨q, r, hr, hqr⟩ : ∃ q r, r < n ∧ i = q * n + r := ⟨i / n, i % n, Nat.mod_lt _ (by omega), by rw [Nat.mul_comm]; exact (Nat.div_add_mod i n).symm⟩
    have hq : q < row.length := by
      rcases Nat.lt_or_ge q row.length with h | h
      · exact h
      · have := Nat.mul_le_mul_right n h; omega
    have hg := exR_getD hr hq
    rw [← hqr] at hg
    have hmod : ((i : Nat) : Int).tmod (n : Int) = (r : Int) := by
      have e : ((i : Nat) : Int).tmod (n : Int) = ((i % n : Nat) : Int) := rfl
      rw [e, hqr, Nat.mul_add_mod_self_right, Nat.mod_eq_of_lt hr]
    have hnext : (i + 1 + n - 1) / n = q + 1 := by
      rw [hqr, show q * n + r + 1 + n - 1 = r + (q + 1) * n by rw [Nat.succ_mul]; omega, Nat.add_mul_div_right _ _ (by omega), Nat.div_eq_of_lt hr]; omega
    rw [hnext]
    rcases Nat.eq_zero_or_pos r with h0 | h0
    · have hcur : (i + n - 1) / n = q := by
        rw [hqr, h0, show q * n + 0 + n - 1 = (n - 1) + q * n by omega, Nat.add_mul_div_right _ _ (by omega), Nat.div_eq_of_lt (by omega)]; omega
      rw [hcur] at ih
      unfold shr
      rw [ih]
      rw [take_succ' false hq, ← hg]
      exact if_pos (by rw [hmod, h0]; rfl)
    · have hcur : (i + n - 1) / n = q + 1 := by
        rw [hqr, show q * n + r + n - 1 = (r - 1) + (q + 1) * n by rw [Nat.succ_mul]; omega, Nat.add_mul_div_right _ _ (by omega), Nat.div_eq_of_lt (by omega)]; omega
      rw [hcur] at ih
      refine shr_same ih (by rw [hmod]; omega) ?_
      rw [hg, List.length_take, Nat.min_eq_left (by omega), Nat.add_sub_cancel]
      rw [List.getD_eq_getElem?_getD (l := row.take _), List.getElem?_take, if_pos (by omega), ← List.getD_eq_getElem?_getD]
      exact fun h => h rfl
theorem shrP_stretch {row : List Bool} {n : Nat} (hn : 1 ≤ n) : shrP (exR n row) n = (row, 0) := by
  have h := shr_stretch (row := row) hn (row.length * n) (Nat.le_refl _)
  have hl := exR_len n row
  have e : (row.length * n + n - 1) / n = row.length := by
    rw [show row.length * n + n - 1 = (n - 1) + row.length * n by omega, Nat.add_mul_div_right _ _ (by omega), Nat.div_eq_of_lt (by omega)]; omega
  rw [e, List.take_length] at h
  have hm : (((exR n row).length : Nat) : Int).tmod (n : Int) = 0 := by
    have e : (((exR n row).length : Nat) : Int).tmod (n : Int) = (((exR n row).length % n : Nat) : Int) := rfl
    rw [e, hl, Nat.mul_mod_left]; rfl
  unfold shrP
  rw [if_neg (by omega), if_neg (by rw [hm]; simp), hl, h]
theorem modP_widths {row : List Bool} (hlen : row.length ≤ 65536) (hall : lm row ≠ row.length) : modP (refW row) = ((row.drop (lm row)).take (row.length - lm row.reverse - lm row), 0) := by
  obtain ⟨w0, w1, w2, w3⟩ := refW_spec hall
  have hok : (refW row).any (fun w => !wOk w) = false := by
    rw [List.any_eq_false]
    intro x hx
    have h1 := w1 x hx
    have h2 : x ≤ (refW row).sum := by
      have : ∀ {l : List Int}, (∀ x ∈ l, 1 ≤ x) → ∀ x ∈ l, x ≤ l.sum ∧ 0 ≤ l.sum := by
        intro l
        induction l with
        | nil => intro _ x hx; cases hx
        | cons a l ih =>
          intro h x hx
          have ha := h a (by simp)
          have hs : 0 ≤ l.sum := by
            cases l with
            | nil => simp
            | cons b l => exact (ih (fun x hx => h x (by simp [hx])) b (by simp)).2
          simp only [List.sum_cons]
          rcases List.mem_cons.1 hx with rfl | hx
          · exact ⟨by omega, by omega⟩
          · have := (ih (fun x hx => h x (by simp [hx])) x hx).1
            exact ⟨by omega, by omega⟩
      exact (this w1 x hx).1
    simp only [wOk, Bool.not_eq_true, Bool.not_eq_false', Bool.and_eq_true, decide_eq_true_eq]
    omega
  unfold modP
  rw [if_neg (by omega), if_neg (by omega), if_neg (by rw [hok]; simp), if_neg (by omega), w0]
end Go.Abs.Run

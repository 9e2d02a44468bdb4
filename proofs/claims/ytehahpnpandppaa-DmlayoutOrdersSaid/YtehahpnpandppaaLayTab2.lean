/- A part of the proof: contracts of functions of the program, shown by walking through their code in an abstract machine. Condition: none. -/
import Derived.Test.YtehahpnpandppaaLayAg
set_option linter.unusedVariables false
set_option linter.unusedSimpArgs false
namespace Go.Abs.Lay
open Go Go.Proofs
set_option maxRecDepth 100000

def fillOfR (i : Nat) : Option St := fillR (mOf i) (nOf i) (Nat.mul (mOf i) (nOf i)) 1000 4 0 st0
def eqNL : List Nat → List Nat → Bool
  | [], [] => true
  | a :: l, b :: r => Nat.beq a b && eqNL l r
  | _, _ => false
theorem eqNL_ok : ∀ {l r : List Nat}, eqNL l r = true → l = r
  | [], [], _ => rfl
  | [], _ :: _, h => by simp [eqNL] at h
  | _ :: _, [], h => by simp [eqNL] at h
  | a :: l, b :: r, h => by
    simp only [eqNL, Bool.and_eq_true] at h
    rw [Nat.eq_of_beq_eq_true h.1, eqNL_ok h.2]
def fillSame (i : Nat) : Bool := match fillOf i, fillOfR i with
  | some s, some t => eqNL s.ps t.ps
  | _, _ => false
theorem same_a : (List.range 18).all fillSame = true := by kernel_rfl
theorem same_b : [18, 19].all fillSame = true := by kernel_rfl
theorem same_c : [20].all fillSame = true := by kernel_rfl
theorem same_d : [21].all fillSame = true := by kernel_rfl
theorem same_e : [22].all fillSame = true := by kernel_rfl
theorem same_f : [23].all fillSame = true := by kernel_rfl
theorem same_g : [24, 25, 26, 27, 28, 29].all fillSame = true := by kernel_rfl
theorem fill_same (i : Nat) (hi : i < 30) : fillSame i = true := by
  have a := same_a; have b := same_b; have c := same_c; have d := same_d; have e := same_e; have f := same_f; have g := same_g
  simp only [List.all_eq_true] at a b c d e f g
  have h : i < 18 ∨ i = 18 ∨ i = 19 ∨ i = 20 ∨ i = 21 ∨ i = 22 ∨ i = 23 ∨ i = 24 ∨ i = 25 ∨ i = 26 ∨ i = 27 ∨ i = 28 ∨ i = 29 := by omega
  rcases h with h | h | h | h | h | h | h | h | h | h | h | h | h
  · exact a i (by simpa using h)
  · exact b i (by simp [h])
  · exact b i (by simp [h])
  · exact c i (by simp [h])
  · exact d i (by simp [h])
  · exact e i (by simp [h])
  · exact f i (by simp [h])
  · exact g i (by simp [h])
  · exact g i (by simp [h])
  · exact g i (by simp [h])
  · exact g i (by simp [h])
  · exact g i (by simp [h])
  · exact g i (by simp [h])
theorem fillOfR_some {i : Nat} (hi : i < 30) {s : St} (hs : fillOf i = some s) : ∃ t, fillOfR i = some t ∧ t.ps = s.ps := by
  have h := fill_same i hi
  unfold fillSame at h
  rw [hs] at h
  split at h
  · rename_i s1 t1 h1 h2
    cases h1
    exact ⟨t1, h2, (eqNL_ok h).symm⟩
  · cases h
theorem map_uniq : ∀ i j, i < 30 → j < 30 → mOf i = mOf j → nOf i = nOf j → i = j := by
  have h : ((List.range 30).all fun i => (List.range 30).all fun j => !(Nat.beq (mOf i) (mOf j) && Nat.beq (nOf i) (nOf j)) || Nat.beq i j) = true := by kernel_rfl
  intro i j hi hj h1 h2
  simp only [List.all_eq_true, List.mem_range] at h
  have := h i hi j hj
  rw [h1, h2, Nat.beq_refl, Nat.beq_refl] at this
  exact Nat.eq_of_beq_eq_true (by simpa using this)
end Go.Abs.Lay

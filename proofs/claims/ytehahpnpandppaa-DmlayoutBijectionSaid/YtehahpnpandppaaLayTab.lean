/- A part of the proof: contracts of functions of the program, shown by walking through their code in an abstract machine. Condition: none. -/
import Derived.Test.YtehahpnpandppaaLayAa
set_option linter.unusedVariables false
set_option linter.unusedSimpArgs false
namespace Go.Abs.Lay
open Go Go.Proofs
set_option maxRecDepth 100000

def mL : List Nat := [8, 10, 12, 14, 16, 18, 20, 22, 24, 28, 32, 36, 40, 44, 48, 56, 64, 72, 80, 88, 96, 108, 120, 132, 6, 6, 10, 10, 14, 14]
def nL : List Nat := [8, 10, 12, 14, 16, 18, 20, 22, 24, 28, 32, 36, 40, 44, 48, 56, 64, 72, 80, 88, 96, 108, 120, 132, 16, 28, 24, 32, 32, 44]
def mOf (i : Nat) : Nat := mL.getD i 0
def nOf (i : Nat) : Nat := nL.getD i 0
/-- What fill assigns. -/
def fillOf (i : Nat) : Option St := fillP (mOf i) (nOf i) (Nat.mul (mOf i) (nOf i)) 1000 4 0 st0
/-- No module twice, each within the matrix; as many as there are codewords' bits. -/
def chkPs (N : Nat) : Nat → List Nat → Bool
  | _, [] => true
  | mask, p :: l => Nat.blt p N && !mask.testBit p && chkPs N (Nat.lor mask (Nat.shiftLeft 1 p)) l
def fillOk (i : Nat) : Bool := match fillOf i with
  | some s => chkPs (Nat.mul (mOf i) (nOf i)) 0 s.ps && decide ((s.cnt : Int) = 8 * (col 4 i + col 5 i))
  | none => false
theorem tab_mn : ∀ i, i < 30 → mr i = ((mOf i : Nat) : Int) ∧ mc i = ((nOf i : Nat) : Int) ∧ mOf i ≤ 200 ∧ nOf i ≤ 200 ∧ Nat.mul (mOf i) (nOf i) ∈ modN ∧ 1 ≤ Nat.mul (mOf i) (nOf i) ∧ Nat.mul (mOf i) (nOf i) ≤ 40000 := by
  have h : (List.range 30).all (fun i => decide (mr i = ((mOf i : Nat) : Int)) && (decide (mc i = ((nOf i : Nat) : Int)) && (Nat.ble (mOf i) 200 && (Nat.ble (nOf i) 200 && (modN.any (Nat.beq (Nat.mul (mOf i) (nOf i))) && (Nat.ble 1 (Nat.mul (mOf i) (nOf i)) && Nat.ble (Nat.mul (mOf i) (nOf i)) 40000)))))) = true := by kernel_rfl
  intro i hi
  simp only [List.all_eq_true, List.mem_range, Bool.and_eq_true, decide_eq_true_eq] at h
  obtain ⟨h1, h2, h3, h4, h5, h6, h7⟩ := h i hi
  refine ⟨h1, h2, Nat.le_of_ble_eq_true h3, Nat.le_of_ble_eq_true h4, ?_, Nat.le_of_ble_eq_true h6, Nat.le_of_ble_eq_true h7⟩
  rw [List.any_eq_true] at h5
  obtain ⟨x, hx, e⟩ := h5
  rw [Nat.eq_of_beq_eq_true e]; exact hx
theorem fill_a : (List.range 22).all fillOk = true := by kernel_rfl
theorem fill_b : fillOk 22 = true := by kernel_rfl
theorem fill_c : fillOk 23 = true := by kernel_rfl
theorem fill_d : [24, 25, 26, 27, 28, 29].all fillOk = true := by kernel_rfl
theorem fill_ok (i : Nat) (hi : i < 30) : fillOk i = true := by
  have a := fill_a; have b := fill_b; have c := fill_c; have d := fill_d
  simp only [List.all_eq_true, List.mem_range] at a d
  by_cases h : i < 22
  · exact a i h
  · by_cases h1 : i = 22
    · subst h1; exact b
    · by_cases h2 : i = 23
      · subst h2; exact c
      · refine d i ?_
        simp; omega
end Go.Abs.Lay

/- A part of the proof: contracts of functions of the program, shown by walking through their code in an abstract machine. Condition: none. -/
import Derived.Test.YtehahpnpandppaaLayI
set_option linter.unusedVariables false
set_option linter.unusedSimpArgs false
namespace Go.Abs.Lay
open Go Go.Proofs
-- @TY ty3, ty4, ty22, ty25
set_option maxHeartbeats 1000000

/-- The numbers of data codewords. -/
def dataL : List Nat := [3, 5, 8, 12, 18, 22, 30, 36, 44, 62, 86, 114, 144, 174, 204, 280, 368, 456, 576, 696, 816, 1050, 1304, 1558, 5, 10, 16, 22, 32, 49]
theorem dataOf_list : ∀ i, i < 30 → dataOf i = ((dataL.getD i 0 : Nat) : Int) := by
  have h : (List.range 30).all (fun i => decide (dataOf i = ((dataL.getD i 0 : Nat) : Int))) = true := by kernel_rfl
  intro i hi
  simp only [List.all_eq_true, List.mem_range, decide_eq_true_eq] at h
  exact h i hi
/-- What the reference has found behind the sizes that are left: its number of data codewords (0: none yet) and its row. -/
def pickF (n : Nat) (sq : Bool) : Nat × Nat → List Nat → Nat → Nat × Nat
  | b, [], _ => b
  | b, d :: r, i => pickF n sq (if Nat.ble n d && (Nat.blt i 24 || !sq) && (Nat.beq b.1 0 || Nat.blt d b.1) then (d, i) else b) r (i + 1)
end Go.Abs.Lay

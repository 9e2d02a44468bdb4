/- THE ABSTRACT MACHINE, part U: from a contract to the walk of a law. -/
import Derived.Test.YtehahpnpandppaaAbsT
import Derived.Below
set_option linter.unusedVariables false
set_option linter.unusedSimpArgs false
namespace Go.Abs
open Go Go.RowKit

theorem ACalls.top {P : Program} {f : FuncId} {args : List Value} {args' : Array Value} {w : World} {σ0 : AHeap} {φ0 : BMap} (hr : RH P φ0 σ0 w w.heap.size) (hargs : RVs φ0 args args'.toList) (hro : ∀ b x, σ0.blk b = some x → x.rw = false)
    (h : ACalls P f args σ0 fun v _ => v = .bool true) : Calls P f args' w fun e w' => e = .returned (.bool true) ∧ Below w.heap.size w w' := by
  intro cs
  obtain ⟨v, v', σ', φ', w1, w', frm, rfl, a2, a3, a4, a5, a6, a7, rfl⟩ := h w.heap.size φ0 w args'.toList cs hr hargs
  cases a2.bool_inv
  refine ⟨_, w', frm, ⟨rfl, ⟨a4.os, a4.tape, a4.output, a4.size, fun k hk => a4.kept k hk fun ⟨b, x, p, hx, hrw, _⟩ => ?_⟩⟩, ?_, a6, a7⟩
  · rw [hro b x hx] at hrw; cases hrw
  · show Steps P _ _
    simpa using a5

theorem RH.empty (P : Program) (w : World) : RH P (fun _ => none) empty0 w w.heap.size := ⟨Nat.le_refl _, fun _ _ => rfl, fun b x hx => (by cases hx), fun b c x y p q hx => (by cases hx)⟩

/-- Arguments without blocks. -/
theorem ACalls.top0 {P : Program} {f : FuncId} {args : List Value} {w : World} (hc : args.all closedCell = true) (h : ACalls P f args empty0 fun v _ => v = .bool true) :
    Calls P f args.toArray w fun e w' => e = .returned (.bool true) ∧ Below w.heap.size w w' := by
  refine ACalls.top (RH.empty P w) ⟨rfl, fun i v v' a b => ?_⟩ (fun b x hx => by cases hx) h
  simp only at b
  rw [a] at b; cases b
  simp only [List.all_eq_true] at hc
  have := hc v (List.mem_of_getElem? a)
  unfold closedCell at this
  split at this
  · exact .bool _
  · exact .int _ _
  · exact .string _
  · exact .nilptr
  · exact .nilslice
  · exact .nilmap
  · exact .nilFunc
  · exact .nilIface
  · cases this
end Go.Abs

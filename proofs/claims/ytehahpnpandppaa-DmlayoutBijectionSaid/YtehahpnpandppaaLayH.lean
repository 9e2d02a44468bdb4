/- A part of the proof: contracts of functions of the program, shown by walking through their code in an abstract machine. Condition: none. -/
import Derived.Test.YtehahpnpandppaaLayG
import Derived.Test.YtehahpnpandppaaLayX
set_option linter.unusedVariables false
set_option linter.unusedSimpArgs false
namespace Go.Abs.Lay
open Go Go.Proofs
-- @TY ty3, ty4, ty22, ty25
set_option maxHeartbeats 1000000

/-- A known call that answers with a value without blocks. -/
theorem known_plain {e : Known} (hk : e.Ok Try.prog) (hv : closedCell e.v = true) (hbs : e.bs = []) (σ : AHeap) : ACalls Try.prog e.g e.vs σ fun v σ' => v = e.v ∧ Gr σ σ' := by
  refine ACalls.wf fun hwf => ?_
  obtain ⟨h1, h2, h3⟩ := hk
  refine ACalls.closed (v := e.v) (τ := CH.toA ⟨e.n, e.bs⟩) h1 h3 ⟨e.v, σ.bump e.n, Sh.closed _ hv, rfl, fun _ _ => rfl, fun b => ?_, rfl, ⟨e.n, rfl⟩⟩
  show ShB σ.next (clook e.bs b) (σ.blk (b + σ.next))
  rw [hbs, clook_nil, hwf _ (by omega)]
  exact .none
/-- examples -/
theorem examples (σ : AHeap) : ACalls Try.prog 14 [] σ fun v σ' => v = .bool true ∧ Gr σ σ' := known_plain kEx_ok rfl rfl σ

/-- The number of data codewords of a row of the table. -/
def dataOf (i : Nat) : Int := match ((rowOf sizeCells i).getD 4 (.bool false) : Value) with
  | .int _ d => d
  | _ => 0
theorem dataOf_ok : ∀ i, i < 30 → (rowOf sizeCells i)[4]? = some (.int .i64 (dataOf i)) := by
  have h : (List.range 30).all (fun i => match ((rowOf sizeCells i)[4]? : Option Value) with | some v => eqV 1 v (.int .i64 (dataOf i)) | none => false) = true := by kernel_rfl
  intro i hi
  simp only [List.all_eq_true, List.mem_range] at h
  have := h i hi
  split at this
  · rename_i v hv; rw [hv, eqV_ok 1 _ _ this]
  · cases this
theorem dataOf_big : dataOf 23 = 1558 := by kernel_rfl
/-- The row that Fit takes. -/
def fitKept (n : Int) (sq : Bool) : List Nat := kept (fun i => decide (dataOf i < n)) (if sq then 24 else 30)
def fitRow (n : Int) (sq : Bool) : Nat := (fitKept n sq).getD (minI (fun i => dataOf ((fitKept n sq).getD i 0)) ((fitKept n sq).length - 1)) 0
end Go.Abs.Lay

/- A part of the proof: contracts of functions of the program, shown by walking through their code in an abstract machine. Condition: none. -/
import Derived.Test.YtehahpnpandppaaLayK2
set_option linter.unusedVariables false
set_option linter.unusedSimpArgs false
namespace Go.Abs.Lay
open Go Go.Proofs
set_option maxRecDepth 20000
/-- barscanlaw25.examples -/
def kEx : Known := ⟨14, [], (.bool true), 28017, []⟩
theorem kEx_ok : kEx.Ok Try.prog := Known.mk_ok (n := 60000) (tab := tab2) keys mixed tab2_ok (by kernel_rfl)
end Go.Abs.Lay

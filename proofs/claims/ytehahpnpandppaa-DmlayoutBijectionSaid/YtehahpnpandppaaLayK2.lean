/- A part of the proof: contracts of functions of the program, shown by walking through their code in an abstract machine. Condition: none. -/
import Derived.Test.YtehahpnpandppaaLayK
set_option linter.unusedVariables false
set_option linter.unusedSimpArgs false
namespace Go.Abs.Lay
open Go Go.Proofs
set_option maxRecDepth 20000
def kFit9t : Known := ⟨12, [.int .i64 9, .bool true], (.tuple ([(.agg ([(.int .i64 16), (.int .i64 16), (.int .i64 14), (.int .i64 14), (.int .i64 12), (.int .i64 12), (.int .i64 1)].toArray)), (.int .i64 0)].toArray)), 2533, []⟩
theorem kFit9t_ok : kFit9t.Ok Try.prog := Known.mk_ok (n := 5000) (tab := tab1) keys mixed tab1_ok (by kernel_rfl)
def kFit9f : Known := ⟨12, [.int .i64 9, .bool false], (.tuple ([(.agg ([(.int .i64 8), (.int .i64 32), (.int .i64 6), (.int .i64 14), (.int .i64 10), (.int .i64 11), (.int .i64 1)].toArray)), (.int .i64 0)].toArray)), 2945, []⟩
theorem kFit9f_ok : kFit9f.Ok Try.prog := Known.mk_ok (n := 5000) (tab := tab1) keys mixed tab1_ok (by kernel_rfl)
def kOrder : Known := ⟨15, [.int .i64 8, .int .i64 8], (.tuple ([(.slice (some ⟨978, 0, none⟩) 64 64), (.int .i64 0)].toArray)), 5157, [(978, (.cells [(.int .i64 8), (.int .i64 9), (.int .i64 21), (.int .i64 22), (.int .i64 23), (.int .i64 26), (.int .i64 27), (.int .i64 28), (.int .i64 10), (.int .i64 11), (.int .i64 12), (.int .i64 32), (.int .i64 33), (.int .i64 29), (.int .i64 30), (.int .i64 31), (.int .i64 13), (.int .i64 14), (.int .i64 15), (.int .i64 34), (.int .i64 35), (.int .i64 36), (.int .i64 0), (.int .i64 1), (.int .i64 4), (.int .i64 40), (.int .i64 41), (.int .i64 37), (.int .i64 38), (.int .i64 39), (.int .i64 2), (.int .i64 3), (.int .i64 7), (.int .i64 42), (.int .i64 43), (.int .i64 44), (.int .i64 56), (.int .i64 57), (.int .i64 5), (.int .i64 6), (.int .i64 49), (.int .i64 45), (.int .i64 46), (.int .i64 47), (.int .i64 58), (.int .i64 59), (.int .i64 60), (.int .i64 48), (.int .i64 51), (.int .i64 52), (.int .i64 16), (.int .i64 17), (.int .i64 61), (.int .i64 62), (.int .i64 63), (.int .i64 50), (.int .i64 54), (.int .i64 55), (.int .i64 18), (.int .i64 19), (.int .i64 20), (.int .i64 24), (.int .i64 25), (.int .i64 53)] 3 true))]⟩
theorem kOrder_ok : kOrder.Ok Try.prog := Known.mk_ok (n := 9000) (tab := tab1) keys mixed tab1_ok (by kernel_rfl)
def kOrd : Known := ⟨33, [.int .i64 8, .int .i64 8], (.slice (some ⟨91, 0, none⟩) 64 64), 4268, [(91, (.cells [(.int .i64 8), (.int .i64 9), (.int .i64 21), (.int .i64 22), (.int .i64 23), (.int .i64 26), (.int .i64 27), (.int .i64 28), (.int .i64 10), (.int .i64 11), (.int .i64 12), (.int .i64 32), (.int .i64 33), (.int .i64 29), (.int .i64 30), (.int .i64 31), (.int .i64 13), (.int .i64 14), (.int .i64 15), (.int .i64 34), (.int .i64 35), (.int .i64 36), (.int .i64 0), (.int .i64 1), (.int .i64 4), (.int .i64 40), (.int .i64 41), (.int .i64 37), (.int .i64 38), (.int .i64 39), (.int .i64 2), (.int .i64 3), (.int .i64 7), (.int .i64 42), (.int .i64 43), (.int .i64 44), (.int .i64 56), (.int .i64 57), (.int .i64 5), (.int .i64 6), (.int .i64 49), (.int .i64 45), (.int .i64 46), (.int .i64 47), (.int .i64 58), (.int .i64 59), (.int .i64 60), (.int .i64 48), (.int .i64 51), (.int .i64 52), (.int .i64 16), (.int .i64 17), (.int .i64 61), (.int .i64 62), (.int .i64 63), (.int .i64 50), (.int .i64 54), (.int .i64 55), (.int .i64 18), (.int .i64 19), (.int .i64 20), (.int .i64 24), (.int .i64 25), (.int .i64 53)] 3 true))]⟩
theorem kOrd_ok : kOrd.Ok Try.prog := Known.mk_ok (n := 9000) (tab := tab1) keys mixed tab1_ok (by kernel_rfl)
def tab2 : List Known := [kSizes, kFit9t, kFit9f, kOrder, kOrd]
theorem tab2_ok : ∀ e ∈ tab2, e.Ok Try.prog := fun e he => by
  simp only [tab2, List.mem_cons, List.not_mem_nil, or_false] at he
  rcases he with rfl | rfl | rfl | rfl | rfl
  · exact kSizes_ok
  · exact kFit9t_ok
  · exact kFit9f_ok
  · exact kOrder_ok
  · exact kOrd_ok
end Go.Abs.Lay

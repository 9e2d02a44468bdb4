/-
  No cell of these rows narrows 'for every input' (looked for: loops, veiled, ifaces, maps, wideKeys, modest, calm, conditions, laid).
  DERIVED. THE GIVEN ROWS OF THIS SEAT. 7 by the template 'for every input the law returns true; each argument reads behind the call as it read before'; 0 by the template 'total and deterministic' (their statements: YtehahpnpandppaaTotals.lean).
  GIVEN WITH THE SEED: the statements are not yours to turn. If you find one false, say at which input.
  Laid BY PROGRAM, IN A SANDBOX (cutbox-rows.mjs): the forced cells as the released guide's own fill.sh prints them over the translation 53170b7c8de0ffc1… (all of the seat's roots in one cut). By AI agents, Wed Nov 11 2026. No macro, syntax, notation, axiom, sorry.
-/
import Derived.Test.YtehahpnpandppaaChecked
import GoSem.Claim
import GoSem.ClaimJoined
import GoSem.ClaimMapViews
import Derived.JoinedTies
import Derived.KernelRfl
namespace Go.Proofs.Ytehahpnpandppaa
/- THE CELL 'sum', in the pinned program and in every row, IS THE sha256 OF THE DUMP (.gsa) THAT YtehahpnpandppaaProg.lean LOADS. Nothing in Lean hashes anything: it is a label: what it is worth is what the hold of that sum in a sandbox is worth. -/
noncomputable def Try.pinned : Pinned := { name := "ytehahpnpandppaa", sum := "53170b7c8de0ffc112b49c29188b31c5677e5ed5be07ddc7e285f3d08e2c4f48", checked := Try.checked }
namespace Rows
def none {H : Type} : Left H := { results := [], args := [] }

/-- 'barscanlaw25.DmlayoutSizes': WHATEVER THE INPUT: true; the input reads as it did. -/
def dmlayoutSizesSpec : ChangeSpec := { name := "dmlayoutSizes", fn := fun _ => fun
  | [d1, d2] => { results := [.lit (.bool true)], args := [d1, d2] }
  | _ => none }
def dmlayoutSizesRow : OpenClaim := { program := "ytehahpnpandppaa", sum := "53170b7c8de0ffc112b49c29188b31c5677e5ed5be07ddc7e285f3d08e2c4f48", func := "barscan/barscanlaw25.DmlayoutSizes", spec := "dmlayoutSizes", unfollowed := true, recurses := true, apart := false }
def DmlayoutSizesSaid : Prop := dmlayoutSizesRow.holds Try.pinned (OpenSpec.ofChange dmlayoutSizesSpec)

/-- ITS FALSE NEIGHBOUR: 'it returns false'. Refute it at one input. -/
def dmlayoutSizesWrong : ChangeSpec := { name := "dmlayoutSizes", fn := fun _ => fun
  | [d1, d2] => { results := [.lit (.bool false)], args := [d1, d2] }
  | _ => none }
def DmlayoutSizesWrongFalsely : Prop := dmlayoutSizesRow.holds Try.pinned (OpenSpec.ofChange dmlayoutSizesWrong)

/-- 'barscanlaw25.DmlayoutOrders': WHATEVER THE INPUT: true; the input reads as it did. -/
def dmlayoutOrdersSpec : ChangeSpec := { name := "dmlayoutOrders", fn := fun _ => fun
  | [d1, d2] => { results := [.lit (.bool true)], args := [d1, d2] }
  | _ => none }
def dmlayoutOrdersRow : OpenClaim := { program := "ytehahpnpandppaa", sum := "53170b7c8de0ffc112b49c29188b31c5677e5ed5be07ddc7e285f3d08e2c4f48", func := "barscan/barscanlaw25.DmlayoutOrders", spec := "dmlayoutOrders", unfollowed := true, recurses := true, apart := false }
def DmlayoutOrdersSaid : Prop := dmlayoutOrdersRow.holds Try.pinned (OpenSpec.ofChange dmlayoutOrdersSpec)

/-- ITS FALSE NEIGHBOUR: 'it returns false'. Refute it at one input. -/
def dmlayoutOrdersWrong : ChangeSpec := { name := "dmlayoutOrders", fn := fun _ => fun
  | [d1, d2] => { results := [.lit (.bool false)], args := [d1, d2] }
  | _ => none }
def DmlayoutOrdersWrongFalsely : Prop := dmlayoutOrdersRow.holds Try.pinned (OpenSpec.ofChange dmlayoutOrdersWrong)

/-- 'barscanlaw25.DmlayoutPlaces': WHATEVER THE INPUT: true; the input reads as it did. -/
def dmlayoutPlacesSpec : ChangeSpec := { name := "dmlayoutPlaces", fn := fun _ => fun
  | [d1, d2] => { results := [.lit (.bool true)], args := [d1, d2] }
  | _ => none }
def dmlayoutPlacesRow : OpenClaim := { program := "ytehahpnpandppaa", sum := "53170b7c8de0ffc112b49c29188b31c5677e5ed5be07ddc7e285f3d08e2c4f48", func := "barscan/barscanlaw25.DmlayoutPlaces", spec := "dmlayoutPlaces", unfollowed := true, recurses := true, apart := false }
def DmlayoutPlacesSaid : Prop := dmlayoutPlacesRow.holds Try.pinned (OpenSpec.ofChange dmlayoutPlacesSpec)

/-- ITS FALSE NEIGHBOUR: 'it returns false'. Refute it at one input. -/
def dmlayoutPlacesWrong : ChangeSpec := { name := "dmlayoutPlaces", fn := fun _ => fun
  | [d1, d2] => { results := [.lit (.bool false)], args := [d1, d2] }
  | _ => none }
def DmlayoutPlacesWrongFalsely : Prop := dmlayoutPlacesRow.holds Try.pinned (OpenSpec.ofChange dmlayoutPlacesWrong)

/-- 'barscanlaw25.DmlayoutBijection': WHATEVER THE INPUT: true; the input reads as it did. -/
def dmlayoutBijectionSpec : ChangeSpec := { name := "dmlayoutBijection", fn := fun _ => fun
  | [d] => { results := [.lit (.bool true)], args := [d] }
  | _ => none }
def dmlayoutBijectionRow : OpenClaim := { program := "ytehahpnpandppaa", sum := "53170b7c8de0ffc112b49c29188b31c5677e5ed5be07ddc7e285f3d08e2c4f48", func := "barscan/barscanlaw25.DmlayoutBijection", spec := "dmlayoutBijection", unfollowed := true, recurses := true, apart := false }
def DmlayoutBijectionSaid : Prop := dmlayoutBijectionRow.holds Try.pinned (OpenSpec.ofChange dmlayoutBijectionSpec)

/-- ITS FALSE NEIGHBOUR: 'it returns false'. Refute it at one input. -/
def dmlayoutBijectionWrong : ChangeSpec := { name := "dmlayoutBijection", fn := fun _ => fun
  | [d] => { results := [.lit (.bool false)], args := [d] }
  | _ => none }
def DmlayoutBijectionWrongFalsely : Prop := dmlayoutBijectionRow.holds Try.pinned (OpenSpec.ofChange dmlayoutBijectionWrong)

/-- 'barscanlaw25.DmlayoutFits': WHATEVER THE INPUT: true; the input reads as it did. -/
def dmlayoutFitsSpec : ChangeSpec := { name := "dmlayoutFits", fn := fun _ => fun
  | [d1, d2] => { results := [.lit (.bool true)], args := [d1, d2] }
  | _ => none }
def dmlayoutFitsRow : OpenClaim := { program := "ytehahpnpandppaa", sum := "53170b7c8de0ffc112b49c29188b31c5677e5ed5be07ddc7e285f3d08e2c4f48", func := "barscan/barscanlaw25.DmlayoutFits", spec := "dmlayoutFits", unfollowed := true, recurses := true, apart := false }
def DmlayoutFitsSaid : Prop := dmlayoutFitsRow.holds Try.pinned (OpenSpec.ofChange dmlayoutFitsSpec)

/-- ITS FALSE NEIGHBOUR: 'it returns false'. Refute it at one input. -/
def dmlayoutFitsWrong : ChangeSpec := { name := "dmlayoutFits", fn := fun _ => fun
  | [d1, d2] => { results := [.lit (.bool false)], args := [d1, d2] }
  | _ => none }
def DmlayoutFitsWrongFalsely : Prop := dmlayoutFitsRow.holds Try.pinned (OpenSpec.ofChange dmlayoutFitsWrong)

/-- 'barscanlaw25.DmlayoutExtracts': WHATEVER THE INPUT: true; the input reads as it did. -/
def dmlayoutExtractsSpec : ChangeSpec := { name := "dmlayoutExtracts", fn := fun _ => fun
  | [d] => { results := [.lit (.bool true)], args := [d] }
  | _ => none }
def dmlayoutExtractsRow : OpenClaim := { program := "ytehahpnpandppaa", sum := "53170b7c8de0ffc112b49c29188b31c5677e5ed5be07ddc7e285f3d08e2c4f48", func := "barscan/barscanlaw25.DmlayoutExtracts", spec := "dmlayoutExtracts", unfollowed := true, recurses := true, apart := false }
def DmlayoutExtractsSaid : Prop := dmlayoutExtractsRow.holds Try.pinned (OpenSpec.ofChange dmlayoutExtractsSpec)

/-- ITS FALSE NEIGHBOUR: 'it returns false'. Refute it at one input. -/
def dmlayoutExtractsWrong : ChangeSpec := { name := "dmlayoutExtracts", fn := fun _ => fun
  | [d] => { results := [.lit (.bool false)], args := [d] }
  | _ => none }
def DmlayoutExtractsWrongFalsely : Prop := dmlayoutExtractsRow.holds Try.pinned (OpenSpec.ofChange dmlayoutExtractsWrong)

/-- 'barscanlaw25.DmlayoutRoundTrip': WHATEVER THE INPUT: true; the input reads as it did. -/
def dmlayoutRoundTripSpec : ChangeSpec := { name := "dmlayoutRoundTrip", fn := fun _ => fun
  | [d1, d2] => { results := [.lit (.bool true)], args := [d1, d2] }
  | _ => none }
def dmlayoutRoundTripRow : OpenClaim := { program := "ytehahpnpandppaa", sum := "53170b7c8de0ffc112b49c29188b31c5677e5ed5be07ddc7e285f3d08e2c4f48", func := "barscan/barscanlaw25.DmlayoutRoundTrip", spec := "dmlayoutRoundTrip", unfollowed := true, recurses := true, apart := false }
def DmlayoutRoundTripSaid : Prop := dmlayoutRoundTripRow.holds Try.pinned (OpenSpec.ofChange dmlayoutRoundTripSpec)

/-- ITS FALSE NEIGHBOUR: 'it returns false'. Refute it at one input. -/
def dmlayoutRoundTripWrong : ChangeSpec := { name := "dmlayoutRoundTrip", fn := fun _ => fun
  | [d1, d2] => { results := [.lit (.bool false)], args := [d1, d2] }
  | _ => none }
def DmlayoutRoundTripWrongFalsely : Prop := dmlayoutRoundTripRow.holds Try.pinned (OpenSpec.ofChange dmlayoutRoundTripWrong)

/- THE SECOND FORM. 'bulk': how many values and letters a reading holds, each counted each time it is reached (what is shared counts as often as it is met; a slice's spare places count too). A statement '..UptoSaid' is the law's where the arguments, and the package variables that the reading takes, are together of bulk at most 1048576: NARROWER than '..Said'. Prove '..Said' where nothing that the law and all that it calls make is longer than what came in: it says more and counts as full. Else prove '..UptoSaid'. A law counts once. -/
mutual
def uptoBulk {H : Type} : DataW H → Nat
  | .lit (.string bytes) => bytes.length + 1
  | .lit _ => 1
  | .nil => 1
  | .ptr d => uptoBulk d + 1
  | .slice elems spare => uptoBulkAll elems + uptoBulkAll spare + 1
  | .agg parts => uptoBulkAll parts + 1
  | .iface _ d => uptoBulk d + 1
  | .map entries => uptoBulkEntries entries + 1
  | .held _ => 1
def uptoBulkAll {H : Type} : List (DataW H) → Nat
  | [] => 0
  | d :: r => uptoBulk d + uptoBulkAll r
def uptoBulkEntries {H : Type} : List (Lit × DataW H) → Nat
  | [] => 0
  | x :: r => uptoBulkEntry x + uptoBulkEntries r
def uptoBulkEntry {H : Type} : Lit × DataW H → Nat
  | (.string bytes, d) => bytes.length + uptoBulk d + 1
  | (_, d) => uptoBulk d + 1
 end
def uptoSmall : (H : Type) → List (DataW H) → Bool := fun _ ds => decide (uptoBulkAll ds ≤ 1048576)
def OpenSpec.upto (s : _root_.Go.ChangeSpec) : _root_.Go.OpenSpec := { _root_.Go.OpenSpec.ofChange s with cond := some uptoSmall }

/-- 'barscanlaw25.DmlayoutSizes', WHERE WHAT IT READS IS OF BULK AT MOST 1048576: true; the input reads as it did. -/
def dmlayoutSizesUptoRow : OpenClaim := { program := "ytehahpnpandppaa", sum := "53170b7c8de0ffc112b49c29188b31c5677e5ed5be07ddc7e285f3d08e2c4f48", func := "barscan/barscanlaw25.DmlayoutSizes", spec := "dmlayoutSizes", unfollowed := true, recurses := true, apart := false, narrowed := true }
def DmlayoutSizesUptoSaid : Prop := dmlayoutSizesUptoRow.holds Try.pinned (OpenSpec.upto dmlayoutSizesSpec)

/-- 'barscanlaw25.DmlayoutOrders', WHERE WHAT IT READS IS OF BULK AT MOST 1048576: true; the input reads as it did. -/
def dmlayoutOrdersUptoRow : OpenClaim := { program := "ytehahpnpandppaa", sum := "53170b7c8de0ffc112b49c29188b31c5677e5ed5be07ddc7e285f3d08e2c4f48", func := "barscan/barscanlaw25.DmlayoutOrders", spec := "dmlayoutOrders", unfollowed := true, recurses := true, apart := false, narrowed := true }
def DmlayoutOrdersUptoSaid : Prop := dmlayoutOrdersUptoRow.holds Try.pinned (OpenSpec.upto dmlayoutOrdersSpec)

/-- 'barscanlaw25.DmlayoutPlaces', WHERE WHAT IT READS IS OF BULK AT MOST 1048576: true; the input reads as it did. -/
def dmlayoutPlacesUptoRow : OpenClaim := { program := "ytehahpnpandppaa", sum := "53170b7c8de0ffc112b49c29188b31c5677e5ed5be07ddc7e285f3d08e2c4f48", func := "barscan/barscanlaw25.DmlayoutPlaces", spec := "dmlayoutPlaces", unfollowed := true, recurses := true, apart := false, narrowed := true }
def DmlayoutPlacesUptoSaid : Prop := dmlayoutPlacesUptoRow.holds Try.pinned (OpenSpec.upto dmlayoutPlacesSpec)

/-- 'barscanlaw25.DmlayoutBijection', WHERE WHAT IT READS IS OF BULK AT MOST 1048576: true; the input reads as it did. -/
def dmlayoutBijectionUptoRow : OpenClaim := { program := "ytehahpnpandppaa", sum := "53170b7c8de0ffc112b49c29188b31c5677e5ed5be07ddc7e285f3d08e2c4f48", func := "barscan/barscanlaw25.DmlayoutBijection", spec := "dmlayoutBijection", unfollowed := true, recurses := true, apart := false, narrowed := true }
def DmlayoutBijectionUptoSaid : Prop := dmlayoutBijectionUptoRow.holds Try.pinned (OpenSpec.upto dmlayoutBijectionSpec)

/-- 'barscanlaw25.DmlayoutFits', WHERE WHAT IT READS IS OF BULK AT MOST 1048576: true; the input reads as it did. -/
def dmlayoutFitsUptoRow : OpenClaim := { program := "ytehahpnpandppaa", sum := "53170b7c8de0ffc112b49c29188b31c5677e5ed5be07ddc7e285f3d08e2c4f48", func := "barscan/barscanlaw25.DmlayoutFits", spec := "dmlayoutFits", unfollowed := true, recurses := true, apart := false, narrowed := true }
def DmlayoutFitsUptoSaid : Prop := dmlayoutFitsUptoRow.holds Try.pinned (OpenSpec.upto dmlayoutFitsSpec)

/-- 'barscanlaw25.DmlayoutExtracts', WHERE WHAT IT READS IS OF BULK AT MOST 1048576: true; the input reads as it did. -/
def dmlayoutExtractsUptoRow : OpenClaim := { program := "ytehahpnpandppaa", sum := "53170b7c8de0ffc112b49c29188b31c5677e5ed5be07ddc7e285f3d08e2c4f48", func := "barscan/barscanlaw25.DmlayoutExtracts", spec := "dmlayoutExtracts", unfollowed := true, recurses := true, apart := false, narrowed := true }
def DmlayoutExtractsUptoSaid : Prop := dmlayoutExtractsUptoRow.holds Try.pinned (OpenSpec.upto dmlayoutExtractsSpec)

/-- 'barscanlaw25.DmlayoutRoundTrip', WHERE WHAT IT READS IS OF BULK AT MOST 1048576: true; the input reads as it did. -/
def dmlayoutRoundTripUptoRow : OpenClaim := { program := "ytehahpnpandppaa", sum := "53170b7c8de0ffc112b49c29188b31c5677e5ed5be07ddc7e285f3d08e2c4f48", func := "barscan/barscanlaw25.DmlayoutRoundTrip", spec := "dmlayoutRoundTrip", unfollowed := true, recurses := true, apart := false, narrowed := true }
def DmlayoutRoundTripUptoSaid : Prop := dmlayoutRoundTripUptoRow.holds Try.pinned (OpenSpec.upto dmlayoutRoundTripSpec)

end Rows
end Go.Proofs.Ytehahpnpandppaa

/-
  No cell of these rows narrows 'for every input' (looked for: loops, veiled, ifaces, maps, wideKeys, modest, calm, conditions, laid).
  DERIVED. THE GIVEN ROWS OF THIS SEAT. 5 by the template 'for every input the law returns true; each argument reads behind the call as it read before'; 0 by the template 'total and deterministic' (their statements: YtebhdjeognpljaaTotals.lean).
  GIVEN WITH THE SEED: the statements are not yours to turn. If you find one false, say at which input.
  Laid BY PROGRAM, IN A SANDBOX (cutbox-rows.mjs): the forced cells as the released guide's own fill.sh prints them over the translation 032d2442e36c1449… (all of the seat's roots in one cut). By AI agents, Wed Nov 11 2026. No macro, syntax, notation, axiom, sorry.
-/
import Derived.Test.YtebhdjeognpljaaChecked
import GoSem.Claim
import GoSem.ClaimJoined
import GoSem.ClaimMapViews
import Derived.JoinedTies
import Derived.KernelRfl
namespace Go.Proofs.Ytebhdjeognpljaa
/- THE CELL 'sum', in the pinned program and in every row, IS THE sha256 OF THE DUMP (.gsa) THAT YtebhdjeognpljaaProg.lean LOADS. Nothing in Lean hashes anything: it is a label: what it is worth is what the hold of that sum in a sandbox is worth. -/
noncomputable def Try.pinned : Pinned := { name := "ytebhdjeognpljaa", sum := "032d2442e36c1449224e6b3f4ea9751265668e02a709173293dcf4343cb7029d", checked := Try.checked }
namespace Rows
def none {H : Type} : Left H := { results := [], args := [] }

/-- 'priorartlaw06.ThingValid': WHATEVER THE INPUT: true; the input reads as it did. -/
def thingValidSpec : ChangeSpec := { name := "thingValid", fn := fun _ => fun
  | [d1, d2, d3, d4, d5] => { results := [.lit (.bool true)], args := [d1, d2, d3, d4, d5] }
  | _ => none }
def thingValidRow : OpenClaim := { program := "ytebhdjeognpljaa", sum := "032d2442e36c1449224e6b3f4ea9751265668e02a709173293dcf4343cb7029d", func := "priorart/priorartlaw06.ThingValid", spec := "thingValid", unfollowed := true, recurses := true, apart := false }
def ThingValidSaid : Prop := thingValidRow.holds Try.pinned (OpenSpec.ofChange thingValidSpec)

/-- ITS FALSE NEIGHBOUR: 'it returns false'. Refute it at one input. -/
def thingValidWrong : ChangeSpec := { name := "thingValid", fn := fun _ => fun
  | [d1, d2, d3, d4, d5] => { results := [.lit (.bool false)], args := [d1, d2, d3, d4, d5] }
  | _ => none }
def ThingValidWrongFalsely : Prop := thingValidRow.holds Try.pinned (OpenSpec.ofChange thingValidWrong)

/-- 'priorartlaw06.ThingValues': WHATEVER THE INPUT: true; the input reads as it did. -/
def thingValuesSpec : ChangeSpec := { name := "thingValues", fn := fun _ => fun
  | [d1, d2, d3] => { results := [.lit (.bool true)], args := [d1, d2, d3] }
  | _ => none }
def thingValuesRow : OpenClaim := { program := "ytebhdjeognpljaa", sum := "032d2442e36c1449224e6b3f4ea9751265668e02a709173293dcf4343cb7029d", func := "priorart/priorartlaw06.ThingValues", spec := "thingValues", unfollowed := true, recurses := true, apart := false }
def ThingValuesSaid : Prop := thingValuesRow.holds Try.pinned (OpenSpec.ofChange thingValuesSpec)

/-- ITS FALSE NEIGHBOUR: 'it returns false'. Refute it at one input. -/
def thingValuesWrong : ChangeSpec := { name := "thingValues", fn := fun _ => fun
  | [d1, d2, d3] => { results := [.lit (.bool false)], args := [d1, d2, d3] }
  | _ => none }
def ThingValuesWrongFalsely : Prop := thingValuesRow.holds Try.pinned (OpenSpec.ofChange thingValuesWrong)

/-- 'priorartlaw06.ThingHash': WHATEVER THE INPUT: true; the input reads as it did. -/
def thingHashSpec : ChangeSpec := { name := "thingHash", fn := fun _ => fun
  | [d1, d2, d3] => { results := [.lit (.bool true)], args := [d1, d2, d3] }
  | _ => none }
def thingHashRow : OpenClaim := { program := "ytebhdjeognpljaa", sum := "032d2442e36c1449224e6b3f4ea9751265668e02a709173293dcf4343cb7029d", func := "priorart/priorartlaw06.ThingHash", spec := "thingHash", unfollowed := true, recurses := true, apart := false }
def ThingHashSaid : Prop := thingHashRow.holds Try.pinned (OpenSpec.ofChange thingHashSpec)

/-- ITS FALSE NEIGHBOUR: 'it returns false'. Refute it at one input. -/
def thingHashWrong : ChangeSpec := { name := "thingHash", fn := fun _ => fun
  | [d1, d2, d3] => { results := [.lit (.bool false)], args := [d1, d2, d3] }
  | _ => none }
def ThingHashWrongFalsely : Prop := thingHashRow.holds Try.pinned (OpenSpec.ofChange thingHashWrong)

/-- 'priorartlaw06.ThingOrder': WHATEVER THE INPUT: true; the input reads as it did. -/
def thingOrderSpec : ChangeSpec := { name := "thingOrder", fn := fun _ => fun
  | [d1, d2, d3, d4, d5] => { results := [.lit (.bool true)], args := [d1, d2, d3, d4, d5] }
  | _ => none }
def thingOrderRow : OpenClaim := { program := "ytebhdjeognpljaa", sum := "032d2442e36c1449224e6b3f4ea9751265668e02a709173293dcf4343cb7029d", func := "priorart/priorartlaw06.ThingOrder", spec := "thingOrder", unfollowed := true, recurses := true, apart := false }
def ThingOrderSaid : Prop := thingOrderRow.holds Try.pinned (OpenSpec.ofChange thingOrderSpec)

/-- ITS FALSE NEIGHBOUR: 'it returns false'. Refute it at one input. -/
def thingOrderWrong : ChangeSpec := { name := "thingOrder", fn := fun _ => fun
  | [d1, d2, d3, d4, d5] => { results := [.lit (.bool false)], args := [d1, d2, d3, d4, d5] }
  | _ => none }
def ThingOrderWrongFalsely : Prop := thingOrderRow.holds Try.pinned (OpenSpec.ofChange thingOrderWrong)

/-- 'priorartlaw06.ThingBytes': WHATEVER THE INPUT: true; the input reads as it did. -/
def thingBytesSpec : ChangeSpec := { name := "thingBytes", fn := fun _ => fun
  | [d1, d2, d3, d4, d5, d6, d7] => { results := [.lit (.bool true)], args := [d1, d2, d3, d4, d5, d6, d7] }
  | _ => none }
def thingBytesRow : OpenClaim := { program := "ytebhdjeognpljaa", sum := "032d2442e36c1449224e6b3f4ea9751265668e02a709173293dcf4343cb7029d", func := "priorart/priorartlaw06.ThingBytes", spec := "thingBytes", unfollowed := true, recurses := true, apart := false }
def ThingBytesSaid : Prop := thingBytesRow.holds Try.pinned (OpenSpec.ofChange thingBytesSpec)

/-- ITS FALSE NEIGHBOUR: 'it returns false'. Refute it at one input. -/
def thingBytesWrong : ChangeSpec := { name := "thingBytes", fn := fun _ => fun
  | [d1, d2, d3, d4, d5, d6, d7] => { results := [.lit (.bool false)], args := [d1, d2, d3, d4, d5, d6, d7] }
  | _ => none }
def ThingBytesWrongFalsely : Prop := thingBytesRow.holds Try.pinned (OpenSpec.ofChange thingBytesWrong)

/- THE SECOND FORM. 'bulk': how many values and letters a reading holds, each counted each time it is reached (what is shared counts as often as it is met; a slice's spare places count too). A statement '..UptoSaid' is the law's where the arguments, and the package variables that the reading takes, are together of bulk at most 1048576: NARROWER than '..Said'. Prove '..Said' where nothing that the law and all that it calls make is longer than what came in: it says more and counts as full. Else prove '..UptoSaid'. A law counts once. -/
mutual
def uptoBulk {H : Type} : DataW H → Nat
  | .lit (.string bytes) => bytes.length + 1
  | .lit _ => 1
  | .nil => 1
  | .ptr d => uptoBulk d + 1
  | .slice elems spare => uptoBulkAll elems + uptoBulkAll spare + 1
  | .agg parts => uptoBulkAll parts + 1
  | .iface _ d => uptoBulk d + 1
  | .map entries => uptoBulkEntries entries + 1
  | .held _ => 1
def uptoBulkAll {H : Type} : List (DataW H) → Nat
  | [] => 0
  | d :: r => uptoBulk d + uptoBulkAll r
def uptoBulkEntries {H : Type} : List (Lit × DataW H) → Nat
  | [] => 0
  | x :: r => uptoBulkEntry x + uptoBulkEntries r
def uptoBulkEntry {H : Type} : Lit × DataW H → Nat
  | (.string bytes, d) => bytes.length + uptoBulk d + 1
  | (_, d) => uptoBulk d + 1
 end
def uptoSmall : (H : Type) → List (DataW H) → Bool := fun _ ds => decide (uptoBulkAll ds ≤ 1048576)
def OpenSpec.upto (s : _root_.Go.ChangeSpec) : _root_.Go.OpenSpec := { _root_.Go.OpenSpec.ofChange s with cond := some uptoSmall }

/-- 'priorartlaw06.ThingValid', WHERE WHAT IT READS IS OF BULK AT MOST 1048576: true; the input reads as it did. -/
def thingValidUptoRow : OpenClaim := { program := "ytebhdjeognpljaa", sum := "032d2442e36c1449224e6b3f4ea9751265668e02a709173293dcf4343cb7029d", func := "priorart/priorartlaw06.ThingValid", spec := "thingValid", unfollowed := true, recurses := true, apart := false, narrowed := true }
def ThingValidUptoSaid : Prop := thingValidUptoRow.holds Try.pinned (OpenSpec.upto thingValidSpec)

/-- 'priorartlaw06.ThingValues', WHERE WHAT IT READS IS OF BULK AT MOST 1048576: true; the input reads as it did. -/
def thingValuesUptoRow : OpenClaim := { program := "ytebhdjeognpljaa", sum := "032d2442e36c1449224e6b3f4ea9751265668e02a709173293dcf4343cb7029d", func := "priorart/priorartlaw06.ThingValues", spec := "thingValues", unfollowed := true, recurses := true, apart := false, narrowed := true }
def ThingValuesUptoSaid : Prop := thingValuesUptoRow.holds Try.pinned (OpenSpec.upto thingValuesSpec)

/-- 'priorartlaw06.ThingHash', WHERE WHAT IT READS IS OF BULK AT MOST 1048576: true; the input reads as it did. -/
def thingHashUptoRow : OpenClaim := { program := "ytebhdjeognpljaa", sum := "032d2442e36c1449224e6b3f4ea9751265668e02a709173293dcf4343cb7029d", func := "priorart/priorartlaw06.ThingHash", spec := "thingHash", unfollowed := true, recurses := true, apart := false, narrowed := true }
def ThingHashUptoSaid : Prop := thingHashUptoRow.holds Try.pinned (OpenSpec.upto thingHashSpec)

/-- 'priorartlaw06.ThingOrder', WHERE WHAT IT READS IS OF BULK AT MOST 1048576: true; the input reads as it did. -/
def thingOrderUptoRow : OpenClaim := { program := "ytebhdjeognpljaa", sum := "032d2442e36c1449224e6b3f4ea9751265668e02a709173293dcf4343cb7029d", func := "priorart/priorartlaw06.ThingOrder", spec := "thingOrder", unfollowed := true, recurses := true, apart := false, narrowed := true }
def ThingOrderUptoSaid : Prop := thingOrderUptoRow.holds Try.pinned (OpenSpec.upto thingOrderSpec)

/-- 'priorartlaw06.ThingBytes', WHERE WHAT IT READS IS OF BULK AT MOST 1048576: true; the input reads as it did. -/
def thingBytesUptoRow : OpenClaim := { program := "ytebhdjeognpljaa", sum := "032d2442e36c1449224e6b3f4ea9751265668e02a709173293dcf4343cb7029d", func := "priorart/priorartlaw06.ThingBytes", spec := "thingBytes", unfollowed := true, recurses := true, apart := false, narrowed := true }
def ThingBytesUptoSaid : Prop := thingBytesUptoRow.holds Try.pinned (OpenSpec.upto thingBytesSpec)

end Rows
end Go.Proofs.Ytebhdjeognpljaa

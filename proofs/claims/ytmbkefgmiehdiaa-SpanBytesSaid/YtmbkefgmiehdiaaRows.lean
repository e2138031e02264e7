/-
  No cell of these rows narrows 'for every input' (looked for: loops, veiled, ifaces, maps, wideKeys, modest, calm, conditions, laid).
  DERIVED. THE GIVEN ROWS OF THIS SEAT. 6 by the template 'for every input the law returns true; each argument reads behind the call as it read before'; 0 by the template 'total and deterministic' (their statements: YtmbkefgmiehdiaaTotals.lean).
  GIVEN WITH THE SEED: the statements are not yours to turn. If you find one false, say at which input.
  Laid BY PROGRAM, IN A SANDBOX (cutbox-rows.mjs): the forced cells as the released guide's own fill.sh prints them over the translation 16fe6ee92555ab3c… (all of the seat's roots in one cut). By AI agents, Wed Nov 11 2026. No macro, syntax, notation, axiom, sorry.
-/
import Derived.Test.YtmbkefgmiehdiaaChecked
import GoSem.Claim
import GoSem.ClaimJoined
import GoSem.ClaimMapViews
import Derived.JoinedTies
import Derived.KernelRfl
namespace Go.Proofs.Ytmbkefgmiehdiaa
/- THE CELL 'sum', in the pinned program and in every row, IS THE sha256 OF THE DUMP (.gsa) THAT YtmbkefgmiehdiaaProg.lean LOADS. Nothing in Lean hashes anything: it is a label: what it is worth is what the hold of that sum in a sandbox is worth. -/
noncomputable def Try.pinned : Pinned := { name := "ytmbkefgmiehdiaa", sum := "16fe6ee92555ab3ce32560e1f590940ff9674cc64654ff2243b896d32d659af3", checked := Try.checked }
namespace Rows
def none {H : Type} : Left H := { results := [], args := [] }

/-- 'priorartlaw04.SpanCombine': WHATEVER THE INPUT: true; the input reads as it did. -/
def spanCombineSpec : ChangeSpec := { name := "spanCombine", fn := fun _ => fun
  | [d1, d2, d3, d4, d5] => { results := [.lit (.bool true)], args := [d1, d2, d3, d4, d5] }
  | _ => none }
def spanCombineRow : OpenClaim := { program := "ytmbkefgmiehdiaa", sum := "16fe6ee92555ab3ce32560e1f590940ff9674cc64654ff2243b896d32d659af3", func := "priorart/priorartlaw04.SpanCombine", spec := "spanCombine", unfollowed := true, recurses := true, apart := false }
def SpanCombineSaid : Prop := spanCombineRow.holds Try.pinned (OpenSpec.ofChange spanCombineSpec)

/-- ITS FALSE NEIGHBOUR: 'it returns false'. Refute it at one input. -/
def spanCombineWrong : ChangeSpec := { name := "spanCombine", fn := fun _ => fun
  | [d1, d2, d3, d4, d5] => { results := [.lit (.bool false)], args := [d1, d2, d3, d4, d5] }
  | _ => none }
def SpanCombineWrongFalsely : Prop := spanCombineRow.holds Try.pinned (OpenSpec.ofChange spanCombineWrong)

/-- 'priorartlaw04.SpanPicks': WHATEVER THE INPUT: true; the input reads as it did. -/
def spanPicksSpec : ChangeSpec := { name := "spanPicks", fn := fun _ => fun
  | [d1, d2, d3, d4] => { results := [.lit (.bool true)], args := [d1, d2, d3, d4] }
  | _ => none }
def spanPicksRow : OpenClaim := { program := "ytmbkefgmiehdiaa", sum := "16fe6ee92555ab3ce32560e1f590940ff9674cc64654ff2243b896d32d659af3", func := "priorart/priorartlaw04.SpanPicks", spec := "spanPicks", unfollowed := true, recurses := true, apart := false }
def SpanPicksSaid : Prop := spanPicksRow.holds Try.pinned (OpenSpec.ofChange spanPicksSpec)

/-- ITS FALSE NEIGHBOUR: 'it returns false'. Refute it at one input. -/
def spanPicksWrong : ChangeSpec := { name := "spanPicks", fn := fun _ => fun
  | [d1, d2, d3, d4] => { results := [.lit (.bool false)], args := [d1, d2, d3, d4] }
  | _ => none }
def SpanPicksWrongFalsely : Prop := spanPicksRow.holds Try.pinned (OpenSpec.ofChange spanPicksWrong)

/-- 'priorartlaw04.SpanAlgebra': WHATEVER THE INPUT: true; the input reads as it did. -/
def spanAlgebraSpec : ChangeSpec := { name := "spanAlgebra", fn := fun _ => fun
  | [d1, d2, d3] => { results := [.lit (.bool true)], args := [d1, d2, d3] }
  | _ => none }
def spanAlgebraRow : OpenClaim := { program := "ytmbkefgmiehdiaa", sum := "16fe6ee92555ab3ce32560e1f590940ff9674cc64654ff2243b896d32d659af3", func := "priorart/priorartlaw04.SpanAlgebra", spec := "spanAlgebra", unfollowed := true, recurses := true, apart := false }
def SpanAlgebraSaid : Prop := spanAlgebraRow.holds Try.pinned (OpenSpec.ofChange spanAlgebraSpec)

/-- ITS FALSE NEIGHBOUR: 'it returns false'. Refute it at one input. -/
def spanAlgebraWrong : ChangeSpec := { name := "spanAlgebra", fn := fun _ => fun
  | [d1, d2, d3] => { results := [.lit (.bool false)], args := [d1, d2, d3] }
  | _ => none }
def SpanAlgebraWrongFalsely : Prop := spanAlgebraRow.holds Try.pinned (OpenSpec.ofChange spanAlgebraWrong)

/-- 'priorartlaw04.SpanNormal': WHATEVER THE INPUT: true; the input reads as it did. -/
def spanNormalSpec : ChangeSpec := { name := "spanNormal", fn := fun _ => fun
  | [d1, d2, d3, d4, d5, d6] => { results := [.lit (.bool true)], args := [d1, d2, d3, d4, d5, d6] }
  | _ => none }
def spanNormalRow : OpenClaim := { program := "ytmbkefgmiehdiaa", sum := "16fe6ee92555ab3ce32560e1f590940ff9674cc64654ff2243b896d32d659af3", func := "priorart/priorartlaw04.SpanNormal", spec := "spanNormal", unfollowed := true, recurses := true, apart := false }
def SpanNormalSaid : Prop := spanNormalRow.holds Try.pinned (OpenSpec.ofChange spanNormalSpec)

/-- ITS FALSE NEIGHBOUR: 'it returns false'. Refute it at one input. -/
def spanNormalWrong : ChangeSpec := { name := "spanNormal", fn := fun _ => fun
  | [d1, d2, d3, d4, d5, d6] => { results := [.lit (.bool false)], args := [d1, d2, d3, d4, d5, d6] }
  | _ => none }
def SpanNormalWrongFalsely : Prop := spanNormalRow.holds Try.pinned (OpenSpec.ofChange spanNormalWrong)

/-- 'priorartlaw04.SpanNumbers': WHATEVER THE INPUT: true; the input reads as it did. -/
def spanNumbersSpec : ChangeSpec := { name := "spanNumbers", fn := fun _ => fun
  | [d1, d2, d3, d4] => { results := [.lit (.bool true)], args := [d1, d2, d3, d4] }
  | _ => none }
def spanNumbersRow : OpenClaim := { program := "ytmbkefgmiehdiaa", sum := "16fe6ee92555ab3ce32560e1f590940ff9674cc64654ff2243b896d32d659af3", func := "priorart/priorartlaw04.SpanNumbers", spec := "spanNumbers", unfollowed := true, recurses := true, apart := false }
def SpanNumbersSaid : Prop := spanNumbersRow.holds Try.pinned (OpenSpec.ofChange spanNumbersSpec)

/-- ITS FALSE NEIGHBOUR: 'it returns false'. Refute it at one input. -/
def spanNumbersWrong : ChangeSpec := { name := "spanNumbers", fn := fun _ => fun
  | [d1, d2, d3, d4] => { results := [.lit (.bool false)], args := [d1, d2, d3, d4] }
  | _ => none }
def SpanNumbersWrongFalsely : Prop := spanNumbersRow.holds Try.pinned (OpenSpec.ofChange spanNumbersWrong)

/-- 'priorartlaw04.SpanBytes': WHATEVER THE INPUT: true; the input reads as it did. -/
def spanBytesSpec : ChangeSpec := { name := "spanBytes", fn := fun _ => fun
  | [d1, d2, d3, d4, d5, d6] => { results := [.lit (.bool true)], args := [d1, d2, d3, d4, d5, d6] }
  | _ => none }
def spanBytesRow : OpenClaim := { program := "ytmbkefgmiehdiaa", sum := "16fe6ee92555ab3ce32560e1f590940ff9674cc64654ff2243b896d32d659af3", func := "priorart/priorartlaw04.SpanBytes", spec := "spanBytes", unfollowed := true, recurses := true, apart := false }
def SpanBytesSaid : Prop := spanBytesRow.holds Try.pinned (OpenSpec.ofChange spanBytesSpec)

/-- ITS FALSE NEIGHBOUR: 'it returns false'. Refute it at one input. -/
def spanBytesWrong : ChangeSpec := { name := "spanBytes", fn := fun _ => fun
  | [d1, d2, d3, d4, d5, d6] => { results := [.lit (.bool false)], args := [d1, d2, d3, d4, d5, d6] }
  | _ => none }
def SpanBytesWrongFalsely : Prop := spanBytesRow.holds Try.pinned (OpenSpec.ofChange spanBytesWrong)

/- THE SECOND FORM. 'bulk': how many values and letters a reading holds, each counted each time it is reached (what is shared counts as often as it is met; a slice's spare places count too). A statement '..UptoSaid' is the law's where the arguments, and the package variables that the reading takes, are together of bulk at most 1048576: NARROWER than '..Said'. Prove '..Said' where nothing that the law and all that it calls make is longer than what came in: it says more and counts as full. Else prove '..UptoSaid'. A law counts once. -/
mutual
def uptoBulk {H : Type} : DataW H → Nat
  | .lit (.string bytes) => bytes.length + 1
  | .lit _ => 1
  | .nil => 1
  | .ptr d => uptoBulk d + 1
  | .slice elems spare => uptoBulkAll elems + uptoBulkAll spare + 1
  | .agg parts => uptoBulkAll parts + 1
  | .iface _ d => uptoBulk d + 1
  | .map entries => uptoBulkEntries entries + 1
  | .held _ => 1
def uptoBulkAll {H : Type} : List (DataW H) → Nat
  | [] => 0
  | d :: r => uptoBulk d + uptoBulkAll r
def uptoBulkEntries {H : Type} : List (Lit × DataW H) → Nat
  | [] => 0
  | x :: r => uptoBulkEntry x + uptoBulkEntries r
def uptoBulkEntry {H : Type} : Lit × DataW H → Nat
  | (.string bytes, d) => bytes.length + uptoBulk d + 1
  | (_, d) => uptoBulk d + 1
 end
def uptoSmall : (H : Type) → List (DataW H) → Bool := fun _ ds => decide (uptoBulkAll ds ≤ 1048576)
def OpenSpec.upto (s : _root_.Go.ChangeSpec) : _root_.Go.OpenSpec := { _root_.Go.OpenSpec.ofChange s with cond := some uptoSmall }

/-- 'priorartlaw04.SpanCombine', WHERE WHAT IT READS IS OF BULK AT MOST 1048576: true; the input reads as it did. -/
def spanCombineUptoRow : OpenClaim := { program := "ytmbkefgmiehdiaa", sum := "16fe6ee92555ab3ce32560e1f590940ff9674cc64654ff2243b896d32d659af3", func := "priorart/priorartlaw04.SpanCombine", spec := "spanCombine", unfollowed := true, recurses := true, apart := false, narrowed := true }
def SpanCombineUptoSaid : Prop := spanCombineUptoRow.holds Try.pinned (OpenSpec.upto spanCombineSpec)

/-- 'priorartlaw04.SpanPicks', WHERE WHAT IT READS IS OF BULK AT MOST 1048576: true; the input reads as it did. -/
def spanPicksUptoRow : OpenClaim := { program := "ytmbkefgmiehdiaa", sum := "16fe6ee92555ab3ce32560e1f590940ff9674cc64654ff2243b896d32d659af3", func := "priorart/priorartlaw04.SpanPicks", spec := "spanPicks", unfollowed := true, recurses := true, apart := false, narrowed := true }
def SpanPicksUptoSaid : Prop := spanPicksUptoRow.holds Try.pinned (OpenSpec.upto spanPicksSpec)

/-- 'priorartlaw04.SpanAlgebra', WHERE WHAT IT READS IS OF BULK AT MOST 1048576: true; the input reads as it did. -/
def spanAlgebraUptoRow : OpenClaim := { program := "ytmbkefgmiehdiaa", sum := "16fe6ee92555ab3ce32560e1f590940ff9674cc64654ff2243b896d32d659af3", func := "priorart/priorartlaw04.SpanAlgebra", spec := "spanAlgebra", unfollowed := true, recurses := true, apart := false, narrowed := true }
def SpanAlgebraUptoSaid : Prop := spanAlgebraUptoRow.holds Try.pinned (OpenSpec.upto spanAlgebraSpec)

/-- 'priorartlaw04.SpanNormal', WHERE WHAT IT READS IS OF BULK AT MOST 1048576: true; the input reads as it did. -/
def spanNormalUptoRow : OpenClaim := { program := "ytmbkefgmiehdiaa", sum := "16fe6ee92555ab3ce32560e1f590940ff9674cc64654ff2243b896d32d659af3", func := "priorart/priorartlaw04.SpanNormal", spec := "spanNormal", unfollowed := true, recurses := true, apart := false, narrowed := true }
def SpanNormalUptoSaid : Prop := spanNormalUptoRow.holds Try.pinned (OpenSpec.upto spanNormalSpec)

/-- 'priorartlaw04.SpanNumbers', WHERE WHAT IT READS IS OF BULK AT MOST 1048576: true; the input reads as it did. -/
def spanNumbersUptoRow : OpenClaim := { program := "ytmbkefgmiehdiaa", sum := "16fe6ee92555ab3ce32560e1f590940ff9674cc64654ff2243b896d32d659af3", func := "priorart/priorartlaw04.SpanNumbers", spec := "spanNumbers", unfollowed := true, recurses := true, apart := false, narrowed := true }
def SpanNumbersUptoSaid : Prop := spanNumbersUptoRow.holds Try.pinned (OpenSpec.upto spanNumbersSpec)

/-- 'priorartlaw04.SpanBytes', WHERE WHAT IT READS IS OF BULK AT MOST 1048576: true; the input reads as it did. -/
def spanBytesUptoRow : OpenClaim := { program := "ytmbkefgmiehdiaa", sum := "16fe6ee92555ab3ce32560e1f590940ff9674cc64654ff2243b896d32d659af3", func := "priorart/priorartlaw04.SpanBytes", spec := "spanBytes", unfollowed := true, recurses := true, apart := false, narrowed := true }
def SpanBytesUptoSaid : Prop := spanBytesUptoRow.holds Try.pinned (OpenSpec.upto spanBytesSpec)

end Rows
end Go.Proofs.Ytmbkefgmiehdiaa

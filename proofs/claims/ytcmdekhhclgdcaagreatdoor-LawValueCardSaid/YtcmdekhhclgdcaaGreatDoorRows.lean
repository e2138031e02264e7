/-
  NARROWER THAN 'FOR EVERY INPUT', by the rows' own cells (each row's printed sentence says how): LawValue: laid · LawLast: laid.
  DERIVED. THE GIVEN ROWS OF THIS SEAT. 2 by the template 'for every input the law returns true; each argument reads behind the call as it read before'; 0 by the template 'total and deterministic' (their statements: YtcmdekhhclgdcaaGreatDoorTotals.lean).
  GIVEN WITH THE SEED: the statements are not yours to turn. If you find one false, say at which input.
  Laid BY PROGRAM, IN A SANDBOX (cutbox-rows.mjs): the forced cells as the released guide's own fill.sh prints them over the translation 44204f3d2bb48bd1… (all of the seat's roots in one cut). By AI agents, Wed Nov 11 2026. No macro, syntax, notation, axiom, sorry.
-/
import Derived.Test.YtcmdekhhclgdcaaGreatDoorChecked
import GoSem.Claim
import GoSem.ClaimJoined
import GoSem.ClaimMapViews
import Derived.JoinedTies
import Derived.KernelRfl
namespace Go.Proofs.YtcmdekhhclgdcaaGreatDoor
/- THE CELL 'sum', in the pinned program and in every row, IS THE sha256 OF THE DUMP (.gsa) THAT YtcmdekhhclgdcaaGreatDoorProg.lean LOADS. Nothing in Lean hashes anything: it is a label: what it is worth is what the hold of that sum in a sandbox is worth. -/
noncomputable def Tryz.pinned : Pinned := { name := "ytcmdekhhclgdcaagreatdoor", sum := "44204f3d2bb48bd1685fede263a45a590806b7f9681116498d540a059bea571e", checked := Tryz.checked }
namespace Rows
def none {H : Type} : Left H := { results := [], args := [] }

/- WHAT THE LISTED PACKAGE-LEVEL VARIABLES READ AS WHEN THE CALL BEGINS. Each datum BY PROGRAM (the guide's laid-datum.mjs) off the statement by which the dump's own 'gosem.cut.vars' lays the variable. In a bare row this is a premise. The card (YtcmdekhhclgdcaaGreatDoorCards.lean) ties it to the program's text. -/
def laid_priorart_civil_lengths {H : Type} : DataW H := .agg [.lit (.int .i64 31), .lit (.int .i64 28), .lit (.int .i64 31), .lit (.int .i64 30), .lit (.int .i64 31), .lit (.int .i64 30), .lit (.int .i64 31), .lit (.int .i64 31), .lit (.int .i64 30), .lit (.int .i64 31), .lit (.int .i64 30), .lit (.int .i64 31)]
def laid_priorart_law_ranges {H : Type} : DataW H := .agg [.agg [.lit (.int .i64 0), .lit (.int .i64 120)], .agg [.lit (.int .i64 0), .lit (.int .i64 120)], .agg [.lit (.int .i64 0), .lit (.int .i64 120)], .agg [.lit (.int .i64 0), .lit (.int .i64 120)], .agg [.lit (.int .i64 0), .lit (.int .i64 120)], .agg [.lit (.int .i64 0), .lit (.int .i64 120)], .agg [.lit (.int .i64 0), .lit (.int .i64 120)], .agg [.lit (.int .i64 1), .lit (.int .i64 100)], .agg [.lit (.int .i64 1), .lit (.int .i64 100)], .agg [.lit (.int .i64 0), .lit (.int .i64 1099511627776)], .agg [.lit (.int .i64 0), .lit (.int .i64 1099511627776)], .agg [.lit (.int .i64 0), .lit (.int .i64 1099511627776)], .agg [.lit (.int .i64 0), .lit (.int .i64 1099511627776)], .agg [.lit (.int .i64 0), .lit (.int .i64 1099511627776)], .agg [.lit (.int .i64 0), .lit (.int .i64 1099511627776)], .agg [.lit (.int .i64 0), .lit (.int .i64 1099511627776)], .agg [.lit (.int .i64 0), .lit (.int .i64 1099511627776)], .agg [.lit (.int .i64 0), .lit (.int .i64 100)], .agg [.lit (.int .i64 0), .lit (.int .i64 100)]]

/-- 'priorartlaw17.LawValue': WHATEVER THE INPUT: true; the input reads as it did. -/
def lawValueSpec : ChangeSpec := { name := "lawValue", fn := fun _ => fun
  | [d1, d2, d3, d4, d5, d6] => { results := [.lit (.bool true)], args := [d1, d2, d3, d4, d5, d6] }
  | _ => none }
def lawValueRow : OpenClaim := { program := "ytcmdekhhclgdcaagreatdoor", sum := "44204f3d2bb48bd1685fede263a45a590806b7f9681116498d540a059bea571e", func := "priorart/priorartlaw17.LawValue", spec := "lawValue", unfollowed := true, recurses := true, named := ["priorart/law.ranges", "priorart/civil.lengths"], apart := false, laid := [("priorart/civil.lengths", laid_priorart_civil_lengths), ("priorart/law.ranges", laid_priorart_law_ranges)] }
def LawValueSaid : Prop := lawValueRow.holds Tryz.pinned (OpenSpec.ofChange lawValueSpec)

/-- ITS FALSE NEIGHBOUR: 'it returns false'. Refute it at one input. -/
def lawValueWrong : ChangeSpec := { name := "lawValue", fn := fun _ => fun
  | [d1, d2, d3, d4, d5, d6] => { results := [.lit (.bool false)], args := [d1, d2, d3, d4, d5, d6] }
  | _ => none }
def LawValueWrongFalsely : Prop := lawValueRow.holds Tryz.pinned (OpenSpec.ofChange lawValueWrong)

/-- 'priorartlaw17.LawLast': WHATEVER THE INPUT: true; the input reads as it did. -/
def lawLastSpec : ChangeSpec := { name := "lawLast", fn := fun _ => fun
  | [d1, d2, d3, d4, d5, d6, d7] => { results := [.lit (.bool true)], args := [d1, d2, d3, d4, d5, d6, d7] }
  | _ => none }
def lawLastRow : OpenClaim := { program := "ytcmdekhhclgdcaagreatdoor", sum := "44204f3d2bb48bd1685fede263a45a590806b7f9681116498d540a059bea571e", func := "priorart/priorartlaw17.LawLast", spec := "lawLast", unfollowed := true, recurses := true, named := ["priorart/law.ranges", "priorart/civil.lengths"], apart := false, laid := [("priorart/civil.lengths", laid_priorart_civil_lengths), ("priorart/law.ranges", laid_priorart_law_ranges)] }
def LawLastSaid : Prop := lawLastRow.holds Tryz.pinned (OpenSpec.ofChange lawLastSpec)

/-- ITS FALSE NEIGHBOUR: 'it returns false'. Refute it at one input. -/
def lawLastWrong : ChangeSpec := { name := "lawLast", fn := fun _ => fun
  | [d1, d2, d3, d4, d5, d6, d7] => { results := [.lit (.bool false)], args := [d1, d2, d3, d4, d5, d6, d7] }
  | _ => none }
def LawLastWrongFalsely : Prop := lawLastRow.holds Tryz.pinned (OpenSpec.ofChange lawLastWrong)

/- THE SECOND FORM. 'bulk': how many values and letters a reading holds, each counted each time it is reached (what is shared counts as often as it is met; a slice's spare places count too). A statement '..UptoSaid' is the law's where the arguments, and the package variables that the reading takes, are together of bulk at most 1048576: NARROWER than '..Said'. Prove '..Said' where nothing that the law and all that it calls make is longer than what came in: it says more and counts as full. Else prove '..UptoSaid'. A law counts once. -/
mutual
def uptoBulk {H : Type} : DataW H → Nat
  | .lit (.string bytes) => bytes.length + 1
  | .lit _ => 1
  | .nil => 1
  | .ptr d => uptoBulk d + 1
  | .slice elems spare => uptoBulkAll elems + uptoBulkAll spare + 1
  | .agg parts => uptoBulkAll parts + 1
  | .iface _ d => uptoBulk d + 1
  | .map entries => uptoBulkEntries entries + 1
  | .held _ => 1
def uptoBulkAll {H : Type} : List (DataW H) → Nat
  | [] => 0
  | d :: r => uptoBulk d + uptoBulkAll r
def uptoBulkEntries {H : Type} : List (Lit × DataW H) → Nat
  | [] => 0
  | x :: r => uptoBulkEntry x + uptoBulkEntries r
def uptoBulkEntry {H : Type} : Lit × DataW H → Nat
  | (.string bytes, d) => bytes.length + uptoBulk d + 1
  | (_, d) => uptoBulk d + 1
 end
def uptoSmall : (H : Type) → List (DataW H) → Bool := fun _ ds => decide (uptoBulkAll ds ≤ 1048576)
def OpenSpec.upto (s : _root_.Go.ChangeSpec) : _root_.Go.OpenSpec := { _root_.Go.OpenSpec.ofChange s with cond := some uptoSmall }

/-- 'priorartlaw17.LawValue', WHERE WHAT IT READS IS OF BULK AT MOST 1048576: true; the input reads as it did. -/
def lawValueUptoRow : OpenClaim := { program := "ytcmdekhhclgdcaagreatdoor", sum := "44204f3d2bb48bd1685fede263a45a590806b7f9681116498d540a059bea571e", func := "priorart/priorartlaw17.LawValue", spec := "lawValue", unfollowed := true, recurses := true, named := ["priorart/law.ranges", "priorart/civil.lengths"], apart := false, laid := [("priorart/civil.lengths", laid_priorart_civil_lengths), ("priorart/law.ranges", laid_priorart_law_ranges)], narrowed := true }
def LawValueUptoSaid : Prop := lawValueUptoRow.holds Tryz.pinned (OpenSpec.upto lawValueSpec)

/-- 'priorartlaw17.LawLast', WHERE WHAT IT READS IS OF BULK AT MOST 1048576: true; the input reads as it did. -/
def lawLastUptoRow : OpenClaim := { program := "ytcmdekhhclgdcaagreatdoor", sum := "44204f3d2bb48bd1685fede263a45a590806b7f9681116498d540a059bea571e", func := "priorart/priorartlaw17.LawLast", spec := "lawLast", unfollowed := true, recurses := true, named := ["priorart/law.ranges", "priorart/civil.lengths"], apart := false, laid := [("priorart/civil.lengths", laid_priorart_civil_lengths), ("priorart/law.ranges", laid_priorart_law_ranges)], narrowed := true }
def LawLastUptoSaid : Prop := lawLastUptoRow.holds Tryz.pinned (OpenSpec.upto lawLastSpec)

end Rows
end Go.Proofs.YtcmdekhhclgdcaaGreatDoor

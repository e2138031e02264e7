/-
  NARROWER THAN 'FOR EVERY INPUT', by the rows' own cells (each row's printed sentence says how): TermBreaks: laid · TermOpen: laid · TermLater: laid · TermDays: laid · TermEnds: laid · TermKept: laid · LawValid: laid · LawRulings: laid · LawChanges: laid · LawTerms: laid.
  DERIVED. THE GIVEN ROWS OF THIS SEAT. 10 by the template 'for every input the law returns true; each argument reads behind the call as it read before'; 0 by the template 'total and deterministic' (their statements: YtcmdekhhclgdcaaDoorTotals.lean).
  GIVEN WITH THE SEED: the statements are not yours to turn. If you find one false, say at which input.
  Laid BY PROGRAM, IN A SANDBOX (cutbox-rows.mjs): the forced cells as the released guide's own fill.sh prints them over the translation 0917ee39fac0c07f… (all of the seat's roots in one cut). By AI agents, Wed Nov 11 2026. No macro, syntax, notation, axiom, sorry.
-/
import Derived.Test.YtcmdekhhclgdcaaDoorChecked
import GoSem.Claim
import GoSem.ClaimJoined
import GoSem.ClaimMapViews
import Derived.JoinedTies
import Derived.KernelRfl
namespace Go.Proofs.YtcmdekhhclgdcaaDoor
/- THE CELL 'sum', in the pinned program and in every row, IS THE sha256 OF THE DUMP (.gsa) THAT YtcmdekhhclgdcaaDoorProg.lean LOADS. Nothing in Lean hashes anything: it is a label: what it is worth is what the hold of that sum in a sandbox is worth. -/
noncomputable def Tryd.pinned : Pinned := { name := "ytcmdekhhclgdcaadoor", sum := "0917ee39fac0c07fa712c17bb41f8c44e75bb021bc2fc77020582e9b89e12134", checked := Tryd.checked }
namespace Rows
def none {H : Type} : Left H := { results := [], args := [] }

/- WHAT THE LISTED PACKAGE-LEVEL VARIABLES READ AS WHEN THE CALL BEGINS. Each datum BY PROGRAM (the guide's laid-datum.mjs) off the statement by which the dump's own 'gosem.cut.vars' lays the variable. In a bare row this is a premise. The card (YtcmdekhhclgdcaaDoorCards.lean) ties it to the program's text. -/
def laid_priorart_civil_lengths {H : Type} : DataW H := .agg [.lit (.int .i64 31), .lit (.int .i64 28), .lit (.int .i64 31), .lit (.int .i64 30), .lit (.int .i64 31), .lit (.int .i64 30), .lit (.int .i64 31), .lit (.int .i64 31), .lit (.int .i64 30), .lit (.int .i64 31), .lit (.int .i64 30), .lit (.int .i64 31)]
def laid_priorart_law_ranges {H : Type} : DataW H := .agg [.agg [.lit (.int .i64 0), .lit (.int .i64 120)], .agg [.lit (.int .i64 0), .lit (.int .i64 120)], .agg [.lit (.int .i64 0), .lit (.int .i64 120)], .agg [.lit (.int .i64 0), .lit (.int .i64 120)], .agg [.lit (.int .i64 0), .lit (.int .i64 120)], .agg [.lit (.int .i64 0), .lit (.int .i64 120)], .agg [.lit (.int .i64 0), .lit (.int .i64 120)], .agg [.lit (.int .i64 1), .lit (.int .i64 100)], .agg [.lit (.int .i64 1), .lit (.int .i64 100)], .agg [.lit (.int .i64 0), .lit (.int .i64 1099511627776)], .agg [.lit (.int .i64 0), .lit (.int .i64 1099511627776)], .agg [.lit (.int .i64 0), .lit (.int .i64 1099511627776)], .agg [.lit (.int .i64 0), .lit (.int .i64 1099511627776)], .agg [.lit (.int .i64 0), .lit (.int .i64 1099511627776)], .agg [.lit (.int .i64 0), .lit (.int .i64 1099511627776)], .agg [.lit (.int .i64 0), .lit (.int .i64 1099511627776)], .agg [.lit (.int .i64 0), .lit (.int .i64 1099511627776)], .agg [.lit (.int .i64 0), .lit (.int .i64 100)], .agg [.lit (.int .i64 0), .lit (.int .i64 100)]]

/-- 'priorartlaw15.TermBreaks': WHATEVER THE INPUT: true; the input reads as it did. -/
def termBreaksSpec : ChangeSpec := { name := "termBreaks", fn := fun _ => fun
  | [d1, d2, d3, d4, d5] => { results := [.lit (.bool true)], args := [d1, d2, d3, d4, d5] }
  | _ => none }
def termBreaksRow : OpenClaim := { program := "ytcmdekhhclgdcaadoor", sum := "0917ee39fac0c07fa712c17bb41f8c44e75bb021bc2fc77020582e9b89e12134", func := "priorart/priorartlaw15.TermBreaks", spec := "termBreaks", unfollowed := true, recurses := true, named := ["priorart/civil.lengths"], apart := false, laid := [("priorart/civil.lengths", laid_priorart_civil_lengths)] }
def TermBreaksSaid : Prop := termBreaksRow.holds Tryd.pinned (OpenSpec.ofChange termBreaksSpec)

/-- ITS FALSE NEIGHBOUR: 'it returns false'. Refute it at one input. -/
def termBreaksWrong : ChangeSpec := { name := "termBreaks", fn := fun _ => fun
  | [d1, d2, d3, d4, d5] => { results := [.lit (.bool false)], args := [d1, d2, d3, d4, d5] }
  | _ => none }
def TermBreaksWrongFalsely : Prop := termBreaksRow.holds Tryd.pinned (OpenSpec.ofChange termBreaksWrong)

/-- 'priorartlaw15.TermOpen': WHATEVER THE INPUT: true; the input reads as it did. -/
def termOpenSpec : ChangeSpec := { name := "termOpen", fn := fun _ => fun
  | [d1, d2, d3, d4] => { results := [.lit (.bool true)], args := [d1, d2, d3, d4] }
  | _ => none }
def termOpenRow : OpenClaim := { program := "ytcmdekhhclgdcaadoor", sum := "0917ee39fac0c07fa712c17bb41f8c44e75bb021bc2fc77020582e9b89e12134", func := "priorart/priorartlaw15.TermOpen", spec := "termOpen", unfollowed := true, recurses := true, named := ["priorart/civil.lengths"], apart := false, laid := [("priorart/civil.lengths", laid_priorart_civil_lengths)] }
def TermOpenSaid : Prop := termOpenRow.holds Tryd.pinned (OpenSpec.ofChange termOpenSpec)

/-- ITS FALSE NEIGHBOUR: 'it returns false'. Refute it at one input. -/
def termOpenWrong : ChangeSpec := { name := "termOpen", fn := fun _ => fun
  | [d1, d2, d3, d4] => { results := [.lit (.bool false)], args := [d1, d2, d3, d4] }
  | _ => none }
def TermOpenWrongFalsely : Prop := termOpenRow.holds Tryd.pinned (OpenSpec.ofChange termOpenWrong)

/-- 'priorartlaw15.TermLater': WHATEVER THE INPUT: true; the input reads as it did. -/
def termLaterSpec : ChangeSpec := { name := "termLater", fn := fun _ => fun
  | [d1, d2, d3, d4, d5, d6] => { results := [.lit (.bool true)], args := [d1, d2, d3, d4, d5, d6] }
  | _ => none }
def termLaterRow : OpenClaim := { program := "ytcmdekhhclgdcaadoor", sum := "0917ee39fac0c07fa712c17bb41f8c44e75bb021bc2fc77020582e9b89e12134", func := "priorart/priorartlaw15.TermLater", spec := "termLater", unfollowed := true, recurses := true, named := ["priorart/civil.lengths"], apart := false, laid := [("priorart/civil.lengths", laid_priorart_civil_lengths)] }
def TermLaterSaid : Prop := termLaterRow.holds Tryd.pinned (OpenSpec.ofChange termLaterSpec)

/-- ITS FALSE NEIGHBOUR: 'it returns false'. Refute it at one input. -/
def termLaterWrong : ChangeSpec := { name := "termLater", fn := fun _ => fun
  | [d1, d2, d3, d4, d5, d6] => { results := [.lit (.bool false)], args := [d1, d2, d3, d4, d5, d6] }
  | _ => none }
def TermLaterWrongFalsely : Prop := termLaterRow.holds Tryd.pinned (OpenSpec.ofChange termLaterWrong)

/-- 'priorartlaw15.TermDays': WHATEVER THE INPUT: true; the input reads as it did. -/
def termDaysSpec : ChangeSpec := { name := "termDays", fn := fun _ => fun
  | [d1, d2, d3] => { results := [.lit (.bool true)], args := [d1, d2, d3] }
  | _ => none }
def termDaysRow : OpenClaim := { program := "ytcmdekhhclgdcaadoor", sum := "0917ee39fac0c07fa712c17bb41f8c44e75bb021bc2fc77020582e9b89e12134", func := "priorart/priorartlaw15.TermDays", spec := "termDays", unfollowed := true, recurses := true, named := ["priorart/civil.lengths"], apart := false, laid := [("priorart/civil.lengths", laid_priorart_civil_lengths)] }
def TermDaysSaid : Prop := termDaysRow.holds Tryd.pinned (OpenSpec.ofChange termDaysSpec)

/-- ITS FALSE NEIGHBOUR: 'it returns false'. Refute it at one input. -/
def termDaysWrong : ChangeSpec := { name := "termDays", fn := fun _ => fun
  | [d1, d2, d3] => { results := [.lit (.bool false)], args := [d1, d2, d3] }
  | _ => none }
def TermDaysWrongFalsely : Prop := termDaysRow.holds Tryd.pinned (OpenSpec.ofChange termDaysWrong)

/-- 'priorartlaw15.TermEnds': WHATEVER THE INPUT: true; the input reads as it did. -/
def termEndsSpec : ChangeSpec := { name := "termEnds", fn := fun _ => fun
  | [d1, d2, d3, d4, d5, d6, d7, d8] => { results := [.lit (.bool true)], args := [d1, d2, d3, d4, d5, d6, d7, d8] }
  | _ => none }
def termEndsRow : OpenClaim := { program := "ytcmdekhhclgdcaadoor", sum := "0917ee39fac0c07fa712c17bb41f8c44e75bb021bc2fc77020582e9b89e12134", func := "priorart/priorartlaw15.TermEnds", spec := "termEnds", unfollowed := true, recurses := true, named := ["priorart/civil.lengths"], apart := false, laid := [("priorart/civil.lengths", laid_priorart_civil_lengths)] }
def TermEndsSaid : Prop := termEndsRow.holds Tryd.pinned (OpenSpec.ofChange termEndsSpec)

/-- ITS FALSE NEIGHBOUR: 'it returns false'. Refute it at one input. -/
def termEndsWrong : ChangeSpec := { name := "termEnds", fn := fun _ => fun
  | [d1, d2, d3, d4, d5, d6, d7, d8] => { results := [.lit (.bool false)], args := [d1, d2, d3, d4, d5, d6, d7, d8] }
  | _ => none }
def TermEndsWrongFalsely : Prop := termEndsRow.holds Tryd.pinned (OpenSpec.ofChange termEndsWrong)

/-- 'priorartlaw15.TermKept': WHATEVER THE INPUT: true; the input reads as it did. -/
def termKeptSpec : ChangeSpec := { name := "termKept", fn := fun _ => fun
  | [d1, d2, d3, d4, d5] => { results := [.lit (.bool true)], args := [d1, d2, d3, d4, d5] }
  | _ => none }
def termKeptRow : OpenClaim := { program := "ytcmdekhhclgdcaadoor", sum := "0917ee39fac0c07fa712c17bb41f8c44e75bb021bc2fc77020582e9b89e12134", func := "priorart/priorartlaw15.TermKept", spec := "termKept", unfollowed := true, recurses := true, named := ["priorart/civil.lengths"], apart := false, laid := [("priorart/civil.lengths", laid_priorart_civil_lengths)] }
def TermKeptSaid : Prop := termKeptRow.holds Tryd.pinned (OpenSpec.ofChange termKeptSpec)

/-- ITS FALSE NEIGHBOUR: 'it returns false'. Refute it at one input. -/
def termKeptWrong : ChangeSpec := { name := "termKept", fn := fun _ => fun
  | [d1, d2, d3, d4, d5] => { results := [.lit (.bool false)], args := [d1, d2, d3, d4, d5] }
  | _ => none }
def TermKeptWrongFalsely : Prop := termKeptRow.holds Tryd.pinned (OpenSpec.ofChange termKeptWrong)

/-- 'priorartlaw17.LawValid': WHATEVER THE INPUT: true; the input reads as it did. -/
def lawValidSpec : ChangeSpec := { name := "lawValid", fn := fun _ => fun
  | [d1, d2, d3, d4] => { results := [.lit (.bool true)], args := [d1, d2, d3, d4] }
  | _ => none }
def lawValidRow : OpenClaim := { program := "ytcmdekhhclgdcaadoor", sum := "0917ee39fac0c07fa712c17bb41f8c44e75bb021bc2fc77020582e9b89e12134", func := "priorart/priorartlaw17.LawValid", spec := "lawValid", unfollowed := true, recurses := true, named := ["priorart/law.ranges", "priorart/civil.lengths"], apart := false, laid := [("priorart/civil.lengths", laid_priorart_civil_lengths), ("priorart/law.ranges", laid_priorart_law_ranges)] }
def LawValidSaid : Prop := lawValidRow.holds Tryd.pinned (OpenSpec.ofChange lawValidSpec)

/-- ITS FALSE NEIGHBOUR: 'it returns false'. Refute it at one input. -/
def lawValidWrong : ChangeSpec := { name := "lawValid", fn := fun _ => fun
  | [d1, d2, d3, d4] => { results := [.lit (.bool false)], args := [d1, d2, d3, d4] }
  | _ => none }
def LawValidWrongFalsely : Prop := lawValidRow.holds Tryd.pinned (OpenSpec.ofChange lawValidWrong)

/-- 'priorartlaw17.LawRulings': WHATEVER THE INPUT: true; the input reads as it did. -/
def lawRulingsSpec : ChangeSpec := { name := "lawRulings", fn := fun _ => fun
  | [d1, d2, d3] => { results := [.lit (.bool true)], args := [d1, d2, d3] }
  | _ => none }
def lawRulingsRow : OpenClaim := { program := "ytcmdekhhclgdcaadoor", sum := "0917ee39fac0c07fa712c17bb41f8c44e75bb021bc2fc77020582e9b89e12134", func := "priorart/priorartlaw17.LawRulings", spec := "lawRulings", unfollowed := true, recurses := true, named := ["priorart/law.ranges", "priorart/civil.lengths"], apart := false, laid := [("priorart/civil.lengths", laid_priorart_civil_lengths), ("priorart/law.ranges", laid_priorart_law_ranges)] }
def LawRulingsSaid : Prop := lawRulingsRow.holds Tryd.pinned (OpenSpec.ofChange lawRulingsSpec)

/-- ITS FALSE NEIGHBOUR: 'it returns false'. Refute it at one input. -/
def lawRulingsWrong : ChangeSpec := { name := "lawRulings", fn := fun _ => fun
  | [d1, d2, d3] => { results := [.lit (.bool false)], args := [d1, d2, d3] }
  | _ => none }
def LawRulingsWrongFalsely : Prop := lawRulingsRow.holds Tryd.pinned (OpenSpec.ofChange lawRulingsWrong)

/-- 'priorartlaw17.LawChanges': WHATEVER THE INPUT: true; the input reads as it did. -/
def lawChangesSpec : ChangeSpec := { name := "lawChanges", fn := fun _ => fun
  | [d1, d2, d3, d4, d5] => { results := [.lit (.bool true)], args := [d1, d2, d3, d4, d5] }
  | _ => none }
def lawChangesRow : OpenClaim := { program := "ytcmdekhhclgdcaadoor", sum := "0917ee39fac0c07fa712c17bb41f8c44e75bb021bc2fc77020582e9b89e12134", func := "priorart/priorartlaw17.LawChanges", spec := "lawChanges", unfollowed := true, recurses := true, named := ["priorart/law.ranges", "priorart/civil.lengths"], apart := false, laid := [("priorart/civil.lengths", laid_priorart_civil_lengths), ("priorart/law.ranges", laid_priorart_law_ranges)] }
def LawChangesSaid : Prop := lawChangesRow.holds Tryd.pinned (OpenSpec.ofChange lawChangesSpec)

/-- ITS FALSE NEIGHBOUR: 'it returns false'. Refute it at one input. -/
def lawChangesWrong : ChangeSpec := { name := "lawChanges", fn := fun _ => fun
  | [d1, d2, d3, d4, d5] => { results := [.lit (.bool false)], args := [d1, d2, d3, d4, d5] }
  | _ => none }
def LawChangesWrongFalsely : Prop := lawChangesRow.holds Tryd.pinned (OpenSpec.ofChange lawChangesWrong)

/-- 'priorartlaw17.LawTerms': WHATEVER THE INPUT: true; the input reads as it did. -/
def lawTermsSpec : ChangeSpec := { name := "lawTerms", fn := fun _ => fun
  | [d1, d2, d3, d4] => { results := [.lit (.bool true)], args := [d1, d2, d3, d4] }
  | _ => none }
def lawTermsRow : OpenClaim := { program := "ytcmdekhhclgdcaadoor", sum := "0917ee39fac0c07fa712c17bb41f8c44e75bb021bc2fc77020582e9b89e12134", func := "priorart/priorartlaw17.LawTerms", spec := "lawTerms", unfollowed := true, recurses := true, named := ["priorart/law.ranges", "priorart/civil.lengths"], apart := false, laid := [("priorart/civil.lengths", laid_priorart_civil_lengths), ("priorart/law.ranges", laid_priorart_law_ranges)] }
def LawTermsSaid : Prop := lawTermsRow.holds Tryd.pinned (OpenSpec.ofChange lawTermsSpec)

/-- ITS FALSE NEIGHBOUR: 'it returns false'. Refute it at one input. -/
def lawTermsWrong : ChangeSpec := { name := "lawTerms", fn := fun _ => fun
  | [d1, d2, d3, d4] => { results := [.lit (.bool false)], args := [d1, d2, d3, d4] }
  | _ => none }
def LawTermsWrongFalsely : Prop := lawTermsRow.holds Tryd.pinned (OpenSpec.ofChange lawTermsWrong)

/- THE SECOND FORM. 'bulk': how many values and letters a reading holds, each counted each time it is reached (what is shared counts as often as it is met; a slice's spare places count too). A statement '..UptoSaid' is the law's where the arguments, and the package variables that the reading takes, are together of bulk at most 1048576: NARROWER than '..Said'. Prove '..Said' where nothing that the law and all that it calls make is longer than what came in: it says more and counts as full. Else prove '..UptoSaid'. A law counts once. -/
mutual
def uptoBulk {H : Type} : DataW H → Nat
  | .lit (.string bytes) => bytes.length + 1
  | .lit _ => 1
  | .nil => 1
  | .ptr d => uptoBulk d + 1
  | .slice elems spare => uptoBulkAll elems + uptoBulkAll spare + 1
  | .agg parts => uptoBulkAll parts + 1
  | .iface _ d => uptoBulk d + 1
  | .map entries => uptoBulkEntries entries + 1
  | .held _ => 1
def uptoBulkAll {H : Type} : List (DataW H) → Nat
  | [] => 0
  | d :: r => uptoBulk d + uptoBulkAll r
def uptoBulkEntries {H : Type} : List (Lit × DataW H) → Nat
  | [] => 0
  | x :: r => uptoBulkEntry x + uptoBulkEntries r
def uptoBulkEntry {H : Type} : Lit × DataW H → Nat
  | (.string bytes, d) => bytes.length + uptoBulk d + 1
  | (_, d) => uptoBulk d + 1
 end
def uptoSmall : (H : Type) → List (DataW H) → Bool := fun _ ds => decide (uptoBulkAll ds ≤ 1048576)
def OpenSpec.upto (s : _root_.Go.ChangeSpec) : _root_.Go.OpenSpec := { _root_.Go.OpenSpec.ofChange s with cond := some uptoSmall }

/-- 'priorartlaw15.TermBreaks', WHERE WHAT IT READS IS OF BULK AT MOST 1048576: true; the input reads as it did. -/
def termBreaksUptoRow : OpenClaim := { program := "ytcmdekhhclgdcaadoor", sum := "0917ee39fac0c07fa712c17bb41f8c44e75bb021bc2fc77020582e9b89e12134", func := "priorart/priorartlaw15.TermBreaks", spec := "termBreaks", unfollowed := true, recurses := true, named := ["priorart/civil.lengths"], apart := false, laid := [("priorart/civil.lengths", laid_priorart_civil_lengths)], narrowed := true }
def TermBreaksUptoSaid : Prop := termBreaksUptoRow.holds Tryd.pinned (OpenSpec.upto termBreaksSpec)

/-- 'priorartlaw15.TermOpen', WHERE WHAT IT READS IS OF BULK AT MOST 1048576: true; the input reads as it did. -/
def termOpenUptoRow : OpenClaim := { program := "ytcmdekhhclgdcaadoor", sum := "0917ee39fac0c07fa712c17bb41f8c44e75bb021bc2fc77020582e9b89e12134", func := "priorart/priorartlaw15.TermOpen", spec := "termOpen", unfollowed := true, recurses := true, named := ["priorart/civil.lengths"], apart := false, laid := [("priorart/civil.lengths", laid_priorart_civil_lengths)], narrowed := true }
def TermOpenUptoSaid : Prop := termOpenUptoRow.holds Tryd.pinned (OpenSpec.upto termOpenSpec)

/-- 'priorartlaw15.TermLater', WHERE WHAT IT READS IS OF BULK AT MOST 1048576: true; the input reads as it did. -/
def termLaterUptoRow : OpenClaim := { program := "ytcmdekhhclgdcaadoor", sum := "0917ee39fac0c07fa712c17bb41f8c44e75bb021bc2fc77020582e9b89e12134", func := "priorart/priorartlaw15.TermLater", spec := "termLater", unfollowed := true, recurses := true, named := ["priorart/civil.lengths"], apart := false, laid := [("priorart/civil.lengths", laid_priorart_civil_lengths)], narrowed := true }
def TermLaterUptoSaid : Prop := termLaterUptoRow.holds Tryd.pinned (OpenSpec.upto termLaterSpec)

/-- 'priorartlaw15.TermDays', WHERE WHAT IT READS IS OF BULK AT MOST 1048576: true; the input reads as it did. -/
def termDaysUptoRow : OpenClaim := { program := "ytcmdekhhclgdcaadoor", sum := "0917ee39fac0c07fa712c17bb41f8c44e75bb021bc2fc77020582e9b89e12134", func := "priorart/priorartlaw15.TermDays", spec := "termDays", unfollowed := true, recurses := true, named := ["priorart/civil.lengths"], apart := false, laid := [("priorart/civil.lengths", laid_priorart_civil_lengths)], narrowed := true }
def TermDaysUptoSaid : Prop := termDaysUptoRow.holds Tryd.pinned (OpenSpec.upto termDaysSpec)

/-- 'priorartlaw15.TermEnds', WHERE WHAT IT READS IS OF BULK AT MOST 1048576: true; the input reads as it did. -/
def termEndsUptoRow : OpenClaim := { program := "ytcmdekhhclgdcaadoor", sum := "0917ee39fac0c07fa712c17bb41f8c44e75bb021bc2fc77020582e9b89e12134", func := "priorart/priorartlaw15.TermEnds", spec := "termEnds", unfollowed := true, recurses := true, named := ["priorart/civil.lengths"], apart := false, laid := [("priorart/civil.lengths", laid_priorart_civil_lengths)], narrowed := true }
def TermEndsUptoSaid : Prop := termEndsUptoRow.holds Tryd.pinned (OpenSpec.upto termEndsSpec)

/-- 'priorartlaw15.TermKept', WHERE WHAT IT READS IS OF BULK AT MOST 1048576: true; the input reads as it did. -/
def termKeptUptoRow : OpenClaim := { program := "ytcmdekhhclgdcaadoor", sum := "0917ee39fac0c07fa712c17bb41f8c44e75bb021bc2fc77020582e9b89e12134", func := "priorart/priorartlaw15.TermKept", spec := "termKept", unfollowed := true, recurses := true, named := ["priorart/civil.lengths"], apart := false, laid := [("priorart/civil.lengths", laid_priorart_civil_lengths)], narrowed := true }
def TermKeptUptoSaid : Prop := termKeptUptoRow.holds Tryd.pinned (OpenSpec.upto termKeptSpec)

/-- 'priorartlaw17.LawValid', WHERE WHAT IT READS IS OF BULK AT MOST 1048576: true; the input reads as it did. -/
def lawValidUptoRow : OpenClaim := { program := "ytcmdekhhclgdcaadoor", sum := "0917ee39fac0c07fa712c17bb41f8c44e75bb021bc2fc77020582e9b89e12134", func := "priorart/priorartlaw17.LawValid", spec := "lawValid", unfollowed := true, recurses := true, named := ["priorart/law.ranges", "priorart/civil.lengths"], apart := false, laid := [("priorart/civil.lengths", laid_priorart_civil_lengths), ("priorart/law.ranges", laid_priorart_law_ranges)], narrowed := true }
def LawValidUptoSaid : Prop := lawValidUptoRow.holds Tryd.pinned (OpenSpec.upto lawValidSpec)

/-- 'priorartlaw17.LawRulings', WHERE WHAT IT READS IS OF BULK AT MOST 1048576: true; the input reads as it did. -/
def lawRulingsUptoRow : OpenClaim := { program := "ytcmdekhhclgdcaadoor", sum := "0917ee39fac0c07fa712c17bb41f8c44e75bb021bc2fc77020582e9b89e12134", func := "priorart/priorartlaw17.LawRulings", spec := "lawRulings", unfollowed := true, recurses := true, named := ["priorart/law.ranges", "priorart/civil.lengths"], apart := false, laid := [("priorart/civil.lengths", laid_priorart_civil_lengths), ("priorart/law.ranges", laid_priorart_law_ranges)], narrowed := true }
def LawRulingsUptoSaid : Prop := lawRulingsUptoRow.holds Tryd.pinned (OpenSpec.upto lawRulingsSpec)

/-- 'priorartlaw17.LawChanges', WHERE WHAT IT READS IS OF BULK AT MOST 1048576: true; the input reads as it did. -/
def lawChangesUptoRow : OpenClaim := { program := "ytcmdekhhclgdcaadoor", sum := "0917ee39fac0c07fa712c17bb41f8c44e75bb021bc2fc77020582e9b89e12134", func := "priorart/priorartlaw17.LawChanges", spec := "lawChanges", unfollowed := true, recurses := true, named := ["priorart/law.ranges", "priorart/civil.lengths"], apart := false, laid := [("priorart/civil.lengths", laid_priorart_civil_lengths), ("priorart/law.ranges", laid_priorart_law_ranges)], narrowed := true }
def LawChangesUptoSaid : Prop := lawChangesUptoRow.holds Tryd.pinned (OpenSpec.upto lawChangesSpec)

/-- 'priorartlaw17.LawTerms', WHERE WHAT IT READS IS OF BULK AT MOST 1048576: true; the input reads as it did. -/
def lawTermsUptoRow : OpenClaim := { program := "ytcmdekhhclgdcaadoor", sum := "0917ee39fac0c07fa712c17bb41f8c44e75bb021bc2fc77020582e9b89e12134", func := "priorart/priorartlaw17.LawTerms", spec := "lawTerms", unfollowed := true, recurses := true, named := ["priorart/law.ranges", "priorart/civil.lengths"], apart := false, laid := [("priorart/civil.lengths", laid_priorart_civil_lengths), ("priorart/law.ranges", laid_priorart_law_ranges)], narrowed := true }
def LawTermsUptoSaid : Prop := lawTermsUptoRow.holds Tryd.pinned (OpenSpec.upto lawTermsSpec)

end Rows
end Go.Proofs.YtcmdekhhclgdcaaDoor

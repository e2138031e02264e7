/-
  No cell of these rows narrows 'for every input' (looked for: loops, veiled, ifaces, maps, wideKeys, modest, calm, conditions, laid).
  DERIVED. THE GIVEN ROWS OF THIS SEAT. 4 by the template 'for every input the law returns true; each argument reads behind the call as it read before'; 0 by the template 'total and deterministic' (their statements: YtcbmgajaaechjaaGreatTotals.lean).
  GIVEN WITH THE SEED: the statements are not yours to turn. If you find one false, say at which input.
  Laid BY PROGRAM, IN A SANDBOX (cutbox-rows.mjs): the forced cells as the released guide's own fill.sh prints them over the translation e6792a2d6c3f2001… (all of the seat's roots in one cut). By AI agents, Wed Nov 11 2026. No macro, syntax, notation, axiom, sorry.
-/
import Derived.Test.YtcbmgajaaechjaaGreatChecked
import GoSem.Claim
import GoSem.ClaimJoined
import GoSem.ClaimMapViews
import Derived.JoinedTies
import Derived.KernelRfl
namespace Go.Proofs.YtcbmgajaaechjaaGreat
/- THE CELL 'sum', in the pinned program and in every row, IS THE sha256 OF THE DUMP (.gsa) THAT YtcbmgajaaechjaaGreatProg.lean LOADS. Nothing in Lean hashes anything: it is a label: what it is worth is what the hold of that sum in a sandbox is worth. -/
noncomputable def Tryz.pinned : Pinned := { name := "ytcbmgajaaechjaagreat", sum := "e6792a2d6c3f200178c80692b6e7c01855ba475bf06a6495b7ab32027a66029d", checked := Tryz.checked }
namespace Rows
def none {H : Type} : Left H := { results := [], args := [] }

/-- 'priorartlaw11.ClaimsAlts': WHATEVER THE INPUT: true; the input reads as it did. -/
def claimsAltsSpec : ChangeSpec := { name := "claimsAlts", fn := fun _ => fun
  | [d1, d2, d3] => { results := [.lit (.bool true)], args := [d1, d2, d3] }
  | _ => none }
def claimsAltsRow : OpenClaim := { program := "ytcbmgajaaechjaagreat", sum := "e6792a2d6c3f200178c80692b6e7c01855ba475bf06a6495b7ab32027a66029d", func := "priorart/priorartlaw11.ClaimsAlts", spec := "claimsAlts", unfollowed := true, recurses := true, apart := false }
def ClaimsAltsSaid : Prop := claimsAltsRow.holds Tryz.pinned (OpenSpec.ofChange claimsAltsSpec)

/-- ITS FALSE NEIGHBOUR: 'it returns false'. Refute it at one input. -/
def claimsAltsWrong : ChangeSpec := { name := "claimsAlts", fn := fun _ => fun
  | [d1, d2, d3] => { results := [.lit (.bool false)], args := [d1, d2, d3] }
  | _ => none }
def ClaimsAltsWrongFalsely : Prop := claimsAltsRow.holds Tryz.pinned (OpenSpec.ofChange claimsAltsWrong)

/-- 'priorartlaw11.ClaimsNarrower': WHATEVER THE INPUT: true; the input reads as it did. -/
def claimsNarrowerSpec : ChangeSpec := { name := "claimsNarrower", fn := fun _ => fun
  | [d1, d2, d3] => { results := [.lit (.bool true)], args := [d1, d2, d3] }
  | _ => none }
def claimsNarrowerRow : OpenClaim := { program := "ytcbmgajaaechjaagreat", sum := "e6792a2d6c3f200178c80692b6e7c01855ba475bf06a6495b7ab32027a66029d", func := "priorart/priorartlaw11.ClaimsNarrower", spec := "claimsNarrower", unfollowed := true, recurses := true, apart := false }
def ClaimsNarrowerSaid : Prop := claimsNarrowerRow.holds Tryz.pinned (OpenSpec.ofChange claimsNarrowerSpec)

/-- ITS FALSE NEIGHBOUR: 'it returns false'. Refute it at one input. -/
def claimsNarrowerWrong : ChangeSpec := { name := "claimsNarrower", fn := fun _ => fun
  | [d1, d2, d3] => { results := [.lit (.bool false)], args := [d1, d2, d3] }
  | _ => none }
def ClaimsNarrowerWrongFalsely : Prop := claimsNarrowerRow.holds Tryz.pinned (OpenSpec.ofChange claimsNarrowerWrong)

/-- 'priorartlaw07.FormulaValid': WHATEVER THE INPUT: true; the input reads as it did. -/
def formulaValidSpec : ChangeSpec := { name := "formulaValid", fn := fun _ => fun
  | [d1, d2, d3, d4] => { results := [.lit (.bool true)], args := [d1, d2, d3, d4] }
  | _ => none }
def formulaValidRow : OpenClaim := { program := "ytcbmgajaaechjaagreat", sum := "e6792a2d6c3f200178c80692b6e7c01855ba475bf06a6495b7ab32027a66029d", func := "priorart/priorartlaw07.FormulaValid", spec := "formulaValid", unfollowed := true, recurses := true, apart := false }
def FormulaValidSaid : Prop := formulaValidRow.holds Tryz.pinned (OpenSpec.ofChange formulaValidSpec)

/-- ITS FALSE NEIGHBOUR: 'it returns false'. Refute it at one input. -/
def formulaValidWrong : ChangeSpec := { name := "formulaValid", fn := fun _ => fun
  | [d1, d2, d3, d4] => { results := [.lit (.bool false)], args := [d1, d2, d3, d4] }
  | _ => none }
def FormulaValidWrongFalsely : Prop := formulaValidRow.holds Tryz.pinned (OpenSpec.ofChange formulaValidWrong)

/-- 'priorartlaw07.FormulaBoolean': WHATEVER THE INPUT: true; the input reads as it did. -/
def formulaBooleanSpec : ChangeSpec := { name := "formulaBoolean", fn := fun _ => fun
  | [d1, d2, d3, d4] => { results := [.lit (.bool true)], args := [d1, d2, d3, d4] }
  | _ => none }
def formulaBooleanRow : OpenClaim := { program := "ytcbmgajaaechjaagreat", sum := "e6792a2d6c3f200178c80692b6e7c01855ba475bf06a6495b7ab32027a66029d", func := "priorart/priorartlaw07.FormulaBoolean", spec := "formulaBoolean", unfollowed := true, recurses := true, apart := false }
def FormulaBooleanSaid : Prop := formulaBooleanRow.holds Tryz.pinned (OpenSpec.ofChange formulaBooleanSpec)

/-- ITS FALSE NEIGHBOUR: 'it returns false'. Refute it at one input. -/
def formulaBooleanWrong : ChangeSpec := { name := "formulaBoolean", fn := fun _ => fun
  | [d1, d2, d3, d4] => { results := [.lit (.bool false)], args := [d1, d2, d3, d4] }
  | _ => none }
def FormulaBooleanWrongFalsely : Prop := formulaBooleanRow.holds Tryz.pinned (OpenSpec.ofChange formulaBooleanWrong)

/- THE SECOND FORM. 'bulk': how many values and letters a reading holds, each counted each time it is reached (what is shared counts as often as it is met; a slice's spare places count too). A statement '..UptoSaid' is the law's where the arguments, and the package variables that the reading takes, are together of bulk at most 1048576: NARROWER than '..Said'. Prove '..Said' where nothing that the law and all that it calls make is longer than what came in: it says more and counts as full. Else prove '..UptoSaid'. A law counts once. -/
mutual
def uptoBulk {H : Type} : DataW H → Nat
  | .lit (.string bytes) => bytes.length + 1
  | .lit _ => 1
  | .nil => 1
  | .ptr d => uptoBulk d + 1
  | .slice elems spare => uptoBulkAll elems + uptoBulkAll spare + 1
  | .agg parts => uptoBulkAll parts + 1
  | .iface _ d => uptoBulk d + 1
  | .map entries => uptoBulkEntries entries + 1
  | .held _ => 1
def uptoBulkAll {H : Type} : List (DataW H) → Nat
  | [] => 0
  | d :: r => uptoBulk d + uptoBulkAll r
def uptoBulkEntries {H : Type} : List (Lit × DataW H) → Nat
  | [] => 0
  | x :: r => uptoBulkEntry x + uptoBulkEntries r
def uptoBulkEntry {H : Type} : Lit × DataW H → Nat
  | (.string bytes, d) => bytes.length + uptoBulk d + 1
  | (_, d) => uptoBulk d + 1
 end
def uptoSmall : (H : Type) → List (DataW H) → Bool := fun _ ds => decide (uptoBulkAll ds ≤ 1048576)
def OpenSpec.upto (s : _root_.Go.ChangeSpec) : _root_.Go.OpenSpec := { _root_.Go.OpenSpec.ofChange s with cond := some uptoSmall }

/-- 'priorartlaw11.ClaimsAlts', WHERE WHAT IT READS IS OF BULK AT MOST 1048576: true; the input reads as it did. -/
def claimsAltsUptoRow : OpenClaim := { program := "ytcbmgajaaechjaagreat", sum := "e6792a2d6c3f200178c80692b6e7c01855ba475bf06a6495b7ab32027a66029d", func := "priorart/priorartlaw11.ClaimsAlts", spec := "claimsAlts", unfollowed := true, recurses := true, apart := false, narrowed := true }
def ClaimsAltsUptoSaid : Prop := claimsAltsUptoRow.holds Tryz.pinned (OpenSpec.upto claimsAltsSpec)

/-- 'priorartlaw11.ClaimsNarrower', WHERE WHAT IT READS IS OF BULK AT MOST 1048576: true; the input reads as it did. -/
def claimsNarrowerUptoRow : OpenClaim := { program := "ytcbmgajaaechjaagreat", sum := "e6792a2d6c3f200178c80692b6e7c01855ba475bf06a6495b7ab32027a66029d", func := "priorart/priorartlaw11.ClaimsNarrower", spec := "claimsNarrower", unfollowed := true, recurses := true, apart := false, narrowed := true }
def ClaimsNarrowerUptoSaid : Prop := claimsNarrowerUptoRow.holds Tryz.pinned (OpenSpec.upto claimsNarrowerSpec)

/-- 'priorartlaw07.FormulaValid', WHERE WHAT IT READS IS OF BULK AT MOST 1048576: true; the input reads as it did. -/
def formulaValidUptoRow : OpenClaim := { program := "ytcbmgajaaechjaagreat", sum := "e6792a2d6c3f200178c80692b6e7c01855ba475bf06a6495b7ab32027a66029d", func := "priorart/priorartlaw07.FormulaValid", spec := "formulaValid", unfollowed := true, recurses := true, apart := false, narrowed := true }
def FormulaValidUptoSaid : Prop := formulaValidUptoRow.holds Tryz.pinned (OpenSpec.upto formulaValidSpec)

/-- 'priorartlaw07.FormulaBoolean', WHERE WHAT IT READS IS OF BULK AT MOST 1048576: true; the input reads as it did. -/
def formulaBooleanUptoRow : OpenClaim := { program := "ytcbmgajaaechjaagreat", sum := "e6792a2d6c3f200178c80692b6e7c01855ba475bf06a6495b7ab32027a66029d", func := "priorart/priorartlaw07.FormulaBoolean", spec := "formulaBoolean", unfollowed := true, recurses := true, apart := false, narrowed := true }
def FormulaBooleanUptoSaid : Prop := formulaBooleanUptoRow.holds Tryz.pinned (OpenSpec.upto formulaBooleanSpec)

end Rows
end Go.Proofs.YtcbmgajaaechjaaGreat

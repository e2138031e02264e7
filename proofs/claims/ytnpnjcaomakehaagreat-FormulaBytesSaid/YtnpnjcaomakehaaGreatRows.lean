/-
  No cell of these rows narrows 'for every input' (looked for: loops, veiled, ifaces, maps, wideKeys, modest, calm, conditions, laid).
  DERIVED. THE GIVEN ROWS OF THIS SEAT. 2 by the template 'for every input the law returns true; each argument reads behind the call as it read before'; 0 by the template 'total and deterministic' (their statements: YtnpnjcaomakehaaGreatTotals.lean).
  GIVEN WITH THE SEED: the statements are not yours to turn. If you find one false, say at which input.
  Laid BY PROGRAM, IN A SANDBOX (cutbox-rows.mjs): the forced cells as the released guide's own fill.sh prints them over the translation f92e61afd9a02494… (all of the seat's roots in one cut). By AI agents, Wed Nov 11 2026. No macro, syntax, notation, axiom, sorry.
-/
import Derived.Test.YtnpnjcaomakehaaGreatChecked
import GoSem.Claim
import GoSem.ClaimJoined
import GoSem.ClaimMapViews
import Derived.JoinedTies
import Derived.KernelRfl
namespace Go.Proofs.YtnpnjcaomakehaaGreat
/- THE CELL 'sum', in the pinned program and in every row, IS THE sha256 OF THE DUMP (.gsa) THAT YtnpnjcaomakehaaGreatProg.lean LOADS. Nothing in Lean hashes anything: it is a label: what it is worth is what the hold of that sum in a sandbox is worth. -/
noncomputable def Tryz.pinned : Pinned := { name := "ytnpnjcaomakehaagreat", sum := "f92e61afd9a024940f3ab15ec1022eaa944b7df2c1514535090739da89153f89", checked := Tryz.checked }
namespace Rows
def none {H : Type} : Left H := { results := [], args := [] }

/-- 'priorartlaw11.ClaimsBytes': WHATEVER THE INPUT: true; the input reads as it did. -/
def claimsBytesSpec : ChangeSpec := { name := "claimsBytes", fn := fun _ => fun
  | [d1, d2, d3, d4, d5, d6] => { results := [.lit (.bool true)], args := [d1, d2, d3, d4, d5, d6] }
  | _ => none }
def claimsBytesRow : OpenClaim := { program := "ytnpnjcaomakehaagreat", sum := "f92e61afd9a024940f3ab15ec1022eaa944b7df2c1514535090739da89153f89", func := "priorart/priorartlaw11.ClaimsBytes", spec := "claimsBytes", unfollowed := true, recurses := true, apart := false }
def ClaimsBytesSaid : Prop := claimsBytesRow.holds Tryz.pinned (OpenSpec.ofChange claimsBytesSpec)

/-- ITS FALSE NEIGHBOUR: 'it returns false'. Refute it at one input. -/
def claimsBytesWrong : ChangeSpec := { name := "claimsBytes", fn := fun _ => fun
  | [d1, d2, d3, d4, d5, d6] => { results := [.lit (.bool false)], args := [d1, d2, d3, d4, d5, d6] }
  | _ => none }
def ClaimsBytesWrongFalsely : Prop := claimsBytesRow.holds Tryz.pinned (OpenSpec.ofChange claimsBytesWrong)

/-- 'priorartlaw07.FormulaBytes': WHATEVER THE INPUT: true; the input reads as it did. -/
def formulaBytesSpec : ChangeSpec := { name := "formulaBytes", fn := fun _ => fun
  | [d1, d2, d3, d4, d5, d6] => { results := [.lit (.bool true)], args := [d1, d2, d3, d4, d5, d6] }
  | _ => none }
def formulaBytesRow : OpenClaim := { program := "ytnpnjcaomakehaagreat", sum := "f92e61afd9a024940f3ab15ec1022eaa944b7df2c1514535090739da89153f89", func := "priorart/priorartlaw07.FormulaBytes", spec := "formulaBytes", unfollowed := true, recurses := true, apart := false }
def FormulaBytesSaid : Prop := formulaBytesRow.holds Tryz.pinned (OpenSpec.ofChange formulaBytesSpec)

/-- ITS FALSE NEIGHBOUR: 'it returns false'. Refute it at one input. -/
def formulaBytesWrong : ChangeSpec := { name := "formulaBytes", fn := fun _ => fun
  | [d1, d2, d3, d4, d5, d6] => { results := [.lit (.bool false)], args := [d1, d2, d3, d4, d5, d6] }
  | _ => none }
def FormulaBytesWrongFalsely : Prop := formulaBytesRow.holds Tryz.pinned (OpenSpec.ofChange formulaBytesWrong)

/- THE SECOND FORM. 'bulk': how many values and letters a reading holds, each counted each time it is reached (what is shared counts as often as it is met; a slice's spare places count too). A statement '..UptoSaid' is the law's where the arguments, and the package variables that the reading takes, are together of bulk at most 1048576: NARROWER than '..Said'. Prove '..Said' where nothing that the law and all that it calls make is longer than what came in: it says more and counts as full. Else prove '..UptoSaid'. A law counts once. -/
mutual
def uptoBulk {H : Type} : DataW H → Nat
  | .lit (.string bytes) => bytes.length + 1
  | .lit _ => 1
  | .nil => 1
  | .ptr d => uptoBulk d + 1
  | .slice elems spare => uptoBulkAll elems + uptoBulkAll spare + 1
  | .agg parts => uptoBulkAll parts + 1
  | .iface _ d => uptoBulk d + 1
  | .map entries => uptoBulkEntries entries + 1
  | .held _ => 1
def uptoBulkAll {H : Type} : List (DataW H) → Nat
  | [] => 0
  | d :: r => uptoBulk d + uptoBulkAll r
def uptoBulkEntries {H : Type} : List (Lit × DataW H) → Nat
  | [] => 0
  | x :: r => uptoBulkEntry x + uptoBulkEntries r
def uptoBulkEntry {H : Type} : Lit × DataW H → Nat
  | (.string bytes, d) => bytes.length + uptoBulk d + 1
  | (_, d) => uptoBulk d + 1
 end
def uptoSmall : (H : Type) → List (DataW H) → Bool := fun _ ds => decide (uptoBulkAll ds ≤ 1048576)
def OpenSpec.upto (s : _root_.Go.ChangeSpec) : _root_.Go.OpenSpec := { _root_.Go.OpenSpec.ofChange s with cond := some uptoSmall }

/-- 'priorartlaw11.ClaimsBytes', WHERE WHAT IT READS IS OF BULK AT MOST 1048576: true; the input reads as it did. -/
def claimsBytesUptoRow : OpenClaim := { program := "ytnpnjcaomakehaagreat", sum := "f92e61afd9a024940f3ab15ec1022eaa944b7df2c1514535090739da89153f89", func := "priorart/priorartlaw11.ClaimsBytes", spec := "claimsBytes", unfollowed := true, recurses := true, apart := false, narrowed := true }
def ClaimsBytesUptoSaid : Prop := claimsBytesUptoRow.holds Tryz.pinned (OpenSpec.upto claimsBytesSpec)

/-- 'priorartlaw07.FormulaBytes', WHERE WHAT IT READS IS OF BULK AT MOST 1048576: true; the input reads as it did. -/
def formulaBytesUptoRow : OpenClaim := { program := "ytnpnjcaomakehaagreat", sum := "f92e61afd9a024940f3ab15ec1022eaa944b7df2c1514535090739da89153f89", func := "priorart/priorartlaw07.FormulaBytes", spec := "formulaBytes", unfollowed := true, recurses := true, apart := false, narrowed := true }
def FormulaBytesUptoSaid : Prop := formulaBytesUptoRow.holds Tryz.pinned (OpenSpec.upto formulaBytesSpec)

end Rows
end Go.Proofs.YtnpnjcaomakehaaGreat

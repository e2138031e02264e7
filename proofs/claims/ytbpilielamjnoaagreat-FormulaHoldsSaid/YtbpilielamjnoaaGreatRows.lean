/-
  No cell of these rows narrows 'for every input' (looked for: loops, veiled, ifaces, maps, wideKeys, modest, calm, conditions, laid).
  DERIVED. THE GIVEN ROWS OF THIS SEAT. 7 by the template 'for every input the law returns true; each argument reads behind the call as it read before'; 0 by the template 'total and deterministic' (their statements: YtbpilielamjnoaaGreatTotals.lean).
  GIVEN WITH THE SEED: the statements are not yours to turn. If you find one false, say at which input.
  Laid BY PROGRAM, IN A SANDBOX (cutbox-rows.mjs): the forced cells as the released guide's own fill.sh prints them over the translation 020afb03130c9524… (all of the seat's roots in one cut). By AI agents, Wed Nov 11 2026. No macro, syntax, notation, axiom, sorry.
-/
import Derived.Test.YtbpilielamjnoaaGreatChecked
import GoSem.Claim
import GoSem.ClaimJoined
import GoSem.ClaimMapViews
import Derived.JoinedTies
import Derived.KernelRfl
namespace Go.Proofs.YtbpilielamjnoaaGreat
/- THE CELL 'sum', in the pinned program and in every row, IS THE sha256 OF THE DUMP (.gsa) THAT YtbpilielamjnoaaGreatProg.lean LOADS. Nothing in Lean hashes anything: it is a label: what it is worth is what the hold of that sum in a sandbox is worth. -/
noncomputable def Tryz.pinned : Pinned := { name := "ytbpilielamjnoaagreat", sum := "020afb03130c9524c0291d4c4855f736f2754552be0c74354f768430922ae162", checked := Tryz.checked }
namespace Rows
def none {H : Type} : Left H := { results := [], args := [] }

/-- 'priorartlaw07.FormulaValid': WHATEVER THE INPUT: true; the input reads as it did. -/
def formulaValidSpec : ChangeSpec := { name := "formulaValid", fn := fun _ => fun
  | [d1, d2, d3, d4] => { results := [.lit (.bool true)], args := [d1, d2, d3, d4] }
  | _ => none }
def formulaValidRow : OpenClaim := { program := "ytbpilielamjnoaagreat", sum := "020afb03130c9524c0291d4c4855f736f2754552be0c74354f768430922ae162", func := "priorart/priorartlaw07.FormulaValid", spec := "formulaValid", unfollowed := true, recurses := true, apart := false }
def FormulaValidSaid : Prop := formulaValidRow.holds Tryz.pinned (OpenSpec.ofChange formulaValidSpec)

/-- ITS FALSE NEIGHBOUR: 'it returns false'. Refute it at one input. -/
def formulaValidWrong : ChangeSpec := { name := "formulaValid", fn := fun _ => fun
  | [d1, d2, d3, d4] => { results := [.lit (.bool false)], args := [d1, d2, d3, d4] }
  | _ => none }
def FormulaValidWrongFalsely : Prop := formulaValidRow.holds Tryz.pinned (OpenSpec.ofChange formulaValidWrong)

/-- 'priorartlaw07.FormulaHolds': WHATEVER THE INPUT: true; the input reads as it did. -/
def formulaHoldsSpec : ChangeSpec := { name := "formulaHolds", fn := fun _ => fun
  | [d1, d2, d3, d4, d5, d6] => { results := [.lit (.bool true)], args := [d1, d2, d3, d4, d5, d6] }
  | _ => none }
def formulaHoldsRow : OpenClaim := { program := "ytbpilielamjnoaagreat", sum := "020afb03130c9524c0291d4c4855f736f2754552be0c74354f768430922ae162", func := "priorart/priorartlaw07.FormulaHolds", spec := "formulaHolds", unfollowed := true, recurses := true, apart := false }
def FormulaHoldsSaid : Prop := formulaHoldsRow.holds Tryz.pinned (OpenSpec.ofChange formulaHoldsSpec)

/-- ITS FALSE NEIGHBOUR: 'it returns false'. Refute it at one input. -/
def formulaHoldsWrong : ChangeSpec := { name := "formulaHolds", fn := fun _ => fun
  | [d1, d2, d3, d4, d5, d6] => { results := [.lit (.bool false)], args := [d1, d2, d3, d4, d5, d6] }
  | _ => none }
def FormulaHoldsWrongFalsely : Prop := formulaHoldsRow.holds Tryz.pinned (OpenSpec.ofChange formulaHoldsWrong)

/-- 'priorartlaw07.FormulaForms': WHATEVER THE INPUT: true; the input reads as it did. -/
def formulaFormsSpec : ChangeSpec := { name := "formulaForms", fn := fun _ => fun
  | [d1, d2, d3, d4] => { results := [.lit (.bool true)], args := [d1, d2, d3, d4] }
  | _ => none }
def formulaFormsRow : OpenClaim := { program := "ytbpilielamjnoaagreat", sum := "020afb03130c9524c0291d4c4855f736f2754552be0c74354f768430922ae162", func := "priorart/priorartlaw07.FormulaForms", spec := "formulaForms", unfollowed := true, recurses := true, apart := false }
def FormulaFormsSaid : Prop := formulaFormsRow.holds Tryz.pinned (OpenSpec.ofChange formulaFormsSpec)

/-- ITS FALSE NEIGHBOUR: 'it returns false'. Refute it at one input. -/
def formulaFormsWrong : ChangeSpec := { name := "formulaForms", fn := fun _ => fun
  | [d1, d2, d3, d4] => { results := [.lit (.bool false)], args := [d1, d2, d3, d4] }
  | _ => none }
def FormulaFormsWrongFalsely : Prop := formulaFormsRow.holds Tryz.pinned (OpenSpec.ofChange formulaFormsWrong)

/-- 'priorartlaw07.FormulaMeaning': WHATEVER THE INPUT: true; the input reads as it did. -/
def formulaMeaningSpec : ChangeSpec := { name := "formulaMeaning", fn := fun _ => fun
  | [d1, d2, d3] => { results := [.lit (.bool true)], args := [d1, d2, d3] }
  | _ => none }
def formulaMeaningRow : OpenClaim := { program := "ytbpilielamjnoaagreat", sum := "020afb03130c9524c0291d4c4855f736f2754552be0c74354f768430922ae162", func := "priorart/priorartlaw07.FormulaMeaning", spec := "formulaMeaning", unfollowed := true, recurses := true, apart := false }
def FormulaMeaningSaid : Prop := formulaMeaningRow.holds Tryz.pinned (OpenSpec.ofChange formulaMeaningSpec)

/-- ITS FALSE NEIGHBOUR: 'it returns false'. Refute it at one input. -/
def formulaMeaningWrong : ChangeSpec := { name := "formulaMeaning", fn := fun _ => fun
  | [d1, d2, d3] => { results := [.lit (.bool false)], args := [d1, d2, d3] }
  | _ => none }
def FormulaMeaningWrongFalsely : Prop := formulaMeaningRow.holds Tryz.pinned (OpenSpec.ofChange formulaMeaningWrong)

/-- 'priorartlaw07.FormulaBoolean': WHATEVER THE INPUT: true; the input reads as it did. -/
def formulaBooleanSpec : ChangeSpec := { name := "formulaBoolean", fn := fun _ => fun
  | [d1, d2, d3, d4] => { results := [.lit (.bool true)], args := [d1, d2, d3, d4] }
  | _ => none }
def formulaBooleanRow : OpenClaim := { program := "ytbpilielamjnoaagreat", sum := "020afb03130c9524c0291d4c4855f736f2754552be0c74354f768430922ae162", func := "priorart/priorartlaw07.FormulaBoolean", spec := "formulaBoolean", unfollowed := true, recurses := true, apart := false }
def FormulaBooleanSaid : Prop := formulaBooleanRow.holds Tryz.pinned (OpenSpec.ofChange formulaBooleanSpec)

/-- ITS FALSE NEIGHBOUR: 'it returns false'. Refute it at one input. -/
def formulaBooleanWrong : ChangeSpec := { name := "formulaBoolean", fn := fun _ => fun
  | [d1, d2, d3, d4] => { results := [.lit (.bool false)], args := [d1, d2, d3, d4] }
  | _ => none }
def FormulaBooleanWrongFalsely : Prop := formulaBooleanRow.holds Tryz.pinned (OpenSpec.ofChange formulaBooleanWrong)

/-- 'priorartlaw07.FormulaOrder': WHATEVER THE INPUT: true; the input reads as it did. -/
def formulaOrderSpec : ChangeSpec := { name := "formulaOrder", fn := fun _ => fun
  | [d1, d2, d3, d4, d5] => { results := [.lit (.bool true)], args := [d1, d2, d3, d4, d5] }
  | _ => none }
def formulaOrderRow : OpenClaim := { program := "ytbpilielamjnoaagreat", sum := "020afb03130c9524c0291d4c4855f736f2754552be0c74354f768430922ae162", func := "priorart/priorartlaw07.FormulaOrder", spec := "formulaOrder", unfollowed := true, recurses := true, apart := false }
def FormulaOrderSaid : Prop := formulaOrderRow.holds Tryz.pinned (OpenSpec.ofChange formulaOrderSpec)

/-- ITS FALSE NEIGHBOUR: 'it returns false'. Refute it at one input. -/
def formulaOrderWrong : ChangeSpec := { name := "formulaOrder", fn := fun _ => fun
  | [d1, d2, d3, d4, d5] => { results := [.lit (.bool false)], args := [d1, d2, d3, d4, d5] }
  | _ => none }
def FormulaOrderWrongFalsely : Prop := formulaOrderRow.holds Tryz.pinned (OpenSpec.ofChange formulaOrderWrong)

/-- 'priorartlaw07.FormulaInherits': WHATEVER THE INPUT: true; the input reads as it did. -/
def formulaInheritsSpec : ChangeSpec := { name := "formulaInherits", fn := fun _ => fun
  | [d1, d2, d3, d4, d5] => { results := [.lit (.bool true)], args := [d1, d2, d3, d4, d5] }
  | _ => none }
def formulaInheritsRow : OpenClaim := { program := "ytbpilielamjnoaagreat", sum := "020afb03130c9524c0291d4c4855f736f2754552be0c74354f768430922ae162", func := "priorart/priorartlaw07.FormulaInherits", spec := "formulaInherits", unfollowed := true, recurses := true, apart := false }
def FormulaInheritsSaid : Prop := formulaInheritsRow.holds Tryz.pinned (OpenSpec.ofChange formulaInheritsSpec)

/-- ITS FALSE NEIGHBOUR: 'it returns false'. Refute it at one input. -/
def formulaInheritsWrong : ChangeSpec := { name := "formulaInherits", fn := fun _ => fun
  | [d1, d2, d3, d4, d5] => { results := [.lit (.bool false)], args := [d1, d2, d3, d4, d5] }
  | _ => none }
def FormulaInheritsWrongFalsely : Prop := formulaInheritsRow.holds Tryz.pinned (OpenSpec.ofChange formulaInheritsWrong)

/- THE SECOND FORM. 'bulk': how many values and letters a reading holds, each counted each time it is reached (what is shared counts as often as it is met; a slice's spare places count too). A statement '..UptoSaid' is the law's where the arguments, and the package variables that the reading takes, are together of bulk at most 1048576: NARROWER than '..Said'. Prove '..Said' where nothing that the law and all that it calls make is longer than what came in: it says more and counts as full. Else prove '..UptoSaid'. A law counts once. -/
mutual
def uptoBulk {H : Type} : DataW H → Nat
  | .lit (.string bytes) => bytes.length + 1
  | .lit _ => 1
  | .nil => 1
  | .ptr d => uptoBulk d + 1
  | .slice elems spare => uptoBulkAll elems + uptoBulkAll spare + 1
  | .agg parts => uptoBulkAll parts + 1
  | .iface _ d => uptoBulk d + 1
  | .map entries => uptoBulkEntries entries + 1
  | .held _ => 1
def uptoBulkAll {H : Type} : List (DataW H) → Nat
  | [] => 0
  | d :: r => uptoBulk d + uptoBulkAll r
def uptoBulkEntries {H : Type} : List (Lit × DataW H) → Nat
  | [] => 0
  | x :: r => uptoBulkEntry x + uptoBulkEntries r
def uptoBulkEntry {H : Type} : Lit × DataW H → Nat
  | (.string bytes, d) => bytes.length + uptoBulk d + 1
  | (_, d) => uptoBulk d + 1
 end
def uptoSmall : (H : Type) → List (DataW H) → Bool := fun _ ds => decide (uptoBulkAll ds ≤ 1048576)
def OpenSpec.upto (s : _root_.Go.ChangeSpec) : _root_.Go.OpenSpec := { _root_.Go.OpenSpec.ofChange s with cond := some uptoSmall }

/-- 'priorartlaw07.FormulaValid', WHERE WHAT IT READS IS OF BULK AT MOST 1048576: true; the input reads as it did. -/
def formulaValidUptoRow : OpenClaim := { program := "ytbpilielamjnoaagreat", sum := "020afb03130c9524c0291d4c4855f736f2754552be0c74354f768430922ae162", func := "priorart/priorartlaw07.FormulaValid", spec := "formulaValid", unfollowed := true, recurses := true, apart := false, narrowed := true }
def FormulaValidUptoSaid : Prop := formulaValidUptoRow.holds Tryz.pinned (OpenSpec.upto formulaValidSpec)

/-- 'priorartlaw07.FormulaHolds', WHERE WHAT IT READS IS OF BULK AT MOST 1048576: true; the input reads as it did. -/
def formulaHoldsUptoRow : OpenClaim := { program := "ytbpilielamjnoaagreat", sum := "020afb03130c9524c0291d4c4855f736f2754552be0c74354f768430922ae162", func := "priorart/priorartlaw07.FormulaHolds", spec := "formulaHolds", unfollowed := true, recurses := true, apart := false, narrowed := true }
def FormulaHoldsUptoSaid : Prop := formulaHoldsUptoRow.holds Tryz.pinned (OpenSpec.upto formulaHoldsSpec)

/-- 'priorartlaw07.FormulaForms', WHERE WHAT IT READS IS OF BULK AT MOST 1048576: true; the input reads as it did. -/
def formulaFormsUptoRow : OpenClaim := { program := "ytbpilielamjnoaagreat", sum := "020afb03130c9524c0291d4c4855f736f2754552be0c74354f768430922ae162", func := "priorart/priorartlaw07.FormulaForms", spec := "formulaForms", unfollowed := true, recurses := true, apart := false, narrowed := true }
def FormulaFormsUptoSaid : Prop := formulaFormsUptoRow.holds Tryz.pinned (OpenSpec.upto formulaFormsSpec)

/-- 'priorartlaw07.FormulaMeaning', WHERE WHAT IT READS IS OF BULK AT MOST 1048576: true; the input reads as it did. -/
def formulaMeaningUptoRow : OpenClaim := { program := "ytbpilielamjnoaagreat", sum := "020afb03130c9524c0291d4c4855f736f2754552be0c74354f768430922ae162", func := "priorart/priorartlaw07.FormulaMeaning", spec := "formulaMeaning", unfollowed := true, recurses := true, apart := false, narrowed := true }
def FormulaMeaningUptoSaid : Prop := formulaMeaningUptoRow.holds Tryz.pinned (OpenSpec.upto formulaMeaningSpec)

/-- 'priorartlaw07.FormulaBoolean', WHERE WHAT IT READS IS OF BULK AT MOST 1048576: true; the input reads as it did. -/
def formulaBooleanUptoRow : OpenClaim := { program := "ytbpilielamjnoaagreat", sum := "020afb03130c9524c0291d4c4855f736f2754552be0c74354f768430922ae162", func := "priorart/priorartlaw07.FormulaBoolean", spec := "formulaBoolean", unfollowed := true, recurses := true, apart := false, narrowed := true }
def FormulaBooleanUptoSaid : Prop := formulaBooleanUptoRow.holds Tryz.pinned (OpenSpec.upto formulaBooleanSpec)

/-- 'priorartlaw07.FormulaOrder', WHERE WHAT IT READS IS OF BULK AT MOST 1048576: true; the input reads as it did. -/
def formulaOrderUptoRow : OpenClaim := { program := "ytbpilielamjnoaagreat", sum := "020afb03130c9524c0291d4c4855f736f2754552be0c74354f768430922ae162", func := "priorart/priorartlaw07.FormulaOrder", spec := "formulaOrder", unfollowed := true, recurses := true, apart := false, narrowed := true }
def FormulaOrderUptoSaid : Prop := formulaOrderUptoRow.holds Tryz.pinned (OpenSpec.upto formulaOrderSpec)

/-- 'priorartlaw07.FormulaInherits', WHERE WHAT IT READS IS OF BULK AT MOST 1048576: true; the input reads as it did. -/
def formulaInheritsUptoRow : OpenClaim := { program := "ytbpilielamjnoaagreat", sum := "020afb03130c9524c0291d4c4855f736f2754552be0c74354f768430922ae162", func := "priorart/priorartlaw07.FormulaInherits", spec := "formulaInherits", unfollowed := true, recurses := true, apart := false, narrowed := true }
def FormulaInheritsUptoSaid : Prop := formulaInheritsUptoRow.holds Tryz.pinned (OpenSpec.upto formulaInheritsSpec)

end Rows
end Go.Proofs.YtbpilielamjnoaaGreat

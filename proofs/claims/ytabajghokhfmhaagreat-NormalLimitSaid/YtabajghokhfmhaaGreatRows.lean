/-
  No cell of these rows narrows 'for every input' (looked for: loops, veiled, ifaces, maps, wideKeys, modest, calm, conditions, laid).
  DERIVED. THE GIVEN ROWS OF THIS SEAT. 6 by the template 'for every input the law returns true; each argument reads behind the call as it read before'; 0 by the template 'total and deterministic' (their statements: YtabajghokhfmhaaGreatTotals.lean).
  GIVEN WITH THE SEED: the statements are not yours to turn. If you find one false, say at which input.
  Laid BY PROGRAM, IN A SANDBOX (cutbox-rows.mjs): the forced cells as the released guide's own fill.sh prints them over the translation 838b2acaa95ef658… (all of the seat's roots in one cut). By AI agents, Wed Nov 11 2026. No macro, syntax, notation, axiom, sorry.
-/
import Derived.Test.YtabajghokhfmhaaGreatChecked
import GoSem.Claim
import GoSem.ClaimJoined
import GoSem.ClaimMapViews
import Derived.JoinedTies
import Derived.KernelRfl
namespace Go.Proofs.YtabajghokhfmhaaGreat
/- THE CELL 'sum', in the pinned program and in every row, IS THE sha256 OF THE DUMP (.gsa) THAT YtabajghokhfmhaaGreatProg.lean LOADS. Nothing in Lean hashes anything: it is a label: what it is worth is what the hold of that sum in a sandbox is worth. -/
noncomputable def Tryz.pinned : Pinned := { name := "ytabajghokhfmhaagreat", sum := "838b2acaa95ef65847c2493c0bd35ec105ecd29f9a9c426c87aab9cd25cf7597", checked := Tryz.checked }
namespace Rows
def none {H : Type} : Left H := { results := [], args := [] }

/-- 'priorartlaw09.NormalAlts': WHATEVER THE INPUT: true; the input reads as it did. -/
def normalAltsSpec : ChangeSpec := { name := "normalAlts", fn := fun _ => fun
  | [d1, d2, d3, d4, d5, d6] => { results := [.lit (.bool true)], args := [d1, d2, d3, d4, d5, d6] }
  | _ => none }
def normalAltsRow : OpenClaim := { program := "ytabajghokhfmhaagreat", sum := "838b2acaa95ef65847c2493c0bd35ec105ecd29f9a9c426c87aab9cd25cf7597", func := "priorart/priorartlaw09.NormalAlts", spec := "normalAlts", unfollowed := true, recurses := true, apart := false }
def NormalAltsSaid : Prop := normalAltsRow.holds Tryz.pinned (OpenSpec.ofChange normalAltsSpec)

/-- ITS FALSE NEIGHBOUR: 'it returns false'. Refute it at one input. -/
def normalAltsWrong : ChangeSpec := { name := "normalAlts", fn := fun _ => fun
  | [d1, d2, d3, d4, d5, d6] => { results := [.lit (.bool false)], args := [d1, d2, d3, d4, d5, d6] }
  | _ => none }
def NormalAltsWrongFalsely : Prop := normalAltsRow.holds Tryz.pinned (OpenSpec.ofChange normalAltsWrong)

/-- 'priorartlaw09.NormalParts': WHATEVER THE INPUT: true; the input reads as it did. -/
def normalPartsSpec : ChangeSpec := { name := "normalParts", fn := fun _ => fun
  | [d1, d2, d3] => { results := [.lit (.bool true)], args := [d1, d2, d3] }
  | _ => none }
def normalPartsRow : OpenClaim := { program := "ytabajghokhfmhaagreat", sum := "838b2acaa95ef65847c2493c0bd35ec105ecd29f9a9c426c87aab9cd25cf7597", func := "priorart/priorartlaw09.NormalParts", spec := "normalParts", unfollowed := true, recurses := true, apart := false }
def NormalPartsSaid : Prop := normalPartsRow.holds Tryz.pinned (OpenSpec.ofChange normalPartsSpec)

/-- ITS FALSE NEIGHBOUR: 'it returns false'. Refute it at one input. -/
def normalPartsWrong : ChangeSpec := { name := "normalParts", fn := fun _ => fun
  | [d1, d2, d3] => { results := [.lit (.bool false)], args := [d1, d2, d3] }
  | _ => none }
def NormalPartsWrongFalsely : Prop := normalPartsRow.holds Tryz.pinned (OpenSpec.ofChange normalPartsWrong)

/-- 'priorartlaw09.NormalLimit': WHATEVER THE INPUT: true; the input reads as it did. -/
def normalLimitSpec : ChangeSpec := { name := "normalLimit", fn := fun _ => fun
  | [d1, d2, d3] => { results := [.lit (.bool true)], args := [d1, d2, d3] }
  | _ => none }
def normalLimitRow : OpenClaim := { program := "ytabajghokhfmhaagreat", sum := "838b2acaa95ef65847c2493c0bd35ec105ecd29f9a9c426c87aab9cd25cf7597", func := "priorart/priorartlaw09.NormalLimit", spec := "normalLimit", unfollowed := true, recurses := true, apart := false }
def NormalLimitSaid : Prop := normalLimitRow.holds Tryz.pinned (OpenSpec.ofChange normalLimitSpec)

/-- ITS FALSE NEIGHBOUR: 'it returns false'. Refute it at one input. -/
def normalLimitWrong : ChangeSpec := { name := "normalLimit", fn := fun _ => fun
  | [d1, d2, d3] => { results := [.lit (.bool false)], args := [d1, d2, d3] }
  | _ => none }
def NormalLimitWrongFalsely : Prop := normalLimitRow.holds Tryz.pinned (OpenSpec.ofChange normalLimitWrong)

/-- 'priorartlaw09.NormalMeaning': WHATEVER THE INPUT: true; the input reads as it did. -/
def normalMeaningSpec : ChangeSpec := { name := "normalMeaning", fn := fun _ => fun
  | [d1, d2, d3] => { results := [.lit (.bool true)], args := [d1, d2, d3] }
  | _ => none }
def normalMeaningRow : OpenClaim := { program := "ytabajghokhfmhaagreat", sum := "838b2acaa95ef65847c2493c0bd35ec105ecd29f9a9c426c87aab9cd25cf7597", func := "priorart/priorartlaw09.NormalMeaning", spec := "normalMeaning", unfollowed := true, recurses := true, apart := false }
def NormalMeaningSaid : Prop := normalMeaningRow.holds Tryz.pinned (OpenSpec.ofChange normalMeaningSpec)

/-- ITS FALSE NEIGHBOUR: 'it returns false'. Refute it at one input. -/
def normalMeaningWrong : ChangeSpec := { name := "normalMeaning", fn := fun _ => fun
  | [d1, d2, d3] => { results := [.lit (.bool false)], args := [d1, d2, d3] }
  | _ => none }
def NormalMeaningWrongFalsely : Prop := normalMeaningRow.holds Tryz.pinned (OpenSpec.ofChange normalMeaningWrong)

/-- 'priorartlaw09.NormalClear': WHATEVER THE INPUT: true; the input reads as it did. -/
def normalClearSpec : ChangeSpec := { name := "normalClear", fn := fun _ => fun
  | [d1, d2, d3] => { results := [.lit (.bool true)], args := [d1, d2, d3] }
  | _ => none }
def normalClearRow : OpenClaim := { program := "ytabajghokhfmhaagreat", sum := "838b2acaa95ef65847c2493c0bd35ec105ecd29f9a9c426c87aab9cd25cf7597", func := "priorart/priorartlaw09.NormalClear", spec := "normalClear", unfollowed := true, recurses := true, apart := false }
def NormalClearSaid : Prop := normalClearRow.holds Tryz.pinned (OpenSpec.ofChange normalClearSpec)

/-- ITS FALSE NEIGHBOUR: 'it returns false'. Refute it at one input. -/
def normalClearWrong : ChangeSpec := { name := "normalClear", fn := fun _ => fun
  | [d1, d2, d3] => { results := [.lit (.bool false)], args := [d1, d2, d3] }
  | _ => none }
def NormalClearWrongFalsely : Prop := normalClearRow.holds Tryz.pinned (OpenSpec.ofChange normalClearWrong)

/-- 'priorartlaw09.NormalHolds': WHATEVER THE INPUT: true; the input reads as it did. -/
def normalHoldsSpec : ChangeSpec := { name := "normalHolds", fn := fun _ => fun
  | [d1, d2, d3, d4, d5] => { results := [.lit (.bool true)], args := [d1, d2, d3, d4, d5] }
  | _ => none }
def normalHoldsRow : OpenClaim := { program := "ytabajghokhfmhaagreat", sum := "838b2acaa95ef65847c2493c0bd35ec105ecd29f9a9c426c87aab9cd25cf7597", func := "priorart/priorartlaw09.NormalHolds", spec := "normalHolds", unfollowed := true, recurses := true, apart := false }
def NormalHoldsSaid : Prop := normalHoldsRow.holds Tryz.pinned (OpenSpec.ofChange normalHoldsSpec)

/-- ITS FALSE NEIGHBOUR: 'it returns false'. Refute it at one input. -/
def normalHoldsWrong : ChangeSpec := { name := "normalHolds", fn := fun _ => fun
  | [d1, d2, d3, d4, d5] => { results := [.lit (.bool false)], args := [d1, d2, d3, d4, d5] }
  | _ => none }
def NormalHoldsWrongFalsely : Prop := normalHoldsRow.holds Tryz.pinned (OpenSpec.ofChange normalHoldsWrong)

/- THE SECOND FORM. 'bulk': how many values and letters a reading holds, each counted each time it is reached (what is shared counts as often as it is met; a slice's spare places count too). A statement '..UptoSaid' is the law's where the arguments, and the package variables that the reading takes, are together of bulk at most 1048576: NARROWER than '..Said'. Prove '..Said' where nothing that the law and all that it calls make is longer than what came in: it says more and counts as full. Else prove '..UptoSaid'. A law counts once. -/
mutual
def uptoBulk {H : Type} : DataW H → Nat
  | .lit (.string bytes) => bytes.length + 1
  | .lit _ => 1
  | .nil => 1
  | .ptr d => uptoBulk d + 1
  | .slice elems spare => uptoBulkAll elems + uptoBulkAll spare + 1
  | .agg parts => uptoBulkAll parts + 1
  | .iface _ d => uptoBulk d + 1
  | .map entries => uptoBulkEntries entries + 1
  | .held _ => 1
def uptoBulkAll {H : Type} : List (DataW H) → Nat
  | [] => 0
  | d :: r => uptoBulk d + uptoBulkAll r
def uptoBulkEntries {H : Type} : List (Lit × DataW H) → Nat
  | [] => 0
  | x :: r => uptoBulkEntry x + uptoBulkEntries r
def uptoBulkEntry {H : Type} : Lit × DataW H → Nat
  | (.string bytes, d) => bytes.length + uptoBulk d + 1
  | (_, d) => uptoBulk d + 1
 end
def uptoSmall : (H : Type) → List (DataW H) → Bool := fun _ ds => decide (uptoBulkAll ds ≤ 1048576)
def OpenSpec.upto (s : _root_.Go.ChangeSpec) : _root_.Go.OpenSpec := { _root_.Go.OpenSpec.ofChange s with cond := some uptoSmall }

/-- 'priorartlaw09.NormalAlts', WHERE WHAT IT READS IS OF BULK AT MOST 1048576: true; the input reads as it did. -/
def normalAltsUptoRow : OpenClaim := { program := "ytabajghokhfmhaagreat", sum := "838b2acaa95ef65847c2493c0bd35ec105ecd29f9a9c426c87aab9cd25cf7597", func := "priorart/priorartlaw09.NormalAlts", spec := "normalAlts", unfollowed := true, recurses := true, apart := false, narrowed := true }
def NormalAltsUptoSaid : Prop := normalAltsUptoRow.holds Tryz.pinned (OpenSpec.upto normalAltsSpec)

/-- 'priorartlaw09.NormalParts', WHERE WHAT IT READS IS OF BULK AT MOST 1048576: true; the input reads as it did. -/
def normalPartsUptoRow : OpenClaim := { program := "ytabajghokhfmhaagreat", sum := "838b2acaa95ef65847c2493c0bd35ec105ecd29f9a9c426c87aab9cd25cf7597", func := "priorart/priorartlaw09.NormalParts", spec := "normalParts", unfollowed := true, recurses := true, apart := false, narrowed := true }
def NormalPartsUptoSaid : Prop := normalPartsUptoRow.holds Tryz.pinned (OpenSpec.upto normalPartsSpec)

/-- 'priorartlaw09.NormalLimit', WHERE WHAT IT READS IS OF BULK AT MOST 1048576: true; the input reads as it did. -/
def normalLimitUptoRow : OpenClaim := { program := "ytabajghokhfmhaagreat", sum := "838b2acaa95ef65847c2493c0bd35ec105ecd29f9a9c426c87aab9cd25cf7597", func := "priorart/priorartlaw09.NormalLimit", spec := "normalLimit", unfollowed := true, recurses := true, apart := false, narrowed := true }
def NormalLimitUptoSaid : Prop := normalLimitUptoRow.holds Tryz.pinned (OpenSpec.upto normalLimitSpec)

/-- 'priorartlaw09.NormalMeaning', WHERE WHAT IT READS IS OF BULK AT MOST 1048576: true; the input reads as it did. -/
def normalMeaningUptoRow : OpenClaim := { program := "ytabajghokhfmhaagreat", sum := "838b2acaa95ef65847c2493c0bd35ec105ecd29f9a9c426c87aab9cd25cf7597", func := "priorart/priorartlaw09.NormalMeaning", spec := "normalMeaning", unfollowed := true, recurses := true, apart := false, narrowed := true }
def NormalMeaningUptoSaid : Prop := normalMeaningUptoRow.holds Tryz.pinned (OpenSpec.upto normalMeaningSpec)

/-- 'priorartlaw09.NormalClear', WHERE WHAT IT READS IS OF BULK AT MOST 1048576: true; the input reads as it did. -/
def normalClearUptoRow : OpenClaim := { program := "ytabajghokhfmhaagreat", sum := "838b2acaa95ef65847c2493c0bd35ec105ecd29f9a9c426c87aab9cd25cf7597", func := "priorart/priorartlaw09.NormalClear", spec := "normalClear", unfollowed := true, recurses := true, apart := false, narrowed := true }
def NormalClearUptoSaid : Prop := normalClearUptoRow.holds Tryz.pinned (OpenSpec.upto normalClearSpec)

/-- 'priorartlaw09.NormalHolds', WHERE WHAT IT READS IS OF BULK AT MOST 1048576: true; the input reads as it did. -/
def normalHoldsUptoRow : OpenClaim := { program := "ytabajghokhfmhaagreat", sum := "838b2acaa95ef65847c2493c0bd35ec105ecd29f9a9c426c87aab9cd25cf7597", func := "priorart/priorartlaw09.NormalHolds", spec := "normalHolds", unfollowed := true, recurses := true, apart := false, narrowed := true }
def NormalHoldsUptoSaid : Prop := normalHoldsUptoRow.holds Tryz.pinned (OpenSpec.upto normalHoldsSpec)

end Rows
end Go.Proofs.YtabajghokhfmhaaGreat

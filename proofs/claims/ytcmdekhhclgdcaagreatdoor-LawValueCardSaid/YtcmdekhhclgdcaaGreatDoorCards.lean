/-
  DERIVED. GIVEN WITH THE SEED: THE CARDS: each row of YtcmdekhhclgdcaaGreatDoorRows.lean that lists a variable, with what it lists TIED to the program's text (the seventh form; the later family's looks); each row that meets fmt, with fmt's text TOLD by the authors' own Lean function (tested against real Go, not proved from fmt's source: count such statements apart). THE CARD IS WHAT COUNTS. Prove the row's statement (the work); the ties are given (YtcmdekhhclgdcaaGreatDoorTie.lean); close each card by the builder's one call (the guide's Derived/Test/ToyasCard.lean, 'card_holds'). Laid BY PROGRAM, IN A SANDBOX (cutbox-door.mjs). By AI agents, Wed Nov 11 2026. No macro, syntax, notation, axiom, sorry.
-/
import Derived.Test.YtcmdekhhclgdcaaGreatDoorRows
import GoSem.ClaimSeven
namespace Go.Proofs.YtcmdekhhclgdcaaGreatDoor
namespace Rows

/-- THE TIED CARD OF 'priorartlaw17.LawValue'. -/
def lawValueCard : Claim7 := { stood := { row := lawValueRow, standIns := [], harness := (true, "dadf048d9d9bb14a3928dcdae80292c3e6b270b6aebd10f6a780c210afe41811"), looks := false }, kinds := [], alts := [], laidByText := true, laidKinds := [.data, .wider], laidTests := true, laidLooks := .later }
def LawValueCardSaid : Prop := Claim7.holds Tryz.pinned (.plain (OpenSpec.ofChange lawValueSpec)) lawValueCard

/-- THE TIED CARD OF 'priorartlaw17.LawLast'. -/
def lawLastCard : Claim7 := { stood := { row := lawLastRow, standIns := [], harness := (true, "dadf048d9d9bb14a3928dcdae80292c3e6b270b6aebd10f6a780c210afe41811"), looks := false }, kinds := [], alts := [], laidByText := true, laidKinds := [.data, .wider], laidTests := true, laidLooks := .later }
def LawLastCardSaid : Prop := Claim7.holds Tryz.pinned (.plain (OpenSpec.ofChange lawLastSpec)) lawLastCard

/-- THE SECOND FORM's CARD OF 'priorartlaw17.LawValue'. -/
def lawValueUptoCard : Claim7 := { stood := { row := lawValueUptoRow, standIns := [], harness := (true, "dadf048d9d9bb14a3928dcdae80292c3e6b270b6aebd10f6a780c210afe41811"), looks := false }, kinds := [], alts := [], laidByText := true, laidKinds := [.data, .wider], laidTests := true, laidLooks := .later }
def LawValueUptoCardSaid : Prop := Claim7.holds Tryz.pinned (.plain (OpenSpec.upto lawValueSpec)) lawValueUptoCard

/-- THE SECOND FORM's CARD OF 'priorartlaw17.LawLast'. -/
def lawLastUptoCard : Claim7 := { stood := { row := lawLastUptoRow, standIns := [], harness := (true, "dadf048d9d9bb14a3928dcdae80292c3e6b270b6aebd10f6a780c210afe41811"), looks := false }, kinds := [], alts := [], laidByText := true, laidKinds := [.data, .wider], laidTests := true, laidLooks := .later }
def LawLastUptoCardSaid : Prop := Claim7.holds Tryz.pinned (.plain (OpenSpec.upto lawLastSpec)) lawLastUptoCard
end Rows
end Go.Proofs.YtcmdekhhclgdcaaGreatDoor

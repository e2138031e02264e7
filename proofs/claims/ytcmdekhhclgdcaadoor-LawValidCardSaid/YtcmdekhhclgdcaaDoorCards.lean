/-
  DERIVED. GIVEN WITH THE SEED: THE CARDS: each row of YtcmdekhhclgdcaaDoorRows.lean that lists a variable, with what it lists TIED to the program's text (the seventh form; the later family's looks); each row that meets fmt, with fmt's text TOLD by the authors' own Lean function (tested against real Go, not proved from fmt's source: count such statements apart). THE CARD IS WHAT COUNTS. Prove the row's statement (the work); the ties are given (YtcmdekhhclgdcaaDoorTie.lean); close each card by the builder's one call (the guide's Derived/Test/ToyasCard.lean, 'card_holds'). Laid BY PROGRAM, IN A SANDBOX (cutbox-door.mjs). By AI agents, Wed Nov 11 2026. No macro, syntax, notation, axiom, sorry.
-/
import Derived.Test.YtcmdekhhclgdcaaDoorRows
import GoSem.ClaimSeven
namespace Go.Proofs.YtcmdekhhclgdcaaDoor
namespace Rows

/-- THE TIED CARD OF 'priorartlaw15.TermBreaks'. -/
def termBreaksCard : Claim7 := { stood := { row := termBreaksRow, standIns := [], harness := (true, "f47d966dad19ed984efebd9b42ddf054b875d8c640f537a126dfadda8c81c63e"), looks := false }, kinds := [], alts := [], laidByText := true, laidKinds := [.data], laidTests := true, laidLooks := .later }
def TermBreaksCardSaid : Prop := Claim7.holds Tryd.pinned (.plain (OpenSpec.ofChange termBreaksSpec)) termBreaksCard

/-- THE TIED CARD OF 'priorartlaw15.TermOpen'. -/
def termOpenCard : Claim7 := { stood := { row := termOpenRow, standIns := [], harness := (true, "f47d966dad19ed984efebd9b42ddf054b875d8c640f537a126dfadda8c81c63e"), looks := false }, kinds := [], alts := [], laidByText := true, laidKinds := [.data], laidTests := true, laidLooks := .later }
def TermOpenCardSaid : Prop := Claim7.holds Tryd.pinned (.plain (OpenSpec.ofChange termOpenSpec)) termOpenCard

/-- THE TIED CARD OF 'priorartlaw15.TermLater'. -/
def termLaterCard : Claim7 := { stood := { row := termLaterRow, standIns := [], harness := (true, "f47d966dad19ed984efebd9b42ddf054b875d8c640f537a126dfadda8c81c63e"), looks := false }, kinds := [], alts := [], laidByText := true, laidKinds := [.data], laidTests := true, laidLooks := .later }
def TermLaterCardSaid : Prop := Claim7.holds Tryd.pinned (.plain (OpenSpec.ofChange termLaterSpec)) termLaterCard

/-- THE TIED CARD OF 'priorartlaw15.TermDays'. -/
def termDaysCard : Claim7 := { stood := { row := termDaysRow, standIns := [], harness := (true, "f47d966dad19ed984efebd9b42ddf054b875d8c640f537a126dfadda8c81c63e"), looks := false }, kinds := [], alts := [], laidByText := true, laidKinds := [.data], laidTests := true, laidLooks := .later }
def TermDaysCardSaid : Prop := Claim7.holds Tryd.pinned (.plain (OpenSpec.ofChange termDaysSpec)) termDaysCard

/-- THE TIED CARD OF 'priorartlaw15.TermEnds'. -/
def termEndsCard : Claim7 := { stood := { row := termEndsRow, standIns := [], harness := (true, "f47d966dad19ed984efebd9b42ddf054b875d8c640f537a126dfadda8c81c63e"), looks := false }, kinds := [], alts := [], laidByText := true, laidKinds := [.data], laidTests := true, laidLooks := .later }
def TermEndsCardSaid : Prop := Claim7.holds Tryd.pinned (.plain (OpenSpec.ofChange termEndsSpec)) termEndsCard

/-- THE TIED CARD OF 'priorartlaw15.TermKept'. -/
def termKeptCard : Claim7 := { stood := { row := termKeptRow, standIns := [], harness := (true, "f47d966dad19ed984efebd9b42ddf054b875d8c640f537a126dfadda8c81c63e"), looks := false }, kinds := [], alts := [], laidByText := true, laidKinds := [.data], laidTests := true, laidLooks := .later }
def TermKeptCardSaid : Prop := Claim7.holds Tryd.pinned (.plain (OpenSpec.ofChange termKeptSpec)) termKeptCard

/-- THE TIED CARD OF 'priorartlaw17.LawValid'. -/
def lawValidCard : Claim7 := { stood := { row := lawValidRow, standIns := [], harness := (true, "f47d966dad19ed984efebd9b42ddf054b875d8c640f537a126dfadda8c81c63e"), looks := false }, kinds := [], alts := [], laidByText := true, laidKinds := [.data, .wider], laidTests := true, laidLooks := .later }
def LawValidCardSaid : Prop := Claim7.holds Tryd.pinned (.plain (OpenSpec.ofChange lawValidSpec)) lawValidCard

/-- THE TIED CARD OF 'priorartlaw17.LawRulings'. -/
def lawRulingsCard : Claim7 := { stood := { row := lawRulingsRow, standIns := [], harness := (true, "f47d966dad19ed984efebd9b42ddf054b875d8c640f537a126dfadda8c81c63e"), looks := false }, kinds := [], alts := [], laidByText := true, laidKinds := [.data, .wider], laidTests := true, laidLooks := .later }
def LawRulingsCardSaid : Prop := Claim7.holds Tryd.pinned (.plain (OpenSpec.ofChange lawRulingsSpec)) lawRulingsCard

/-- THE TIED CARD OF 'priorartlaw17.LawChanges'. -/
def lawChangesCard : Claim7 := { stood := { row := lawChangesRow, standIns := [], harness := (true, "f47d966dad19ed984efebd9b42ddf054b875d8c640f537a126dfadda8c81c63e"), looks := false }, kinds := [], alts := [], laidByText := true, laidKinds := [.data, .wider], laidTests := true, laidLooks := .later }
def LawChangesCardSaid : Prop := Claim7.holds Tryd.pinned (.plain (OpenSpec.ofChange lawChangesSpec)) lawChangesCard

/-- THE TIED CARD OF 'priorartlaw17.LawTerms'. -/
def lawTermsCard : Claim7 := { stood := { row := lawTermsRow, standIns := [], harness := (true, "f47d966dad19ed984efebd9b42ddf054b875d8c640f537a126dfadda8c81c63e"), looks := false }, kinds := [], alts := [], laidByText := true, laidKinds := [.data, .wider], laidTests := true, laidLooks := .later }
def LawTermsCardSaid : Prop := Claim7.holds Tryd.pinned (.plain (OpenSpec.ofChange lawTermsSpec)) lawTermsCard

/-- THE SECOND FORM's CARD OF 'priorartlaw15.TermBreaks'. -/
def termBreaksUptoCard : Claim7 := { stood := { row := termBreaksUptoRow, standIns := [], harness := (true, "f47d966dad19ed984efebd9b42ddf054b875d8c640f537a126dfadda8c81c63e"), looks := false }, kinds := [], alts := [], laidByText := true, laidKinds := [.data], laidTests := true, laidLooks := .later }
def TermBreaksUptoCardSaid : Prop := Claim7.holds Tryd.pinned (.plain (OpenSpec.upto termBreaksSpec)) termBreaksUptoCard

/-- THE SECOND FORM's CARD OF 'priorartlaw15.TermOpen'. -/
def termOpenUptoCard : Claim7 := { stood := { row := termOpenUptoRow, standIns := [], harness := (true, "f47d966dad19ed984efebd9b42ddf054b875d8c640f537a126dfadda8c81c63e"), looks := false }, kinds := [], alts := [], laidByText := true, laidKinds := [.data], laidTests := true, laidLooks := .later }
def TermOpenUptoCardSaid : Prop := Claim7.holds Tryd.pinned (.plain (OpenSpec.upto termOpenSpec)) termOpenUptoCard

/-- THE SECOND FORM's CARD OF 'priorartlaw15.TermLater'. -/
def termLaterUptoCard : Claim7 := { stood := { row := termLaterUptoRow, standIns := [], harness := (true, "f47d966dad19ed984efebd9b42ddf054b875d8c640f537a126dfadda8c81c63e"), looks := false }, kinds := [], alts := [], laidByText := true, laidKinds := [.data], laidTests := true, laidLooks := .later }
def TermLaterUptoCardSaid : Prop := Claim7.holds Tryd.pinned (.plain (OpenSpec.upto termLaterSpec)) termLaterUptoCard

/-- THE SECOND FORM's CARD OF 'priorartlaw15.TermDays'. -/
def termDaysUptoCard : Claim7 := { stood := { row := termDaysUptoRow, standIns := [], harness := (true, "f47d966dad19ed984efebd9b42ddf054b875d8c640f537a126dfadda8c81c63e"), looks := false }, kinds := [], alts := [], laidByText := true, laidKinds := [.data], laidTests := true, laidLooks := .later }
def TermDaysUptoCardSaid : Prop := Claim7.holds Tryd.pinned (.plain (OpenSpec.upto termDaysSpec)) termDaysUptoCard

/-- THE SECOND FORM's CARD OF 'priorartlaw15.TermEnds'. -/
def termEndsUptoCard : Claim7 := { stood := { row := termEndsUptoRow, standIns := [], harness := (true, "f47d966dad19ed984efebd9b42ddf054b875d8c640f537a126dfadda8c81c63e"), looks := false }, kinds := [], alts := [], laidByText := true, laidKinds := [.data], laidTests := true, laidLooks := .later }
def TermEndsUptoCardSaid : Prop := Claim7.holds Tryd.pinned (.plain (OpenSpec.upto termEndsSpec)) termEndsUptoCard

/-- THE SECOND FORM's CARD OF 'priorartlaw15.TermKept'. -/
def termKeptUptoCard : Claim7 := { stood := { row := termKeptUptoRow, standIns := [], harness := (true, "f47d966dad19ed984efebd9b42ddf054b875d8c640f537a126dfadda8c81c63e"), looks := false }, kinds := [], alts := [], laidByText := true, laidKinds := [.data], laidTests := true, laidLooks := .later }
def TermKeptUptoCardSaid : Prop := Claim7.holds Tryd.pinned (.plain (OpenSpec.upto termKeptSpec)) termKeptUptoCard

/-- THE SECOND FORM's CARD OF 'priorartlaw17.LawValid'. -/
def lawValidUptoCard : Claim7 := { stood := { row := lawValidUptoRow, standIns := [], harness := (true, "f47d966dad19ed984efebd9b42ddf054b875d8c640f537a126dfadda8c81c63e"), looks := false }, kinds := [], alts := [], laidByText := true, laidKinds := [.data, .wider], laidTests := true, laidLooks := .later }
def LawValidUptoCardSaid : Prop := Claim7.holds Tryd.pinned (.plain (OpenSpec.upto lawValidSpec)) lawValidUptoCard

/-- THE SECOND FORM's CARD OF 'priorartlaw17.LawRulings'. -/
def lawRulingsUptoCard : Claim7 := { stood := { row := lawRulingsUptoRow, standIns := [], harness := (true, "f47d966dad19ed984efebd9b42ddf054b875d8c640f537a126dfadda8c81c63e"), looks := false }, kinds := [], alts := [], laidByText := true, laidKinds := [.data, .wider], laidTests := true, laidLooks := .later }
def LawRulingsUptoCardSaid : Prop := Claim7.holds Tryd.pinned (.plain (OpenSpec.upto lawRulingsSpec)) lawRulingsUptoCard

/-- THE SECOND FORM's CARD OF 'priorartlaw17.LawChanges'. -/
def lawChangesUptoCard : Claim7 := { stood := { row := lawChangesUptoRow, standIns := [], harness := (true, "f47d966dad19ed984efebd9b42ddf054b875d8c640f537a126dfadda8c81c63e"), looks := false }, kinds := [], alts := [], laidByText := true, laidKinds := [.data, .wider], laidTests := true, laidLooks := .later }
def LawChangesUptoCardSaid : Prop := Claim7.holds Tryd.pinned (.plain (OpenSpec.upto lawChangesSpec)) lawChangesUptoCard

/-- THE SECOND FORM's CARD OF 'priorartlaw17.LawTerms'. -/
def lawTermsUptoCard : Claim7 := { stood := { row := lawTermsUptoRow, standIns := [], harness := (true, "f47d966dad19ed984efebd9b42ddf054b875d8c640f537a126dfadda8c81c63e"), looks := false }, kinds := [], alts := [], laidByText := true, laidKinds := [.data, .wider], laidTests := true, laidLooks := .later }
def LawTermsUptoCardSaid : Prop := Claim7.holds Tryd.pinned (.plain (OpenSpec.upto lawTermsSpec)) lawTermsUptoCard
end Rows
end Go.Proofs.YtcmdekhhclgdcaaDoor

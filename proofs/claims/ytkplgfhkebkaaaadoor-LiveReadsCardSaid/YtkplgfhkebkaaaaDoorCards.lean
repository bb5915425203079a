/-
  DERIVED. GIVEN WITH THE SEED: THE CARDS: each row of YtkplgfhkebkaaaaDoorRows.lean that lists a variable, with what it lists TIED to the program's text (the seventh form; the later family's looks); each row that meets fmt, with fmt's text TOLD by the authors' own Lean function (tested against real Go, not proved from fmt's source: count such statements apart). THE CARD IS WHAT COUNTS. Prove the row's statement (the work); the ties are given (YtkplgfhkebkaaaaDoorTie.lean); close each card by the builder's one call (the guide's Derived/Test/ToyasCard.lean, 'card_holds'). Laid BY PROGRAM, IN A SANDBOX (cutbox-door.mjs). By AI agents, Wed Nov 11 2026. No macro, syntax, notation, axiom, sorry.
-/
import Derived.Test.YtkplgfhkebkaaaaDoorRows
import GoSem.ClaimSeven
namespace Go.Proofs.YtkplgfhkebkaaaaDoor
namespace Rows

/-- THE TIED CARD OF 'lockstitchlaw07.FlowRuns'. -/
def flowRunsCard : Claim7 := { stood := { row := flowRunsRow, standIns := [], harness := (true, "0f947e421defbcdbfff3b8f3c8a3bc5dabc9a69d5d2b02f5ae9ccf6615c600a5"), looks := false }, kinds := [], alts := [], laidByText := true, laidKinds := [.data, .data, .data], laidTests := true, laidLooks := .later }
def FlowRunsCardSaid : Prop := Claim7.holds Tryd.pinned (.plain (OpenSpec.ofChange flowRunsSpec)) flowRunsCard

/-- THE TIED CARD OF 'lockstitchlaw08.LiveOnly'. -/
def liveOnlyCard : Claim7 := { stood := { row := liveOnlyRow, standIns := [], harness := (true, "0f947e421defbcdbfff3b8f3c8a3bc5dabc9a69d5d2b02f5ae9ccf6615c600a5"), looks := false }, kinds := [], alts := [], laidByText := true, laidKinds := [.data, .data, .data], laidTests := true, laidLooks := .later }
def LiveOnlyCardSaid : Prop := Claim7.holds Tryd.pinned (.plain (OpenSpec.ofChange liveOnlySpec)) liveOnlyCard

/-- THE TIED CARD OF 'lockstitchlaw08.LiveReads'. -/
def liveReadsCard : Claim7 := { stood := { row := liveReadsRow, standIns := [], harness := (true, "0f947e421defbcdbfff3b8f3c8a3bc5dabc9a69d5d2b02f5ae9ccf6615c600a5"), looks := false }, kinds := [], alts := [], laidByText := true, laidKinds := [.data, .data, .data], laidTests := true, laidLooks := .later }
def LiveReadsCardSaid : Prop := Claim7.holds Tryd.pinned (.plain (OpenSpec.ofChange liveReadsSpec)) liveReadsCard

/-- THE TIED CARD OF 'lockstitchlaw09.FreshTrue'. -/
def freshTrueCard : Claim7 := { stood := { row := freshTrueRow, standIns := [], harness := (true, "0f947e421defbcdbfff3b8f3c8a3bc5dabc9a69d5d2b02f5ae9ccf6615c600a5"), looks := false }, kinds := [], alts := [], laidByText := true, laidKinds := [.data, .data, .data], laidTests := true, laidLooks := .later }
def FreshTrueCardSaid : Prop := Claim7.holds Tryd.pinned (.plain (OpenSpec.ofChange freshTrueSpec)) freshTrueCard

/-- THE TIED CARD OF 'lockstitchlaw12.PlanSaved'. -/
def planSavedCard : Claim7 := { stood := { row := planSavedRow, standIns := [], harness := (true, "0f947e421defbcdbfff3b8f3c8a3bc5dabc9a69d5d2b02f5ae9ccf6615c600a5"), looks := false }, kinds := [], alts := [], laidByText := true, laidKinds := [.data], laidTests := true, laidLooks := .later }
def PlanSavedCardSaid : Prop := Claim7.holds Tryd.pinned (.plain (OpenSpec.ofChange planSavedSpec)) planSavedCard

/-- THE SECOND FORM's CARD OF 'lockstitchlaw07.FlowRuns'. -/
def flowRunsUptoCard : Claim7 := { stood := { row := flowRunsUptoRow, standIns := [], harness := (true, "0f947e421defbcdbfff3b8f3c8a3bc5dabc9a69d5d2b02f5ae9ccf6615c600a5"), looks := false }, kinds := [], alts := [], laidByText := true, laidKinds := [.data, .data, .data], laidTests := true, laidLooks := .later }
def FlowRunsUptoCardSaid : Prop := Claim7.holds Tryd.pinned (.plain (OpenSpec.upto flowRunsSpec)) flowRunsUptoCard

/-- THE SECOND FORM's CARD OF 'lockstitchlaw08.LiveOnly'. -/
def liveOnlyUptoCard : Claim7 := { stood := { row := liveOnlyUptoRow, standIns := [], harness := (true, "0f947e421defbcdbfff3b8f3c8a3bc5dabc9a69d5d2b02f5ae9ccf6615c600a5"), looks := false }, kinds := [], alts := [], laidByText := true, laidKinds := [.data, .data, .data], laidTests := true, laidLooks := .later }
def LiveOnlyUptoCardSaid : Prop := Claim7.holds Tryd.pinned (.plain (OpenSpec.upto liveOnlySpec)) liveOnlyUptoCard

/-- THE SECOND FORM's CARD OF 'lockstitchlaw08.LiveReads'. -/
def liveReadsUptoCard : Claim7 := { stood := { row := liveReadsUptoRow, standIns := [], harness := (true, "0f947e421defbcdbfff3b8f3c8a3bc5dabc9a69d5d2b02f5ae9ccf6615c600a5"), looks := false }, kinds := [], alts := [], laidByText := true, laidKinds := [.data, .data, .data], laidTests := true, laidLooks := .later }
def LiveReadsUptoCardSaid : Prop := Claim7.holds Tryd.pinned (.plain (OpenSpec.upto liveReadsSpec)) liveReadsUptoCard

/-- THE SECOND FORM's CARD OF 'lockstitchlaw09.FreshTrue'. -/
def freshTrueUptoCard : Claim7 := { stood := { row := freshTrueUptoRow, standIns := [], harness := (true, "0f947e421defbcdbfff3b8f3c8a3bc5dabc9a69d5d2b02f5ae9ccf6615c600a5"), looks := false }, kinds := [], alts := [], laidByText := true, laidKinds := [.data, .data, .data], laidTests := true, laidLooks := .later }
def FreshTrueUptoCardSaid : Prop := Claim7.holds Tryd.pinned (.plain (OpenSpec.upto freshTrueSpec)) freshTrueUptoCard

/-- THE SECOND FORM's CARD OF 'lockstitchlaw12.PlanSaved'. -/
def planSavedUptoCard : Claim7 := { stood := { row := planSavedUptoRow, standIns := [], harness := (true, "0f947e421defbcdbfff3b8f3c8a3bc5dabc9a69d5d2b02f5ae9ccf6615c600a5"), looks := false }, kinds := [], alts := [], laidByText := true, laidKinds := [.data], laidTests := true, laidLooks := .later }
def PlanSavedUptoCardSaid : Prop := Claim7.holds Tryd.pinned (.plain (OpenSpec.upto planSavedSpec)) planSavedUptoCard
end Rows
end Go.Proofs.YtkplgfhkebkaaaaDoor

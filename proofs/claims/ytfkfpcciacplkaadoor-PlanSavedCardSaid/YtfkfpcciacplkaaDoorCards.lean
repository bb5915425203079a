/-
  DERIVED. GIVEN WITH THE SEED: THE CARDS: each row of YtfkfpcciacplkaaDoorRows.lean that lists a variable, with what it lists TIED to the program's text (the seventh form; the later family's looks); each row that meets fmt, with fmt's text TOLD by the authors' own Lean function (tested against real Go, not proved from fmt's source: count such statements apart). THE CARD IS WHAT COUNTS. Prove the row's statement (the work); the ties are given (YtfkfpcciacplkaaDoorTie.lean); close each card by the builder's one call (the guide's Derived/Test/ToyasCard.lean, 'card_holds'). Laid BY PROGRAM, IN A SANDBOX (cutbox-door.mjs). By AI agents, Wed Nov 11 2026. No macro, syntax, notation, axiom, sorry.
-/
import Derived.Test.YtfkfpcciacplkaaDoorRows
import GoSem.ClaimSeven
namespace Go.Proofs.YtfkfpcciacplkaaDoor
namespace Rows

/-- THE TIED CARD OF 'lockstitchlaw22.TraceTells'. -/
def traceTellsCard : Claim7 := { stood := { row := traceTellsRow, standIns := [], harness := (true, "7446b26996bd58fb5076ce6a5b79e9209456e9fde22cecb65ea00cb533835d77"), looks := false }, kinds := [], alts := [], laidByText := true, laidKinds := [.data], laidTests := true, laidLooks := .later }
def TraceTellsCardSaid : Prop := Claim7.holds Tryd.pinned (.plain (OpenSpec.ofChange traceTellsSpec)) traceTellsCard

/-- THE TIED CARD OF 'lockstitchlaw22.TraceFewer'. -/
def traceFewerCard : Claim7 := { stood := { row := traceFewerRow, standIns := [], harness := (true, "7446b26996bd58fb5076ce6a5b79e9209456e9fde22cecb65ea00cb533835d77"), looks := false }, kinds := [], alts := [], laidByText := true, laidKinds := [.data], laidTests := true, laidLooks := .later }
def TraceFewerCardSaid : Prop := Claim7.holds Tryd.pinned (.plain (OpenSpec.ofChange traceFewerSpec)) traceFewerCard

/-- THE TIED CARD OF 'lockstitchlaw22.TraceBegins'. -/
def traceBeginsCard : Claim7 := { stood := { row := traceBeginsRow, standIns := [], harness := (true, "7446b26996bd58fb5076ce6a5b79e9209456e9fde22cecb65ea00cb533835d77"), looks := false }, kinds := [], alts := [], laidByText := true, laidKinds := [.data], laidTests := true, laidLooks := .later }
def TraceBeginsCardSaid : Prop := Claim7.holds Tryd.pinned (.plain (OpenSpec.ofChange traceBeginsSpec)) traceBeginsCard

/-- THE TIED CARD OF 'lockstitchlaw22.TraceLongest'. -/
def traceLongestCard : Claim7 := { stood := { row := traceLongestRow, standIns := [], harness := (true, "7446b26996bd58fb5076ce6a5b79e9209456e9fde22cecb65ea00cb533835d77"), looks := false }, kinds := [], alts := [], laidByText := true, laidKinds := [.data], laidTests := true, laidLooks := .later }
def TraceLongestCardSaid : Prop := Claim7.holds Tryd.pinned (.plain (OpenSpec.ofChange traceLongestSpec)) traceLongestCard

/-- THE TIED CARD OF 'lockstitchlaw22.TraceModels'. -/
def traceModelsCard : Claim7 := { stood := { row := traceModelsRow, standIns := [], harness := (true, "7446b26996bd58fb5076ce6a5b79e9209456e9fde22cecb65ea00cb533835d77"), looks := false }, kinds := [], alts := [], laidByText := true, laidKinds := [.data, .data, .data, .data], laidTests := true, laidLooks := .later }
def TraceModelsCardSaid : Prop := Claim7.holds Tryd.pinned (.plain (OpenSpec.ofChange traceModelsSpec)) traceModelsCard

/-- THE TIED CARD OF 'lockstitchlaw20.ValidMore'. -/
def validMoreCard : Claim7 := { stood := { row := validMoreRow, standIns := [], harness := (true, "7446b26996bd58fb5076ce6a5b79e9209456e9fde22cecb65ea00cb533835d77"), looks := false }, kinds := [], alts := [], laidByText := true, laidKinds := [.data, .data, .data, .data], laidTests := true, laidLooks := .later }
def ValidMoreCardSaid : Prop := Claim7.holds Tryd.pinned (.plain (OpenSpec.ofChange validMoreSpec)) validMoreCard

/-- THE TIED CARD OF 'lockstitchlaw20.ValidWrong'. -/
def validWrongCard : Claim7 := { stood := { row := validWrongRow, standIns := [], harness := (true, "7446b26996bd58fb5076ce6a5b79e9209456e9fde22cecb65ea00cb533835d77"), looks := false }, kinds := [], alts := [], laidByText := true, laidKinds := [.data, .data, .data, .data], laidTests := true, laidLooks := .later }
def ValidWrongCardSaid : Prop := Claim7.holds Tryd.pinned (.plain (OpenSpec.ofChange validWrongSpec)) validWrongCard

/-- THE TIED CARD OF 'lockstitchlaw20.ValidNought'. -/
def validNoughtCard : Claim7 := { stood := { row := validNoughtRow, standIns := [], harness := (true, "7446b26996bd58fb5076ce6a5b79e9209456e9fde22cecb65ea00cb533835d77"), looks := false }, kinds := [], alts := [], laidByText := true, laidKinds := [.data, .data, .data, .data], laidTests := true, laidLooks := .later }
def ValidNoughtCardSaid : Prop := Claim7.holds Tryd.pinned (.plain (OpenSpec.ofChange validNoughtSpec)) validNoughtCard

/-- THE TIED CARD OF 'lockstitchlaw12.PlanSaved'. -/
def planSavedCard : Claim7 := { stood := { row := planSavedRow, standIns := [], harness := (true, "7446b26996bd58fb5076ce6a5b79e9209456e9fde22cecb65ea00cb533835d77"), looks := false }, kinds := [], alts := [], laidByText := true, laidKinds := [.data], laidTests := true, laidLooks := .later }
def PlanSavedCardSaid : Prop := Claim7.holds Tryd.pinned (.plain (OpenSpec.ofChange planSavedSpec)) planSavedCard

/-- THE SECOND FORM's CARD OF 'lockstitchlaw22.TraceTells'. -/
def traceTellsUptoCard : Claim7 := { stood := { row := traceTellsUptoRow, standIns := [], harness := (true, "7446b26996bd58fb5076ce6a5b79e9209456e9fde22cecb65ea00cb533835d77"), looks := false }, kinds := [], alts := [], laidByText := true, laidKinds := [.data], laidTests := true, laidLooks := .later }
def TraceTellsUptoCardSaid : Prop := Claim7.holds Tryd.pinned (.plain (OpenSpec.upto traceTellsSpec)) traceTellsUptoCard

/-- THE SECOND FORM's CARD OF 'lockstitchlaw22.TraceFewer'. -/
def traceFewerUptoCard : Claim7 := { stood := { row := traceFewerUptoRow, standIns := [], harness := (true, "7446b26996bd58fb5076ce6a5b79e9209456e9fde22cecb65ea00cb533835d77"), looks := false }, kinds := [], alts := [], laidByText := true, laidKinds := [.data], laidTests := true, laidLooks := .later }
def TraceFewerUptoCardSaid : Prop := Claim7.holds Tryd.pinned (.plain (OpenSpec.upto traceFewerSpec)) traceFewerUptoCard

/-- THE SECOND FORM's CARD OF 'lockstitchlaw22.TraceBegins'. -/
def traceBeginsUptoCard : Claim7 := { stood := { row := traceBeginsUptoRow, standIns := [], harness := (true, "7446b26996bd58fb5076ce6a5b79e9209456e9fde22cecb65ea00cb533835d77"), looks := false }, kinds := [], alts := [], laidByText := true, laidKinds := [.data], laidTests := true, laidLooks := .later }
def TraceBeginsUptoCardSaid : Prop := Claim7.holds Tryd.pinned (.plain (OpenSpec.upto traceBeginsSpec)) traceBeginsUptoCard

/-- THE SECOND FORM's CARD OF 'lockstitchlaw22.TraceLongest'. -/
def traceLongestUptoCard : Claim7 := { stood := { row := traceLongestUptoRow, standIns := [], harness := (true, "7446b26996bd58fb5076ce6a5b79e9209456e9fde22cecb65ea00cb533835d77"), looks := false }, kinds := [], alts := [], laidByText := true, laidKinds := [.data], laidTests := true, laidLooks := .later }
def TraceLongestUptoCardSaid : Prop := Claim7.holds Tryd.pinned (.plain (OpenSpec.upto traceLongestSpec)) traceLongestUptoCard

/-- THE SECOND FORM's CARD OF 'lockstitchlaw22.TraceModels'. -/
def traceModelsUptoCard : Claim7 := { stood := { row := traceModelsUptoRow, standIns := [], harness := (true, "7446b26996bd58fb5076ce6a5b79e9209456e9fde22cecb65ea00cb533835d77"), looks := false }, kinds := [], alts := [], laidByText := true, laidKinds := [.data, .data, .data, .data], laidTests := true, laidLooks := .later }
def TraceModelsUptoCardSaid : Prop := Claim7.holds Tryd.pinned (.plain (OpenSpec.upto traceModelsSpec)) traceModelsUptoCard

/-- THE SECOND FORM's CARD OF 'lockstitchlaw20.ValidMore'. -/
def validMoreUptoCard : Claim7 := { stood := { row := validMoreUptoRow, standIns := [], harness := (true, "7446b26996bd58fb5076ce6a5b79e9209456e9fde22cecb65ea00cb533835d77"), looks := false }, kinds := [], alts := [], laidByText := true, laidKinds := [.data, .data, .data, .data], laidTests := true, laidLooks := .later }
def ValidMoreUptoCardSaid : Prop := Claim7.holds Tryd.pinned (.plain (OpenSpec.upto validMoreSpec)) validMoreUptoCard

/-- THE SECOND FORM's CARD OF 'lockstitchlaw20.ValidWrong'. -/
def validWrongUptoCard : Claim7 := { stood := { row := validWrongUptoRow, standIns := [], harness := (true, "7446b26996bd58fb5076ce6a5b79e9209456e9fde22cecb65ea00cb533835d77"), looks := false }, kinds := [], alts := [], laidByText := true, laidKinds := [.data, .data, .data, .data], laidTests := true, laidLooks := .later }
def ValidWrongUptoCardSaid : Prop := Claim7.holds Tryd.pinned (.plain (OpenSpec.upto validWrongSpec)) validWrongUptoCard

/-- THE SECOND FORM's CARD OF 'lockstitchlaw20.ValidNought'. -/
def validNoughtUptoCard : Claim7 := { stood := { row := validNoughtUptoRow, standIns := [], harness := (true, "7446b26996bd58fb5076ce6a5b79e9209456e9fde22cecb65ea00cb533835d77"), looks := false }, kinds := [], alts := [], laidByText := true, laidKinds := [.data, .data, .data, .data], laidTests := true, laidLooks := .later }
def ValidNoughtUptoCardSaid : Prop := Claim7.holds Tryd.pinned (.plain (OpenSpec.upto validNoughtSpec)) validNoughtUptoCard

/-- THE SECOND FORM's CARD OF 'lockstitchlaw12.PlanSaved'. -/
def planSavedUptoCard : Claim7 := { stood := { row := planSavedUptoRow, standIns := [], harness := (true, "7446b26996bd58fb5076ce6a5b79e9209456e9fde22cecb65ea00cb533835d77"), looks := false }, kinds := [], alts := [], laidByText := true, laidKinds := [.data], laidTests := true, laidLooks := .later }
def PlanSavedUptoCardSaid : Prop := Claim7.holds Tryd.pinned (.plain (OpenSpec.upto planSavedSpec)) planSavedUptoCard
end Rows
end Go.Proofs.YtfkfpcciacplkaaDoor

/-
  DERIVED. GIVEN WITH THE SEED: THE CARDS: each row of YtocechpmgfhenaaGreatDoorRows.lean that lists a variable, with what it lists TIED to the program's text (the seventh form; the later family's looks); each row that meets fmt, with fmt's text TOLD by the authors' own Lean function (tested against real Go, not proved from fmt's source: count such statements apart). THE CARD IS WHAT COUNTS. Prove the row's statement (the work); the ties are given (YtocechpmgfhenaaGreatDoorTie.lean); close each card by the builder's one call (the guide's Derived/Test/ToyasCard.lean, 'card_holds'). Laid BY PROGRAM, IN A SANDBOX (cutbox-door.mjs). By AI agents, Wed Nov 11 2026. No macro, syntax, notation, axiom, sorry.
-/
import Derived.Test.YtocechpmgfhenaaGreatDoorRows
import GoSem.ClaimSeven
namespace Go.Proofs.YtocechpmgfhenaaGreatDoor
namespace Rows

/-- THE TIED CARD OF 'lockstitchlaw12.PlanFits'. -/
def planFitsCard : Claim7 := { stood := { row := planFitsRow, standIns := [], harness := (true, "2fc4a180bb33f5cdfafd92f2f9f3d7154a0c28b48f4ace5713d16bb98fa8db6b"), looks := false }, kinds := [], alts := [], laidByText := true, laidKinds := [.data, .data, .data, .data], laidTests := true, laidLooks := .later }
def PlanFitsCardSaid : Prop := Claim7.holds Tryz.pinned (.plain (OpenSpec.ofChange planFitsSpec)) planFitsCard

/-- THE TIED CARD OF 'lockstitchlaw12.PlanPlain'. -/
def planPlainCard : Claim7 := { stood := { row := planPlainRow, standIns := [], harness := (true, "2fc4a180bb33f5cdfafd92f2f9f3d7154a0c28b48f4ace5713d16bb98fa8db6b"), looks := false }, kinds := [], alts := [], laidByText := true, laidKinds := [.data, .data, .data, .data], laidTests := true, laidLooks := .later }
def PlanPlainCardSaid : Prop := Claim7.holds Tryz.pinned (.plain (OpenSpec.ofChange planPlainSpec)) planPlainCard

/-- THE TIED CARD OF 'lockstitchlaw12.PlanOnce'. -/
def planOnceCard : Claim7 := { stood := { row := planOnceRow, standIns := [], harness := (true, "2fc4a180bb33f5cdfafd92f2f9f3d7154a0c28b48f4ace5713d16bb98fa8db6b"), looks := false }, kinds := [], alts := [], laidByText := true, laidKinds := [.data, .data, .data, .data], laidTests := true, laidLooks := .later }
def PlanOnceCardSaid : Prop := Claim7.holds Tryz.pinned (.plain (OpenSpec.ofChange planOnceSpec)) planOnceCard

/-- THE TIED CARD OF 'lockstitchlaw12.PlanKinds'. -/
def planKindsCard : Claim7 := { stood := { row := planKindsRow, standIns := [], harness := (true, "2fc4a180bb33f5cdfafd92f2f9f3d7154a0c28b48f4ace5713d16bb98fa8db6b"), looks := false }, kinds := [], alts := [], laidByText := true, laidKinds := [.data, .data, .data, .data], laidTests := true, laidLooks := .later }
def PlanKindsCardSaid : Prop := Claim7.holds Tryz.pinned (.plain (OpenSpec.ofChange planKindsSpec)) planKindsCard

/-- THE TIED CARD OF 'lockstitchlaw20.ValidFits'. -/
def validFitsCard : Claim7 := { stood := { row := validFitsRow, standIns := [], harness := (true, "2fc4a180bb33f5cdfafd92f2f9f3d7154a0c28b48f4ace5713d16bb98fa8db6b"), looks := false }, kinds := [], alts := [], laidByText := true, laidKinds := [.data, .data, .data, .data], laidTests := true, laidLooks := .later }
def ValidFitsCardSaid : Prop := Claim7.holds Tryz.pinned (.plain (OpenSpec.ofChange validFitsSpec)) validFitsCard

/-- THE TIED CARD OF 'lockstitchlaw20.ValidOne'. -/
def validOneCard : Claim7 := { stood := { row := validOneRow, standIns := [], harness := (true, "2fc4a180bb33f5cdfafd92f2f9f3d7154a0c28b48f4ace5713d16bb98fa8db6b"), looks := false }, kinds := [], alts := [], laidByText := true, laidKinds := [.data, .data, .data, .data], laidTests := true, laidLooks := .later }
def ValidOneCardSaid : Prop := Claim7.holds Tryz.pinned (.plain (OpenSpec.ofChange validOneSpec)) validOneCard

/-- THE SECOND FORM's CARD OF 'lockstitchlaw12.PlanFits'. -/
def planFitsUptoCard : Claim7 := { stood := { row := planFitsUptoRow, standIns := [], harness := (true, "2fc4a180bb33f5cdfafd92f2f9f3d7154a0c28b48f4ace5713d16bb98fa8db6b"), looks := false }, kinds := [], alts := [], laidByText := true, laidKinds := [.data, .data, .data, .data], laidTests := true, laidLooks := .later }
def PlanFitsUptoCardSaid : Prop := Claim7.holds Tryz.pinned (.plain (OpenSpec.upto planFitsSpec)) planFitsUptoCard

/-- THE SECOND FORM's CARD OF 'lockstitchlaw12.PlanPlain'. -/
def planPlainUptoCard : Claim7 := { stood := { row := planPlainUptoRow, standIns := [], harness := (true, "2fc4a180bb33f5cdfafd92f2f9f3d7154a0c28b48f4ace5713d16bb98fa8db6b"), looks := false }, kinds := [], alts := [], laidByText := true, laidKinds := [.data, .data, .data, .data], laidTests := true, laidLooks := .later }
def PlanPlainUptoCardSaid : Prop := Claim7.holds Tryz.pinned (.plain (OpenSpec.upto planPlainSpec)) planPlainUptoCard

/-- THE SECOND FORM's CARD OF 'lockstitchlaw12.PlanOnce'. -/
def planOnceUptoCard : Claim7 := { stood := { row := planOnceUptoRow, standIns := [], harness := (true, "2fc4a180bb33f5cdfafd92f2f9f3d7154a0c28b48f4ace5713d16bb98fa8db6b"), looks := false }, kinds := [], alts := [], laidByText := true, laidKinds := [.data, .data, .data, .data], laidTests := true, laidLooks := .later }
def PlanOnceUptoCardSaid : Prop := Claim7.holds Tryz.pinned (.plain (OpenSpec.upto planOnceSpec)) planOnceUptoCard

/-- THE SECOND FORM's CARD OF 'lockstitchlaw12.PlanKinds'. -/
def planKindsUptoCard : Claim7 := { stood := { row := planKindsUptoRow, standIns := [], harness := (true, "2fc4a180bb33f5cdfafd92f2f9f3d7154a0c28b48f4ace5713d16bb98fa8db6b"), looks := false }, kinds := [], alts := [], laidByText := true, laidKinds := [.data, .data, .data, .data], laidTests := true, laidLooks := .later }
def PlanKindsUptoCardSaid : Prop := Claim7.holds Tryz.pinned (.plain (OpenSpec.upto planKindsSpec)) planKindsUptoCard

/-- THE SECOND FORM's CARD OF 'lockstitchlaw20.ValidFits'. -/
def validFitsUptoCard : Claim7 := { stood := { row := validFitsUptoRow, standIns := [], harness := (true, "2fc4a180bb33f5cdfafd92f2f9f3d7154a0c28b48f4ace5713d16bb98fa8db6b"), looks := false }, kinds := [], alts := [], laidByText := true, laidKinds := [.data, .data, .data, .data], laidTests := true, laidLooks := .later }
def ValidFitsUptoCardSaid : Prop := Claim7.holds Tryz.pinned (.plain (OpenSpec.upto validFitsSpec)) validFitsUptoCard

/-- THE SECOND FORM's CARD OF 'lockstitchlaw20.ValidOne'. -/
def validOneUptoCard : Claim7 := { stood := { row := validOneUptoRow, standIns := [], harness := (true, "2fc4a180bb33f5cdfafd92f2f9f3d7154a0c28b48f4ace5713d16bb98fa8db6b"), looks := false }, kinds := [], alts := [], laidByText := true, laidKinds := [.data, .data, .data, .data], laidTests := true, laidLooks := .later }
def ValidOneUptoCardSaid : Prop := Claim7.holds Tryz.pinned (.plain (OpenSpec.upto validOneSpec)) validOneUptoCard
end Rows
end Go.Proofs.YtocechpmgfhenaaGreatDoor

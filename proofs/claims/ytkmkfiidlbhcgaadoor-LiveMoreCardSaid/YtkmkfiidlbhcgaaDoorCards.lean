/-
  DERIVED. GIVEN WITH THE SEED: THE CARDS: each row of YtkmkfiidlbhcgaaDoorRows.lean that lists a variable, with what it lists TIED to the program's text (the seventh form; the later family's looks); each row that meets fmt, with fmt's text TOLD by the authors' own Lean function (tested against real Go, not proved from fmt's source: count such statements apart). THE CARD IS WHAT COUNTS. Prove the row's statement (the work); the ties are given (YtkmkfiidlbhcgaaDoorTie.lean); close each card by the builder's one call (the guide's Derived/Test/ToyasCard.lean, 'card_holds'). Laid BY PROGRAM, IN A SANDBOX (cutbox-door.mjs). By AI agents, Wed Nov 11 2026. No macro, syntax, notation, axiom, sorry.
-/
import Derived.Test.YtkmkfiidlbhcgaaDoorRows
import GoSem.ClaimSeven
namespace Go.Proofs.YtkmkfiidlbhcgaaDoor
namespace Rows

/-- THE TIED CARD OF 'lockstitchlaw07.FlowTells'. -/
def flowTellsCard : Claim7 := { stood := { row := flowTellsRow, standIns := [], harness := (true, "4952ab5e77075f4110198fea9a9530deae530e4f2dbb874d9c0a98fd7239fa27"), looks := false }, kinds := [], alts := [], laidByText := true, laidKinds := [.data, .data, .data], laidTests := true, laidLooks := .later }
def FlowTellsCardSaid : Prop := Claim7.holds Tryd.pinned (.plain (OpenSpec.ofChange flowTellsSpec)) flowTellsCard

/-- THE TIED CARD OF 'lockstitchlaw07.FlowOn'. -/
def flowOnCard : Claim7 := { stood := { row := flowOnRow, standIns := [], harness := (true, "4952ab5e77075f4110198fea9a9530deae530e4f2dbb874d9c0a98fd7239fa27"), looks := false }, kinds := [], alts := [], laidByText := true, laidKinds := [.data, .data, .data], laidTests := true, laidLooks := .later }
def FlowOnCardSaid : Prop := Claim7.holds Tryd.pinned (.plain (OpenSpec.ofChange flowOnSpec)) flowOnCard

/-- THE TIED CARD OF 'lockstitchlaw07.FlowAhead'. -/
def flowAheadCard : Claim7 := { stood := { row := flowAheadRow, standIns := [], harness := (true, "4952ab5e77075f4110198fea9a9530deae530e4f2dbb874d9c0a98fd7239fa27"), looks := false }, kinds := [], alts := [], laidByText := true, laidKinds := [.data, .data, .data], laidTests := true, laidLooks := .later }
def FlowAheadCardSaid : Prop := Claim7.holds Tryd.pinned (.plain (OpenSpec.ofChange flowAheadSpec)) flowAheadCard

/-- THE TIED CARD OF 'lockstitchlaw07.FlowLoops'. -/
def flowLoopsCard : Claim7 := { stood := { row := flowLoopsRow, standIns := [], harness := (true, "4952ab5e77075f4110198fea9a9530deae530e4f2dbb874d9c0a98fd7239fa27"), looks := false }, kinds := [], alts := [], laidByText := true, laidKinds := [.data, .data, .data], laidTests := true, laidLooks := .later }
def FlowLoopsCardSaid : Prop := Claim7.holds Tryd.pinned (.plain (OpenSpec.ofChange flowLoopsSpec)) flowLoopsCard

/-- THE TIED CARD OF 'lockstitchlaw07.FlowEnds'. -/
def flowEndsCard : Claim7 := { stood := { row := flowEndsRow, standIns := [], harness := (true, "4952ab5e77075f4110198fea9a9530deae530e4f2dbb874d9c0a98fd7239fa27"), looks := false }, kinds := [], alts := [], laidByText := true, laidKinds := [.data, .data, .data], laidTests := true, laidLooks := .later }
def FlowEndsCardSaid : Prop := Claim7.holds Tryd.pinned (.plain (OpenSpec.ofChange flowEndsSpec)) flowEndsCard

/-- THE TIED CARD OF 'lockstitchlaw08.LiveTells'. -/
def liveTellsCard : Claim7 := { stood := { row := liveTellsRow, standIns := [], harness := (true, "4952ab5e77075f4110198fea9a9530deae530e4f2dbb874d9c0a98fd7239fa27"), looks := false }, kinds := [], alts := [], laidByText := true, laidKinds := [.data, .data, .data], laidTests := true, laidLooks := .later }
def LiveTellsCardSaid : Prop := Claim7.holds Tryd.pinned (.plain (OpenSpec.ofChange liveTellsSpec)) liveTellsCard

/-- THE TIED CARD OF 'lockstitchlaw08.LiveFlows'. -/
def liveFlowsCard : Claim7 := { stood := { row := liveFlowsRow, standIns := [], harness := (true, "4952ab5e77075f4110198fea9a9530deae530e4f2dbb874d9c0a98fd7239fa27"), looks := false }, kinds := [], alts := [], laidByText := true, laidKinds := [.data, .data, .data], laidTests := true, laidLooks := .later }
def LiveFlowsCardSaid : Prop := Claim7.holds Tryd.pinned (.plain (OpenSpec.ofChange liveFlowsSpec)) liveFlowsCard

/-- THE TIED CARD OF 'lockstitchlaw08.LiveMore'. -/
def liveMoreCard : Claim7 := { stood := { row := liveMoreRow, standIns := [], harness := (true, "4952ab5e77075f4110198fea9a9530deae530e4f2dbb874d9c0a98fd7239fa27"), looks := false }, kinds := [], alts := [], laidByText := true, laidKinds := [.data, .data, .data], laidTests := true, laidLooks := .later }
def LiveMoreCardSaid : Prop := Claim7.holds Tryd.pinned (.plain (OpenSpec.ofChange liveMoreSpec)) liveMoreCard

/-- THE TIED CARD OF 'lockstitchlaw08.LiveDead'. -/
def liveDeadCard : Claim7 := { stood := { row := liveDeadRow, standIns := [], harness := (true, "4952ab5e77075f4110198fea9a9530deae530e4f2dbb874d9c0a98fd7239fa27"), looks := false }, kinds := [], alts := [], laidByText := true, laidKinds := [.data, .data, .data], laidTests := true, laidLooks := .later }
def LiveDeadCardSaid : Prop := Claim7.holds Tryd.pinned (.plain (OpenSpec.ofChange liveDeadSpec)) liveDeadCard

/-- THE TIED CARD OF 'lockstitchlaw09.FreshTells'. -/
def freshTellsCard : Claim7 := { stood := { row := freshTellsRow, standIns := [], harness := (true, "4952ab5e77075f4110198fea9a9530deae530e4f2dbb874d9c0a98fd7239fa27"), looks := false }, kinds := [], alts := [], laidByText := true, laidKinds := [.data, .data, .data], laidTests := true, laidLooks := .later }
def FreshTellsCardSaid : Prop := Claim7.holds Tryd.pinned (.plain (OpenSpec.ofChange freshTellsSpec)) freshTellsCard

/-- THE TIED CARD OF 'lockstitchlaw09.FreshMeets'. -/
def freshMeetsCard : Claim7 := { stood := { row := freshMeetsRow, standIns := [], harness := (true, "4952ab5e77075f4110198fea9a9530deae530e4f2dbb874d9c0a98fd7239fa27"), looks := false }, kinds := [], alts := [], laidByText := true, laidKinds := [.data, .data, .data], laidTests := true, laidLooks := .later }
def FreshMeetsCardSaid : Prop := Claim7.holds Tryd.pinned (.plain (OpenSpec.ofChange freshMeetsSpec)) freshMeetsCard

/-- THE TIED CARD OF 'lockstitchlaw09.FreshMore'. -/
def freshMoreCard : Claim7 := { stood := { row := freshMoreRow, standIns := [], harness := (true, "4952ab5e77075f4110198fea9a9530deae530e4f2dbb874d9c0a98fd7239fa27"), looks := false }, kinds := [], alts := [], laidByText := true, laidKinds := [.data, .data, .data], laidTests := true, laidLooks := .later }
def FreshMoreCardSaid : Prop := Claim7.holds Tryd.pinned (.plain (OpenSpec.ofChange freshMoreSpec)) freshMoreCard

/-- THE TIED CARD OF 'lockstitchlaw09.FreshSafe'. -/
def freshSafeCard : Claim7 := { stood := { row := freshSafeRow, standIns := [], harness := (true, "4952ab5e77075f4110198fea9a9530deae530e4f2dbb874d9c0a98fd7239fa27"), looks := false }, kinds := [], alts := [], laidByText := true, laidKinds := [.data, .data, .data], laidTests := true, laidLooks := .later }
def FreshSafeCardSaid : Prop := Claim7.holds Tryd.pinned (.plain (OpenSpec.ofChange freshSafeSpec)) freshSafeCard

/-- THE TIED CARD OF 'lockstitchlaw09.FreshOthers'. -/
def freshOthersCard : Claim7 := { stood := { row := freshOthersRow, standIns := [], harness := (true, "4952ab5e77075f4110198fea9a9530deae530e4f2dbb874d9c0a98fd7239fa27"), looks := false }, kinds := [], alts := [], laidByText := true, laidKinds := [.data, .data, .data], laidTests := true, laidLooks := .later }
def FreshOthersCardSaid : Prop := Claim7.holds Tryd.pinned (.plain (OpenSpec.ofChange freshOthersSpec)) freshOthersCard

/-- THE TIED CARD OF 'lockstitchlaw09.FreshNil'. -/
def freshNilCard : Claim7 := { stood := { row := freshNilRow, standIns := [], harness := (true, "4952ab5e77075f4110198fea9a9530deae530e4f2dbb874d9c0a98fd7239fa27"), looks := false }, kinds := [], alts := [], laidByText := true, laidKinds := [.data, .data, .data], laidTests := true, laidLooks := .later }
def FreshNilCardSaid : Prop := Claim7.holds Tryd.pinned (.plain (OpenSpec.ofChange freshNilSpec)) freshNilCard

/-- THE SECOND FORM's CARD OF 'lockstitchlaw07.FlowTells'. -/
def flowTellsUptoCard : Claim7 := { stood := { row := flowTellsUptoRow, standIns := [], harness := (true, "4952ab5e77075f4110198fea9a9530deae530e4f2dbb874d9c0a98fd7239fa27"), looks := false }, kinds := [], alts := [], laidByText := true, laidKinds := [.data, .data, .data], laidTests := true, laidLooks := .later }
def FlowTellsUptoCardSaid : Prop := Claim7.holds Tryd.pinned (.plain (OpenSpec.upto flowTellsSpec)) flowTellsUptoCard

/-- THE SECOND FORM's CARD OF 'lockstitchlaw07.FlowOn'. -/
def flowOnUptoCard : Claim7 := { stood := { row := flowOnUptoRow, standIns := [], harness := (true, "4952ab5e77075f4110198fea9a9530deae530e4f2dbb874d9c0a98fd7239fa27"), looks := false }, kinds := [], alts := [], laidByText := true, laidKinds := [.data, .data, .data], laidTests := true, laidLooks := .later }
def FlowOnUptoCardSaid : Prop := Claim7.holds Tryd.pinned (.plain (OpenSpec.upto flowOnSpec)) flowOnUptoCard

/-- THE SECOND FORM's CARD OF 'lockstitchlaw07.FlowAhead'. -/
def flowAheadUptoCard : Claim7 := { stood := { row := flowAheadUptoRow, standIns := [], harness := (true, "4952ab5e77075f4110198fea9a9530deae530e4f2dbb874d9c0a98fd7239fa27"), looks := false }, kinds := [], alts := [], laidByText := true, laidKinds := [.data, .data, .data], laidTests := true, laidLooks := .later }
def FlowAheadUptoCardSaid : Prop := Claim7.holds Tryd.pinned (.plain (OpenSpec.upto flowAheadSpec)) flowAheadUptoCard

/-- THE SECOND FORM's CARD OF 'lockstitchlaw07.FlowLoops'. -/
def flowLoopsUptoCard : Claim7 := { stood := { row := flowLoopsUptoRow, standIns := [], harness := (true, "4952ab5e77075f4110198fea9a9530deae530e4f2dbb874d9c0a98fd7239fa27"), looks := false }, kinds := [], alts := [], laidByText := true, laidKinds := [.data, .data, .data], laidTests := true, laidLooks := .later }
def FlowLoopsUptoCardSaid : Prop := Claim7.holds Tryd.pinned (.plain (OpenSpec.upto flowLoopsSpec)) flowLoopsUptoCard

/-- THE SECOND FORM's CARD OF 'lockstitchlaw07.FlowEnds'. -/
def flowEndsUptoCard : Claim7 := { stood := { row := flowEndsUptoRow, standIns := [], harness := (true, "4952ab5e77075f4110198fea9a9530deae530e4f2dbb874d9c0a98fd7239fa27"), looks := false }, kinds := [], alts := [], laidByText := true, laidKinds := [.data, .data, .data], laidTests := true, laidLooks := .later }
def FlowEndsUptoCardSaid : Prop := Claim7.holds Tryd.pinned (.plain (OpenSpec.upto flowEndsSpec)) flowEndsUptoCard

/-- THE SECOND FORM's CARD OF 'lockstitchlaw08.LiveTells'. -/
def liveTellsUptoCard : Claim7 := { stood := { row := liveTellsUptoRow, standIns := [], harness := (true, "4952ab5e77075f4110198fea9a9530deae530e4f2dbb874d9c0a98fd7239fa27"), looks := false }, kinds := [], alts := [], laidByText := true, laidKinds := [.data, .data, .data], laidTests := true, laidLooks := .later }
def LiveTellsUptoCardSaid : Prop := Claim7.holds Tryd.pinned (.plain (OpenSpec.upto liveTellsSpec)) liveTellsUptoCard

/-- THE SECOND FORM's CARD OF 'lockstitchlaw08.LiveFlows'. -/
def liveFlowsUptoCard : Claim7 := { stood := { row := liveFlowsUptoRow, standIns := [], harness := (true, "4952ab5e77075f4110198fea9a9530deae530e4f2dbb874d9c0a98fd7239fa27"), looks := false }, kinds := [], alts := [], laidByText := true, laidKinds := [.data, .data, .data], laidTests := true, laidLooks := .later }
def LiveFlowsUptoCardSaid : Prop := Claim7.holds Tryd.pinned (.plain (OpenSpec.upto liveFlowsSpec)) liveFlowsUptoCard

/-- THE SECOND FORM's CARD OF 'lockstitchlaw08.LiveMore'. -/
def liveMoreUptoCard : Claim7 := { stood := { row := liveMoreUptoRow, standIns := [], harness := (true, "4952ab5e77075f4110198fea9a9530deae530e4f2dbb874d9c0a98fd7239fa27"), looks := false }, kinds := [], alts := [], laidByText := true, laidKinds := [.data, .data, .data], laidTests := true, laidLooks := .later }
def LiveMoreUptoCardSaid : Prop := Claim7.holds Tryd.pinned (.plain (OpenSpec.upto liveMoreSpec)) liveMoreUptoCard

/-- THE SECOND FORM's CARD OF 'lockstitchlaw08.LiveDead'. -/
def liveDeadUptoCard : Claim7 := { stood := { row := liveDeadUptoRow, standIns := [], harness := (true, "4952ab5e77075f4110198fea9a9530deae530e4f2dbb874d9c0a98fd7239fa27"), looks := false }, kinds := [], alts := [], laidByText := true, laidKinds := [.data, .data, .data], laidTests := true, laidLooks := .later }
def LiveDeadUptoCardSaid : Prop := Claim7.holds Tryd.pinned (.plain (OpenSpec.upto liveDeadSpec)) liveDeadUptoCard

/-- THE SECOND FORM's CARD OF 'lockstitchlaw09.FreshTells'. -/
def freshTellsUptoCard : Claim7 := { stood := { row := freshTellsUptoRow, standIns := [], harness := (true, "4952ab5e77075f4110198fea9a9530deae530e4f2dbb874d9c0a98fd7239fa27"), looks := false }, kinds := [], alts := [], laidByText := true, laidKinds := [.data, .data, .data], laidTests := true, laidLooks := .later }
def FreshTellsUptoCardSaid : Prop := Claim7.holds Tryd.pinned (.plain (OpenSpec.upto freshTellsSpec)) freshTellsUptoCard

/-- THE SECOND FORM's CARD OF 'lockstitchlaw09.FreshMeets'. -/
def freshMeetsUptoCard : Claim7 := { stood := { row := freshMeetsUptoRow, standIns := [], harness := (true, "4952ab5e77075f4110198fea9a9530deae530e4f2dbb874d9c0a98fd7239fa27"), looks := false }, kinds := [], alts := [], laidByText := true, laidKinds := [.data, .data, .data], laidTests := true, laidLooks := .later }
def FreshMeetsUptoCardSaid : Prop := Claim7.holds Tryd.pinned (.plain (OpenSpec.upto freshMeetsSpec)) freshMeetsUptoCard

/-- THE SECOND FORM's CARD OF 'lockstitchlaw09.FreshMore'. -/
def freshMoreUptoCard : Claim7 := { stood := { row := freshMoreUptoRow, standIns := [], harness := (true, "4952ab5e77075f4110198fea9a9530deae530e4f2dbb874d9c0a98fd7239fa27"), looks := false }, kinds := [], alts := [], laidByText := true, laidKinds := [.data, .data, .data], laidTests := true, laidLooks := .later }
def FreshMoreUptoCardSaid : Prop := Claim7.holds Tryd.pinned (.plain (OpenSpec.upto freshMoreSpec)) freshMoreUptoCard

/-- THE SECOND FORM's CARD OF 'lockstitchlaw09.FreshSafe'. -/
def freshSafeUptoCard : Claim7 := { stood := { row := freshSafeUptoRow, standIns := [], harness := (true, "4952ab5e77075f4110198fea9a9530deae530e4f2dbb874d9c0a98fd7239fa27"), looks := false }, kinds := [], alts := [], laidByText := true, laidKinds := [.data, .data, .data], laidTests := true, laidLooks := .later }
def FreshSafeUptoCardSaid : Prop := Claim7.holds Tryd.pinned (.plain (OpenSpec.upto freshSafeSpec)) freshSafeUptoCard

/-- THE SECOND FORM's CARD OF 'lockstitchlaw09.FreshOthers'. -/
def freshOthersUptoCard : Claim7 := { stood := { row := freshOthersUptoRow, standIns := [], harness := (true, "4952ab5e77075f4110198fea9a9530deae530e4f2dbb874d9c0a98fd7239fa27"), looks := false }, kinds := [], alts := [], laidByText := true, laidKinds := [.data, .data, .data], laidTests := true, laidLooks := .later }
def FreshOthersUptoCardSaid : Prop := Claim7.holds Tryd.pinned (.plain (OpenSpec.upto freshOthersSpec)) freshOthersUptoCard

/-- THE SECOND FORM's CARD OF 'lockstitchlaw09.FreshNil'. -/
def freshNilUptoCard : Claim7 := { stood := { row := freshNilUptoRow, standIns := [], harness := (true, "4952ab5e77075f4110198fea9a9530deae530e4f2dbb874d9c0a98fd7239fa27"), looks := false }, kinds := [], alts := [], laidByText := true, laidKinds := [.data, .data, .data], laidTests := true, laidLooks := .later }
def FreshNilUptoCardSaid : Prop := Claim7.holds Tryd.pinned (.plain (OpenSpec.upto freshNilSpec)) freshNilUptoCard
end Rows
end Go.Proofs.YtkmkfiidlbhcgaaDoor

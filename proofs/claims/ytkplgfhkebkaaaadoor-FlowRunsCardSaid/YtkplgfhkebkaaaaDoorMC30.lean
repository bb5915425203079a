/- Texts of this claim, pruned to what it needs and laid together by prune.py. -/
import Derived.Test.YtkplgfhkebkaaaaDoorProg
import Derived.Below
import Derived.Deep.Draws
import Derived.Deep.AppendLies
import Derived.Maps.AppendAt
import Derived.OwnWalk
import Derived.Laws.BytesArg
import Derived.Laws.MakeOwn
import Derived.Laws.OwnMore
import Derived.Deep.OwnRows
import Derived.Tactics
import Derived.Lib.ConvBytes
import Derived.Laws.Slices
import Derived.WalkKit
import Derived.KernelRfl
import Derived.RowKit3
import Derived.Deep.LoopGhost
import Derived.Deep.QuietTactic
import Derived.BigQuiet
import Derived.WideLaws
import Derived.Deep.DeepCutAuto
import Derived.Deep.CutBlock
import Derived.Deep.RegionHeld3
import Derived.Laws.Rows
import Derived.Lib.AppendStr
import Derived.ArgAppend
import Derived.Laws.IdiomCopy
import Derived.OrdersHeld
import Derived.Laws.BitsLemmas
import Derived.RowKit
import Derived.Test.YtkplgfhkebkaaaaDoorMC25
import Derived.Test.YtkplgfhkebkaaaaDoorMC1
import Derived.Test.YtkplgfhkebkaaaaDoorMC3
import Derived.Test.YtkplgfhkebkaaaaDoorMC15
import Derived.Test.YtkplgfhkebkaaaaDoorMC16
import Derived.Test.YtkplgfhkebkaaaaDoorMC4
import Derived.Test.YtkplgfhkebkaaaaDoorMC5
import Derived.Test.YtkplgfhkebkaaaaDoorMC6
import Derived.Test.YtkplgfhkebkaaaaDoorMC7
import Derived.Test.YtkplgfhkebkaaaaDoorMC8
import Derived.Test.YtkplgfhkebkaaaaDoorMC9
import Derived.Test.YtkplgfhkebkaaaaDoorMC10
import Derived.Test.YtkplgfhkebkaaaaDoorMC11
import Derived.Test.YtkplgfhkebkaaaaDoorMC17
import Derived.Test.YtkplgfhkebkaaaaDoorMC18
import Derived.Test.YtkplgfhkebkaaaaDoorMC19
import Derived.Test.YtkplgfhkebkaaaaDoorMC20
import Derived.Test.YtkplgfhkebkaaaaDoorMC21
import Derived.Test.YtkplgfhkebkaaaaDoorMC22
import Derived.Test.YtkplgfhkebkaaaaDoorMC23
import Derived.Test.YtkplgfhkebkaaaaDoorMC12
import Derived.Test.YtkplgfhkebkaaaaDoorMC13
namespace Go.Proofs.YtkplgfhkebkaaaaDoor.V
open Go.RowKit Go.Proofs.YtkplgfhkebkaaaaDoorW.PrintWords Go.Proofs.YtkplgfhkebkaaaaDoorW.PrintLast Go.Proofs.YtkplgfhkebkaaaaDoorW.PrintMore
attribute [local go_sem] max2_int min2_int max_two min_two max_three min_three max_four min_four
set_option linter.unusedVariables false
set_option linter.unusedSimpArgs false
open Go.Proofs.YtkplgfhkebkaaaaDoor.F
end Go.Proofs.YtkplgfhkebkaaaaDoor.V

namespace Go.Proofs.YtkplgfhkebkaaaaDoor.V
open Go.RowKit Go.Proofs.YtkplgfhkebkaaaaDoorW.PrintWords Go.Proofs.YtkplgfhkebkaaaaDoorW.PrintLast Go.Proofs.YtkplgfhkebkaaaaDoorW.PrintMore
attribute [local go_sem] max2_int min2_int max_two min_two max_three min_three max_four min_four
set_option linter.unusedVariables false
set_option linter.unusedSimpArgs false
open Go.Proofs.YtkplgfhkebkaaaaDoor.F
noncomputable def live_bits.l0 : Nat → Int → List Int → Int → Int → Option (Int)
  | 0, _, _, _, _ => none
  | k + 1, x3, x6, x7, x8 => if x8 < x7 then (if 0 ≤ x8 then (if x8 < (x6.length : Int) then (if 0 ≤ (rd x6 x8) then (live_bits.l0 k (Go.bits .or .u8 x3 (shl .u8 1 (rd x6 x8))) x6 x7 (wrap64 (x8 + 1))) else (none)) else (none)) else (none)) else (some x3)
noncomputable def live_bits.f (k : Nat) (l0 : List Int) : Option (Int) := live_bits.l0 k 0 l0 (l0.length : Int) 0
theorem live_bits.mono_l : ∀ k, (∀ y0 y1 y2 y3, LeO (live_bits.l0 k y0 y1 y2 y3) (live_bits.l0 (k + 1) y0 y1 y2 y3))
  | 0 => fun _ _ _ _ r h => by simp [live_bits.l0] at h
  | k + 1 => by
    have ih0 := live_bits.mono_l k
    · intro y0 y1 y2 y3
      unfold live_bits.l0
      repeat' first
      | (with_reducible exact ih0 _ _ _ _)
      | (with_reducible exact LeO.refl _)
      | (with_reducible exact LeO.none _)
      | (with_reducible refine LeO.ite ?_ ?_)
      | (with_reducible refine LeO.bind ?_ (fun _ => ?_))
      | exact ih0 _ _ _ _
      | exact LeO.none _
      | refine LeO.ite ?_ ?_
      | refine LeO.bind ?_ (fun _ => ?_)
theorem live_bits.mono : ∀ a0 k, LeO (live_bits.f k a0) (live_bits.f (k + 1) a0) := by
  intro a0 k; have ih0 := live_bits.mono_l k
  unfold live_bits.f
  repeat' first
      | (with_reducible exact ih0 _ _ _ _)
      | (with_reducible exact LeO.refl _)
      | (with_reducible exact LeO.none _)
      | (with_reducible refine LeO.ite ?_ ?_)
      | (with_reducible refine LeO.bind ?_ (fun _ => ?_))
      | exact ih0 _ _ _ _
      | exact LeO.none _
      | refine LeO.ite ?_ ?_
      | refine LeO.bind ?_ (fun _ => ?_)
noncomputable def live_Uses.j0 : Nat → Int → Bool → Int → Int → Int → Int → Int → Option (Int)
  | 0, _, _, _, _, _, _, _ => none
  | k + 1, x4, x5, x103000, x103001, x103002, x103003, x103004 => if x5 = true then ((live_bits.f k (([x103002] : List Int))).bind fun t106 => (some t106)) else (if x4 = 9 then ((live_bits.f k (([x103001] : List Int))).bind fun t110 => (some t110)) else (if x4 = 11 then ((live_bits.f k (([x103001, x103002] : List Int))).bind fun t114 => (some t114)) else (if x4 = 15 then ((live_bits.f k (([x103002, x103003] : List Int))).bind fun t118 => (some t118)) else (some 0))))
noncomputable def live_Uses.f (k : Nat) (a0_0 : Int) (a0_1 : Int) (a0_2 : Int) (a0_3 : Int) (a0_4 : Int) : Option (Int) := if a0_0 = 7 then (live_Uses.j0 k a0_0 (a0_0 == 7) a0_0 a0_1 a0_2 a0_3 a0_4) else (if a0_0 = 8 then (live_Uses.j0 k a0_0 (a0_0 == 8) a0_0 a0_1 a0_2 a0_3 a0_4) else (if a0_0 = 10 then (live_Uses.j0 k a0_0 (a0_0 == 10) a0_0 a0_1 a0_2 a0_3 a0_4) else (live_Uses.j0 k a0_0 (a0_0 == 13) a0_0 a0_1 a0_2 a0_3 a0_4)))
noncomputable def live_Sets.f (k : Nat) (a0_0 : Int) (a0_1 : Int) (a0_2 : Int) (a0_3 : Int) (a0_4 : Int) : Option (Int) := if a0_0 = 5 then ((live_bits.f k (([a0_1] : List Int))).bind fun t123 => (some t123)) else (if a0_0 = 6 then ((live_bits.f k (([a0_1] : List Int))).bind fun t127 => (some t127)) else (if a0_0 = 7 then ((live_bits.f k (([a0_1] : List Int))).bind fun t131 => (some t131)) else (if a0_0 = 10 then ((live_bits.f k (([a0_1] : List Int))).bind fun t135 => (some t135)) else (if a0_0 = 12 then ((live_bits.f k (([a0_1] : List Int))).bind fun t139 => (some t139)) else (some 0)))))
end Go.Proofs.YtkplgfhkebkaaaaDoor.V

namespace Go.Proofs.YtkplgfhkebkaaaaDoor.V
open Go.RowKit Go.Proofs.YtkplgfhkebkaaaaDoorW.PrintWords Go.Proofs.YtkplgfhkebkaaaaDoorW.PrintLast Go.Proofs.YtkplgfhkebkaaaaDoorW.PrintMore
attribute [local go_sem] max2_int min2_int max_two min_two max_three min_three max_four min_four
set_option linter.unusedVariables false
set_option linter.unusedSimpArgs false
open Go.Proofs.YtkplgfhkebkaaaaDoor.F
end Go.Proofs.YtkplgfhkebkaaaaDoor.V

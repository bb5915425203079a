/- Texts of this claim, pruned to what it needs and laid together by prune.py. -/
import Derived.Test.YtkplgfhkebkaaaaDoorProg
import Derived.Below
import Derived.Deep.Draws
import Derived.Deep.AppendLies
import Derived.Maps.AppendAt
import Derived.OwnWalk
import Derived.Laws.BytesArg
import Derived.Laws.MakeOwn
import Derived.Laws.OwnMore
import Derived.Deep.OwnRows
import Derived.Tactics
import Derived.Lib.ConvBytes
import Derived.Laws.Slices
import Derived.WalkKit
import Derived.KernelRfl
import Derived.RowKit3
import Derived.Deep.LoopGhost
import Derived.Deep.QuietTactic
import Derived.BigQuiet
import Derived.WideLaws
import Derived.Deep.DeepCutAuto
import Derived.Deep.CutBlock
import Derived.Deep.RegionHeld3
import Derived.Laws.Rows
import Derived.Lib.AppendStr
import Derived.ArgAppend
import Derived.Laws.IdiomCopy
import Derived.OrdersHeld
import Derived.Laws.BitsLemmas
import Derived.RowKit
import Derived.Test.YtkplgfhkebkaaaaDoorMD25
import Derived.Test.YtkplgfhkebkaaaaDoorMD30
import Derived.Test.YtkplgfhkebkaaaaDoorMD1
import Derived.Test.YtkplgfhkebkaaaaDoorMD3
import Derived.Test.YtkplgfhkebkaaaaDoorMD15
import Derived.Test.YtkplgfhkebkaaaaDoorMD16
import Derived.Test.YtkplgfhkebkaaaaDoorMD4
import Derived.Test.YtkplgfhkebkaaaaDoorMD5
import Derived.Test.YtkplgfhkebkaaaaDoorMD6
import Derived.Test.YtkplgfhkebkaaaaDoorMD7
import Derived.Test.YtkplgfhkebkaaaaDoorMD8
import Derived.Test.YtkplgfhkebkaaaaDoorMD9
import Derived.Test.YtkplgfhkebkaaaaDoorMD10
import Derived.Test.YtkplgfhkebkaaaaDoorMD11
import Derived.Test.YtkplgfhkebkaaaaDoorMD17
import Derived.Test.YtkplgfhkebkaaaaDoorMD18
import Derived.Test.YtkplgfhkebkaaaaDoorMD19
import Derived.Test.YtkplgfhkebkaaaaDoorMD20
import Derived.Test.YtkplgfhkebkaaaaDoorMD21
import Derived.Test.YtkplgfhkebkaaaaDoorMD22
import Derived.Test.YtkplgfhkebkaaaaDoorMD23
import Derived.Test.YtkplgfhkebkaaaaDoorMD12
import Derived.Test.YtkplgfhkebkaaaaDoorMD13
namespace Go.Proofs.YtkplgfhkebkaaaaDoor.Z
open Go.RowKit Go.Proofs.YtkplgfhkebkaaaaDoorW.PrintWords Go.Proofs.YtkplgfhkebkaaaaDoorW.PrintLast Go.Proofs.YtkplgfhkebkaaaaDoorW.PrintMore
attribute [local go_sem] max2_int min2_int max_two min_two max_three min_three max_four min_four
set_option linter.unusedVariables false
set_option linter.unusedSimpArgs false
open Go.Proofs.YtkplgfhkebkaaaaDoor.F
open Go.Proofs.YtkplgfhkebkaaaaDoor.V
noncomputable def rd_L1 (xs : List (List ByteArray)) (i : Int) : (List ByteArray) := xs.getD i.toNat ([] : List ByteArray)
noncomputable def rd_L5 (xs : List (List S47)) (i : Int) : (List S47) := xs.getD i.toNat ([] : List S47)
end Go.Proofs.YtkplgfhkebkaaaaDoor.Z

namespace Go.Proofs.YtkplgfhkebkaaaaDoor.Z
open Go.RowKit Go.Proofs.YtkplgfhkebkaaaaDoorW.PrintWords Go.Proofs.YtkplgfhkebkaaaaDoorW.PrintLast Go.Proofs.YtkplgfhkebkaaaaDoorW.PrintMore
attribute [local go_sem] max2_int min2_int max_two min_two max_three min_three max_four min_four
set_option linter.unusedVariables false
set_option linter.unusedSimpArgs false
open Go.Proofs.YtkplgfhkebkaaaaDoor.F
open Go.Proofs.YtkplgfhkebkaaaaDoor.V
mutual
noncomputable def fresh_Out.j0 : Nat → Int → Int → Bool → List ByteArray → ByteArray → ByteArray → List (S47) → Option (Int)
  | 0, _, _, _, _, _, _, _ => none
  | k + 1, x1, x2, x17, x102000, x102001, x102002, x102003 => if x17 = true then (some x2) else ((flow_Safe.f k x102000 x102001 x102002 x102003 x1).bind fun t102 => (if t102 = true then (fresh_Out.j1 k x1 0 x102000 x102001 x102002 x102003) else (fresh_Out.j1 k x1 x2 x102000 x102001 x102002 x102003)))
noncomputable def fresh_Out.j1 : Nat → Int → Int → List ByteArray → ByteArray → ByteArray → List (S47) → Option (Int)
  | 0, _, _, _, _, _, _ => none
  | k + 1, x1, x2, x102000, x102001, x102002, x102003 => if 0 ≤ x1 then (if x1 < (x102003.length : Int) then (if 0 ≤ ((rd_T47 x102003 x1).f1) then (if ((rd_T47 x102003 x1).f0) = 5 then (fresh_Out.j2 k x2 (shl .u8 1 ((rd_T47 x102003 x1).f1)) true ((rd_T47 x102003 x1).f0) ((rd_T47 x102003 x1).f1) ((rd_T47 x102003 x1).f2) ((rd_T47 x102003 x1).f3) ((rd_T47 x102003 x1).f4)) else (if ((rd_T47 x102003 x1).f0) = 6 then (fresh_Out.j2 k x2 (shl .u8 1 ((rd_T47 x102003 x1).f1)) true ((rd_T47 x102003 x1).f0) ((rd_T47 x102003 x1).f1) ((rd_T47 x102003 x1).f2) ((rd_T47 x102003 x1).f3) ((rd_T47 x102003 x1).f4)) else (if ((rd_T47 x102003 x1).f0) = 7 then (if 0 ≤ ((rd_T47 x102003 x1).f2) then (fresh_Out.j2 k x2 (shl .u8 1 ((rd_T47 x102003 x1).f1)) ((Go.bits .and .u8 (shr .u8 x2 ((rd_T47 x102003 x1).f2)) 1) == 1) ((rd_T47 x102003 x1).f0) ((rd_T47 x102003 x1).f1) ((rd_T47 x102003 x1).f2) ((rd_T47 x102003 x1).f3) ((rd_T47 x102003 x1).f4)) else (none)) else (fresh_Out.j2 k x2 (shl .u8 1 ((rd_T47 x102003 x1).f1)) false ((rd_T47 x102003 x1).f0) ((rd_T47 x102003 x1).f1) ((rd_T47 x102003 x1).f2) ((rd_T47 x102003 x1).f3) ((rd_T47 x102003 x1).f4))))) else (none)) else (none)) else (none)
noncomputable def fresh_Out.j2 : Nat → Int → Int → Bool → Int → Int → Int → Int → Int → Option (Int)
  | 0, _, _, _, _, _, _, _, _ => none
  | k + 1, x2, x8, x30, x105000, x105001, x105002, x105003, x105004 => if x30 = true then (some (Go.bits .or .u8 x2 x8)) else (if x105000 = 7 then (some (Go.bits .andNot .u8 x2 x8)) else (if x105000 = 10 then (some (Go.bits .andNot .u8 x2 x8)) else (if x105000 = 12 then (some (Go.bits .andNot .u8 x2 x8)) else (some x2))))
end
noncomputable def fresh_Out.f (k : Nat) (l0_0 : List ByteArray) (a0_1 : ByteArray) (a0_2 : ByteArray) (l0_3 : List (S47)) (a1 : Int) (a2 : Int) : Option (Int) := if a1 < 0 then (fresh_Out.j0 k a1 a2 true l0_0 a0_1 a0_2 l0_3) else (fresh_Out.j0 k a1 a2 (decide (a1 ≥ (l0_3.length : Int))) l0_0 a0_1 a0_2 l0_3)
theorem fresh_Out.mono_l : ∀ k, (∀ y0 y1 y2 y3 y4 y5 y6, LeO (fresh_Out.j0 k y0 y1 y2 y3 y4 y5 y6) (fresh_Out.j0 (k + 1) y0 y1 y2 y3 y4 y5 y6)) ∧ (∀ y0 y1 y2 y3 y4 y5, LeO (fresh_Out.j1 k y0 y1 y2 y3 y4 y5) (fresh_Out.j1 (k + 1) y0 y1 y2 y3 y4 y5)) ∧ (∀ y0 y1 y2 y3 y4 y5 y6 y7, LeO (fresh_Out.j2 k y0 y1 y2 y3 y4 y5 y6 y7) (fresh_Out.j2 (k + 1) y0 y1 y2 y3 y4 y5 y6 y7))
  | 0 => ⟨fun _ _ _ _ _ _ _ r h => by simp [fresh_Out.j0] at h, fun _ _ _ _ _ _ r h => by simp [fresh_Out.j1] at h, fun _ _ _ _ _ _ _ _ r h => by simp [fresh_Out.j2] at h⟩
  | k + 1 => by
    obtain ⟨ih0, ih1, ih2⟩ := fresh_Out.mono_l k; refine ⟨?_, ?_, ?_⟩
    · intro y0 y1 y2 y3 y4 y5 y6
      unfold fresh_Out.j0
      repeat' first
      | (with_reducible exact ih0 _ _ _ _ _ _ _)
      | (with_reducible exact ih1 _ _ _ _ _ _)
      | (with_reducible exact ih2 _ _ _ _ _ _ _ _)
      | (with_reducible exact flow_Safe.mono _ _ _ _ _ _)
      | (with_reducible exact LeO.refl _)
      | (with_reducible exact LeO.none _)
      | (with_reducible refine LeO.ite ?_ ?_)
      | (with_reducible refine LeO.bind ?_ (fun _ => ?_))
      | exact ih0 _ _ _ _ _ _ _
      | exact ih1 _ _ _ _ _ _
      | exact ih2 _ _ _ _ _ _ _ _
      | exact flow_Safe.mono _ _ _ _ _ _
      | exact LeO.none _
      | refine LeO.ite ?_ ?_
      | refine LeO.bind ?_ (fun _ => ?_)
    · intro y0 y1 y2 y3 y4 y5
      unfold fresh_Out.j1
      repeat' first
      | (with_reducible exact ih0 _ _ _ _ _ _ _)
      | (with_reducible exact ih1 _ _ _ _ _ _)
      | (with_reducible exact ih2 _ _ _ _ _ _ _ _)
      | (with_reducible exact flow_Safe.mono _ _ _ _ _ _)
      | (with_reducible exact LeO.refl _)
      | (with_reducible exact LeO.none _)
      | (with_reducible refine LeO.ite ?_ ?_)
      | (with_reducible refine LeO.bind ?_ (fun _ => ?_))
      | exact ih0 _ _ _ _ _ _ _
      | exact ih1 _ _ _ _ _ _
      | exact ih2 _ _ _ _ _ _ _ _
      | exact flow_Safe.mono _ _ _ _ _ _
      | exact LeO.none _
      | refine LeO.ite ?_ ?_
      | refine LeO.bind ?_ (fun _ => ?_)
    · intro y0 y1 y2 y3 y4 y5 y6 y7
      unfold fresh_Out.j2
      repeat' first
      | (with_reducible exact ih0 _ _ _ _ _ _ _)
      | (with_reducible exact ih1 _ _ _ _ _ _)
      | (with_reducible exact ih2 _ _ _ _ _ _ _ _)
      | (with_reducible exact flow_Safe.mono _ _ _ _ _ _)
      | (with_reducible exact LeO.refl _)
      | (with_reducible exact LeO.none _)
      | (with_reducible refine LeO.ite ?_ ?_)
      | (with_reducible refine LeO.bind ?_ (fun _ => ?_))
      | exact ih0 _ _ _ _ _ _ _
      | exact ih1 _ _ _ _ _ _
      | exact ih2 _ _ _ _ _ _ _ _
      | exact flow_Safe.mono _ _ _ _ _ _
      | exact LeO.none _
      | refine LeO.ite ?_ ?_
      | refine LeO.bind ?_ (fun _ => ?_)
theorem fresh_Out.mono : ∀ a0 a1 a2 a3 a4 a5 k, LeO (fresh_Out.f k a0 a1 a2 a3 a4 a5) (fresh_Out.f (k + 1) a0 a1 a2 a3 a4 a5) := by
  intro a0 a1 a2 a3 a4 a5 k; obtain ⟨ih0, ih1, ih2⟩ := fresh_Out.mono_l k
  unfold fresh_Out.f
  repeat' first
      | (with_reducible exact ih0 _ _ _ _ _ _ _)
      | (with_reducible exact ih1 _ _ _ _ _ _)
      | (with_reducible exact ih2 _ _ _ _ _ _ _ _)
      | (with_reducible exact flow_Safe.mono _ _ _ _ _ _)
      | (with_reducible exact LeO.refl _)
      | (with_reducible exact LeO.none _)
      | (with_reducible refine LeO.ite ?_ ?_)
      | (with_reducible refine LeO.bind ?_ (fun _ => ?_))
      | exact ih0 _ _ _ _ _ _ _
      | exact ih1 _ _ _ _ _ _
      | exact ih2 _ _ _ _ _ _ _ _
      | exact flow_Safe.mono _ _ _ _ _ _
      | exact LeO.none _
      | refine LeO.ite ?_ ?_
      | refine LeO.bind ?_ (fun _ => ?_)
end Go.Proofs.YtkplgfhkebkaaaaDoor.Z

namespace Go.Proofs.YtkplgfhkebkaaaaDoor.Z
open Go.RowKit Go.Proofs.YtkplgfhkebkaaaaDoorW.PrintWords Go.Proofs.YtkplgfhkebkaaaaDoorW.PrintLast Go.Proofs.YtkplgfhkebkaaaaDoorW.PrintMore
attribute [local go_sem] max2_int min2_int max_two min_two max_three min_three max_four min_four
set_option linter.unusedVariables false
set_option linter.unusedSimpArgs false
open Go.Proofs.YtkplgfhkebkaaaaDoor.F
open Go.Proofs.YtkplgfhkebkaaaaDoor.V
end Go.Proofs.YtkplgfhkebkaaaaDoor.Z

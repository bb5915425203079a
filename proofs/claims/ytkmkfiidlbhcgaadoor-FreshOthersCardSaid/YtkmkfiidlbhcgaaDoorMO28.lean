/- Texts of this claim, pruned to what it needs and laid together by prune.py. -/
import Derived.Test.YtkmkfiidlbhcgaaDoorProg
import Derived.Below
import Derived.Deep.Draws
import Derived.Deep.AppendLies
import Derived.Maps.AppendAt
import Derived.OwnWalk
import Derived.Laws.BytesArg
import Derived.Laws.MakeOwn
import Derived.Laws.OwnMore
import Derived.Deep.OwnRows
import Derived.Tactics
import Derived.Lib.ConvBytes
import Derived.Laws.Slices
import Derived.WalkKit
import Derived.KernelRfl
import Derived.RowKit3
import Derived.Deep.LoopGhost
import Derived.Deep.QuietTactic
import Derived.BigQuiet
import Derived.WideLaws
import Derived.Deep.DeepCutAuto
import Derived.Deep.CutBlock
import Derived.Deep.RegionHeld3
import Derived.Laws.Rows
import Derived.Lib.AppendStr
import Derived.ArgAppend
import Derived.Laws.IdiomCopy
import Derived.OrdersHeld
import Derived.Laws.BitsLemmas
import Derived.RowKit
import Derived.Test.YtkmkfiidlbhcgaaDoorMO24
import Derived.Test.YtkmkfiidlbhcgaaDoorMO1
import Derived.Test.YtkmkfiidlbhcgaaDoorMO3
import Derived.Test.YtkmkfiidlbhcgaaDoorMO4
import Derived.Test.YtkmkfiidlbhcgaaDoorMO5
import Derived.Test.YtkmkfiidlbhcgaaDoorMO6
import Derived.Test.YtkmkfiidlbhcgaaDoorMO7
import Derived.Test.YtkmkfiidlbhcgaaDoorMO8
import Derived.Test.YtkmkfiidlbhcgaaDoorMO9
import Derived.Test.YtkmkfiidlbhcgaaDoorMO10
import Derived.Test.YtkmkfiidlbhcgaaDoorMO11
import Derived.Test.YtkmkfiidlbhcgaaDoorMO12
import Derived.Test.YtkmkfiidlbhcgaaDoorMO13
import Derived.Test.YtkmkfiidlbhcgaaDoorMO14
import Derived.Test.YtkmkfiidlbhcgaaDoorMO15
import Derived.Test.YtkmkfiidlbhcgaaDoorMO16
import Derived.Test.YtkmkfiidlbhcgaaDoorMO17
import Derived.Test.YtkmkfiidlbhcgaaDoorMO18
import Derived.Test.YtkmkfiidlbhcgaaDoorMO19
import Derived.Test.YtkmkfiidlbhcgaaDoorMO20
import Derived.Test.YtkmkfiidlbhcgaaDoorMO21
import Derived.Test.YtkmkfiidlbhcgaaDoorMO22
namespace Go.Proofs.YtkmkfiidlbhcgaaDoor.V
open Go.RowKit Go.Proofs.YtkmkfiidlbhcgaaDoorW.PrintWords Go.Proofs.YtkmkfiidlbhcgaaDoorW.PrintLast Go.Proofs.YtkmkfiidlbhcgaaDoorW.PrintMore
attribute [local go_sem] max2_int min2_int max_two min_two max_three min_three max_four min_four
set_option linter.unusedVariables false
set_option linter.unusedSimpArgs false
open Go.Proofs.YtkmkfiidlbhcgaaDoor.F
theorem info5 : (Tryd.prog.info? 5).map (fun i => (i.zero, i.size, i.bytes)) = some (some (.int .u8 0), 1, 1) := by kernel_rfl
noncomputable def rd_L2 (xs : List (List ByteArray)) (i : Int) : (List ByteArray) := xs.getD i.toNat ([] : List ByteArray)
noncomputable def rd_L5 (xs : List (List S36)) (i : Int) : (List S36) := xs.getD i.toNat ([] : List S36)
noncomputable def rd_L6 (xs : List (List Int)) (i : Int) : (List Int) := xs.getD i.toNat ([] : List Int)
end Go.Proofs.YtkmkfiidlbhcgaaDoor.V

namespace Go.Proofs.YtkmkfiidlbhcgaaDoor.V
open Go.RowKit Go.Proofs.YtkmkfiidlbhcgaaDoorW.PrintWords Go.Proofs.YtkmkfiidlbhcgaaDoorW.PrintLast Go.Proofs.YtkmkfiidlbhcgaaDoorW.PrintMore
attribute [local go_sem] max2_int min2_int max_two min_two max_three min_three max_four min_four
set_option linter.unusedVariables false
set_option linter.unusedSimpArgs false
open Go.Proofs.YtkmkfiidlbhcgaaDoor.F
noncomputable def live_bits.l0 : Nat → Int → List Int → Int → Int → Option (Int)
  | 0, _, _, _, _ => none
  | k + 1, x3, x6, x7, x8 => if x8 < x7 then (if 0 ≤ x8 then (if x8 < (x6.length : Int) then (if 0 ≤ (rd x6 x8) then (live_bits.l0 k (Go.bits .or .u8 x3 (shl .u8 1 (rd x6 x8))) x6 x7 (wrap64 (x8 + 1))) else (none)) else (none)) else (none)) else (some x3)
noncomputable def live_bits.f (k : Nat) (l0 : List Int) : Option (Int) := live_bits.l0 k 0 l0 (l0.length : Int) 0
theorem live_bits.mono_l : ∀ k, (∀ y0 y1 y2 y3, LeO (live_bits.l0 k y0 y1 y2 y3) (live_bits.l0 (k + 1) y0 y1 y2 y3))
  | 0 => fun _ _ _ _ r h => by simp [live_bits.l0] at h
  | k + 1 => by
    have ih0 := live_bits.mono_l k
    · intro y0 y1 y2 y3
      unfold live_bits.l0
      repeat' first
      | (with_reducible exact ih0 _ _ _ _)
      | (with_reducible exact LeO.refl _)
      | (with_reducible exact LeO.none _)
      | (with_reducible refine LeO.ite ?_ ?_)
      | (with_reducible refine LeO.bind ?_ (fun _ => ?_))
      | exact ih0 _ _ _ _
      | exact LeO.none _
      | refine LeO.ite ?_ ?_
      | refine LeO.bind ?_ (fun _ => ?_)
theorem live_bits.mono : ∀ a0 k, LeO (live_bits.f k a0) (live_bits.f (k + 1) a0) := by
  intro a0 k; have ih0 := live_bits.mono_l k
  unfold live_bits.f
  repeat' first
      | (with_reducible exact ih0 _ _ _ _)
      | (with_reducible exact LeO.refl _)
      | (with_reducible exact LeO.none _)
      | (with_reducible refine LeO.ite ?_ ?_)
      | (with_reducible refine LeO.bind ?_ (fun _ => ?_))
      | exact ih0 _ _ _ _
      | exact LeO.none _
      | refine LeO.ite ?_ ?_
      | refine LeO.bind ?_ (fun _ => ?_)
noncomputable def live_Uses.j0 : Nat → Int → Bool → Int → Int → Int → Int → Int → Option (Int)
  | 0, _, _, _, _, _, _, _ => none
  | k + 1, x4, x5, x103000, x103001, x103002, x103003, x103004 => if x5 = true then ((live_bits.f k (([x103002] : List Int))).bind fun t106 => (some t106)) else (if x4 = 9 then ((live_bits.f k (([x103001] : List Int))).bind fun t110 => (some t110)) else (if x4 = 11 then ((live_bits.f k (([x103001, x103002] : List Int))).bind fun t114 => (some t114)) else (if x4 = 15 then ((live_bits.f k (([x103002, x103003] : List Int))).bind fun t118 => (some t118)) else (some 0))))
noncomputable def live_Uses.f (k : Nat) (a0_0 : Int) (a0_1 : Int) (a0_2 : Int) (a0_3 : Int) (a0_4 : Int) : Option (Int) := if a0_0 = 7 then (live_Uses.j0 k a0_0 (a0_0 == 7) a0_0 a0_1 a0_2 a0_3 a0_4) else (if a0_0 = 8 then (live_Uses.j0 k a0_0 (a0_0 == 8) a0_0 a0_1 a0_2 a0_3 a0_4) else (if a0_0 = 10 then (live_Uses.j0 k a0_0 (a0_0 == 10) a0_0 a0_1 a0_2 a0_3 a0_4) else (live_Uses.j0 k a0_0 (a0_0 == 13) a0_0 a0_1 a0_2 a0_3 a0_4)))
noncomputable def live_Sets.f (k : Nat) (a0_0 : Int) (a0_1 : Int) (a0_2 : Int) (a0_3 : Int) (a0_4 : Int) : Option (Int) := if a0_0 = 5 then ((live_bits.f k (([a0_1] : List Int))).bind fun t123 => (some t123)) else (if a0_0 = 6 then ((live_bits.f k (([a0_1] : List Int))).bind fun t127 => (some t127)) else (if a0_0 = 7 then ((live_bits.f k (([a0_1] : List Int))).bind fun t131 => (some t131)) else (if a0_0 = 10 then ((live_bits.f k (([a0_1] : List Int))).bind fun t135 => (some t135)) else (if a0_0 = 12 then ((live_bits.f k (([a0_1] : List Int))).bind fun t139 => (some t139)) else (some 0)))))
noncomputable def lockstitchref08_bit.l0 : Nat → Int → Int → Int → Option (Int)
  | 0, _, _, _ => none
  | k + 1, x0, x3, x4 => if x4 < x0 then (lockstitchref08_bit.l0 k x0 ((x3 * 2) % 256) ((x4 + 1) % 256)) else (some x3)
noncomputable def lockstitchref08_bit.f (k : Nat) (a0 : Int) : Option (Int) := if a0 > 7 then (some 0) else (lockstitchref08_bit.l0 k a0 1 0)
theorem lockstitchref08_bit.mono_l : ∀ k, (∀ y0 y1 y2, LeO (lockstitchref08_bit.l0 k y0 y1 y2) (lockstitchref08_bit.l0 (k + 1) y0 y1 y2))
  | 0 => fun _ _ _ r h => by simp [lockstitchref08_bit.l0] at h
  | k + 1 => by
    have ih0 := lockstitchref08_bit.mono_l k
    · intro y0 y1 y2
      unfold lockstitchref08_bit.l0
      repeat' first
      | (with_reducible exact ih0 _ _ _)
      | (with_reducible exact LeO.refl _)
      | (with_reducible exact LeO.none _)
      | (with_reducible refine LeO.ite ?_ ?_)
      | (with_reducible refine LeO.bind ?_ (fun _ => ?_))
      | exact ih0 _ _ _
      | exact LeO.none _
      | refine LeO.ite ?_ ?_
      | refine LeO.bind ?_ (fun _ => ?_)
theorem lockstitchref08_bit.mono : ∀ a0 k, LeO (lockstitchref08_bit.f k a0) (lockstitchref08_bit.f (k + 1) a0) := by
  intro a0 k; have ih0 := lockstitchref08_bit.mono_l k
  unfold lockstitchref08_bit.f
  repeat' first
      | (with_reducible exact ih0 _ _ _)
      | (with_reducible exact LeO.refl _)
      | (with_reducible exact LeO.none _)
      | (with_reducible refine LeO.ite ?_ ?_)
      | (with_reducible refine LeO.bind ?_ (fun _ => ?_))
      | exact ih0 _ _ _
      | exact LeO.none _
      | refine LeO.ite ?_ ?_
      | refine LeO.bind ?_ (fun _ => ?_)
noncomputable def lockstitchref08_Uses.j0 : Nat → Int → Bool → Int → Int → Int → Int → Int → Option (Int)
  | 0, _, _, _, _, _, _, _ => none
  | k + 1, x4, x5, x141000, x141001, x141002, x141003, x141004 => if x5 = true then ((lockstitchref08_bit.f k x141002).bind fun t141 => (some t141)) else (if x4 = 9 then ((lockstitchref08_bit.f k x141001).bind fun t142 => (some t142)) else (if x4 = 11 then ((lockstitchref08_bit.f k x141001).bind fun t143 => ((lockstitchref08_bit.f k x141002).bind fun t144 => (some (Go.bits .or .u8 t143 t144)))) else (if x4 = 15 then ((lockstitchref08_bit.f k x141002).bind fun t145 => ((lockstitchref08_bit.f k x141003).bind fun t146 => (some (Go.bits .or .u8 t145 t146)))) else (some 0))))
noncomputable def lockstitchref08_Uses.f (k : Nat) (a0_0 : Int) (a0_1 : Int) (a0_2 : Int) (a0_3 : Int) (a0_4 : Int) : Option (Int) := if a0_0 = 7 then (lockstitchref08_Uses.j0 k a0_0 (a0_0 == 7) a0_0 a0_1 a0_2 a0_3 a0_4) else (if a0_0 = 8 then (lockstitchref08_Uses.j0 k a0_0 (a0_0 == 8) a0_0 a0_1 a0_2 a0_3 a0_4) else (if a0_0 = 10 then (lockstitchref08_Uses.j0 k a0_0 (a0_0 == 10) a0_0 a0_1 a0_2 a0_3 a0_4) else (lockstitchref08_Uses.j0 k a0_0 (a0_0 == 13) a0_0 a0_1 a0_2 a0_3 a0_4)))
theorem lockstitchref08_Uses.mono_l : ∀ k, (∀ y0 y1 y2 y3 y4 y5 y6, LeO (lockstitchref08_Uses.j0 k y0 y1 y2 y3 y4 y5 y6) (lockstitchref08_Uses.j0 (k + 1) y0 y1 y2 y3 y4 y5 y6))
  | 0 => fun _ _ _ _ _ _ _ r h => by simp [lockstitchref08_Uses.j0] at h
  | k + 1 => by
    have ih0 := lockstitchref08_Uses.mono_l k
    · intro y0 y1 y2 y3 y4 y5 y6
      unfold lockstitchref08_Uses.j0
      repeat' first
      | (with_reducible exact ih0 _ _ _ _ _ _ _)
      | (with_reducible exact lockstitchref08_bit.mono _ _)
      | (with_reducible exact LeO.refl _)
      | (with_reducible exact LeO.none _)
      | (with_reducible refine LeO.ite ?_ ?_)
      | (with_reducible refine LeO.bind ?_ (fun _ => ?_))
      | exact ih0 _ _ _ _ _ _ _
      | exact lockstitchref08_bit.mono _ _
      | exact LeO.none _
      | refine LeO.ite ?_ ?_
      | refine LeO.bind ?_ (fun _ => ?_)
theorem lockstitchref08_Uses.mono : ∀ a0 a1 a2 a3 a4 k, LeO (lockstitchref08_Uses.f k a0 a1 a2 a3 a4) (lockstitchref08_Uses.f (k + 1) a0 a1 a2 a3 a4) := by
  intro a0 a1 a2 a3 a4 k; have ih0 := lockstitchref08_Uses.mono_l k
  unfold lockstitchref08_Uses.f
  repeat' first
      | (with_reducible exact ih0 _ _ _ _ _ _ _)
      | (with_reducible exact lockstitchref08_bit.mono _ _)
      | (with_reducible exact LeO.refl _)
      | (with_reducible exact LeO.none _)
      | (with_reducible refine LeO.ite ?_ ?_)
      | (with_reducible refine LeO.bind ?_ (fun _ => ?_))
      | exact ih0 _ _ _ _ _ _ _
      | exact lockstitchref08_bit.mono _ _
      | exact LeO.none _
      | refine LeO.ite ?_ ?_
      | refine LeO.bind ?_ (fun _ => ?_)
end Go.Proofs.YtkmkfiidlbhcgaaDoor.V

namespace Go.Proofs.YtkmkfiidlbhcgaaDoor.V
open Go.RowKit Go.Proofs.YtkmkfiidlbhcgaaDoorW.PrintWords Go.Proofs.YtkmkfiidlbhcgaaDoorW.PrintLast Go.Proofs.YtkmkfiidlbhcgaaDoorW.PrintMore
attribute [local go_sem] max2_int min2_int max_two min_two max_three min_three max_four min_four
set_option linter.unusedVariables false
set_option linter.unusedSimpArgs false
open Go.Proofs.YtkmkfiidlbhcgaaDoor.F
noncomputable def lockstitchref08_Sets.f (k : Nat) (a0_0 : Int) (a0_1 : Int) (a0_2 : Int) (a0_3 : Int) (a0_4 : Int) : Option (Int) := if a0_0 = 5 then ((lockstitchref08_bit.f k a0_1).bind fun t148 => (some t148)) else (if a0_0 = 6 then ((lockstitchref08_bit.f k a0_1).bind fun t149 => (some t149)) else (if a0_0 = 7 then ((lockstitchref08_bit.f k a0_1).bind fun t150 => (some t150)) else (if a0_0 = 10 then ((lockstitchref08_bit.f k a0_1).bind fun t151 => (some t151)) else (if a0_0 = 12 then ((lockstitchref08_bit.f k a0_1).bind fun t152 => (some t152)) else (some 0)))))
theorem lockstitchref08_Sets.mono : ∀ a0 a1 a2 a3 a4 k, LeO (lockstitchref08_Sets.f k a0 a1 a2 a3 a4) (lockstitchref08_Sets.f (k + 1) a0 a1 a2 a3 a4) := by
  intro a0 a1 a2 a3 a4 k
  unfold lockstitchref08_Sets.f
  repeat' first
      | (with_reducible exact lockstitchref08_bit.mono _ _)
      | (with_reducible exact LeO.refl _)
      | (with_reducible exact LeO.none _)
      | (with_reducible refine LeO.ite ?_ ?_)
      | (with_reducible refine LeO.bind ?_ (fun _ => ?_))
      | exact lockstitchref08_bit.mono _ _
      | exact LeO.none _
      | refine LeO.ite ?_ ?_
      | refine LeO.bind ?_ (fun _ => ?_)
mutual
noncomputable def lockstitchref08_In.l0 : Nat → List Int → Int → List ByteArray → ByteArray → ByteArray → List (S36) → Option (List Int)
  | 0, _, _, _, _, _, _ => none
  | k + 1, x3, x4, x154000, x154001, x154002, x154003 => if x4 ≤ (wrap64 (8 * (x154003.length : Int))) then (lockstitchref08_In.l1 k x3 x4 (wrap64 ((x154003.length : Int) - 1)) x154000 x154001 x154002 x154003) else (some x3)
noncomputable def lockstitchref08_In.l1 : Nat → List Int → Int → Int → List ByteArray → ByteArray → ByteArray → List (S36) → Option (List Int)
  | 0, _, _, _, _, _, _, _ => none
  | k + 1, x3, x4, x5, x154000, x154001, x154002, x154003 => if x5 ≥ 0 then ((lockstitchref07_Next.f k x154000 x154001 x154002 x154003 x5).bind fun t157 => (lockstitchref08_In.l2 k x3 x4 x5 0 t157 0 x154000 x154001 x154002 x154003)) else (lockstitchref08_In.l0 k x3 (wrap64 (x4 + 1)) x154000 x154001 x154002 x154003)
noncomputable def lockstitchref08_In.l2 : Nat → List Int → Int → Int → Int → List Int → Int → List ByteArray → ByteArray → ByteArray → List (S36) → Option (List Int)
  | 0, _, _, _, _, _, _, _, _, _, _ => none
  | k + 1, x3, x4, x5, x6, x7, x8, x154000, x154001, x154002, x154003 => if x8 < (x7.length : Int) then (if 0 ≤ x8 then (if 0 ≤ (rd x7 x8) then (if (rd x7 x8) < (x3.length : Int) then (lockstitchref08_In.l2 k x3 x4 x5 (Go.bits .or .u8 x6 (rd x3 (rd x7 x8))) x7 (wrap64 (x8 + 1)) x154000 x154001 x154002 x154003) else (none)) else (none)) else (none)) else (if 0 ≤ x5 then (if x5 < (x154003.length : Int) then ((lockstitchref08_Sets.f k ((rd_T36 x154003 x5).f0) ((rd_T36 x154003 x5).f1) ((rd_T36 x154003 x5).f2) ((rd_T36 x154003 x5).f3) ((rd_T36 x154003 x5).f4)).bind fun t163 => ((lockstitchref08_Uses.f k ((rd_T36 x154003 x5).f0) ((rd_T36 x154003 x5).f1) ((rd_T36 x154003 x5).f2) ((rd_T36 x154003 x5).f3) ((rd_T36 x154003 x5).f4)).bind fun t165 => (if x5 < (x3.length : Int) then (lockstitchref08_In.l1 k (x3.set (x5 : Int).toNat (Go.bits .or .u8 (Go.bits .andNot .u8 x6 t163) t165)) x4 (wrap64 (x5 - 1)) x154000 x154001 x154002 x154003) else (none)))) else (none)) else (none))
end
noncomputable def lockstitchref08_In.f (k : Nat) (l0_0 : List ByteArray) (a0_1 : ByteArray) (a0_2 : ByteArray) (l0_3 : List (S36)) : Option (List Int) := if 0 ≤ (wrap64 ((l0_3.length : Int) + 1)) then (if (wrap64 ((l0_3.length : Int) + 1) : Int).toNat ≤ 281474976710656 then (lockstitchref08_In.l0 k (List.replicate (wrap64 ((l0_3.length : Int) + 1) : Int).toNat 0) 0 l0_0 a0_1 a0_2 l0_3) else (none)) else (none)
noncomputable def lockstitchref08_In.T15 : Bool × List (List Nat × List Nat) := (true, [([], []), ([], []), ([], []), ([], []), ([3], [3]), ([], []), ([4, 5], [4, 5]), ([6], [6]), ([7], [7]), ([2, 8], [2, 8]), ([], []), ([10], [10]), ([], []), ([11, 12], [11, 12]), ([13], [13]), ([14, 8], [14]), ([9, 15], [9, 15]), ([0, 1, 0, 1, 2, 3, 4, 5, 6, 7, 8, 9, 10, 11, 12, 13, 14, 15, 16], [0, 1]), ([17, 16, 15, 0, 1, 2, 3, 4, 5, 6, 7, 8, 9, 10, 11, 12, 13, 14, 15, 16], [16, 17])])
noncomputable def lockstitchref08_In.B15 : List Nat := [0, 0, 0, 0, 8, 0, 56, 120, 248, 508, 0, 1024, 0, 7168, 15360, 32248, 65532, 131071, 262143]
end Go.Proofs.YtkmkfiidlbhcgaaDoor.V

namespace Go.Proofs.YtkmkfiidlbhcgaaDoor.V
open Go.RowKit Go.Proofs.YtkmkfiidlbhcgaaDoorW.PrintWords Go.Proofs.YtkmkfiidlbhcgaaDoorW.PrintLast Go.Proofs.YtkmkfiidlbhcgaaDoorW.PrintMore
attribute [local go_sem] max2_int min2_int max_two min_two max_three min_three max_four min_four
set_option linter.unusedVariables false
set_option linter.unusedSimpArgs false
open Go.Proofs.YtkmkfiidlbhcgaaDoor.F
end Go.Proofs.YtkmkfiidlbhcgaaDoor.V

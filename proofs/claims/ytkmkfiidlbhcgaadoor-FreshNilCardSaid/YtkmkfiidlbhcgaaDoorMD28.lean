/- Texts of this claim, pruned to what it needs and laid together by prune.py. -/
import Derived.Test.YtkmkfiidlbhcgaaDoorProg
import Derived.Below
import Derived.Deep.Draws
import Derived.Deep.AppendLies
import Derived.Maps.AppendAt
import Derived.OwnWalk
import Derived.Laws.BytesArg
import Derived.Laws.MakeOwn
import Derived.Laws.OwnMore
import Derived.Deep.OwnRows
import Derived.Tactics
import Derived.Lib.ConvBytes
import Derived.Laws.Slices
import Derived.WalkKit
import Derived.KernelRfl
import Derived.RowKit3
import Derived.Deep.LoopGhost
import Derived.Deep.QuietTactic
import Derived.BigQuiet
import Derived.WideLaws
import Derived.Deep.DeepCutAuto
import Derived.Deep.CutBlock
import Derived.Deep.RegionHeld3
import Derived.Laws.Rows
import Derived.Lib.AppendStr
import Derived.ArgAppend
import Derived.Laws.IdiomCopy
import Derived.OrdersHeld
import Derived.Laws.BitsLemmas
import Derived.RowKit
import Derived.Test.YtkmkfiidlbhcgaaDoorMD24
import Derived.Test.YtkmkfiidlbhcgaaDoorMD1
import Derived.Test.YtkmkfiidlbhcgaaDoorMD3
import Derived.Test.YtkmkfiidlbhcgaaDoorMD4
import Derived.Test.YtkmkfiidlbhcgaaDoorMD5
import Derived.Test.YtkmkfiidlbhcgaaDoorMD6
import Derived.Test.YtkmkfiidlbhcgaaDoorMD7
import Derived.Test.YtkmkfiidlbhcgaaDoorMD8
import Derived.Test.YtkmkfiidlbhcgaaDoorMD9
import Derived.Test.YtkmkfiidlbhcgaaDoorMD10
import Derived.Test.YtkmkfiidlbhcgaaDoorMD11
import Derived.Test.YtkmkfiidlbhcgaaDoorMD12
import Derived.Test.YtkmkfiidlbhcgaaDoorMD13
import Derived.Test.YtkmkfiidlbhcgaaDoorMD14
import Derived.Test.YtkmkfiidlbhcgaaDoorMD15
import Derived.Test.YtkmkfiidlbhcgaaDoorMD16
import Derived.Test.YtkmkfiidlbhcgaaDoorMD17
import Derived.Test.YtkmkfiidlbhcgaaDoorMD18
import Derived.Test.YtkmkfiidlbhcgaaDoorMD19
import Derived.Test.YtkmkfiidlbhcgaaDoorMD20
import Derived.Test.YtkmkfiidlbhcgaaDoorMD21
import Derived.Test.YtkmkfiidlbhcgaaDoorMD22
namespace Go.Proofs.YtkmkfiidlbhcgaaDoor.V
open Go.RowKit Go.Proofs.YtkmkfiidlbhcgaaDoorW.PrintWords Go.Proofs.YtkmkfiidlbhcgaaDoorW.PrintLast Go.Proofs.YtkmkfiidlbhcgaaDoorW.PrintMore
attribute [local go_sem] max2_int min2_int max_two min_two max_three min_three max_four min_four
set_option linter.unusedVariables false
set_option linter.unusedSimpArgs false
open Go.Proofs.YtkmkfiidlbhcgaaDoor.F
theorem info5 : (Tryd.prog.info? 5).map (fun i => (i.zero, i.size, i.bytes)) = some (some (.int .u8 0), 1, 1) := by kernel_rfl
noncomputable def rd_L2 (xs : List (List ByteArray)) (i : Int) : (List ByteArray) := xs.getD i.toNat ([] : List ByteArray)
noncomputable def rd_L5 (xs : List (List S36)) (i : Int) : (List S36) := xs.getD i.toNat ([] : List S36)
noncomputable def rd_L6 (xs : List (List Int)) (i : Int) : (List Int) := xs.getD i.toNat ([] : List Int)
end Go.Proofs.YtkmkfiidlbhcgaaDoor.V

namespace Go.Proofs.YtkmkfiidlbhcgaaDoor.V
open Go.RowKit Go.Proofs.YtkmkfiidlbhcgaaDoorW.PrintWords Go.Proofs.YtkmkfiidlbhcgaaDoorW.PrintLast Go.Proofs.YtkmkfiidlbhcgaaDoorW.PrintMore
attribute [local go_sem] max2_int min2_int max_two min_two max_three min_three max_four min_four
set_option linter.unusedVariables false
set_option linter.unusedSimpArgs false
open Go.Proofs.YtkmkfiidlbhcgaaDoor.F
noncomputable def live_bits.l0 : Nat → Int → List Int → Int → Int → Option (Int)
  | 0, _, _, _, _ => none
  | k + 1, x3, x6, x7, x8 => if x8 < x7 then (if 0 ≤ x8 then (if x8 < (x6.length : Int) then (if 0 ≤ (rd x6 x8) then (live_bits.l0 k (Go.bits .or .u8 x3 (shl .u8 1 (rd x6 x8))) x6 x7 (wrap64 (x8 + 1))) else (none)) else (none)) else (none)) else (some x3)
noncomputable def live_bits.f (k : Nat) (l0 : List Int) : Option (Int) := live_bits.l0 k 0 l0 (l0.length : Int) 0
theorem live_bits.mono_l : ∀ k, (∀ y0 y1 y2 y3, LeO (live_bits.l0 k y0 y1 y2 y3) (live_bits.l0 (k + 1) y0 y1 y2 y3))
  | 0 => fun _ _ _ _ r h => by simp [live_bits.l0] at h
  | k + 1 => by
    have ih0 := live_bits.mono_l k
    · intro y0 y1 y2 y3
      unfold live_bits.l0
      repeat' first
      | (with_reducible exact ih0 _ _ _ _)
      | (with_reducible exact LeO.refl _)
      | (with_reducible exact LeO.none _)
      | (with_reducible refine LeO.ite ?_ ?_)
      | (with_reducible refine LeO.bind ?_ (fun _ => ?_))
      | exact ih0 _ _ _ _
      | exact LeO.none _
      | refine LeO.ite ?_ ?_
      | refine LeO.bind ?_ (fun _ => ?_)
theorem live_bits.mono : ∀ a0 k, LeO (live_bits.f k a0) (live_bits.f (k + 1) a0) := by
  intro a0 k; have ih0 := live_bits.mono_l k
  unfold live_bits.f
  repeat' first
      | (with_reducible exact ih0 _ _ _ _)
      | (with_reducible exact LeO.refl _)
      | (with_reducible exact LeO.none _)
      | (with_reducible refine LeO.ite ?_ ?_)
      | (with_reducible refine LeO.bind ?_ (fun _ => ?_))
      | exact ih0 _ _ _ _
      | exact LeO.none _
      | refine LeO.ite ?_ ?_
      | refine LeO.bind ?_ (fun _ => ?_)
noncomputable def live_Uses.j0 : Nat → Int → Bool → Int → Int → Int → Int → Int → Option (Int)
  | 0, _, _, _, _, _, _, _ => none
  | k + 1, x4, x5, x103000, x103001, x103002, x103003, x103004 => if x5 = true then ((live_bits.f k (([x103002] : List Int))).bind fun t106 => (some t106)) else (if x4 = 9 then ((live_bits.f k (([x103001] : List Int))).bind fun t110 => (some t110)) else (if x4 = 11 then ((live_bits.f k (([x103001, x103002] : List Int))).bind fun t114 => (some t114)) else (if x4 = 15 then ((live_bits.f k (([x103002, x103003] : List Int))).bind fun t118 => (some t118)) else (some 0))))
noncomputable def live_Uses.f (k : Nat) (a0_0 : Int) (a0_1 : Int) (a0_2 : Int) (a0_3 : Int) (a0_4 : Int) : Option (Int) := if a0_0 = 7 then (live_Uses.j0 k a0_0 (a0_0 == 7) a0_0 a0_1 a0_2 a0_3 a0_4) else (if a0_0 = 8 then (live_Uses.j0 k a0_0 (a0_0 == 8) a0_0 a0_1 a0_2 a0_3 a0_4) else (if a0_0 = 10 then (live_Uses.j0 k a0_0 (a0_0 == 10) a0_0 a0_1 a0_2 a0_3 a0_4) else (live_Uses.j0 k a0_0 (a0_0 == 13) a0_0 a0_1 a0_2 a0_3 a0_4)))
noncomputable def live_Sets.f (k : Nat) (a0_0 : Int) (a0_1 : Int) (a0_2 : Int) (a0_3 : Int) (a0_4 : Int) : Option (Int) := if a0_0 = 5 then ((live_bits.f k (([a0_1] : List Int))).bind fun t123 => (some t123)) else (if a0_0 = 6 then ((live_bits.f k (([a0_1] : List Int))).bind fun t127 => (some t127)) else (if a0_0 = 7 then ((live_bits.f k (([a0_1] : List Int))).bind fun t131 => (some t131)) else (if a0_0 = 10 then ((live_bits.f k (([a0_1] : List Int))).bind fun t135 => (some t135)) else (if a0_0 = 12 then ((live_bits.f k (([a0_1] : List Int))).bind fun t139 => (some t139)) else (some 0)))))
noncomputable def lockstitchref08_bit.l0 : Nat → Int → Int → Int → Option (Int)
  | 0, _, _, _ => none
  | k + 1, x0, x3, x4 => if x4 < x0 then (lockstitchref08_bit.l0 k x0 ((x3 * 2) % 256) ((x4 + 1) % 256)) else (some x3)
noncomputable def lockstitchref08_bit.f (k : Nat) (a0 : Int) : Option (Int) := if a0 > 7 then (some 0) else (lockstitchref08_bit.l0 k a0 1 0)
theorem lockstitchref08_bit.mono_l : ∀ k, (∀ y0 y1 y2, LeO (lockstitchref08_bit.l0 k y0 y1 y2) (lockstitchref08_bit.l0 (k + 1) y0 y1 y2))
  | 0 => fun _ _ _ r h => by simp [lockstitchref08_bit.l0] at h
  | k + 1 => by
    have ih0 := lockstitchref08_bit.mono_l k
    · intro y0 y1 y2
      unfold lockstitchref08_bit.l0
      repeat' first
      | (with_reducible exact ih0 _ _ _)
      | (with_reducible exact LeO.refl _)
      | (with_reducible exact LeO.none _)
      | (with_reducible refine LeO.ite ?_ ?_)
      | (with_reducible refine LeO.bind ?_ (fun _ => ?_))
      | exact ih0 _ _ _
      | exact LeO.none _
      | refine LeO.ite ?_ ?_
      | refine LeO.bind ?_ (fun _ => ?_)
theorem lockstitchref08_bit.mono : ∀ a0 k, LeO (lockstitchref08_bit.f k a0) (lockstitchref08_bit.f (k + 1) a0) := by
  intro a0 k; have ih0 := lockstitchref08_bit.mono_l k
  unfold lockstitchref08_bit.f
  repeat' first
      | (with_reducible exact ih0 _ _ _)
      | (with_reducible exact LeO.refl _)
      | (with_reducible exact LeO.none _)
      | (with_reducible refine LeO.ite ?_ ?_)
      | (with_reducible refine LeO.bind ?_ (fun _ => ?_))
      | exact ih0 _ _ _
      | exact LeO.none _
      | refine LeO.ite ?_ ?_
      | refine LeO.bind ?_ (fun _ => ?_)
set_option maxHeartbeats 8000000 in
set_option maxRecDepth 100000 in
theorem lockstitchref08_bit.calls (k : Nat) (a0 : Int) (r : Int) (w : World) (h : lockstitchref08_bit.f k a0 = some r) :
    Calls Tryd.prog 47 #[.int .u8 a0] w fun e w' => e = .returned (.int .u8 r) ∧ Drawn0 w w' := by
  have H : (if a0 > 7 then (some 0) else (lockstitchref08_bit.l0 k a0 1 0)) = some r := h; clear h; by_cases c2 : a0 > 7
  · rw [if_pos c2] at H; have c2b0 : decide (7 < a0) = true := decide_eq_true c2; clear c2; obtain rfl := Option.some.inj H
    go_enter Tryd.func47, Tryd.ntmps47
    go_wp2; go_ret; exact ⟨hB73, by repeat (first | exact Drawn0.refl _ | apply Drawn0.step)⟩
  rw [if_neg c2] at H; have c2b0 : decide (7 < a0) = false := decide_eq_false c2; clear c2; have H' := Aside0.mk H; clear H
  go_enter Tryd.func47, Tryd.ntmps47
  go_wp2
  go_loopg [3, 4] k (fun kq v3 v4 w' => ∃ (x3_1 : Int) (x4_1 : Int), v3 = .int .u8 x3_1 ∧ v4 = .int .u8 x4_1 ∧ Aside0 (lockstitchref08_bit.l0 kq a0 x3_1 x4_1 = some r) ∧ Aside0 (kq ≤ k) ∧ Drawn0 w w')
  case atStart => exact ⟨(1), (0), hB73, hB73, H', ⟨Nat.le_refl _⟩, by repeat (first | exact Drawn0.refl _ | apply Drawn0.step)⟩
  case round =>
    clear H'; (try clear c2); (try clear c2b0); (try clear p2); obtain ⟨x3_1, x4_1, rfl, rfl, HA, HK1, ⟨m1, rfl⟩⟩ := hrel
    cases gk with
    | zero => exact absurd HA.out (by simp [lockstitchref08_bit.l0])
    | succ k1 =>
      have H := HA.out; clear HA; simp only [lockstitchref08_bit.l0] at H; by_cases c3 : x4_1 < a0
      rotate_left
      · rw [if_neg c3] at H; have c3b0 : decide (x4_1 < a0) = false := decide_eq_false c3; clear c3; obtain rfl := Option.some.inj H; go_wp2; go_ret; exact ⟨hB73, by repeat (first | exact Drawn0.refl _ | apply Drawn0.step)⟩
      rw [if_pos c3] at H; have c3b0 : decide (x4_1 < a0) = true := decide_eq_true c3; clear c3; have H' := Aside0.mk H; clear H; go_wp2; go_roundg k1
      case measure => have := HK1.out; omega
      case rel => exact ⟨((x3_1 * 2) % 256), ((x4_1 + 1) % 256), hB73, hB73, H', ⟨by have := HK1.out; omega⟩, by repeat (first | exact Drawn0.refl _ | apply Drawn0.step)⟩
noncomputable def lockstitchref08_Uses.j0 : Nat → Int → Bool → Int → Int → Int → Int → Int → Option (Int)
  | 0, _, _, _, _, _, _, _ => none
  | k + 1, x4, x5, x141000, x141001, x141002, x141003, x141004 => if x5 = true then ((lockstitchref08_bit.f k x141002).bind fun t141 => (some t141)) else (if x4 = 9 then ((lockstitchref08_bit.f k x141001).bind fun t142 => (some t142)) else (if x4 = 11 then ((lockstitchref08_bit.f k x141001).bind fun t143 => ((lockstitchref08_bit.f k x141002).bind fun t144 => (some (Go.bits .or .u8 t143 t144)))) else (if x4 = 15 then ((lockstitchref08_bit.f k x141002).bind fun t145 => ((lockstitchref08_bit.f k x141003).bind fun t146 => (some (Go.bits .or .u8 t145 t146)))) else (some 0))))
noncomputable def lockstitchref08_Uses.f (k : Nat) (a0_0 : Int) (a0_1 : Int) (a0_2 : Int) (a0_3 : Int) (a0_4 : Int) : Option (Int) := if a0_0 = 7 then (lockstitchref08_Uses.j0 k a0_0 (a0_0 == 7) a0_0 a0_1 a0_2 a0_3 a0_4) else (if a0_0 = 8 then (lockstitchref08_Uses.j0 k a0_0 (a0_0 == 8) a0_0 a0_1 a0_2 a0_3 a0_4) else (if a0_0 = 10 then (lockstitchref08_Uses.j0 k a0_0 (a0_0 == 10) a0_0 a0_1 a0_2 a0_3 a0_4) else (lockstitchref08_Uses.j0 k a0_0 (a0_0 == 13) a0_0 a0_1 a0_2 a0_3 a0_4)))
theorem lockstitchref08_Uses.mono_l : ∀ k, (∀ y0 y1 y2 y3 y4 y5 y6, LeO (lockstitchref08_Uses.j0 k y0 y1 y2 y3 y4 y5 y6) (lockstitchref08_Uses.j0 (k + 1) y0 y1 y2 y3 y4 y5 y6))
  | 0 => fun _ _ _ _ _ _ _ r h => by simp [lockstitchref08_Uses.j0] at h
  | k + 1 => by
    have ih0 := lockstitchref08_Uses.mono_l k
    · intro y0 y1 y2 y3 y4 y5 y6
      unfold lockstitchref08_Uses.j0
      repeat' first
      | (with_reducible exact ih0 _ _ _ _ _ _ _)
      | (with_reducible exact lockstitchref08_bit.mono _ _)
      | (with_reducible exact LeO.refl _)
      | (with_reducible exact LeO.none _)
      | (with_reducible refine LeO.ite ?_ ?_)
      | (with_reducible refine LeO.bind ?_ (fun _ => ?_))
      | exact ih0 _ _ _ _ _ _ _
      | exact lockstitchref08_bit.mono _ _
      | exact LeO.none _
      | refine LeO.ite ?_ ?_
      | refine LeO.bind ?_ (fun _ => ?_)
theorem lockstitchref08_Uses.mono : ∀ a0 a1 a2 a3 a4 k, LeO (lockstitchref08_Uses.f k a0 a1 a2 a3 a4) (lockstitchref08_Uses.f (k + 1) a0 a1 a2 a3 a4) := by
  intro a0 a1 a2 a3 a4 k; have ih0 := lockstitchref08_Uses.mono_l k
  unfold lockstitchref08_Uses.f
  repeat' first
      | (with_reducible exact ih0 _ _ _ _ _ _ _)
      | (with_reducible exact lockstitchref08_bit.mono _ _)
      | (with_reducible exact LeO.refl _)
      | (with_reducible exact LeO.none _)
      | (with_reducible refine LeO.ite ?_ ?_)
      | (with_reducible refine LeO.bind ?_ (fun _ => ?_))
      | exact ih0 _ _ _ _ _ _ _
      | exact lockstitchref08_bit.mono _ _
      | exact LeO.none _
      | refine LeO.ite ?_ ?_
      | refine LeO.bind ?_ (fun _ => ?_)
set_option maxHeartbeats 8000000 in
set_option maxRecDepth 100000 in
theorem lockstitchref08_Uses.calls (k : Nat) (a0_0 : Int) (a0_1 : Int) (a0_2 : Int) (a0_3 : Int) (a0_4 : Int) (r : Int) (w : World) (h : lockstitchref08_Uses.f k a0_0 a0_1 a0_2 a0_3 a0_4 = some r) :
    Calls Tryd.prog 31 #[.agg #[.int .u8 a0_0, .int .u8 a0_1, .int .u8 a0_2, .int .u8 a0_3, .int .i64 a0_4]] w fun e w' => e = .returned (.int .u8 r) ∧ Below w.heap.size w w' := by
  have hu36 := Tryd.underlying36; have HB := Aside0.mk (Below.refl w.heap.size w); have H : (if a0_0 = 7 then (lockstitchref08_Uses.j0 k a0_0 (a0_0 == 7) a0_0 a0_1 a0_2 a0_3 a0_4) else (if a0_0 = 8 then (lockstitchref08_Uses.j0 k a0_0 (a0_0 == 8) a0_0 a0_1 a0_2 a0_3 a0_4) else (if a0_0 = 10 then (lockstitchref08_Uses.j0 k a0_0 (a0_0 == 10) a0_0 a0_1 a0_2 a0_3 a0_4) else (lockstitchref08_Uses.j0 k a0_0 (a0_0 == 13) a0_0 a0_1 a0_2 a0_3 a0_4)))) = some r := h; clear h; have HC2 := Aside0.mk H; clear H
  go_enter Tryd.func31, Tryd.ntmps31
  go_upto_if 5 with (first | ((with_reducible refine gate_dst (N := 1) rfl ?_); refine box_event ?hg (N := 1) ?hd (cs := #[.int .u8 a0_0, .int .u8 a0_1, .int .u8 a0_2, .int .u8 a0_3, .int .i64 a0_4]) (t := 36) ?hr ?_; (case hd => rfl); (case hg => rfl); (case hr => first | (go_simp; done) | (go_simp; rfl)); intro gb140 hg w3 hbox hb; have n0_ := Aside0.mk (below_step hB122 hb); have n1_ := Aside0.mk (hbox); have n2_ := Aside0.mk ((by rw [hg]; exact (below_size hB122) : w.heap.size ≤ gb140)); have n3_ := Aside0.mk ((by rw [hg]; exact (below_size hB122) : w.heap.size ≤ gb140)); clear HB; have HB := n0_; have BK140 := n1_; have GW140 := n2_; have GE140 := n3_; clear n0_ n1_ n2_ n3_; clear hb hbox hg; have hcz4_0 : w3.cell? ⟨gb140, 0, none⟩ = some (.int .u8 a0_0) := (blk_cell BK140.out 0).trans rfl; have hcz4_1 : w3.cell? ⟨gb140, 1, none⟩ = some (.int .u8 a0_1) := (blk_cell BK140.out 1).trans rfl; have hcz4_2 : w3.cell? ⟨gb140, 2, none⟩ = some (.int .u8 a0_2) := (blk_cell BK140.out 2).trans rfl; have hcz4_3 : w3.cell? ⟨gb140, 3, none⟩ = some (.int .u8 a0_3) := (blk_cell BK140.out 3).trans rfl; have hcz4_4 : w3.cell? ⟨gb140, 4, none⟩ = some (.int .i64 a0_4) := (blk_cell BK140.out 4).trans rfl; have hfz4_0 := blk_frozen BK140.out 0; have hfz4_1 := blk_frozen BK140.out 1; have hfz4_2 := blk_frozen BK140.out 2; have hfz4_3 := blk_frozen BK140.out 3; have hfz4_4 := blk_frozen BK140.out 4))
  repeat (go_quiet (first | ((with_reducible refine gate_dst (N := 1) rfl ?_); refine box_event ?hg (N := 1) ?hd (cs := #[.int .u8 a0_0, .int .u8 a0_1, .int .u8 a0_2, .int .u8 a0_3, .int .i64 a0_4]) (t := 36) ?hr ?_; (case hd => rfl); (case hg => rfl); (case hr => first | (go_simp; done) | (go_simp; rfl)); intro gb140 hg w3 hbox hb; have n0_ := Aside0.mk (below_step hB122 hb); have n1_ := Aside0.mk (hbox); have n2_ := Aside0.mk ((by rw [hg]; exact (below_size hB122) : w.heap.size ≤ gb140)); have n3_ := Aside0.mk ((by rw [hg]; exact (below_size hB122) : w.heap.size ≤ gb140)); clear HB; have HB := n0_; have BK140 := n1_; have GW140 := n2_; have GE140 := n3_; clear n0_ n1_ n2_ n3_; clear hb hbox hg; have hcz4_0 : w3.cell? ⟨gb140, 0, none⟩ = some (.int .u8 a0_0) := (blk_cell BK140.out 0).trans rfl; have hcz4_1 : w3.cell? ⟨gb140, 1, none⟩ = some (.int .u8 a0_1) := (blk_cell BK140.out 1).trans rfl; have hcz4_2 : w3.cell? ⟨gb140, 2, none⟩ = some (.int .u8 a0_2) := (blk_cell BK140.out 2).trans rfl; have hcz4_3 : w3.cell? ⟨gb140, 3, none⟩ = some (.int .u8 a0_3) := (blk_cell BK140.out 3).trans rfl; have hcz4_4 : w3.cell? ⟨gb140, 4, none⟩ = some (.int .i64 a0_4) := (blk_cell BK140.out 4).trans rfl; have hfz4_0 := blk_frozen BK140.out 0; have hfz4_1 := blk_frozen BK140.out 1; have hfz4_2 := blk_frozen BK140.out 2; have hfz4_3 := blk_frozen BK140.out 3; have hfz4_4 := blk_frozen BK140.out 4)); go_upto_if 5 with (first | ((with_reducible refine gate_dst (N := 1) rfl ?_); refine box_event ?hg (N := 1) ?hd (cs := #[.int .u8 a0_0, .int .u8 a0_1, .int .u8 a0_2, .int .u8 a0_3, .int .i64 a0_4]) (t := 36) ?hr ?_; (case hd => rfl); (case hg => rfl); (case hr => first | (go_simp; done) | (go_simp; rfl)); intro gb140 hg w3 hbox hb; have n0_ := Aside0.mk (below_step hB122 hb); have n1_ := Aside0.mk (hbox); have n2_ := Aside0.mk ((by rw [hg]; exact (below_size hB122) : w.heap.size ≤ gb140)); have n3_ := Aside0.mk ((by rw [hg]; exact (below_size hB122) : w.heap.size ≤ gb140)); clear HB; have HB := n0_; have BK140 := n1_; have GW140 := n2_; have GE140 := n3_; clear n0_ n1_ n2_ n3_; clear hb hbox hg; have hcz4_0 : w3.cell? ⟨gb140, 0, none⟩ = some (.int .u8 a0_0) := (blk_cell BK140.out 0).trans rfl; have hcz4_1 : w3.cell? ⟨gb140, 1, none⟩ = some (.int .u8 a0_1) := (blk_cell BK140.out 1).trans rfl; have hcz4_2 : w3.cell? ⟨gb140, 2, none⟩ = some (.int .u8 a0_2) := (blk_cell BK140.out 2).trans rfl; have hcz4_3 : w3.cell? ⟨gb140, 3, none⟩ = some (.int .u8 a0_3) := (blk_cell BK140.out 3).trans rfl; have hcz4_4 : w3.cell? ⟨gb140, 4, none⟩ = some (.int .i64 a0_4) := (blk_cell BK140.out 4).trans rfl; have hfz4_0 := blk_frozen BK140.out 0; have hfz4_1 := blk_frozen BK140.out 1; have hfz4_2 := blk_frozen BK140.out 2; have hfz4_3 := blk_frozen BK140.out 3; have hfz4_4 := blk_frozen BK140.out 4)))
  (try simp only [Act.put, List.setIfInBounds_toArray, List.set_cons_zero, List.set_cons_succ])
  go_cut [5] (fun v5 wc => ∃ (kq : Nat) (x5_1 : Bool), v5 = .bool x5_1 ∧ Aside0 (lockstitchref08_Uses.j0 kq a0_0 x5_1 a0_0 a0_1 a0_2 a0_3 a0_4 = some r) ∧ Aside0 (kq ≤ k) ∧ Aside0 (wc.heap[gb140]? = some (.cells #[.int .u8 a0_0, .int .u8 a0_1, .int .u8 a0_2, .int .u8 a0_3, .int .i64 a0_4] 36 (0, 0))) ∧ Aside0 (Below w.heap.size w wc))
  case first =>
    have H := HC2.out; clear HC2; by_cases c5 : a0_0 = 7
    · rw [if_pos c5] at H; have c5b0 : (a0_0 == 7) = true := beq_iff_eq.mpr c5; have c5b1 : (a0_0 != 7) = false := bne_eq_false_iff_eq.mpr c5; clear c5
      (first | rw [c5b0] | (simp only [i64_w, i32_w]; rw [c5b0]) | skip)
      have H' := Aside0.mk H; clear H; go_wp2
      repeat (go_quiet (fail); try go_wp2)
      go_meet
      case rel => exact ⟨_, ((a0_0 == 7)), hB73, H', ⟨by first | omega | exact Nat.le_refl _⟩, ⟨hB52⟩, ⟨hB107⟩⟩
    rw [if_neg c5] at H; have c5b0 : (a0_0 == 7) = false := beq_eq_false_iff_ne.mpr c5; have c5b1 : (a0_0 != 7) = true := bne_iff_ne.mpr c5
    (first | rw [c5b0] | (simp only [i64_w, i32_w]; rw [c5b0]) | skip)
    by_cases c6 : a0_0 = 8
    · rw [if_pos c6] at H; have c6b0 : (a0_0 == 8) = true := beq_iff_eq.mpr c6; have c6b1 : (a0_0 != 8) = false := bne_eq_false_iff_eq.mpr c6; clear c6; have H' := Aside0.mk H; clear H; go_wp2
      repeat (go_quiet (fail); try go_wp2)
      go_meet
      case rel => exact ⟨_, ((a0_0 == 8)), hB73, H', ⟨by first | omega | exact Nat.le_refl _⟩, ⟨hB52⟩, ⟨hB107⟩⟩
    rw [if_neg c6] at H; have c6b0 : (a0_0 == 8) = false := beq_eq_false_iff_ne.mpr c6; have c6b1 : (a0_0 != 8) = true := bne_iff_ne.mpr c6; by_cases c7 : a0_0 = 10
    rotate_left
    · rw [if_neg c7] at H; have c7b0 : (a0_0 == 10) = false := beq_eq_false_iff_ne.mpr c7; have c7b1 : (a0_0 != 10) = true := bne_iff_ne.mpr c7; have H' := Aside0.mk H; clear H; go_wp2
      repeat (go_quiet (fail); try go_wp2)
      go_meet
      case rel => exact ⟨_, ((a0_0 == 13)), hB73, H', ⟨by first | omega | exact Nat.le_refl _⟩, ⟨hB52⟩, ⟨hB107⟩⟩
    rw [if_pos c7] at H; have c7b0 : (a0_0 == 10) = true := beq_iff_eq.mpr c7; have c7b1 : (a0_0 != 10) = false := bne_eq_false_iff_eq.mpr c7; clear c7; have H' := Aside0.mk H; clear H; go_wp2
    repeat (go_quiet (fail); try go_wp2)
    go_meet
    case rel => exact ⟨_, ((a0_0 == 10)), hB73, H', ⟨by first | omega | exact Nat.le_refl _⟩, ⟨hB52⟩, ⟨hB107⟩⟩
  case rest =>
    clear HC2; (try clear p2); (try clear c3); (try clear c5); (try clear c5b0); (try clear c5b1); (try clear c6); (try clear c6b0); (try clear c6b1); (try clear c7); (try clear c7b0); (try clear c7b1); (try clear hcz4_0); (try clear hcz4_1); (try clear hcz4_2); (try clear hcz4_3); (try clear hcz4_4); (try clear hfz4_0); (try clear hfz4_1); (try clear hfz4_2); (try clear hfz4_3); (try clear hfz4_4); obtain ⟨kq, x5_1, rfl, HA, HJ1, BK140, HB⟩ := hcut
    cases kq with
    | zero => exact absurd HA.out (by simp [lockstitchref08_Uses.j0])
    | succ kj1 =>
      have H := HA.out; clear HA; simp only [lockstitchref08_Uses.j0] at H; by_cases c8 : x5_1 = true
      · subst c8
        have H1 : ((lockstitchref08_bit.f kj1 a0_2).bind fun t141 => (some t141)) = some r := by rw [if_pos rfl] at H; exact H
        clear H; have H := H1; clear H1; replace H := Option.bind_eq_some_iff.mp H; obtain ⟨t141, A90, H⟩ := H; replace H : (some t141) = some r := H; have A9 := Aside0.mk A90; clear A90; obtain rfl := Option.some.inj H; have hcz10_0 : wc.cell? ⟨gb140, 0, none⟩ = some (.int .u8 a0_0) := (blk_cell BK140.out 0).trans rfl; have hcz10_1 : wc.cell? ⟨gb140, 1, none⟩ = some (.int .u8 a0_1) := (blk_cell BK140.out 1).trans rfl; have hcz10_2 : wc.cell? ⟨gb140, 2, none⟩ = some (.int .u8 a0_2) := (blk_cell BK140.out 2).trans rfl; have hcz10_3 : wc.cell? ⟨gb140, 3, none⟩ = some (.int .u8 a0_3) := (blk_cell BK140.out 3).trans rfl; have hcz10_4 : wc.cell? ⟨gb140, 4, none⟩ = some (.int .i64 a0_4) := (blk_cell BK140.out 4).trans rfl; have hfz10_0 := blk_frozen BK140.out 0; have hfz10_1 := blk_frozen BK140.out 1; have hfz10_2 := blk_frozen BK140.out 2; have hfz10_3 := blk_frozen BK140.out 3; have hfz10_4 := blk_frozen BK140.out 4
        go_wp2_with (first | (go_at_call 47; (with_reducible refine (lockstitchref08_bit.calls kj1 a0_2 t141 _ A9.out).mono ?_); rintro e w' ⟨rfl, ⟨nd, rfl⟩⟩; (try first | exact ⟨rfl, _, World.drewN_drewN _ _ _⟩ | exact ⟨rfl, _, Eq.trans (World.drewN_drewN _ _ _) (congrArg (World.drewN _) (Nat.add_assoc _ _ _))⟩)))
        repeat (go_quiet (first | (go_at_call 47; (with_reducible refine (lockstitchref08_bit.calls kj1 a0_2 t141 _ A9.out).mono ?_); rintro e w' ⟨rfl, ⟨nd, rfl⟩⟩; (try first | exact ⟨rfl, _, World.drewN_drewN _ _ _⟩ | exact ⟨rfl, _, Eq.trans (World.drewN_drewN _ _ _) (congrArg (World.drewN _) (Nat.add_assoc _ _ _))⟩))); try go_wp2_with (first | (go_at_call 47; (with_reducible refine (lockstitchref08_bit.calls kj1 a0_2 t141 _ A9.out).mono ?_); rintro e w' ⟨rfl, ⟨nd, rfl⟩⟩; (try first | exact ⟨rfl, _, World.drewN_drewN _ _ _⟩ | exact ⟨rfl, _, Eq.trans (World.drewN_drewN _ _ _) (congrArg (World.drewN _) (Nat.add_assoc _ _ _))⟩))))
        go_ret; exact ⟨by first | rfl | (simp [errW_none, errW_some] <;> rfl) | (simp [*, errW_none, errW_some] <;> rfl), hB107⟩
      replace c8 := Bool.eq_false_iff.mpr c8; subst c8
      have H1 : (if a0_0 = 9 then ((lockstitchref08_bit.f kj1 a0_1).bind fun t142 => (some t142)) else (if a0_0 = 11 then ((lockstitchref08_bit.f kj1 a0_1).bind fun t143 => ((lockstitchref08_bit.f kj1 a0_2).bind fun t144 => (some (Go.bits .or .u8 t143 t144)))) else (if a0_0 = 15 then ((lockstitchref08_bit.f kj1 a0_2).bind fun t145 => ((lockstitchref08_bit.f kj1 a0_3).bind fun t146 => (some (Go.bits .or .u8 t145 t146)))) else (some 0)))) = some r := by rw [if_neg (show ¬ (false = true) by decide)] at H; exact H
      clear H; have H := H1; clear H1; by_cases c11 : a0_0 = 9
      · rw [if_pos c11] at H; have c11b0 : (a0_0 == 9) = true := beq_iff_eq.mpr c11; have c11b1 : (a0_0 != 9) = false := bne_eq_false_iff_eq.mpr c11; clear c11; replace H := Option.bind_eq_some_iff.mp H; obtain ⟨t142, A120, H⟩ := H; replace H : (some t142) = some r := H; have A12 := Aside0.mk A120; clear A120; obtain rfl := Option.some.inj H; have hcz13_0 : wc.cell? ⟨gb140, 0, none⟩ = some (.int .u8 a0_0) := (blk_cell BK140.out 0).trans rfl; have hcz13_1 : wc.cell? ⟨gb140, 1, none⟩ = some (.int .u8 a0_1) := (blk_cell BK140.out 1).trans rfl; have hcz13_2 : wc.cell? ⟨gb140, 2, none⟩ = some (.int .u8 a0_2) := (blk_cell BK140.out 2).trans rfl; have hcz13_3 : wc.cell? ⟨gb140, 3, none⟩ = some (.int .u8 a0_3) := (blk_cell BK140.out 3).trans rfl; have hcz13_4 : wc.cell? ⟨gb140, 4, none⟩ = some (.int .i64 a0_4) := (blk_cell BK140.out 4).trans rfl; have hfz13_0 := blk_frozen BK140.out 0; have hfz13_1 := blk_frozen BK140.out 1; have hfz13_2 := blk_frozen BK140.out 2; have hfz13_3 := blk_frozen BK140.out 3; have hfz13_4 := blk_frozen BK140.out 4
        go_wp2_with (first | (go_at_call 47; (with_reducible refine (lockstitchref08_bit.calls kj1 a0_1 t142 _ A12.out).mono ?_); rintro e w' ⟨rfl, ⟨nd, rfl⟩⟩; (try first | exact ⟨rfl, _, World.drewN_drewN _ _ _⟩ | exact ⟨rfl, _, Eq.trans (World.drewN_drewN _ _ _) (congrArg (World.drewN _) (Nat.add_assoc _ _ _))⟩)))
        repeat (go_quiet (first | (go_at_call 47; (with_reducible refine (lockstitchref08_bit.calls kj1 a0_1 t142 _ A12.out).mono ?_); rintro e w' ⟨rfl, ⟨nd, rfl⟩⟩; (try first | exact ⟨rfl, _, World.drewN_drewN _ _ _⟩ | exact ⟨rfl, _, Eq.trans (World.drewN_drewN _ _ _) (congrArg (World.drewN _) (Nat.add_assoc _ _ _))⟩))); try go_wp2_with (first | (go_at_call 47; (with_reducible refine (lockstitchref08_bit.calls kj1 a0_1 t142 _ A12.out).mono ?_); rintro e w' ⟨rfl, ⟨nd, rfl⟩⟩; (try first | exact ⟨rfl, _, World.drewN_drewN _ _ _⟩ | exact ⟨rfl, _, Eq.trans (World.drewN_drewN _ _ _) (congrArg (World.drewN _) (Nat.add_assoc _ _ _))⟩))))
        go_ret; exact ⟨by first | rfl | (simp [errW_none, errW_some] <;> rfl) | (simp [*, errW_none, errW_some] <;> rfl), hB107⟩
      rw [if_neg c11] at H; have c11b0 : (a0_0 == 9) = false := beq_eq_false_iff_ne.mpr c11; have c11b1 : (a0_0 != 9) = true := bne_iff_ne.mpr c11; by_cases c14 : a0_0 = 11
      · rw [if_pos c14] at H; have c14b0 : (a0_0 == 11) = true := beq_iff_eq.mpr c14; have c14b1 : (a0_0 != 11) = false := bne_eq_false_iff_eq.mpr c14; clear c14; replace H := Option.bind_eq_some_iff.mp H; obtain ⟨t143, A150, H⟩ := H; replace H : ((lockstitchref08_bit.f kj1 a0_2).bind fun t144 => (some (Go.bits .or .u8 t143 t144))) = some r := H; have A15 := Aside0.mk A150; clear A150; replace H := Option.bind_eq_some_iff.mp H; obtain ⟨t144, A160, H⟩ := H; replace H : (some (Go.bits .or .u8 t143 t144)) = some r := H; have A16 := Aside0.mk A160; clear A160; obtain rfl := Option.some.inj H; have hcz17_0 : wc.cell? ⟨gb140, 0, none⟩ = some (.int .u8 a0_0) := (blk_cell BK140.out 0).trans rfl; have hcz17_1 : wc.cell? ⟨gb140, 1, none⟩ = some (.int .u8 a0_1) := (blk_cell BK140.out 1).trans rfl; have hcz17_2 : wc.cell? ⟨gb140, 2, none⟩ = some (.int .u8 a0_2) := (blk_cell BK140.out 2).trans rfl; have hcz17_3 : wc.cell? ⟨gb140, 3, none⟩ = some (.int .u8 a0_3) := (blk_cell BK140.out 3).trans rfl; have hcz17_4 : wc.cell? ⟨gb140, 4, none⟩ = some (.int .i64 a0_4) := (blk_cell BK140.out 4).trans rfl; have hfz17_0 := blk_frozen BK140.out 0; have hfz17_1 := blk_frozen BK140.out 1; have hfz17_2 := blk_frozen BK140.out 2; have hfz17_3 := blk_frozen BK140.out 3; have hfz17_4 := blk_frozen BK140.out 4
        go_wp2_with (first | (go_at_call 47; (with_reducible refine (lockstitchref08_bit.calls kj1 a0_1 t143 _ A15.out).mono ?_); rintro e w' ⟨rfl, ⟨nd, rfl⟩⟩; (try first | exact ⟨rfl, _, World.drewN_drewN _ _ _⟩ | exact ⟨rfl, _, Eq.trans (World.drewN_drewN _ _ _) (congrArg (World.drewN _) (Nat.add_assoc _ _ _))⟩)) | (go_at_call 47; (with_reducible refine (lockstitchref08_bit.calls kj1 a0_2 t144 _ A16.out).mono ?_); rintro e w' ⟨rfl, ⟨nd, rfl⟩⟩; (try first | exact ⟨rfl, _, World.drewN_drewN _ _ _⟩ | exact ⟨rfl, _, Eq.trans (World.drewN_drewN _ _ _) (congrArg (World.drewN _) (Nat.add_assoc _ _ _))⟩)))
        repeat (go_quiet (first | (go_at_call 47; (with_reducible refine (lockstitchref08_bit.calls kj1 a0_1 t143 _ A15.out).mono ?_); rintro e w' ⟨rfl, ⟨nd, rfl⟩⟩; (try first | exact ⟨rfl, _, World.drewN_drewN _ _ _⟩ | exact ⟨rfl, _, Eq.trans (World.drewN_drewN _ _ _) (congrArg (World.drewN _) (Nat.add_assoc _ _ _))⟩)) | (go_at_call 47; (with_reducible refine (lockstitchref08_bit.calls kj1 a0_2 t144 _ A16.out).mono ?_); rintro e w' ⟨rfl, ⟨nd, rfl⟩⟩; (try first | exact ⟨rfl, _, World.drewN_drewN _ _ _⟩ | exact ⟨rfl, _, Eq.trans (World.drewN_drewN _ _ _) (congrArg (World.drewN _) (Nat.add_assoc _ _ _))⟩))); try go_wp2_with (first | (go_at_call 47; (with_reducible refine (lockstitchref08_bit.calls kj1 a0_1 t143 _ A15.out).mono ?_); rintro e w' ⟨rfl, ⟨nd, rfl⟩⟩; (try first | exact ⟨rfl, _, World.drewN_drewN _ _ _⟩ | exact ⟨rfl, _, Eq.trans (World.drewN_drewN _ _ _) (congrArg (World.drewN _) (Nat.add_assoc _ _ _))⟩)) | (go_at_call 47; (with_reducible refine (lockstitchref08_bit.calls kj1 a0_2 t144 _ A16.out).mono ?_); rintro e w' ⟨rfl, ⟨nd, rfl⟩⟩; (try first | exact ⟨rfl, _, World.drewN_drewN _ _ _⟩ | exact ⟨rfl, _, Eq.trans (World.drewN_drewN _ _ _) (congrArg (World.drewN _) (Nat.add_assoc _ _ _))⟩))))
        go_ret; exact ⟨by first | rfl | (simp [errW_none, errW_some] <;> rfl) | (simp [*, errW_none, errW_some] <;> rfl), hB107⟩
      rw [if_neg c14] at H; have c14b0 : (a0_0 == 11) = false := beq_eq_false_iff_ne.mpr c14; have c14b1 : (a0_0 != 11) = true := bne_iff_ne.mpr c14; by_cases c18 : a0_0 = 15
      rotate_left
      · rw [if_neg c18] at H; have c18b0 : (a0_0 == 15) = false := beq_eq_false_iff_ne.mpr c18; have c18b1 : (a0_0 != 15) = true := bne_iff_ne.mpr c18; obtain rfl := Option.some.inj H; go_wp2
        repeat (go_quiet (fail); try go_wp2)
        go_ret; exact ⟨by first | rfl | (simp [errW_none, errW_some] <;> rfl) | (simp [*, errW_none, errW_some] <;> rfl), hB107⟩
      rw [if_pos c18] at H; have c18b0 : (a0_0 == 15) = true := beq_iff_eq.mpr c18; have c18b1 : (a0_0 != 15) = false := bne_eq_false_iff_eq.mpr c18; clear c18; replace H := Option.bind_eq_some_iff.mp H; obtain ⟨t145, A190, H⟩ := H; replace H : ((lockstitchref08_bit.f kj1 a0_3).bind fun t146 => (some (Go.bits .or .u8 t145 t146))) = some r := H; have A19 := Aside0.mk A190; clear A190; replace H := Option.bind_eq_some_iff.mp H; obtain ⟨t146, A200, H⟩ := H; replace H : (some (Go.bits .or .u8 t145 t146)) = some r := H; have A20 := Aside0.mk A200; clear A200; obtain rfl := Option.some.inj H; have hcz21_0 : wc.cell? ⟨gb140, 0, none⟩ = some (.int .u8 a0_0) := (blk_cell BK140.out 0).trans rfl; have hcz21_1 : wc.cell? ⟨gb140, 1, none⟩ = some (.int .u8 a0_1) := (blk_cell BK140.out 1).trans rfl; have hcz21_2 : wc.cell? ⟨gb140, 2, none⟩ = some (.int .u8 a0_2) := (blk_cell BK140.out 2).trans rfl; have hcz21_3 : wc.cell? ⟨gb140, 3, none⟩ = some (.int .u8 a0_3) := (blk_cell BK140.out 3).trans rfl; have hcz21_4 : wc.cell? ⟨gb140, 4, none⟩ = some (.int .i64 a0_4) := (blk_cell BK140.out 4).trans rfl; have hfz21_0 := blk_frozen BK140.out 0; have hfz21_1 := blk_frozen BK140.out 1; have hfz21_2 := blk_frozen BK140.out 2; have hfz21_3 := blk_frozen BK140.out 3; have hfz21_4 := blk_frozen BK140.out 4
      go_wp2_with (first | (go_at_call 47; (with_reducible refine (lockstitchref08_bit.calls kj1 a0_2 t145 _ A19.out).mono ?_); rintro e w' ⟨rfl, ⟨nd, rfl⟩⟩; (try first | exact ⟨rfl, _, World.drewN_drewN _ _ _⟩ | exact ⟨rfl, _, Eq.trans (World.drewN_drewN _ _ _) (congrArg (World.drewN _) (Nat.add_assoc _ _ _))⟩)) | (go_at_call 47; (with_reducible refine (lockstitchref08_bit.calls kj1 a0_3 t146 _ A20.out).mono ?_); rintro e w' ⟨rfl, ⟨nd, rfl⟩⟩; (try first | exact ⟨rfl, _, World.drewN_drewN _ _ _⟩ | exact ⟨rfl, _, Eq.trans (World.drewN_drewN _ _ _) (congrArg (World.drewN _) (Nat.add_assoc _ _ _))⟩)))
      repeat (go_quiet (first | (go_at_call 47; (with_reducible refine (lockstitchref08_bit.calls kj1 a0_2 t145 _ A19.out).mono ?_); rintro e w' ⟨rfl, ⟨nd, rfl⟩⟩; (try first | exact ⟨rfl, _, World.drewN_drewN _ _ _⟩ | exact ⟨rfl, _, Eq.trans (World.drewN_drewN _ _ _) (congrArg (World.drewN _) (Nat.add_assoc _ _ _))⟩)) | (go_at_call 47; (with_reducible refine (lockstitchref08_bit.calls kj1 a0_3 t146 _ A20.out).mono ?_); rintro e w' ⟨rfl, ⟨nd, rfl⟩⟩; (try first | exact ⟨rfl, _, World.drewN_drewN _ _ _⟩ | exact ⟨rfl, _, Eq.trans (World.drewN_drewN _ _ _) (congrArg (World.drewN _) (Nat.add_assoc _ _ _))⟩))); try go_wp2_with (first | (go_at_call 47; (with_reducible refine (lockstitchref08_bit.calls kj1 a0_2 t145 _ A19.out).mono ?_); rintro e w' ⟨rfl, ⟨nd, rfl⟩⟩; (try first | exact ⟨rfl, _, World.drewN_drewN _ _ _⟩ | exact ⟨rfl, _, Eq.trans (World.drewN_drewN _ _ _) (congrArg (World.drewN _) (Nat.add_assoc _ _ _))⟩)) | (go_at_call 47; (with_reducible refine (lockstitchref08_bit.calls kj1 a0_3 t146 _ A20.out).mono ?_); rintro e w' ⟨rfl, ⟨nd, rfl⟩⟩; (try first | exact ⟨rfl, _, World.drewN_drewN _ _ _⟩ | exact ⟨rfl, _, Eq.trans (World.drewN_drewN _ _ _) (congrArg (World.drewN _) (Nat.add_assoc _ _ _))⟩))))
      go_ret; exact ⟨by first | rfl | (simp [errW_none, errW_some] <;> rfl) | (simp [*, errW_none, errW_some] <;> rfl), hB107⟩
end Go.Proofs.YtkmkfiidlbhcgaaDoor.V

namespace Go.Proofs.YtkmkfiidlbhcgaaDoor.V
open Go.RowKit Go.Proofs.YtkmkfiidlbhcgaaDoorW.PrintWords Go.Proofs.YtkmkfiidlbhcgaaDoorW.PrintLast Go.Proofs.YtkmkfiidlbhcgaaDoorW.PrintMore
attribute [local go_sem] max2_int min2_int max_two min_two max_three min_three max_four min_four
set_option linter.unusedVariables false
set_option linter.unusedSimpArgs false
open Go.Proofs.YtkmkfiidlbhcgaaDoor.F
noncomputable def lockstitchref08_Sets.f (k : Nat) (a0_0 : Int) (a0_1 : Int) (a0_2 : Int) (a0_3 : Int) (a0_4 : Int) : Option (Int) := if a0_0 = 5 then ((lockstitchref08_bit.f k a0_1).bind fun t148 => (some t148)) else (if a0_0 = 6 then ((lockstitchref08_bit.f k a0_1).bind fun t149 => (some t149)) else (if a0_0 = 7 then ((lockstitchref08_bit.f k a0_1).bind fun t150 => (some t150)) else (if a0_0 = 10 then ((lockstitchref08_bit.f k a0_1).bind fun t151 => (some t151)) else (if a0_0 = 12 then ((lockstitchref08_bit.f k a0_1).bind fun t152 => (some t152)) else (some 0)))))
theorem lockstitchref08_Sets.mono : ∀ a0 a1 a2 a3 a4 k, LeO (lockstitchref08_Sets.f k a0 a1 a2 a3 a4) (lockstitchref08_Sets.f (k + 1) a0 a1 a2 a3 a4) := by
  intro a0 a1 a2 a3 a4 k
  unfold lockstitchref08_Sets.f
  repeat' first
      | (with_reducible exact lockstitchref08_bit.mono _ _)
      | (with_reducible exact LeO.refl _)
      | (with_reducible exact LeO.none _)
      | (with_reducible refine LeO.ite ?_ ?_)
      | (with_reducible refine LeO.bind ?_ (fun _ => ?_))
      | exact lockstitchref08_bit.mono _ _
      | exact LeO.none _
      | refine LeO.ite ?_ ?_
      | refine LeO.bind ?_ (fun _ => ?_)
set_option maxHeartbeats 8000000 in
set_option maxRecDepth 100000 in
theorem lockstitchref08_Sets.calls (k : Nat) (a0_0 : Int) (a0_1 : Int) (a0_2 : Int) (a0_3 : Int) (a0_4 : Int) (r : Int) (w : World) (h : lockstitchref08_Sets.f k a0_0 a0_1 a0_2 a0_3 a0_4 = some r) :
    Calls Tryd.prog 33 #[.agg #[.int .u8 a0_0, .int .u8 a0_1, .int .u8 a0_2, .int .u8 a0_3, .int .i64 a0_4]] w fun e w' => e = .returned (.int .u8 r) ∧ Below w.heap.size w w' := by
  have hu36 := Tryd.underlying36; have HB := Aside0.mk (Below.refl w.heap.size w); have H : (if a0_0 = 5 then ((lockstitchref08_bit.f k a0_1).bind fun t148 => (some t148)) else (if a0_0 = 6 then ((lockstitchref08_bit.f k a0_1).bind fun t149 => (some t149)) else (if a0_0 = 7 then ((lockstitchref08_bit.f k a0_1).bind fun t150 => (some t150)) else (if a0_0 = 10 then ((lockstitchref08_bit.f k a0_1).bind fun t151 => (some t151)) else (if a0_0 = 12 then ((lockstitchref08_bit.f k a0_1).bind fun t152 => (some t152)) else (some 0)))))) = some r := h; clear h; by_cases c2 : a0_0 = 5
  · rw [if_pos c2] at H; have c2b0 : (a0_0 == 5) = true := beq_iff_eq.mpr c2; have c2b1 : (a0_0 != 5) = false := bne_eq_false_iff_eq.mpr c2; clear c2; replace H := Option.bind_eq_some_iff.mp H; obtain ⟨t148, A30, H⟩ := H; replace H : (some t148) = some r := H; have A3 := Aside0.mk A30; clear A30; obtain rfl := Option.some.inj H
    go_enter Tryd.func33, Tryd.ntmps33
    go_wp2_with (first | ((with_reducible refine gate_dst (N := 1) rfl ?_); refine box_event ?hg (N := 1) ?hd (cs := #[.int .u8 a0_0, .int .u8 a0_1, .int .u8 a0_2, .int .u8 a0_3, .int .i64 a0_4]) (t := 36) ?hr ?_; (case hd => rfl); (case hg => rfl); (case hr => first | (go_simp; done) | (go_simp; rfl)); intro gb147 hg w4 hbox hb; have n0_ := Aside0.mk (below_step hB122 hb); have n1_ := Aside0.mk (hbox); have n2_ := Aside0.mk ((by rw [hg]; exact (below_size hB122) : w.heap.size ≤ gb147)); have n3_ := Aside0.mk ((by rw [hg]; exact (below_size hB122) : w.heap.size ≤ gb147)); clear HB; have HB := n0_; have BK147 := n1_; have GW147 := n2_; have GE147 := n3_; clear n0_ n1_ n2_ n3_; clear hb hbox hg; have hcz5_0 : w4.cell? ⟨gb147, 0, none⟩ = some (.int .u8 a0_0) := (blk_cell BK147.out 0).trans rfl; have hcz5_1 : w4.cell? ⟨gb147, 1, none⟩ = some (.int .u8 a0_1) := (blk_cell BK147.out 1).trans rfl; have hcz5_2 : w4.cell? ⟨gb147, 2, none⟩ = some (.int .u8 a0_2) := (blk_cell BK147.out 2).trans rfl; have hcz5_3 : w4.cell? ⟨gb147, 3, none⟩ = some (.int .u8 a0_3) := (blk_cell BK147.out 3).trans rfl; have hcz5_4 : w4.cell? ⟨gb147, 4, none⟩ = some (.int .i64 a0_4) := (blk_cell BK147.out 4).trans rfl; have hfz5_0 := blk_frozen BK147.out 0; have hfz5_1 := blk_frozen BK147.out 1; have hfz5_2 := blk_frozen BK147.out 2; have hfz5_3 := blk_frozen BK147.out 3; have hfz5_4 := blk_frozen BK147.out 4) | ((with_reducible refine gate_callee (f := 47) rfl ?_); refine goesL_ (some 13) rfl rfl Tryd.func47 (by kernel_rfl) rfl #[.int .u8 a0_1] rfl hB3 ?_; (with_reducible refine (lockstitchref08_bit.calls k a0_1 t148 _ A3.out).mono ?_); rintro e w' ⟨rfl, ⟨nd, rfl⟩⟩; refine ⟨_, rfl, ?_⟩))
    go_ret; exact ⟨by first | rfl | (simp [errW_none, errW_some] <;> rfl) | (simp [*, errW_none, errW_some] <;> rfl), hB110⟩
  rw [if_neg c2] at H; have c2b0 : (a0_0 == 5) = false := beq_eq_false_iff_ne.mpr c2; have c2b1 : (a0_0 != 5) = true := bne_iff_ne.mpr c2; by_cases c6 : a0_0 = 6
  · rw [if_pos c6] at H; have c6b0 : (a0_0 == 6) = true := beq_iff_eq.mpr c6; have c6b1 : (a0_0 != 6) = false := bne_eq_false_iff_eq.mpr c6; clear c6; replace H := Option.bind_eq_some_iff.mp H; obtain ⟨t149, A70, H⟩ := H; replace H : (some t149) = some r := H; have A7 := Aside0.mk A70; clear A70; obtain rfl := Option.some.inj H
    go_enter Tryd.func33, Tryd.ntmps33
    go_wp2_with (first | ((with_reducible refine gate_dst (N := 1) rfl ?_); refine box_event ?hg (N := 1) ?hd (cs := #[.int .u8 a0_0, .int .u8 a0_1, .int .u8 a0_2, .int .u8 a0_3, .int .i64 a0_4]) (t := 36) ?hr ?_; (case hd => rfl); (case hg => rfl); (case hr => first | (go_simp; done) | (go_simp; rfl)); intro gb147 hg w8 hbox hb; have n0_ := Aside0.mk (below_step hB122 hb); have n1_ := Aside0.mk (hbox); have n2_ := Aside0.mk ((by rw [hg]; exact (below_size hB122) : w.heap.size ≤ gb147)); have n3_ := Aside0.mk ((by rw [hg]; exact (below_size hB122) : w.heap.size ≤ gb147)); clear HB; have HB := n0_; have BK147 := n1_; have GW147 := n2_; have GE147 := n3_; clear n0_ n1_ n2_ n3_; clear hb hbox hg; have hcz9_0 : w8.cell? ⟨gb147, 0, none⟩ = some (.int .u8 a0_0) := (blk_cell BK147.out 0).trans rfl; have hcz9_1 : w8.cell? ⟨gb147, 1, none⟩ = some (.int .u8 a0_1) := (blk_cell BK147.out 1).trans rfl; have hcz9_2 : w8.cell? ⟨gb147, 2, none⟩ = some (.int .u8 a0_2) := (blk_cell BK147.out 2).trans rfl; have hcz9_3 : w8.cell? ⟨gb147, 3, none⟩ = some (.int .u8 a0_3) := (blk_cell BK147.out 3).trans rfl; have hcz9_4 : w8.cell? ⟨gb147, 4, none⟩ = some (.int .i64 a0_4) := (blk_cell BK147.out 4).trans rfl; have hfz9_0 := blk_frozen BK147.out 0; have hfz9_1 := blk_frozen BK147.out 1; have hfz9_2 := blk_frozen BK147.out 2; have hfz9_3 := blk_frozen BK147.out 3; have hfz9_4 := blk_frozen BK147.out 4) | ((with_reducible refine gate_callee (f := 47) rfl ?_); refine goesL_ (some 13) rfl rfl Tryd.func47 (by kernel_rfl) rfl #[.int .u8 a0_1] rfl hB3 ?_; (with_reducible refine (lockstitchref08_bit.calls k a0_1 t149 _ A7.out).mono ?_); rintro e w' ⟨rfl, ⟨nd, rfl⟩⟩; refine ⟨_, rfl, ?_⟩))
    go_ret; exact ⟨by first | rfl | (simp [errW_none, errW_some] <;> rfl) | (simp [*, errW_none, errW_some] <;> rfl), hB110⟩
  rw [if_neg c6] at H; have c6b0 : (a0_0 == 6) = false := beq_eq_false_iff_ne.mpr c6; have c6b1 : (a0_0 != 6) = true := bne_iff_ne.mpr c6; by_cases c10 : a0_0 = 7
  · rw [if_pos c10] at H; have c10b0 : (a0_0 == 7) = true := beq_iff_eq.mpr c10; have c10b1 : (a0_0 != 7) = false := bne_eq_false_iff_eq.mpr c10; clear c10; replace H := Option.bind_eq_some_iff.mp H; obtain ⟨t150, A110, H⟩ := H; replace H : (some t150) = some r := H; have A11 := Aside0.mk A110; clear A110; obtain rfl := Option.some.inj H
    go_enter Tryd.func33, Tryd.ntmps33
    go_wp2_with (first | ((with_reducible refine gate_dst (N := 1) rfl ?_); refine box_event ?hg (N := 1) ?hd (cs := #[.int .u8 a0_0, .int .u8 a0_1, .int .u8 a0_2, .int .u8 a0_3, .int .i64 a0_4]) (t := 36) ?hr ?_; (case hd => rfl); (case hg => rfl); (case hr => first | (go_simp; done) | (go_simp; rfl)); intro gb147 hg w12 hbox hb; have n0_ := Aside0.mk (below_step hB122 hb); have n1_ := Aside0.mk (hbox); have n2_ := Aside0.mk ((by rw [hg]; exact (below_size hB122) : w.heap.size ≤ gb147)); have n3_ := Aside0.mk ((by rw [hg]; exact (below_size hB122) : w.heap.size ≤ gb147)); clear HB; have HB := n0_; have BK147 := n1_; have GW147 := n2_; have GE147 := n3_; clear n0_ n1_ n2_ n3_; clear hb hbox hg; have hcz13_0 : w12.cell? ⟨gb147, 0, none⟩ = some (.int .u8 a0_0) := (blk_cell BK147.out 0).trans rfl; have hcz13_1 : w12.cell? ⟨gb147, 1, none⟩ = some (.int .u8 a0_1) := (blk_cell BK147.out 1).trans rfl; have hcz13_2 : w12.cell? ⟨gb147, 2, none⟩ = some (.int .u8 a0_2) := (blk_cell BK147.out 2).trans rfl; have hcz13_3 : w12.cell? ⟨gb147, 3, none⟩ = some (.int .u8 a0_3) := (blk_cell BK147.out 3).trans rfl; have hcz13_4 : w12.cell? ⟨gb147, 4, none⟩ = some (.int .i64 a0_4) := (blk_cell BK147.out 4).trans rfl; have hfz13_0 := blk_frozen BK147.out 0; have hfz13_1 := blk_frozen BK147.out 1; have hfz13_2 := blk_frozen BK147.out 2; have hfz13_3 := blk_frozen BK147.out 3; have hfz13_4 := blk_frozen BK147.out 4) | ((with_reducible refine gate_callee (f := 47) rfl ?_); refine goesL_ (some 13) rfl rfl Tryd.func47 (by kernel_rfl) rfl #[.int .u8 a0_1] rfl hB3 ?_; (with_reducible refine (lockstitchref08_bit.calls k a0_1 t150 _ A11.out).mono ?_); rintro e w' ⟨rfl, ⟨nd, rfl⟩⟩; refine ⟨_, rfl, ?_⟩))
    go_ret; exact ⟨by first | rfl | (simp [errW_none, errW_some] <;> rfl) | (simp [*, errW_none, errW_some] <;> rfl), hB110⟩
  rw [if_neg c10] at H; have c10b0 : (a0_0 == 7) = false := beq_eq_false_iff_ne.mpr c10; have c10b1 : (a0_0 != 7) = true := bne_iff_ne.mpr c10; by_cases c14 : a0_0 = 10
  · rw [if_pos c14] at H; have c14b0 : (a0_0 == 10) = true := beq_iff_eq.mpr c14; have c14b1 : (a0_0 != 10) = false := bne_eq_false_iff_eq.mpr c14; clear c14; replace H := Option.bind_eq_some_iff.mp H; obtain ⟨t151, A150, H⟩ := H; replace H : (some t151) = some r := H; have A15 := Aside0.mk A150; clear A150; obtain rfl := Option.some.inj H
    go_enter Tryd.func33, Tryd.ntmps33
    go_wp2_with (first | ((with_reducible refine gate_dst (N := 1) rfl ?_); refine box_event ?hg (N := 1) ?hd (cs := #[.int .u8 a0_0, .int .u8 a0_1, .int .u8 a0_2, .int .u8 a0_3, .int .i64 a0_4]) (t := 36) ?hr ?_; (case hd => rfl); (case hg => rfl); (case hr => first | (go_simp; done) | (go_simp; rfl)); intro gb147 hg w16 hbox hb; have n0_ := Aside0.mk (below_step hB122 hb); have n1_ := Aside0.mk (hbox); have n2_ := Aside0.mk ((by rw [hg]; exact (below_size hB122) : w.heap.size ≤ gb147)); have n3_ := Aside0.mk ((by rw [hg]; exact (below_size hB122) : w.heap.size ≤ gb147)); clear HB; have HB := n0_; have BK147 := n1_; have GW147 := n2_; have GE147 := n3_; clear n0_ n1_ n2_ n3_; clear hb hbox hg; have hcz17_0 : w16.cell? ⟨gb147, 0, none⟩ = some (.int .u8 a0_0) := (blk_cell BK147.out 0).trans rfl; have hcz17_1 : w16.cell? ⟨gb147, 1, none⟩ = some (.int .u8 a0_1) := (blk_cell BK147.out 1).trans rfl; have hcz17_2 : w16.cell? ⟨gb147, 2, none⟩ = some (.int .u8 a0_2) := (blk_cell BK147.out 2).trans rfl; have hcz17_3 : w16.cell? ⟨gb147, 3, none⟩ = some (.int .u8 a0_3) := (blk_cell BK147.out 3).trans rfl; have hcz17_4 : w16.cell? ⟨gb147, 4, none⟩ = some (.int .i64 a0_4) := (blk_cell BK147.out 4).trans rfl; have hfz17_0 := blk_frozen BK147.out 0; have hfz17_1 := blk_frozen BK147.out 1; have hfz17_2 := blk_frozen BK147.out 2; have hfz17_3 := blk_frozen BK147.out 3; have hfz17_4 := blk_frozen BK147.out 4) | ((with_reducible refine gate_callee (f := 47) rfl ?_); refine goesL_ (some 13) rfl rfl Tryd.func47 (by kernel_rfl) rfl #[.int .u8 a0_1] rfl hB3 ?_; (with_reducible refine (lockstitchref08_bit.calls k a0_1 t151 _ A15.out).mono ?_); rintro e w' ⟨rfl, ⟨nd, rfl⟩⟩; refine ⟨_, rfl, ?_⟩))
    go_ret; exact ⟨by first | rfl | (simp [errW_none, errW_some] <;> rfl) | (simp [*, errW_none, errW_some] <;> rfl), hB110⟩
  rw [if_neg c14] at H; have c14b0 : (a0_0 == 10) = false := beq_eq_false_iff_ne.mpr c14; have c14b1 : (a0_0 != 10) = true := bne_iff_ne.mpr c14; by_cases c18 : a0_0 = 12
  rotate_left
  · rw [if_neg c18] at H; have c18b0 : (a0_0 == 12) = false := beq_eq_false_iff_ne.mpr c18; have c18b1 : (a0_0 != 12) = true := bne_iff_ne.mpr c18; obtain rfl := Option.some.inj H
    go_enter Tryd.func33, Tryd.ntmps33
    go_wp2_with (first | ((with_reducible refine gate_dst (N := 1) rfl ?_); refine box_event ?hg (N := 1) ?hd (cs := #[.int .u8 a0_0, .int .u8 a0_1, .int .u8 a0_2, .int .u8 a0_3, .int .i64 a0_4]) (t := 36) ?hr ?_; (case hd => rfl); (case hg => rfl); (case hr => first | (go_simp; done) | (go_simp; rfl)); intro gb147 hg w22 hbox hb; have n0_ := Aside0.mk (below_step hB122 hb); have n1_ := Aside0.mk (hbox); have n2_ := Aside0.mk ((by rw [hg]; exact (below_size hB122) : w.heap.size ≤ gb147)); have n3_ := Aside0.mk ((by rw [hg]; exact (below_size hB122) : w.heap.size ≤ gb147)); clear HB; have HB := n0_; have BK147 := n1_; have GW147 := n2_; have GE147 := n3_; clear n0_ n1_ n2_ n3_; clear hb hbox hg; have hcz23_0 : w22.cell? ⟨gb147, 0, none⟩ = some (.int .u8 a0_0) := (blk_cell BK147.out 0).trans rfl; have hcz23_1 : w22.cell? ⟨gb147, 1, none⟩ = some (.int .u8 a0_1) := (blk_cell BK147.out 1).trans rfl; have hcz23_2 : w22.cell? ⟨gb147, 2, none⟩ = some (.int .u8 a0_2) := (blk_cell BK147.out 2).trans rfl; have hcz23_3 : w22.cell? ⟨gb147, 3, none⟩ = some (.int .u8 a0_3) := (blk_cell BK147.out 3).trans rfl; have hcz23_4 : w22.cell? ⟨gb147, 4, none⟩ = some (.int .i64 a0_4) := (blk_cell BK147.out 4).trans rfl; have hfz23_0 := blk_frozen BK147.out 0; have hfz23_1 := blk_frozen BK147.out 1; have hfz23_2 := blk_frozen BK147.out 2; have hfz23_3 := blk_frozen BK147.out 3; have hfz23_4 := blk_frozen BK147.out 4))
    go_ret; exact ⟨by first | rfl | (simp [errW_none, errW_some] <;> rfl) | (simp [*, errW_none, errW_some] <;> rfl), hB110⟩
  rw [if_pos c18] at H; have c18b0 : (a0_0 == 12) = true := beq_iff_eq.mpr c18; have c18b1 : (a0_0 != 12) = false := bne_eq_false_iff_eq.mpr c18; clear c18; replace H := Option.bind_eq_some_iff.mp H; obtain ⟨t152, A190, H⟩ := H; replace H : (some t152) = some r := H; have A19 := Aside0.mk A190; clear A190; obtain rfl := Option.some.inj H
  go_enter Tryd.func33, Tryd.ntmps33
  go_wp2_with (first | ((with_reducible refine gate_dst (N := 1) rfl ?_); refine box_event ?hg (N := 1) ?hd (cs := #[.int .u8 a0_0, .int .u8 a0_1, .int .u8 a0_2, .int .u8 a0_3, .int .i64 a0_4]) (t := 36) ?hr ?_; (case hd => rfl); (case hg => rfl); (case hr => first | (go_simp; done) | (go_simp; rfl)); intro gb147 hg w20 hbox hb; have n0_ := Aside0.mk (below_step hB122 hb); have n1_ := Aside0.mk (hbox); have n2_ := Aside0.mk ((by rw [hg]; exact (below_size hB122) : w.heap.size ≤ gb147)); have n3_ := Aside0.mk ((by rw [hg]; exact (below_size hB122) : w.heap.size ≤ gb147)); clear HB; have HB := n0_; have BK147 := n1_; have GW147 := n2_; have GE147 := n3_; clear n0_ n1_ n2_ n3_; clear hb hbox hg; have hcz21_0 : w20.cell? ⟨gb147, 0, none⟩ = some (.int .u8 a0_0) := (blk_cell BK147.out 0).trans rfl; have hcz21_1 : w20.cell? ⟨gb147, 1, none⟩ = some (.int .u8 a0_1) := (blk_cell BK147.out 1).trans rfl; have hcz21_2 : w20.cell? ⟨gb147, 2, none⟩ = some (.int .u8 a0_2) := (blk_cell BK147.out 2).trans rfl; have hcz21_3 : w20.cell? ⟨gb147, 3, none⟩ = some (.int .u8 a0_3) := (blk_cell BK147.out 3).trans rfl; have hcz21_4 : w20.cell? ⟨gb147, 4, none⟩ = some (.int .i64 a0_4) := (blk_cell BK147.out 4).trans rfl; have hfz21_0 := blk_frozen BK147.out 0; have hfz21_1 := blk_frozen BK147.out 1; have hfz21_2 := blk_frozen BK147.out 2; have hfz21_3 := blk_frozen BK147.out 3; have hfz21_4 := blk_frozen BK147.out 4) | ((with_reducible refine gate_callee (f := 47) rfl ?_); refine goesL_ (some 13) rfl rfl Tryd.func47 (by kernel_rfl) rfl #[.int .u8 a0_1] rfl hB3 ?_; (with_reducible refine (lockstitchref08_bit.calls k a0_1 t152 _ A19.out).mono ?_); rintro e w' ⟨rfl, ⟨nd, rfl⟩⟩; refine ⟨_, rfl, ?_⟩))
  go_ret; exact ⟨by first | rfl | (simp [errW_none, errW_some] <;> rfl) | (simp [*, errW_none, errW_some] <;> rfl), hB110⟩
mutual
noncomputable def lockstitchref08_In.l0 : Nat → List Int → Int → List ByteArray → ByteArray → ByteArray → List (S36) → Option (List Int)
  | 0, _, _, _, _, _, _ => none
  | k + 1, x3, x4, x154000, x154001, x154002, x154003 => if x4 ≤ (wrap64 (8 * (x154003.length : Int))) then (lockstitchref08_In.l1 k x3 x4 (wrap64 ((x154003.length : Int) - 1)) x154000 x154001 x154002 x154003) else (some x3)
noncomputable def lockstitchref08_In.l1 : Nat → List Int → Int → Int → List ByteArray → ByteArray → ByteArray → List (S36) → Option (List Int)
  | 0, _, _, _, _, _, _, _ => none
  | k + 1, x3, x4, x5, x154000, x154001, x154002, x154003 => if x5 ≥ 0 then ((lockstitchref07_Next.f k x154000 x154001 x154002 x154003 x5).bind fun t157 => (lockstitchref08_In.l2 k x3 x4 x5 0 t157 0 x154000 x154001 x154002 x154003)) else (lockstitchref08_In.l0 k x3 (wrap64 (x4 + 1)) x154000 x154001 x154002 x154003)
noncomputable def lockstitchref08_In.l2 : Nat → List Int → Int → Int → Int → List Int → Int → List ByteArray → ByteArray → ByteArray → List (S36) → Option (List Int)
  | 0, _, _, _, _, _, _, _, _, _, _ => none
  | k + 1, x3, x4, x5, x6, x7, x8, x154000, x154001, x154002, x154003 => if x8 < (x7.length : Int) then (if 0 ≤ x8 then (if 0 ≤ (rd x7 x8) then (if (rd x7 x8) < (x3.length : Int) then (lockstitchref08_In.l2 k x3 x4 x5 (Go.bits .or .u8 x6 (rd x3 (rd x7 x8))) x7 (wrap64 (x8 + 1)) x154000 x154001 x154002 x154003) else (none)) else (none)) else (none)) else (if 0 ≤ x5 then (if x5 < (x154003.length : Int) then ((lockstitchref08_Sets.f k ((rd_T36 x154003 x5).f0) ((rd_T36 x154003 x5).f1) ((rd_T36 x154003 x5).f2) ((rd_T36 x154003 x5).f3) ((rd_T36 x154003 x5).f4)).bind fun t163 => ((lockstitchref08_Uses.f k ((rd_T36 x154003 x5).f0) ((rd_T36 x154003 x5).f1) ((rd_T36 x154003 x5).f2) ((rd_T36 x154003 x5).f3) ((rd_T36 x154003 x5).f4)).bind fun t165 => (if x5 < (x3.length : Int) then (lockstitchref08_In.l1 k (x3.set (x5 : Int).toNat (Go.bits .or .u8 (Go.bits .andNot .u8 x6 t163) t165)) x4 (wrap64 (x5 - 1)) x154000 x154001 x154002 x154003) else (none)))) else (none)) else (none))
end
noncomputable def lockstitchref08_In.f (k : Nat) (l0_0 : List ByteArray) (a0_1 : ByteArray) (a0_2 : ByteArray) (l0_3 : List (S36)) : Option (List Int) := if 0 ≤ (wrap64 ((l0_3.length : Int) + 1)) then (if (wrap64 ((l0_3.length : Int) + 1) : Int).toNat ≤ 281474976710656 then (lockstitchref08_In.l0 k (List.replicate (wrap64 ((l0_3.length : Int) + 1) : Int).toNat 0) 0 l0_0 a0_1 a0_2 l0_3) else (none)) else (none)
noncomputable def lockstitchref08_In.T15 : Bool × List (List Nat × List Nat) := (true, [([], []), ([], []), ([], []), ([], []), ([3], [3]), ([], []), ([4, 5], [4, 5]), ([6], [6]), ([7], [7]), ([2, 8], [2, 8]), ([], []), ([10], [10]), ([], []), ([11, 12], [11, 12]), ([13], [13]), ([14, 8], [14]), ([9, 15], [9, 15]), ([0, 1, 0, 1, 2, 3, 4, 5, 6, 7, 8, 9, 10, 11, 12, 13, 14, 15, 16], [0, 1]), ([17, 16, 15, 0, 1, 2, 3, 4, 5, 6, 7, 8, 9, 10, 11, 12, 13, 14, 15, 16], [16, 17])])
noncomputable def lockstitchref08_In.B15 : List Nat := [0, 0, 0, 0, 8, 0, 56, 120, 248, 508, 0, 1024, 0, 7168, 15360, 32248, 65532, 131071, 262143]
end Go.Proofs.YtkmkfiidlbhcgaaDoor.V

namespace Go.Proofs.YtkmkfiidlbhcgaaDoor.V
open Go.RowKit Go.Proofs.YtkmkfiidlbhcgaaDoorW.PrintWords Go.Proofs.YtkmkfiidlbhcgaaDoorW.PrintLast Go.Proofs.YtkmkfiidlbhcgaaDoorW.PrintMore
attribute [local go_sem] max2_int min2_int max_two min_two max_three min_three max_four min_four
set_option linter.unusedVariables false
set_option linter.unusedSimpArgs false
open Go.Proofs.YtkmkfiidlbhcgaaDoor.F
end Go.Proofs.YtkmkfiidlbhcgaaDoor.V

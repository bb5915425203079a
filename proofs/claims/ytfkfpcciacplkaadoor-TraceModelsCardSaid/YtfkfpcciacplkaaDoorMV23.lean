/- Texts of this claim, pruned to what it needs and laid together by prune.py. -/
import Derived.Test.YtfkfpcciacplkaaDoorMV22
import Derived.StillTailTactics
import Derived.Test.YtfkfpcciacplkaaDoorProg
import Derived.Below
import Derived.Deep.Draws
import Derived.Deep.AppendLies
import Derived.Maps.AppendAt
import Derived.OwnWalk
import Derived.Laws.BytesArg
import Derived.Laws.MakeOwn
import Derived.Laws.OwnMore
import Derived.Deep.OwnRows
import Derived.Tactics
import Derived.Lib.ConvBytes
import Derived.Laws.Slices
import Derived.WalkKit
import Derived.KernelRfl
import Derived.RowKit3
import Derived.Deep.LoopGhost
import Derived.Deep.QuietTactic
import Derived.BigQuiet
import Derived.WideLaws
import Derived.Deep.DeepCutAuto
import Derived.Deep.CutBlock
import Derived.Deep.RegionHeld3
import Derived.Laws.Rows
import Derived.Lib.AppendStr
import Derived.ArgAppend
import Derived.Laws.IdiomCopy
import Derived.OrdersHeld
import Derived.Laws.BitsLemmas
import Derived.RowKit
import Derived.Test.YtfkfpcciacplkaaDoorMV21
import Derived.Test.YtfkfpcciacplkaaDoorMV0
import Derived.Test.YtfkfpcciacplkaaDoorMV1
import Derived.Test.YtfkfpcciacplkaaDoorMV2
import Derived.Test.YtfkfpcciacplkaaDoorMV3
import Derived.Test.YtfkfpcciacplkaaDoorMV4
import Derived.Test.YtfkfpcciacplkaaDoorMV5
import Derived.Test.YtfkfpcciacplkaaDoorMV6
import Derived.Test.YtfkfpcciacplkaaDoorMV7
import Derived.Test.YtfkfpcciacplkaaDoorMV8
import Derived.Test.YtfkfpcciacplkaaDoorMV9
import Derived.Test.YtfkfpcciacplkaaDoorMV10
import Derived.Test.YtfkfpcciacplkaaDoorMV11
import Derived.Test.YtfkfpcciacplkaaDoorMV12
import Derived.Test.YtfkfpcciacplkaaDoorMV13
import Derived.Test.YtfkfpcciacplkaaDoorMV14
import Derived.Test.YtfkfpcciacplkaaDoorMV15
import Derived.Test.YtfkfpcciacplkaaDoorMV16
import Derived.Test.YtfkfpcciacplkaaDoorMV17
import Derived.Test.YtfkfpcciacplkaaDoorMV18
import Derived.Test.YtfkfpcciacplkaaDoorMV19
import Derived.Test.YtfkfpcciacplkaaDoorMV20
import Derived.OneCell
import Derived.RegionTactic
import Derived.BigRegion
namespace Go.Proofs.YtfkfpcciacplkaaDoor.T
open Go.RowKit Go.Proofs.YtfkfpcciacplkaaDoorW.PrintWords Go.Proofs.YtfkfpcciacplkaaDoorW.PrintLast Go.Proofs.YtfkfpcciacplkaaDoorW.PrintMore
attribute [local go_sem] max2_int min2_int max_two min_two max_three min_three max_four min_four
set_option linter.unusedVariables false
set_option linter.unusedSimpArgs false
open Go.Proofs.YtfkfpcciacplkaaDoor.F
open Go.Proofs.YtfkfpcciacplkaaDoor.TE
open Go.Proofs.YtfkfpcciacplkaaDoor.TRB
noncomputable def trace_Ended.f (l0_0 : List Int) (a0_1 : Bool) (a0_2 : Int) (a0_3 : Int) (a0_4 : Int) : Option (Bool) := if a0_1 = true then (if a0_2 = 0 then (some true) else (some (a0_2 == 9))) else (some false)
set_option maxHeartbeats 8000000 in
set_option maxRecDepth 100000 in
theorem trace_Ended.calls (A0_0 : Option Addr) (c0_0 : Nat) (l0_0 : List Int) (a0_1 : Bool) (a0_2 : Int) (a0_3 : Int) (a0_4 : Int) (r : Bool) (w : World) (hr0_0 : Kd.C (Kd.int .i64) w A0_0 l0_0.length l0_0) (hc0_0 : l0_0.length ≤ c0_0) (h : trace_Ended.f l0_0 a0_1 a0_2 a0_3 a0_4 = some r) :
    Calls Tryd.prog 14 #[.agg #[.slice A0_0 l0_0.length c0_0, .bool a0_1, .int .i64 a0_2, .int .i64 a0_3, .int .i64 a0_4]] w fun e w' => e = .returned (.bool r) ∧ Below w.heap.size w w' := by
  have hu31 := Tryd.underlying31
  have HR0_0 := Aside0.mk hr0_0
  have HC0_0 := Aside0.mk hc0_0
  clear hr0_0 hc0_0
  have HB := Aside0.mk (Below.refl w.heap.size w)
  have H : (if a0_1 = true then (if a0_2 = 0 then (some true) else (some (a0_2 == 9))) else (some false)) = some r := h
  clear h
  by_cases c2 : a0_1 = true
  · subst c2
    have H1 : (if a0_2 = 0 then (some true) else (some (a0_2 == 9))) = some r := by rw [if_pos rfl] at H; exact H
    clear H
    have H := H1
    clear H1
    by_cases c3 : a0_2 = 0
    · rw [if_pos c3] at H
      have c3b0 : (a0_2 == 0) = true := beq_iff_eq.mpr c3
      have c3b1 : (a0_2 != 0) = false := bne_eq_false_iff_eq.mpr c3
      clear c3
      obtain rfl := Option.some.inj H
      go_enter Tryd.func14, Tryd.ntmps14
      go_wp2_with (first | ((with_reducible refine gate_dst (N := 1) rfl ?_); refine box_event ?hg (N := 1) ?hd (cs := #[.slice A0_0 l0_0.length c0_0, .bool true, .int .i64 a0_2, .int .i64 a0_3, .int .i64 a0_4]) (t := 31) ?hr ?_; (case hd => rfl); (case hg => rfl); (case hr => first | (go_simp; done) | (go_simp; rfl)); intro gb101 hg w4 hbox hb; have n0_ := Aside0.mk (below_step (by repeat (first | (with_reducible first | exact HB.out | apply below_alloc | apply pw_below_drewN | apply below_drew1) | exact HB.out)) hb); have n1_ := Aside0.mk (hbox); have n2_ := Aside0.mk ((by rw [hg]; exact (below_size (by repeat (first | (with_reducible first | exact HB.out | apply below_alloc | apply pw_below_drewN | apply below_drew1) | exact HB.out))) : w.heap.size ≤ gb101)); have n3_ := Aside0.mk ((by rw [hg]; exact (below_size (by repeat (first | (with_reducible first | exact HB.out | apply below_alloc | apply pw_below_drewN | apply below_drew1) | exact HB.out))) : w.heap.size ≤ gb101)); clear HB; have HB := n0_; have BK101 := n1_; have GW101 := n2_; have GE101 := n3_; clear n0_ n1_ n2_ n3_; clear hb hbox hg; have hcz5_0 : w4.cell? ⟨gb101, 0, none⟩ = some (.slice A0_0 l0_0.length c0_0) := (blk_cell BK101.out 0).trans rfl; have hcz5_1 : w4.cell? ⟨gb101, 1, none⟩ = some (.bool true) := (blk_cell BK101.out 1).trans rfl; have hcz5_2 : w4.cell? ⟨gb101, 2, none⟩ = some (.int .i64 a0_2) := (blk_cell BK101.out 2).trans rfl; have hcz5_3 : w4.cell? ⟨gb101, 3, none⟩ = some (.int .i64 a0_3) := (blk_cell BK101.out 3).trans rfl; have hcz5_4 : w4.cell? ⟨gb101, 4, none⟩ = some (.int .i64 a0_4) := (blk_cell BK101.out 4).trans rfl; have hfz5_0 := blk_frozen BK101.out 0; have hfz5_1 := blk_frozen BK101.out 1; have hfz5_2 := blk_frozen BK101.out 2; have hfz5_3 := blk_frozen BK101.out 3; have hfz5_4 := blk_frozen BK101.out 4))
      go_ret
      exact ⟨by first | rfl | (simp [errW_none, errW_some] <;> rfl) | (simp [*, errW_none, errW_some] <;> rfl), by repeat (first | (with_reducible first | exact HB.out | apply below_alloc | apply pw_below_drewN | apply below_drew1 | refine below_set ?_ GE101.out) | exact HB.out)⟩
    · rw [if_neg c3] at H
      have c3b0 : (a0_2 == 0) = false := beq_eq_false_iff_ne.mpr c3
      have c3b1 : (a0_2 != 0) = true := bne_iff_ne.mpr c3
      obtain rfl := Option.some.inj H
      go_enter Tryd.func14, Tryd.ntmps14
      go_wp2_with (first | ((with_reducible refine gate_dst (N := 1) rfl ?_); refine box_event ?hg (N := 1) ?hd (cs := #[.slice A0_0 l0_0.length c0_0, .bool true, .int .i64 a0_2, .int .i64 a0_3, .int .i64 a0_4]) (t := 31) ?hr ?_; (case hd => rfl); (case hg => rfl); (case hr => first | (go_simp; done) | (go_simp; rfl)); intro gb101 hg w6 hbox hb; have n0_ := Aside0.mk (below_step (by repeat (first | (with_reducible first | exact HB.out | apply below_alloc | apply pw_below_drewN | apply below_drew1) | exact HB.out)) hb); have n1_ := Aside0.mk (hbox); have n2_ := Aside0.mk ((by rw [hg]; exact (below_size (by repeat (first | (with_reducible first | exact HB.out | apply below_alloc | apply pw_below_drewN | apply below_drew1) | exact HB.out))) : w.heap.size ≤ gb101)); have n3_ := Aside0.mk ((by rw [hg]; exact (below_size (by repeat (first | (with_reducible first | exact HB.out | apply below_alloc | apply pw_below_drewN | apply below_drew1) | exact HB.out))) : w.heap.size ≤ gb101)); clear HB; have HB := n0_; have BK101 := n1_; have GW101 := n2_; have GE101 := n3_; clear n0_ n1_ n2_ n3_; clear hb hbox hg; have hcz7_0 : w6.cell? ⟨gb101, 0, none⟩ = some (.slice A0_0 l0_0.length c0_0) := (blk_cell BK101.out 0).trans rfl; have hcz7_1 : w6.cell? ⟨gb101, 1, none⟩ = some (.bool true) := (blk_cell BK101.out 1).trans rfl; have hcz7_2 : w6.cell? ⟨gb101, 2, none⟩ = some (.int .i64 a0_2) := (blk_cell BK101.out 2).trans rfl; have hcz7_3 : w6.cell? ⟨gb101, 3, none⟩ = some (.int .i64 a0_3) := (blk_cell BK101.out 3).trans rfl; have hcz7_4 : w6.cell? ⟨gb101, 4, none⟩ = some (.int .i64 a0_4) := (blk_cell BK101.out 4).trans rfl; have hfz7_0 := blk_frozen BK101.out 0; have hfz7_1 := blk_frozen BK101.out 1; have hfz7_2 := blk_frozen BK101.out 2; have hfz7_3 := blk_frozen BK101.out 3; have hfz7_4 := blk_frozen BK101.out 4))
      go_ret
      exact ⟨by first | rfl | (simp [errW_none, errW_some] <;> rfl) | (simp [*, errW_none, errW_some] <;> rfl), by repeat (first | (with_reducible first | exact HB.out | apply below_alloc | apply pw_below_drewN | apply below_drew1 | refine below_set ?_ GE101.out) | exact HB.out)⟩
  · replace c2 := Bool.eq_false_iff.mpr c2
    subst c2
    have H1 : (some false) = some r := by rw [if_neg (show ¬ (false = true) by decide)] at H; exact H
    clear H
    have H := H1
    clear H1
    obtain rfl := Option.some.inj H
    go_enter Tryd.func14, Tryd.ntmps14
    go_wp2_with (first | ((with_reducible refine gate_dst (N := 1) rfl ?_); refine box_event ?hg (N := 1) ?hd (cs := #[.slice A0_0 l0_0.length c0_0, .bool false, .int .i64 a0_2, .int .i64 a0_3, .int .i64 a0_4]) (t := 31) ?hr ?_; (case hd => rfl); (case hg => rfl); (case hr => first | (go_simp; done) | (go_simp; rfl)); intro gb101 hg w8 hbox hb; have n0_ := Aside0.mk (below_step (by repeat (first | (with_reducible first | exact HB.out | apply below_alloc | apply pw_below_drewN | apply below_drew1) | exact HB.out)) hb); have n1_ := Aside0.mk (hbox); have n2_ := Aside0.mk ((by rw [hg]; exact (below_size (by repeat (first | (with_reducible first | exact HB.out | apply below_alloc | apply pw_below_drewN | apply below_drew1) | exact HB.out))) : w.heap.size ≤ gb101)); have n3_ := Aside0.mk ((by rw [hg]; exact (below_size (by repeat (first | (with_reducible first | exact HB.out | apply below_alloc | apply pw_below_drewN | apply below_drew1) | exact HB.out))) : w.heap.size ≤ gb101)); clear HB; have HB := n0_; have BK101 := n1_; have GW101 := n2_; have GE101 := n3_; clear n0_ n1_ n2_ n3_; clear hb hbox hg; have hcz9_0 : w8.cell? ⟨gb101, 0, none⟩ = some (.slice A0_0 l0_0.length c0_0) := (blk_cell BK101.out 0).trans rfl; have hcz9_1 : w8.cell? ⟨gb101, 1, none⟩ = some (.bool false) := (blk_cell BK101.out 1).trans rfl; have hcz9_2 : w8.cell? ⟨gb101, 2, none⟩ = some (.int .i64 a0_2) := (blk_cell BK101.out 2).trans rfl; have hcz9_3 : w8.cell? ⟨gb101, 3, none⟩ = some (.int .i64 a0_3) := (blk_cell BK101.out 3).trans rfl; have hcz9_4 : w8.cell? ⟨gb101, 4, none⟩ = some (.int .i64 a0_4) := (blk_cell BK101.out 4).trans rfl; have hfz9_0 := blk_frozen BK101.out 0; have hfz9_1 := blk_frozen BK101.out 1; have hfz9_2 := blk_frozen BK101.out 2; have hfz9_3 := blk_frozen BK101.out 3; have hfz9_4 := blk_frozen BK101.out 4))
    go_ret
    exact ⟨by first | rfl | (simp [errW_none, errW_some] <;> rfl) | (simp [*, errW_none, errW_some] <;> rfl), by repeat (first | (with_reducible first | exact HB.out | apply below_alloc | apply pw_below_drewN | apply below_drew1 | refine below_set ?_ GE101.out) | exact HB.out)⟩
mutual
noncomputable def trace_agree.j0 : Nat → Bool → List Int → Bool → Int → Int → Int → List Int → Bool → Int → Int → Int → Option (Bool)
  | 0, _, _, _, _, _, _, _, _, _, _, _ => none
  | k + 1, x12, x103000, x103001, x103002, x103003, x103004, x104000, x104001, x104002, x104003, x104004 => if x12 = true then (if (x103000.length : Int) = (x104000.length : Int) then (if x103002 = x104002 then (some (x103003 == x104003)) else (some false)) else (some false)) else ((trace_Ended.f x103000 x103001 x103002 x103003 x103004).bind fun t107 => (if t107 = true then (if x104003 ≤ x103003 then (some (decide ((x104000.length : Int) ≤ (x103000.length : Int)))) else (some false)) else ((trace_Ended.f x104000 x104001 x104002 x104003 x104004).bind fun t108 => (if t108 = true then ((trace_agree.f k x104000 x104001 x104002 x104003 x104004 x103000 x103001 x103002 x103003 x103004).bind fun t109 => (some t109)) else (some true)))))
noncomputable def trace_agree.f : Nat → List Int → Bool → Int → Int → Int → List Int → Bool → Int → Int → Int → Option (Bool)
  | 0, _, _, _, _, _, _, _, _, _, _ => none
  | k + 1, l0_0, a0_1, a0_2, a0_3, a0_4, l1_0, a1_1, a1_2, a1_3, a1_4 => (trace_Begins.f l0_0 l1_0).bind fun t104 => (if t104 = true then ((trace_Ended.f l0_0 a0_1 a0_2 a0_3 a0_4).bind fun t105 => (if t105 = true then ((trace_Ended.f l1_0 a1_1 a1_2 a1_3 a1_4).bind fun t106 => (trace_agree.j0 k t106 l0_0 a0_1 a0_2 a0_3 a0_4 l1_0 a1_1 a1_2 a1_3 a1_4)) else (trace_agree.j0 k false l0_0 a0_1 a0_2 a0_3 a0_4 l1_0 a1_1 a1_2 a1_3 a1_4))) else (some false))
end
theorem trace_agree.mono_l : ∀ k, (∀ y0 y1 y2 y3 y4 y5 y6 y7 y8 y9, LeO (trace_agree.f k y0 y1 y2 y3 y4 y5 y6 y7 y8 y9) (trace_agree.f (k + 1) y0 y1 y2 y3 y4 y5 y6 y7 y8 y9)) ∧ (∀ y0 y1 y2 y3 y4 y5 y6 y7 y8 y9 y10, LeO (trace_agree.j0 k y0 y1 y2 y3 y4 y5 y6 y7 y8 y9 y10) (trace_agree.j0 (k + 1) y0 y1 y2 y3 y4 y5 y6 y7 y8 y9 y10))
  | 0 => ⟨fun _ _ _ _ _ _ _ _ _ _ r h => by simp [trace_agree.f] at h, fun _ _ _ _ _ _ _ _ _ _ _ r h => by simp [trace_agree.j0] at h⟩
  | k + 1 => by
    obtain ⟨ih0, ih1⟩ := trace_agree.mono_l k
    refine ⟨?_, ?_⟩
    · intro y0 y1 y2 y3 y4 y5 y6 y7 y8 y9
      unfold trace_agree.f
      repeat' first
      | (with_reducible exact ih0 _ _ _ _ _ _ _ _ _ _)
      | (with_reducible exact ih1 _ _ _ _ _ _ _ _ _ _ _)
      | (with_reducible exact LeO.refl _)
      | (with_reducible exact LeO.none _)
      | (with_reducible refine LeO.ite ?_ ?_)
      | (with_reducible refine LeO.bind ?_ (fun _ => ?_))
      | exact ih0 _ _ _ _ _ _ _ _ _ _
      | exact ih1 _ _ _ _ _ _ _ _ _ _ _
      | exact LeO.none _
      | refine LeO.ite ?_ ?_
      | refine LeO.bind ?_ (fun _ => ?_)
    · intro y0 y1 y2 y3 y4 y5 y6 y7 y8 y9 y10
      unfold trace_agree.j0
      repeat' first
      | (with_reducible exact ih0 _ _ _ _ _ _ _ _ _ _)
      | (with_reducible exact ih1 _ _ _ _ _ _ _ _ _ _ _)
      | (with_reducible exact LeO.refl _)
      | (with_reducible exact LeO.none _)
      | (with_reducible refine LeO.ite ?_ ?_)
      | (with_reducible refine LeO.bind ?_ (fun _ => ?_))
      | exact ih0 _ _ _ _ _ _ _ _ _ _
      | exact ih1 _ _ _ _ _ _ _ _ _ _ _
      | exact LeO.none _
      | refine LeO.ite ?_ ?_
      | refine LeO.bind ?_ (fun _ => ?_)
theorem trace_agree.mono : ∀ a0 a1 a2 a3 a4 a5 a6 a7 a8 a9 k, LeO (trace_agree.f k a0 a1 a2 a3 a4 a5 a6 a7 a8 a9) (trace_agree.f (k + 1) a0 a1 a2 a3 a4 a5 a6 a7 a8 a9) := by
  intro a0 a1 a2 a3 a4 a5 a6 a7 a8 a9 k
  obtain ⟨ih0, ih1⟩ := trace_agree.mono_l k
  exact ih0 a0 a1 a2 a3 a4 a5 a6 a7 a8 a9
set_option maxHeartbeats 8000000 in
set_option maxRecDepth 100000 in
theorem trace_agree.calls (k : Nat) : ∀ (A0_0 : Option Addr) (c0_0 : Nat) (l0_0 : List Int) (a0_1 : Bool) (a0_2 : Int) (a0_3 : Int) (a0_4 : Int) (A1_0 : Option Addr) (c1_0 : Nat) (l1_0 : List Int) (a1_1 : Bool) (a1_2 : Int) (a1_3 : Int) (a1_4 : Int) (r : Bool) (w : World) (hr0_0 : Kd.C (Kd.int .i64) w A0_0 l0_0.length l0_0) (hc0_0 : l0_0.length ≤ c0_0) (hr1_0 : Kd.C (Kd.int .i64) w A1_0 l1_0.length l1_0) (hc1_0 : l1_0.length ≤ c1_0) (h : trace_agree.f k l0_0 a0_1 a0_2 a0_3 a0_4 l1_0 a1_1 a1_2 a1_3 a1_4 = some r),
    Calls Tryd.prog 34 #[.agg #[.slice A0_0 l0_0.length c0_0, .bool a0_1, .int .i64 a0_2, .int .i64 a0_3, .int .i64 a0_4], .agg #[.slice A1_0 l1_0.length c1_0, .bool a1_1, .int .i64 a1_2, .int .i64 a1_3, .int .i64 a1_4]] w fun e w' => e = .returned (.bool r) ∧ Below w.heap.size w w' := by
  induction k using Nat.strongRecOn with
  | _ k ih =>
  intro A0_0 c0_0 l0_0 a0_1 a0_2 a0_3 a0_4 A1_0 c1_0 l1_0 a1_1 a1_2 a1_3 a1_4 r w hr0_0 hc0_0 hr1_0 hc1_0 h
  cases k with
  | zero => exact absurd h (by simp [trace_agree.f])
  | succ k =>
  simp only [trace_agree.f] at h
  have hu31 := Tryd.underlying31
  have HR0_0 := Aside0.mk hr0_0
  have HC0_0 := Aside0.mk hc0_0
  clear hr0_0 hc0_0
  have HR1_0 := Aside0.mk hr1_0
  have HC1_0 := Aside0.mk hc1_0
  clear hr1_0 hc1_0
  have HB := Aside0.mk (Below.refl w.heap.size w)
  have H : ((trace_Begins.f l0_0 l1_0).bind fun t104 => (if t104 = true then ((trace_Ended.f l0_0 a0_1 a0_2 a0_3 a0_4).bind fun t105 => (if t105 = true then ((trace_Ended.f l1_0 a1_1 a1_2 a1_3 a1_4).bind fun t106 => (trace_agree.j0 k t106 l0_0 a0_1 a0_2 a0_3 a0_4 l1_0 a1_1 a1_2 a1_3 a1_4)) else (trace_agree.j0 k false l0_0 a0_1 a0_2 a0_3 a0_4 l1_0 a1_1 a1_2 a1_3 a1_4))) else (some false))) = some r := h
  clear h
  replace H := Option.bind_eq_some_iff.mp H
  obtain ⟨t104, A30, H⟩ := H
  replace H : (if t104 = true then ((trace_Ended.f l0_0 a0_1 a0_2 a0_3 a0_4).bind fun t105 => (if t105 = true then ((trace_Ended.f l1_0 a1_1 a1_2 a1_3 a1_4).bind fun t106 => (trace_agree.j0 k t106 l0_0 a0_1 a0_2 a0_3 a0_4 l1_0 a1_1 a1_2 a1_3 a1_4)) else (trace_agree.j0 k false l0_0 a0_1 a0_2 a0_3 a0_4 l1_0 a1_1 a1_2 a1_3 a1_4))) else (some false)) = some r := H
  have A3 := Aside0.mk A30
  clear A30
  by_cases c4 : t104 = true
  · subst c4
    have H1 : ((trace_Ended.f l0_0 a0_1 a0_2 a0_3 a0_4).bind fun t105 => (if t105 = true then ((trace_Ended.f l1_0 a1_1 a1_2 a1_3 a1_4).bind fun t106 => (trace_agree.j0 k t106 l0_0 a0_1 a0_2 a0_3 a0_4 l1_0 a1_1 a1_2 a1_3 a1_4)) else (trace_agree.j0 k false l0_0 a0_1 a0_2 a0_3 a0_4 l1_0 a1_1 a1_2 a1_3 a1_4))) = some r := by rw [if_pos rfl] at H; exact H
    clear H
    have H := H1
    clear H1
    have HC5 := Aside0.mk H
    clear H
    go_enter Tryd.func34, Tryd.ntmps34
    go_upto_region 3 with (first | ((with_reducible refine gate_dst (N := 2) rfl ?_); (try (refine gate_guard (by rfl) ?_; dsimp only)); refine box_event ?hg (N := 2) ?hd (cs := #[.slice A0_0 l0_0.length c0_0, .bool a0_1, .int .i64 a0_2, .int .i64 a0_3, .int .i64 a0_4]) (t := 31) ?hr ?_; (case hd => rfl); (case hg => rfl); (case hr => first | (go_simp; done) | (go_simp; rfl)); intro gb102 hg w6 hbox hb; have n0_ := Aside0.mk (below_step (by repeat (first | (with_reducible first | exact HB.out | apply below_alloc | apply pw_below_drewN | apply below_drew1) | exact HB.out)) hb); have n1_ := Aside0.mk (hbox); have n2_ := Aside0.mk ((by rw [hg]; exact (below_size (by repeat (first | (with_reducible first | exact HB.out | apply below_alloc | apply pw_below_drewN | apply below_drew1) | exact HB.out))) : w.heap.size ≤ gb102)); have n3_ := Aside0.mk ((by rw [hg]; exact (below_size (by repeat (first | (with_reducible first | exact HB.out | apply below_alloc | apply pw_below_drewN | apply below_drew1) | exact HB.out))) : w.heap.size ≤ gb102)); clear HB; have HB := n0_; have BK102 := n1_; have GW102 := n2_; have GE102 := n3_; clear n0_ n1_ n2_ n3_; clear hb hbox hg) | ((with_reducible refine gate_dst (N := 3) rfl ?_); (try (refine gate_guard (by rfl) ?_; dsimp only)); refine box_event ?hg (N := 3) ?hd (cs := #[.slice A1_0 l1_0.length c1_0, .bool a1_1, .int .i64 a1_2, .int .i64 a1_3, .int .i64 a1_4]) (t := 31) ?hr ?_; (case hd => rfl); (case hg => rfl); (case hr => first | (go_simp; done) | (go_simp; rfl)); intro gb103 hg w7 hbox hb; have n0_ := Aside0.mk (blk_below (g := gb102) (o := .cells #[.slice A0_0 l0_0.length c0_0, .bool a0_1, .int .i64 a0_2, .int .i64 a0_3, .int .i64 a0_4] 31 (0, 0)) (by (with_reducible repeat (first | refine blk_drewN ?_ _ | refine blk_drew ?_ | refine blk_alloc ?_ _)); exact BK102.out) hb); have n1_ := Aside0.mk (below_step (by repeat (first | (with_reducible first | exact HB.out | apply below_alloc | apply pw_below_drewN | apply below_drew1 | refine below_set ?_ GE102.out) | exact HB.out)) hb); have n2_ := Aside0.mk (hbox); have n3_ := Aside0.mk ((by rw [hg]; exact (below_size (by repeat (first | (with_reducible first | exact HB.out | apply below_alloc | apply pw_below_drewN | apply below_drew1 | refine below_set ?_ GE102.out) | exact HB.out))) : w.heap.size ≤ gb103)); have n4_ := Aside0.mk ((by rw [hg]; exact (below_size (by repeat (first | (with_reducible first | exact HB.out | apply below_alloc | apply pw_below_drewN | apply below_drew1 | refine below_set ?_ GE102.out) | exact HB.out))) : w.heap.size ≤ gb103)); have n5_ := Aside0.mk ((by rw [hg]; exact Nat.ne_of_lt (blk_lt (g := gb102) (o := .cells #[.slice A0_0 l0_0.length c0_0, .bool a0_1, .int .i64 a0_2, .int .i64 a0_3, .int .i64 a0_4] 31 (0, 0)) (by (with_reducible repeat (first | refine blk_drewN ?_ _ | refine blk_drew ?_ | refine blk_alloc ?_ _)); exact BK102.out)) : gb102 ≠ gb103)); have n6_ := Aside0.mk ((by rw [hg]; exact Nat.ne_of_gt (blk_lt (g := gb102) (o := .cells #[.slice A0_0 l0_0.length c0_0, .bool a0_1, .int .i64 a0_2, .int .i64 a0_3, .int .i64 a0_4] 31 (0, 0)) (by (with_reducible repeat (first | refine blk_drewN ?_ _ | refine blk_drew ?_ | refine blk_alloc ?_ _)); exact BK102.out)) : gb103 ≠ gb102)); clear BK102; clear HB; have BK102 := n0_; have HB := n1_; have BK103 := n2_; have GW103 := n3_; have GE103 := n4_; have NB102_103 := n5_; have NB103_102 := n6_; clear n0_ n1_ n2_ n3_ n4_ n5_ n6_; clear hb hbox hg; have hnb8 := NB102_103.out; have hnc8 := NB103_102.out; have hcz9_0 : w7.cell? ⟨gb102, 0, none⟩ = some (.slice A0_0 l0_0.length c0_0) := (blk_cell BK102.out 0).trans rfl; have hcz9_1 : w7.cell? ⟨gb102, 1, none⟩ = some (.bool a0_1) := (blk_cell BK102.out 1).trans rfl; have hcz9_2 : w7.cell? ⟨gb102, 2, none⟩ = some (.int .i64 a0_2) := (blk_cell BK102.out 2).trans rfl; have hcz9_3 : w7.cell? ⟨gb102, 3, none⟩ = some (.int .i64 a0_3) := (blk_cell BK102.out 3).trans rfl; have hcz9_4 : w7.cell? ⟨gb102, 4, none⟩ = some (.int .i64 a0_4) := (blk_cell BK102.out 4).trans rfl; have hfz9_0 := blk_frozen BK102.out 0; have hfz9_1 := blk_frozen BK102.out 1; have hfz9_2 := blk_frozen BK102.out 2; have hfz9_3 := blk_frozen BK102.out 3; have hfz9_4 := blk_frozen BK102.out 4; have hcz10_0 : w7.cell? ⟨gb103, 0, none⟩ = some (.slice A1_0 l1_0.length c1_0) := (blk_cell BK103.out 0).trans rfl; have hcz10_1 : w7.cell? ⟨gb103, 1, none⟩ = some (.bool a1_1) := (blk_cell BK103.out 1).trans rfl; have hcz10_2 : w7.cell? ⟨gb103, 2, none⟩ = some (.int .i64 a1_2) := (blk_cell BK103.out 2).trans rfl; have hcz10_3 : w7.cell? ⟨gb103, 3, none⟩ = some (.int .i64 a1_3) := (blk_cell BK103.out 3).trans rfl; have hcz10_4 : w7.cell? ⟨gb103, 4, none⟩ = some (.int .i64 a1_4) := (blk_cell BK103.out 4).trans rfl; have hfz10_0 := blk_frozen BK103.out 0; have hfz10_1 := blk_frozen BK103.out 1; have hfz10_2 := blk_frozen BK103.out 2; have hfz10_3 := blk_frozen BK103.out 3; have hfz10_4 := blk_frozen BK103.out 4) | ((with_reducible refine gate_callee (f := 20) rfl ?_); refine goesL_ (some 10) rfl rfl Tryd.func20 (by kernel_rfl) rfl #[.slice A0_0 l0_0.length c0_0, .slice A1_0 l1_0.length c1_0] rfl (by (try simp only [List.map_toArray, List.map_cons, List.map_nil]); first | done | rfl | (simp only [List.length_drop, List.length_take]; rfl)) ?_; (with_reducible refine (trace_Begins.calls _ _ l0_0 _ _ l1_0 true _ ?side1 ?side2 ?side3 ?side4 A3.out).mono ?_); (case side1 => repeat (first | exact (Kd.C_below HR0_0.out HB.out) | (with_reducible refine Kd.C_alloc ?_ _) | (with_reducible refine Kd.C_drewN ?_ _) | (with_reducible refine Kd.C_drew ?_))); (case side2 => exact HC0_0.out); (case side3 => repeat (first | exact (Kd.C_below HR1_0.out HB.out) | (with_reducible refine Kd.C_alloc ?_ _) | (with_reducible refine Kd.C_drewN ?_ _) | (with_reducible refine Kd.C_drew ?_))); (case side4 => exact HC1_0.out); rintro e w' ⟨rfl, ⟨nd, rfl⟩⟩; refine ⟨_, rfl, ?_⟩))
    (try simp only [Act.put, List.setIfInBounds_toArray, List.set_cons_zero, List.set_cons_succ])
    go_cut [12] (fun v12 wc => ∃ (kq : Nat) (x12_4 : Bool), v12 = .bool x12_4 ∧ Aside0 (trace_agree.j0 kq x12_4 l0_0 a0_1 a0_2 a0_3 a0_4 l1_0 a1_1 a1_2 a1_3 a1_4 = some r) ∧ Aside0 (kq ≤ k) ∧ Aside0 (wc.heap[gb102]? = some (.cells #[(.slice A0_0 l0_0.length c0_0), .bool a0_1, .int .i64 a0_2, .int .i64 a0_3, .int .i64 a0_4] 31 (0, 0))) ∧ Aside0 (wc.heap[gb103]? = some (.cells #[(.slice A1_0 l1_0.length c1_0), .bool a1_1, .int .i64 a1_2, .int .i64 a1_3, .int .i64 a1_4] 31 (0, 0))) ∧ Aside0 (Below w.heap.size w wc))
    case first =>
      have H := HC5.out
      clear HC5
      replace H := Option.bind_eq_some_iff.mp H
      obtain ⟨t105, A110, H⟩ := H
      replace H : (if t105 = true then ((trace_Ended.f l1_0 a1_1 a1_2 a1_3 a1_4).bind fun t106 => (trace_agree.j0 k t106 l0_0 a0_1 a0_2 a0_3 a0_4 l1_0 a1_1 a1_2 a1_3 a1_4)) else (trace_agree.j0 k false l0_0 a0_1 a0_2 a0_3 a0_4 l1_0 a1_1 a1_2 a1_3 a1_4)) = some r := H
      have A11 := Aside0.mk A110
      clear A110
      by_cases c12 : t105 = true
      · subst c12
        have H1 : ((trace_Ended.f l1_0 a1_1 a1_2 a1_3 a1_4).bind fun t106 => (trace_agree.j0 k t106 l0_0 a0_1 a0_2 a0_3 a0_4 l1_0 a1_1 a1_2 a1_3 a1_4)) = some r := by rw [if_pos rfl] at H; exact H
        clear H
        have H := H1
        clear H1
        replace H := Option.bind_eq_some_iff.mp H
        obtain ⟨t106, A130, H⟩ := H
        replace H : (trace_agree.j0 k t106 l0_0 a0_1 a0_2 a0_3 a0_4 l1_0 a1_1 a1_2 a1_3 a1_4) = some r := H
        have A13 := Aside0.mk A130
        clear A130
        have H' := Aside0.mk H
        clear H
        have hnb14 := NB102_103.out
        have hnc14 := NB103_102.out
        have hcz15_0 : w7.cell? ⟨gb102, 0, none⟩ = some (.slice A0_0 l0_0.length c0_0) := (blk_cell BK102.out 0).trans rfl
        have hcz15_1 : w7.cell? ⟨gb102, 1, none⟩ = some (.bool a0_1) := (blk_cell BK102.out 1).trans rfl
        have hcz15_2 : w7.cell? ⟨gb102, 2, none⟩ = some (.int .i64 a0_2) := (blk_cell BK102.out 2).trans rfl
        have hcz15_3 : w7.cell? ⟨gb102, 3, none⟩ = some (.int .i64 a0_3) := (blk_cell BK102.out 3).trans rfl
        have hcz15_4 : w7.cell? ⟨gb102, 4, none⟩ = some (.int .i64 a0_4) := (blk_cell BK102.out 4).trans rfl
        have hfz15_0 := blk_frozen BK102.out 0
        have hfz15_1 := blk_frozen BK102.out 1
        have hfz15_2 := blk_frozen BK102.out 2
        have hfz15_3 := blk_frozen BK102.out 3
        have hfz15_4 := blk_frozen BK102.out 4
        go_wp2_with (first | ((with_reducible refine gate_callee (f := 14) rfl ?_); refine goesL_ (some 14) rfl rfl Tryd.func14 (by kernel_rfl) rfl #[.agg #[.slice A0_0 l0_0.length c0_0, .bool a0_1, .int .i64 a0_2, .int .i64 a0_3, .int .i64 a0_4]] rfl (by (try simp only [List.map_toArray, List.map_cons, List.map_nil]); first | done | rfl | (simp only [List.length_drop, List.length_take]; rfl)) ?_; (with_reducible refine (trace_Ended.calls _ _ l0_0 a0_1 a0_2 a0_3 a0_4 true _ ?side1 ?side2 A11.out).mono ?_); (case side1 => repeat (first | exact (Kd.C_below HR0_0.out HB.out) | (with_reducible refine Kd.C_alloc ?_ _) | (with_reducible refine Kd.C_drewN ?_ _) | (with_reducible refine Kd.C_drew ?_))); (case side2 => exact HC0_0.out); rintro e w16 ⟨rfl, hb⟩; refine ⟨_, rfl, ?_⟩; have n0_ := Aside0.mk (blk_below (g := gb102) (o := .cells #[.slice A0_0 l0_0.length c0_0, .bool a0_1, .int .i64 a0_2, .int .i64 a0_3, .int .i64 a0_4] 31 (0, 0)) (by (with_reducible repeat (first | refine blk_drewN ?_ _ | refine blk_drew ?_ | refine blk_alloc ?_ _)); exact BK102.out) hb); have n1_ := Aside0.mk (blk_below (g := gb103) (o := .cells #[.slice A1_0 l1_0.length c1_0, .bool a1_1, .int .i64 a1_2, .int .i64 a1_3, .int .i64 a1_4] 31 (0, 0)) (by (with_reducible repeat (first | refine blk_drewN ?_ _ | refine blk_drew ?_ | refine blk_alloc ?_ _)); exact BK103.out) hb); have n2_ := Aside0.mk (below_step (by repeat (first | (with_reducible first | exact HB.out | apply below_alloc | apply pw_below_drewN | apply below_drew1 | refine below_set ?_ GE102.out | refine below_set ?_ GE103.out) | exact HB.out)) hb); clear BK102; clear BK103; clear HB; have BK102 := n0_; have BK103 := n1_; have HB := n2_; clear n0_ n1_ n2_; (try clear hb); (try clear hb2); (try clear hk); (try clear hi); have hcz17_0 : w16.cell? ⟨gb103, 0, none⟩ = some (.slice A1_0 l1_0.length c1_0) := (blk_cell BK103.out 0).trans rfl; have hcz17_1 : w16.cell? ⟨gb103, 1, none⟩ = some (.bool a1_1) := (blk_cell BK103.out 1).trans rfl; have hcz17_2 : w16.cell? ⟨gb103, 2, none⟩ = some (.int .i64 a1_2) := (blk_cell BK103.out 2).trans rfl; have hcz17_3 : w16.cell? ⟨gb103, 3, none⟩ = some (.int .i64 a1_3) := (blk_cell BK103.out 3).trans rfl; have hcz17_4 : w16.cell? ⟨gb103, 4, none⟩ = some (.int .i64 a1_4) := (blk_cell BK103.out 4).trans rfl; have hfz17_0 := blk_frozen BK103.out 0; have hfz17_1 := blk_frozen BK103.out 1; have hfz17_2 := blk_frozen BK103.out 2; have hfz17_3 := blk_frozen BK103.out 3; have hfz17_4 := blk_frozen BK103.out 4) | (go_at_call 14; (with_reducible refine (trace_Ended.calls _ _ l1_0 a1_1 a1_2 a1_3 a1_4 t106 _ ?side1 ?side2 A13.out).mono ?_); (case side1 => repeat (first | exact (Kd.C_below HR1_0.out HB.out) | (with_reducible refine Kd.C_alloc ?_ _) | (with_reducible refine Kd.C_drewN ?_ _) | (with_reducible refine Kd.C_drew ?_))); (case side2 => exact HC1_0.out); rintro e w18 ⟨rfl, hb⟩; have n0_ := Aside0.mk (blk_below (g := gb102) (o := .cells #[.slice A0_0 l0_0.length c0_0, .bool a0_1, .int .i64 a0_2, .int .i64 a0_3, .int .i64 a0_4] 31 (0, 0)) (by (with_reducible repeat (first | refine blk_drewN ?_ _ | refine blk_drew ?_ | refine blk_alloc ?_ _)); exact BK102.out) hb); have n1_ := Aside0.mk (blk_below (g := gb103) (o := .cells #[.slice A1_0 l1_0.length c1_0, .bool a1_1, .int .i64 a1_2, .int .i64 a1_3, .int .i64 a1_4] 31 (0, 0)) (by (with_reducible repeat (first | refine blk_drewN ?_ _ | refine blk_drew ?_ | refine blk_alloc ?_ _)); exact BK103.out) hb); have n2_ := Aside0.mk (below_step (by repeat (first | (with_reducible first | exact HB.out | apply below_alloc | apply pw_below_drewN | apply below_drew1 | refine below_set ?_ GE102.out | refine below_set ?_ GE103.out) | exact HB.out)) hb); clear BK102; clear BK103; clear HB; have BK102 := n0_; have BK103 := n1_; have HB := n2_; clear n0_ n1_ n2_; (try clear hb); (try clear hb2); (try clear hk); (try clear hi)))
        go_meet
        case rel => exact ⟨_, (t106), (by first | rfl | (simp; done) | (simp [*]; done)), H', ⟨by first | omega | exact Nat.le_refl _⟩, ⟨by (with_reducible repeat (first | refine blk_drewN ?_ _ | refine blk_drew ?_ | refine blk_alloc ?_ _)); exact BK102.out⟩, ⟨by (with_reducible repeat (first | refine blk_drewN ?_ _ | refine blk_drew ?_ | refine blk_alloc ?_ _)); exact BK103.out⟩, ⟨by repeat (first | (with_reducible first | exact HB.out | apply below_alloc | apply pw_below_drewN | apply below_drew1 | refine below_set ?_ GE102.out | refine below_set ?_ GE103.out) | exact HB.out)⟩⟩
      · replace c12 := Bool.eq_false_iff.mpr c12
        subst c12
        have H1 : (trace_agree.j0 k false l0_0 a0_1 a0_2 a0_3 a0_4 l1_0 a1_1 a1_2 a1_3 a1_4) = some r := by rw [if_neg (show ¬ (false = true) by decide)] at H; exact H
        clear H
        have H := H1
        clear H1
        have H' := Aside0.mk H
        clear H
        have hnb19 := NB102_103.out
        have hnc19 := NB103_102.out
        have hcz20_0 : w7.cell? ⟨gb102, 0, none⟩ = some (.slice A0_0 l0_0.length c0_0) := (blk_cell BK102.out 0).trans rfl
        have hcz20_1 : w7.cell? ⟨gb102, 1, none⟩ = some (.bool a0_1) := (blk_cell BK102.out 1).trans rfl
        have hcz20_2 : w7.cell? ⟨gb102, 2, none⟩ = some (.int .i64 a0_2) := (blk_cell BK102.out 2).trans rfl
        have hcz20_3 : w7.cell? ⟨gb102, 3, none⟩ = some (.int .i64 a0_3) := (blk_cell BK102.out 3).trans rfl
        have hcz20_4 : w7.cell? ⟨gb102, 4, none⟩ = some (.int .i64 a0_4) := (blk_cell BK102.out 4).trans rfl
        have hfz20_0 := blk_frozen BK102.out 0
        have hfz20_1 := blk_frozen BK102.out 1
        have hfz20_2 := blk_frozen BK102.out 2
        have hfz20_3 := blk_frozen BK102.out 3
        have hfz20_4 := blk_frozen BK102.out 4
        go_wp2_with (first | ((with_reducible refine gate_callee (f := 14) rfl ?_); refine goesL_ (some 14) rfl rfl Tryd.func14 (by kernel_rfl) rfl #[.agg #[.slice A0_0 l0_0.length c0_0, .bool a0_1, .int .i64 a0_2, .int .i64 a0_3, .int .i64 a0_4]] rfl (by (try simp only [List.map_toArray, List.map_cons, List.map_nil]); first | done | rfl | (simp only [List.length_drop, List.length_take]; rfl)) ?_; (with_reducible refine (trace_Ended.calls _ _ l0_0 a0_1 a0_2 a0_3 a0_4 false _ ?side1 ?side2 A11.out).mono ?_); (case side1 => repeat (first | exact (Kd.C_below HR0_0.out HB.out) | (with_reducible refine Kd.C_alloc ?_ _) | (with_reducible refine Kd.C_drewN ?_ _) | (with_reducible refine Kd.C_drew ?_))); (case side2 => exact HC0_0.out); rintro e w21 ⟨rfl, hb⟩; refine ⟨_, rfl, ?_⟩; have n0_ := Aside0.mk (blk_below (g := gb102) (o := .cells #[.slice A0_0 l0_0.length c0_0, .bool a0_1, .int .i64 a0_2, .int .i64 a0_3, .int .i64 a0_4] 31 (0, 0)) (by (with_reducible repeat (first | refine blk_drewN ?_ _ | refine blk_drew ?_ | refine blk_alloc ?_ _)); exact BK102.out) hb); have n1_ := Aside0.mk (blk_below (g := gb103) (o := .cells #[.slice A1_0 l1_0.length c1_0, .bool a1_1, .int .i64 a1_2, .int .i64 a1_3, .int .i64 a1_4] 31 (0, 0)) (by (with_reducible repeat (first | refine blk_drewN ?_ _ | refine blk_drew ?_ | refine blk_alloc ?_ _)); exact BK103.out) hb); have n2_ := Aside0.mk (below_step (by repeat (first | (with_reducible first | exact HB.out | apply below_alloc | apply pw_below_drewN | apply below_drew1 | refine below_set ?_ GE102.out | refine below_set ?_ GE103.out) | exact HB.out)) hb); clear BK102; clear BK103; clear HB; have BK102 := n0_; have BK103 := n1_; have HB := n2_; clear n0_ n1_ n2_; (try clear hb); (try clear hb2); (try clear hk); (try clear hi)))
        go_meet
        case rel => exact ⟨_, (false), (by first | rfl | (simp; done) | (simp [*]; done)), H', ⟨by first | omega | exact Nat.le_refl _⟩, ⟨by (with_reducible repeat (first | refine blk_drewN ?_ _ | refine blk_drew ?_ | refine blk_alloc ?_ _)); exact BK102.out⟩, ⟨by (with_reducible repeat (first | refine blk_drewN ?_ _ | refine blk_drew ?_ | refine blk_alloc ?_ _)); exact BK103.out⟩, ⟨by repeat (first | (with_reducible first | exact HB.out | apply below_alloc | apply pw_below_drewN | apply below_drew1 | refine below_set ?_ GE102.out | refine below_set ?_ GE103.out) | exact HB.out)⟩⟩
    case rest =>
      clear HC5
      try clear c1
      try clear c2
      try clear p2
      try clear c3
      try clear c4
      try clear c8
      try clear c12
      try clear c14
      try clear c19
      try clear c20
      try clear hcz10_0
      try clear hcz10_1
      try clear hcz10_2
      try clear hcz10_3
      try clear hcz10_4
      try clear hcz15_0
      try clear hcz15_1
      try clear hcz15_2
      try clear hcz15_3
      try clear hcz15_4
      try clear hcz17_0
      try clear hcz17_1
      try clear hcz17_2
      try clear hcz17_3
      try clear hcz17_4
      try clear hcz20_0
      try clear hcz20_1
      try clear hcz20_2
      try clear hcz20_3
      try clear hcz20_4
      try clear hcz9_0
      try clear hcz9_1
      try clear hcz9_2
      try clear hcz9_3
      try clear hcz9_4
      try clear hfz10_0
      try clear hfz10_1
      try clear hfz10_2
      try clear hfz10_3
      try clear hfz10_4
      try clear hfz15_0
      try clear hfz15_1
      try clear hfz15_2
      try clear hfz15_3
      try clear hfz15_4
      try clear hfz17_0
      try clear hfz17_1
      try clear hfz17_2
      try clear hfz17_3
      try clear hfz17_4
      try clear hfz20_0
      try clear hfz20_1
      try clear hfz20_2
      try clear hfz20_3
      try clear hfz20_4
      try clear hfz9_0
      try clear hfz9_1
      try clear hfz9_2
      try clear hfz9_3
      try clear hfz9_4
      obtain ⟨kq, x12_4, rfl, HA, HJ4, BK102, BK103, HB⟩ := hcut
      cases kq with
      | zero => exact absurd HA.out (by simp [trace_agree.j0])
      | succ kj4 =>
        have H := HA.out
        clear HA
        simp only [trace_agree.j0] at H
        by_cases c22 : x12_4 = true
        · subst c22
          have H1 : (if (l0_0.length : Int) = (l1_0.length : Int) then (if a0_2 = a1_2 then (some (a0_3 == a1_3)) else (some false)) else (some false)) = some r := by rw [if_pos rfl] at H; exact H
          clear H
          have H := H1
          clear H1
          by_cases c23 : (l0_0.length : Int) = (l1_0.length : Int)
          · rw [if_pos c23] at H
            have c23b0 : ((l0_0.length : Int) == (l1_0.length : Int)) = true := beq_iff_eq.mpr c23
            have c23b1 : ((l0_0.length : Int) != (l1_0.length : Int)) = false := bne_eq_false_iff_eq.mpr c23
            have c23b2 : (l0_0.length == l1_0.length) = true := by first | simpa using c23 | (simp at c23 ⊢; omega)
            clear c23
            by_cases c24 : a0_2 = a1_2
            · rw [if_pos c24] at H
              have c24b0 : (a0_2 == a1_2) = true := beq_iff_eq.mpr c24
              have c24b1 : (a0_2 != a1_2) = false := bne_eq_false_iff_eq.mpr c24
              clear c24
              obtain rfl := Option.some.inj H
              have hnb25 := NB102_103.out
              have hnc25 := NB103_102.out
              have hcz26_0 : wc.cell? ⟨gb102, 0, none⟩ = some (.slice A0_0 l0_0.length c0_0) := (blk_cell BK102.out 0).trans rfl
              have hcz26_1 : wc.cell? ⟨gb102, 1, none⟩ = some (.bool a0_1) := (blk_cell BK102.out 1).trans rfl
              have hcz26_2 : wc.cell? ⟨gb102, 2, none⟩ = some (.int .i64 a0_2) := (blk_cell BK102.out 2).trans rfl
              have hcz26_3 : wc.cell? ⟨gb102, 3, none⟩ = some (.int .i64 a0_3) := (blk_cell BK102.out 3).trans rfl
              have hcz26_4 : wc.cell? ⟨gb102, 4, none⟩ = some (.int .i64 a0_4) := (blk_cell BK102.out 4).trans rfl
              have hfz26_0 := blk_frozen BK102.out 0
              have hfz26_1 := blk_frozen BK102.out 1
              have hfz26_2 := blk_frozen BK102.out 2
              have hfz26_3 := blk_frozen BK102.out 3
              have hfz26_4 := blk_frozen BK102.out 4
              have hcz27_0 : wc.cell? ⟨gb103, 0, none⟩ = some (.slice A1_0 l1_0.length c1_0) := (blk_cell BK103.out 0).trans rfl
              have hcz27_1 : wc.cell? ⟨gb103, 1, none⟩ = some (.bool a1_1) := (blk_cell BK103.out 1).trans rfl
              have hcz27_2 : wc.cell? ⟨gb103, 2, none⟩ = some (.int .i64 a1_2) := (blk_cell BK103.out 2).trans rfl
              have hcz27_3 : wc.cell? ⟨gb103, 3, none⟩ = some (.int .i64 a1_3) := (blk_cell BK103.out 3).trans rfl
              have hcz27_4 : wc.cell? ⟨gb103, 4, none⟩ = some (.int .i64 a1_4) := (blk_cell BK103.out 4).trans rfl
              have hfz27_0 := blk_frozen BK103.out 0
              have hfz27_1 := blk_frozen BK103.out 1
              have hfz27_2 := blk_frozen BK103.out 2
              have hfz27_3 := blk_frozen BK103.out 3
              have hfz27_4 := blk_frozen BK103.out 4
              go_wp2
              go_ret
              exact ⟨by first | rfl | (simp [errW_none, errW_some] <;> rfl) | (simp [*, errW_none, errW_some] <;> rfl), by repeat (first | (with_reducible first | exact HB.out | apply below_alloc | apply pw_below_drewN | apply below_drew1 | refine below_set ?_ GE102.out | refine below_set ?_ GE103.out) | exact HB.out)⟩
            · rw [if_neg c24] at H
              have c24b0 : (a0_2 == a1_2) = false := beq_eq_false_iff_ne.mpr c24
              have c24b1 : (a0_2 != a1_2) = true := bne_iff_ne.mpr c24
              obtain rfl := Option.some.inj H
              have hnb28 := NB102_103.out
              have hnc28 := NB103_102.out
              have hcz29_0 : wc.cell? ⟨gb102, 0, none⟩ = some (.slice A0_0 l0_0.length c0_0) := (blk_cell BK102.out 0).trans rfl
              have hcz29_1 : wc.cell? ⟨gb102, 1, none⟩ = some (.bool a0_1) := (blk_cell BK102.out 1).trans rfl
              have hcz29_2 : wc.cell? ⟨gb102, 2, none⟩ = some (.int .i64 a0_2) := (blk_cell BK102.out 2).trans rfl
              have hcz29_3 : wc.cell? ⟨gb102, 3, none⟩ = some (.int .i64 a0_3) := (blk_cell BK102.out 3).trans rfl
              have hcz29_4 : wc.cell? ⟨gb102, 4, none⟩ = some (.int .i64 a0_4) := (blk_cell BK102.out 4).trans rfl
              have hfz29_0 := blk_frozen BK102.out 0
              have hfz29_1 := blk_frozen BK102.out 1
              have hfz29_2 := blk_frozen BK102.out 2
              have hfz29_3 := blk_frozen BK102.out 3
              have hfz29_4 := blk_frozen BK102.out 4
              have hcz30_0 : wc.cell? ⟨gb103, 0, none⟩ = some (.slice A1_0 l1_0.length c1_0) := (blk_cell BK103.out 0).trans rfl
              have hcz30_1 : wc.cell? ⟨gb103, 1, none⟩ = some (.bool a1_1) := (blk_cell BK103.out 1).trans rfl
              have hcz30_2 : wc.cell? ⟨gb103, 2, none⟩ = some (.int .i64 a1_2) := (blk_cell BK103.out 2).trans rfl
              have hcz30_3 : wc.cell? ⟨gb103, 3, none⟩ = some (.int .i64 a1_3) := (blk_cell BK103.out 3).trans rfl
              have hcz30_4 : wc.cell? ⟨gb103, 4, none⟩ = some (.int .i64 a1_4) := (blk_cell BK103.out 4).trans rfl
              have hfz30_0 := blk_frozen BK103.out 0
              have hfz30_1 := blk_frozen BK103.out 1
              have hfz30_2 := blk_frozen BK103.out 2
              have hfz30_3 := blk_frozen BK103.out 3
              have hfz30_4 := blk_frozen BK103.out 4
              go_wp2
              go_ret
              exact ⟨by first | rfl | (simp [errW_none, errW_some] <;> rfl) | (simp [*, errW_none, errW_some] <;> rfl), by repeat (first | (with_reducible first | exact HB.out | apply below_alloc | apply pw_below_drewN | apply below_drew1 | refine below_set ?_ GE102.out | refine below_set ?_ GE103.out) | exact HB.out)⟩
          · rw [if_neg c23] at H
            have c23b0 : ((l0_0.length : Int) == (l1_0.length : Int)) = false := beq_eq_false_iff_ne.mpr c23
            have c23b1 : ((l0_0.length : Int) != (l1_0.length : Int)) = true := bne_iff_ne.mpr c23
            have c23b2 : (l0_0.length == l1_0.length) = false := by first | simpa using c23 | (simp at c23 ⊢; omega)
            obtain rfl := Option.some.inj H
            have hnb31 := NB102_103.out
            have hnc31 := NB103_102.out
            have hcz32_0 : wc.cell? ⟨gb102, 0, none⟩ = some (.slice A0_0 l0_0.length c0_0) := (blk_cell BK102.out 0).trans rfl
            have hcz32_1 : wc.cell? ⟨gb102, 1, none⟩ = some (.bool a0_1) := (blk_cell BK102.out 1).trans rfl
            have hcz32_2 : wc.cell? ⟨gb102, 2, none⟩ = some (.int .i64 a0_2) := (blk_cell BK102.out 2).trans rfl
            have hcz32_3 : wc.cell? ⟨gb102, 3, none⟩ = some (.int .i64 a0_3) := (blk_cell BK102.out 3).trans rfl
            have hcz32_4 : wc.cell? ⟨gb102, 4, none⟩ = some (.int .i64 a0_4) := (blk_cell BK102.out 4).trans rfl
            have hfz32_0 := blk_frozen BK102.out 0
            have hfz32_1 := blk_frozen BK102.out 1
            have hfz32_2 := blk_frozen BK102.out 2
            have hfz32_3 := blk_frozen BK102.out 3
            have hfz32_4 := blk_frozen BK102.out 4
            have hcz33_0 : wc.cell? ⟨gb103, 0, none⟩ = some (.slice A1_0 l1_0.length c1_0) := (blk_cell BK103.out 0).trans rfl
            have hcz33_1 : wc.cell? ⟨gb103, 1, none⟩ = some (.bool a1_1) := (blk_cell BK103.out 1).trans rfl
            have hcz33_2 : wc.cell? ⟨gb103, 2, none⟩ = some (.int .i64 a1_2) := (blk_cell BK103.out 2).trans rfl
            have hcz33_3 : wc.cell? ⟨gb103, 3, none⟩ = some (.int .i64 a1_3) := (blk_cell BK103.out 3).trans rfl
            have hcz33_4 : wc.cell? ⟨gb103, 4, none⟩ = some (.int .i64 a1_4) := (blk_cell BK103.out 4).trans rfl
            have hfz33_0 := blk_frozen BK103.out 0
            have hfz33_1 := blk_frozen BK103.out 1
            have hfz33_2 := blk_frozen BK103.out 2
            have hfz33_3 := blk_frozen BK103.out 3
            have hfz33_4 := blk_frozen BK103.out 4
            go_wp2
            go_ret
            exact ⟨by first | rfl | (simp [errW_none, errW_some] <;> rfl) | (simp [*, errW_none, errW_some] <;> rfl), by repeat (first | (with_reducible first | exact HB.out | apply below_alloc | apply pw_below_drewN | apply below_drew1 | refine below_set ?_ GE102.out | refine below_set ?_ GE103.out) | exact HB.out)⟩
        · replace c22 := Bool.eq_false_iff.mpr c22
          subst c22
          have H1 : ((trace_Ended.f l0_0 a0_1 a0_2 a0_3 a0_4).bind fun t107 => (if t107 = true then (if a1_3 ≤ a0_3 then (some (decide ((l1_0.length : Int) ≤ (l0_0.length : Int)))) else (some false)) else ((trace_Ended.f l1_0 a1_1 a1_2 a1_3 a1_4).bind fun t108 => (if t108 = true then ((trace_agree.f kj4 l1_0 a1_1 a1_2 a1_3 a1_4 l0_0 a0_1 a0_2 a0_3 a0_4).bind fun t109 => (some t109)) else (some true))))) = some r := by rw [if_neg (show ¬ (false = true) by decide)] at H; exact H
          clear H
          have H := H1
          clear H1
          replace H := Option.bind_eq_some_iff.mp H
          obtain ⟨t107, A340, H⟩ := H
          replace H : (if t107 = true then (if a1_3 ≤ a0_3 then (some (decide ((l1_0.length : Int) ≤ (l0_0.length : Int)))) else (some false)) else ((trace_Ended.f l1_0 a1_1 a1_2 a1_3 a1_4).bind fun t108 => (if t108 = true then ((trace_agree.f kj4 l1_0 a1_1 a1_2 a1_3 a1_4 l0_0 a0_1 a0_2 a0_3 a0_4).bind fun t109 => (some t109)) else (some true)))) = some r := H
          have A34 := Aside0.mk A340
          clear A340
          by_cases c35 : t107 = true
          · subst c35
            have H1 : (if a1_3 ≤ a0_3 then (some (decide ((l1_0.length : Int) ≤ (l0_0.length : Int)))) else (some false)) = some r := by rw [if_pos rfl] at H; exact H
            clear H
            have H := H1
            clear H1
            by_cases c36 : a1_3 ≤ a0_3
            · rw [if_pos c36] at H
              have c36b0 : decide (a1_3 ≤ a0_3) = true := decide_eq_true c36
              clear c36
              obtain rfl := Option.some.inj H
              have hnb37 := NB102_103.out
              have hnc37 := NB103_102.out
              have hcz38_0 : wc.cell? ⟨gb102, 0, none⟩ = some (.slice A0_0 l0_0.length c0_0) := (blk_cell BK102.out 0).trans rfl
              have hcz38_1 : wc.cell? ⟨gb102, 1, none⟩ = some (.bool a0_1) := (blk_cell BK102.out 1).trans rfl
              have hcz38_2 : wc.cell? ⟨gb102, 2, none⟩ = some (.int .i64 a0_2) := (blk_cell BK102.out 2).trans rfl
              have hcz38_3 : wc.cell? ⟨gb102, 3, none⟩ = some (.int .i64 a0_3) := (blk_cell BK102.out 3).trans rfl
              have hcz38_4 : wc.cell? ⟨gb102, 4, none⟩ = some (.int .i64 a0_4) := (blk_cell BK102.out 4).trans rfl
              have hfz38_0 := blk_frozen BK102.out 0
              have hfz38_1 := blk_frozen BK102.out 1
              have hfz38_2 := blk_frozen BK102.out 2
              have hfz38_3 := blk_frozen BK102.out 3
              have hfz38_4 := blk_frozen BK102.out 4
              go_wp2_with (first | ((with_reducible refine gate_callee (f := 14) rfl ?_); refine goesL_ (some 42) rfl rfl Tryd.func14 (by kernel_rfl) rfl #[.agg #[.slice A0_0 l0_0.length c0_0, .bool a0_1, .int .i64 a0_2, .int .i64 a0_3, .int .i64 a0_4]] rfl (by (try simp only [List.map_toArray, List.map_cons, List.map_nil]); first | done | rfl | (simp only [List.length_drop, List.length_take]; rfl)) ?_; (with_reducible refine (trace_Ended.calls _ _ l0_0 a0_1 a0_2 a0_3 a0_4 true _ ?side1 ?side2 A34.out).mono ?_); (case side1 => repeat (first | exact (Kd.C_below HR0_0.out HB.out) | (with_reducible refine Kd.C_alloc ?_ _) | (with_reducible refine Kd.C_drewN ?_ _) | (with_reducible refine Kd.C_drew ?_))); (case side2 => exact HC0_0.out); rintro e w39 ⟨rfl, hb⟩; refine ⟨_, rfl, ?_⟩; have n0_ := Aside0.mk (blk_below (g := gb102) (o := .cells #[.slice A0_0 l0_0.length c0_0, .bool a0_1, .int .i64 a0_2, .int .i64 a0_3, .int .i64 a0_4] 31 (0, 0)) (by (with_reducible repeat (first | refine blk_drewN ?_ _ | refine blk_drew ?_ | refine blk_alloc ?_ _)); exact BK102.out) hb); have n1_ := Aside0.mk (blk_below (g := gb103) (o := .cells #[.slice A1_0 l1_0.length c1_0, .bool a1_1, .int .i64 a1_2, .int .i64 a1_3, .int .i64 a1_4] 31 (0, 0)) (by (with_reducible repeat (first | refine blk_drewN ?_ _ | refine blk_drew ?_ | refine blk_alloc ?_ _)); exact BK103.out) hb); have n2_ := Aside0.mk (below_step (by repeat (first | (with_reducible first | exact HB.out | apply below_alloc | apply pw_below_drewN | apply below_drew1 | refine below_set ?_ GE102.out | refine below_set ?_ GE103.out) | exact HB.out)) hb); clear BK102; clear BK103; clear HB; have BK102 := n0_; have BK103 := n1_; have HB := n2_; clear n0_ n1_ n2_; (try clear hb); (try clear hb2); (try clear hk); (try clear hi); have hcz40_0 : w39.cell? ⟨gb103, 0, none⟩ = some (.slice A1_0 l1_0.length c1_0) := (blk_cell BK103.out 0).trans rfl; have hcz40_1 : w39.cell? ⟨gb103, 1, none⟩ = some (.bool a1_1) := (blk_cell BK103.out 1).trans rfl; have hcz40_2 : w39.cell? ⟨gb103, 2, none⟩ = some (.int .i64 a1_2) := (blk_cell BK103.out 2).trans rfl; have hcz40_3 : w39.cell? ⟨gb103, 3, none⟩ = some (.int .i64 a1_3) := (blk_cell BK103.out 3).trans rfl; have hcz40_4 : w39.cell? ⟨gb103, 4, none⟩ = some (.int .i64 a1_4) := (blk_cell BK103.out 4).trans rfl; have hfz40_0 := blk_frozen BK103.out 0; have hfz40_1 := blk_frozen BK103.out 1; have hfz40_2 := blk_frozen BK103.out 2; have hfz40_3 := blk_frozen BK103.out 3; have hfz40_4 := blk_frozen BK103.out 4; have hcz41_0 : w39.cell? ⟨gb102, 0, none⟩ = some (.slice A0_0 l0_0.length c0_0) := (blk_cell BK102.out 0).trans rfl; have hcz41_1 : w39.cell? ⟨gb102, 1, none⟩ = some (.bool a0_1) := (blk_cell BK102.out 1).trans rfl; have hcz41_2 : w39.cell? ⟨gb102, 2, none⟩ = some (.int .i64 a0_2) := (blk_cell BK102.out 2).trans rfl; have hcz41_3 : w39.cell? ⟨gb102, 3, none⟩ = some (.int .i64 a0_3) := (blk_cell BK102.out 3).trans rfl; have hcz41_4 : w39.cell? ⟨gb102, 4, none⟩ = some (.int .i64 a0_4) := (blk_cell BK102.out 4).trans rfl; have hfz41_0 := blk_frozen BK102.out 0; have hfz41_1 := blk_frozen BK102.out 1; have hfz41_2 := blk_frozen BK102.out 2; have hfz41_3 := blk_frozen BK102.out 3; have hfz41_4 := blk_frozen BK102.out 4))
              go_ret
              exact ⟨by first | rfl | (simp [errW_none, errW_some] <;> rfl) | (simp [*, errW_none, errW_some] <;> rfl), by repeat (first | (with_reducible first | exact HB.out | apply below_alloc | apply pw_below_drewN | apply below_drew1 | refine below_set ?_ GE102.out | refine below_set ?_ GE103.out) | exact HB.out)⟩
            · rw [if_neg c36] at H
              have c36b0 : decide (a1_3 ≤ a0_3) = false := decide_eq_false c36
              clear c36
              obtain rfl := Option.some.inj H
              have hnb42 := NB102_103.out
              have hnc42 := NB103_102.out
              have hcz43_0 : wc.cell? ⟨gb102, 0, none⟩ = some (.slice A0_0 l0_0.length c0_0) := (blk_cell BK102.out 0).trans rfl
              have hcz43_1 : wc.cell? ⟨gb102, 1, none⟩ = some (.bool a0_1) := (blk_cell BK102.out 1).trans rfl
              have hcz43_2 : wc.cell? ⟨gb102, 2, none⟩ = some (.int .i64 a0_2) := (blk_cell BK102.out 2).trans rfl
              have hcz43_3 : wc.cell? ⟨gb102, 3, none⟩ = some (.int .i64 a0_3) := (blk_cell BK102.out 3).trans rfl
              have hcz43_4 : wc.cell? ⟨gb102, 4, none⟩ = some (.int .i64 a0_4) := (blk_cell BK102.out 4).trans rfl
              have hfz43_0 := blk_frozen BK102.out 0
              have hfz43_1 := blk_frozen BK102.out 1
              have hfz43_2 := blk_frozen BK102.out 2
              have hfz43_3 := blk_frozen BK102.out 3
              have hfz43_4 := blk_frozen BK102.out 4
              go_wp2_with (first | ((with_reducible refine gate_callee (f := 14) rfl ?_); refine goesL_ (some 42) rfl rfl Tryd.func14 (by kernel_rfl) rfl #[.agg #[.slice A0_0 l0_0.length c0_0, .bool a0_1, .int .i64 a0_2, .int .i64 a0_3, .int .i64 a0_4]] rfl (by (try simp only [List.map_toArray, List.map_cons, List.map_nil]); first | done | rfl | (simp only [List.length_drop, List.length_take]; rfl)) ?_; (with_reducible refine (trace_Ended.calls _ _ l0_0 a0_1 a0_2 a0_3 a0_4 true _ ?side1 ?side2 A34.out).mono ?_); (case side1 => repeat (first | exact (Kd.C_below HR0_0.out HB.out) | (with_reducible refine Kd.C_alloc ?_ _) | (with_reducible refine Kd.C_drewN ?_ _) | (with_reducible refine Kd.C_drew ?_))); (case side2 => exact HC0_0.out); rintro e w44 ⟨rfl, hb⟩; refine ⟨_, rfl, ?_⟩; have n0_ := Aside0.mk (blk_below (g := gb102) (o := .cells #[.slice A0_0 l0_0.length c0_0, .bool a0_1, .int .i64 a0_2, .int .i64 a0_3, .int .i64 a0_4] 31 (0, 0)) (by (with_reducible repeat (first | refine blk_drewN ?_ _ | refine blk_drew ?_ | refine blk_alloc ?_ _)); exact BK102.out) hb); have n1_ := Aside0.mk (blk_below (g := gb103) (o := .cells #[.slice A1_0 l1_0.length c1_0, .bool a1_1, .int .i64 a1_2, .int .i64 a1_3, .int .i64 a1_4] 31 (0, 0)) (by (with_reducible repeat (first | refine blk_drewN ?_ _ | refine blk_drew ?_ | refine blk_alloc ?_ _)); exact BK103.out) hb); have n2_ := Aside0.mk (below_step (by repeat (first | (with_reducible first | exact HB.out | apply below_alloc | apply pw_below_drewN | apply below_drew1 | refine below_set ?_ GE102.out | refine below_set ?_ GE103.out) | exact HB.out)) hb); clear BK102; clear BK103; clear HB; have BK102 := n0_; have BK103 := n1_; have HB := n2_; clear n0_ n1_ n2_; (try clear hb); (try clear hb2); (try clear hk); (try clear hi); have hcz45_0 : w44.cell? ⟨gb103, 0, none⟩ = some (.slice A1_0 l1_0.length c1_0) := (blk_cell BK103.out 0).trans rfl; have hcz45_1 : w44.cell? ⟨gb103, 1, none⟩ = some (.bool a1_1) := (blk_cell BK103.out 1).trans rfl; have hcz45_2 : w44.cell? ⟨gb103, 2, none⟩ = some (.int .i64 a1_2) := (blk_cell BK103.out 2).trans rfl; have hcz45_3 : w44.cell? ⟨gb103, 3, none⟩ = some (.int .i64 a1_3) := (blk_cell BK103.out 3).trans rfl; have hcz45_4 : w44.cell? ⟨gb103, 4, none⟩ = some (.int .i64 a1_4) := (blk_cell BK103.out 4).trans rfl; have hfz45_0 := blk_frozen BK103.out 0; have hfz45_1 := blk_frozen BK103.out 1; have hfz45_2 := blk_frozen BK103.out 2; have hfz45_3 := blk_frozen BK103.out 3; have hfz45_4 := blk_frozen BK103.out 4; have hcz46_0 : w44.cell? ⟨gb102, 0, none⟩ = some (.slice A0_0 l0_0.length c0_0) := (blk_cell BK102.out 0).trans rfl; have hcz46_1 : w44.cell? ⟨gb102, 1, none⟩ = some (.bool a0_1) := (blk_cell BK102.out 1).trans rfl; have hcz46_2 : w44.cell? ⟨gb102, 2, none⟩ = some (.int .i64 a0_2) := (blk_cell BK102.out 2).trans rfl; have hcz46_3 : w44.cell? ⟨gb102, 3, none⟩ = some (.int .i64 a0_3) := (blk_cell BK102.out 3).trans rfl; have hcz46_4 : w44.cell? ⟨gb102, 4, none⟩ = some (.int .i64 a0_4) := (blk_cell BK102.out 4).trans rfl; have hfz46_0 := blk_frozen BK102.out 0; have hfz46_1 := blk_frozen BK102.out 1; have hfz46_2 := blk_frozen BK102.out 2; have hfz46_3 := blk_frozen BK102.out 3; have hfz46_4 := blk_frozen BK102.out 4))
              go_ret
              exact ⟨by first | rfl | (simp [errW_none, errW_some] <;> rfl) | (simp [*, errW_none, errW_some] <;> rfl), by repeat (first | (with_reducible first | exact HB.out | apply below_alloc | apply pw_below_drewN | apply below_drew1 | refine below_set ?_ GE102.out | refine below_set ?_ GE103.out) | exact HB.out)⟩
          · replace c35 := Bool.eq_false_iff.mpr c35
            subst c35
            have H1 : ((trace_Ended.f l1_0 a1_1 a1_2 a1_3 a1_4).bind fun t108 => (if t108 = true then ((trace_agree.f kj4 l1_0 a1_1 a1_2 a1_3 a1_4 l0_0 a0_1 a0_2 a0_3 a0_4).bind fun t109 => (some t109)) else (some true))) = some r := by rw [if_neg (show ¬ (false = true) by decide)] at H; exact H
            clear H
            have H := H1
            clear H1
            replace H := Option.bind_eq_some_iff.mp H
            obtain ⟨t108, A470, H⟩ := H
            replace H : (if t108 = true then ((trace_agree.f kj4 l1_0 a1_1 a1_2 a1_3 a1_4 l0_0 a0_1 a0_2 a0_3 a0_4).bind fun t109 => (some t109)) else (some true)) = some r := H
            have A47 := Aside0.mk A470
            clear A470
            by_cases c48 : t108 = true
            · subst c48
              have H1 : ((trace_agree.f kj4 l1_0 a1_1 a1_2 a1_3 a1_4 l0_0 a0_1 a0_2 a0_3 a0_4).bind fun t109 => (some t109)) = some r := by rw [if_pos rfl] at H; exact H
              clear H
              have H := H1
              clear H1
              replace H := Option.bind_eq_some_iff.mp H
              obtain ⟨t109, A490, H⟩ := H
              replace H : (some t109) = some r := H
              have A49 := Aside0.mk A490
              clear A490
              obtain rfl := Option.some.inj H
              have hnb50 := NB102_103.out
              have hnc50 := NB103_102.out
              have hcz51_0 : wc.cell? ⟨gb102, 0, none⟩ = some (.slice A0_0 l0_0.length c0_0) := (blk_cell BK102.out 0).trans rfl
              have hcz51_1 : wc.cell? ⟨gb102, 1, none⟩ = some (.bool a0_1) := (blk_cell BK102.out 1).trans rfl
              have hcz51_2 : wc.cell? ⟨gb102, 2, none⟩ = some (.int .i64 a0_2) := (blk_cell BK102.out 2).trans rfl
              have hcz51_3 : wc.cell? ⟨gb102, 3, none⟩ = some (.int .i64 a0_3) := (blk_cell BK102.out 3).trans rfl
              have hcz51_4 : wc.cell? ⟨gb102, 4, none⟩ = some (.int .i64 a0_4) := (blk_cell BK102.out 4).trans rfl
              have hfz51_0 := blk_frozen BK102.out 0
              have hfz51_1 := blk_frozen BK102.out 1
              have hfz51_2 := blk_frozen BK102.out 2
              have hfz51_3 := blk_frozen BK102.out 3
              have hfz51_4 := blk_frozen BK102.out 4
              go_wp2_with (first | ((with_reducible refine gate_callee (f := 14) rfl ?_); refine goesL_ (some 42) rfl rfl Tryd.func14 (by kernel_rfl) rfl #[.agg #[.slice A0_0 l0_0.length c0_0, .bool a0_1, .int .i64 a0_2, .int .i64 a0_3, .int .i64 a0_4]] rfl (by (try simp only [List.map_toArray, List.map_cons, List.map_nil]); first | done | rfl | (simp only [List.length_drop, List.length_take]; rfl)) ?_; (with_reducible refine (trace_Ended.calls _ _ l0_0 a0_1 a0_2 a0_3 a0_4 false _ ?side1 ?side2 A34.out).mono ?_); (case side1 => repeat (first | exact (Kd.C_below HR0_0.out HB.out) | (with_reducible refine Kd.C_alloc ?_ _) | (with_reducible refine Kd.C_drewN ?_ _) | (with_reducible refine Kd.C_drew ?_))); (case side2 => exact HC0_0.out); rintro e w52 ⟨rfl, hb⟩; refine ⟨_, rfl, ?_⟩; have n0_ := Aside0.mk (blk_below (g := gb102) (o := .cells #[.slice A0_0 l0_0.length c0_0, .bool a0_1, .int .i64 a0_2, .int .i64 a0_3, .int .i64 a0_4] 31 (0, 0)) (by (with_reducible repeat (first | refine blk_drewN ?_ _ | refine blk_drew ?_ | refine blk_alloc ?_ _)); exact BK102.out) hb); have n1_ := Aside0.mk (blk_below (g := gb103) (o := .cells #[.slice A1_0 l1_0.length c1_0, .bool a1_1, .int .i64 a1_2, .int .i64 a1_3, .int .i64 a1_4] 31 (0, 0)) (by (with_reducible repeat (first | refine blk_drewN ?_ _ | refine blk_drew ?_ | refine blk_alloc ?_ _)); exact BK103.out) hb); have n2_ := Aside0.mk (below_step (by repeat (first | (with_reducible first | exact HB.out | apply below_alloc | apply pw_below_drewN | apply below_drew1 | refine below_set ?_ GE102.out | refine below_set ?_ GE103.out) | exact HB.out)) hb); clear BK102; clear BK103; clear HB; have BK102 := n0_; have BK103 := n1_; have HB := n2_; clear n0_ n1_ n2_; (try clear hb); (try clear hb2); (try clear hk); (try clear hi); have hcz53_0 : w52.cell? ⟨gb103, 0, none⟩ = some (.slice A1_0 l1_0.length c1_0) := (blk_cell BK103.out 0).trans rfl; have hcz53_1 : w52.cell? ⟨gb103, 1, none⟩ = some (.bool a1_1) := (blk_cell BK103.out 1).trans rfl; have hcz53_2 : w52.cell? ⟨gb103, 2, none⟩ = some (.int .i64 a1_2) := (blk_cell BK103.out 2).trans rfl; have hcz53_3 : w52.cell? ⟨gb103, 3, none⟩ = some (.int .i64 a1_3) := (blk_cell BK103.out 3).trans rfl; have hcz53_4 : w52.cell? ⟨gb103, 4, none⟩ = some (.int .i64 a1_4) := (blk_cell BK103.out 4).trans rfl; have hfz53_0 := blk_frozen BK103.out 0; have hfz53_1 := blk_frozen BK103.out 1; have hfz53_2 := blk_frozen BK103.out 2; have hfz53_3 := blk_frozen BK103.out 3; have hfz53_4 := blk_frozen BK103.out 4) | ((with_reducible refine gate_callee (f := 14) rfl ?_); refine goesL_ (some 59) rfl rfl Tryd.func14 (by kernel_rfl) rfl #[.agg #[.slice A1_0 l1_0.length c1_0, .bool a1_1, .int .i64 a1_2, .int .i64 a1_3, .int .i64 a1_4]] rfl (by (try simp only [List.map_toArray, List.map_cons, List.map_nil]); first | done | rfl | (simp only [List.length_drop, List.length_take]; rfl)) ?_; (with_reducible refine (trace_Ended.calls _ _ l1_0 a1_1 a1_2 a1_3 a1_4 true _ ?side1 ?side2 A47.out).mono ?_); (case side1 => repeat (first | exact (Kd.C_below HR1_0.out HB.out) | (with_reducible refine Kd.C_alloc ?_ _) | (with_reducible refine Kd.C_drewN ?_ _) | (with_reducible refine Kd.C_drew ?_))); (case side2 => exact HC1_0.out); rintro e w54 ⟨rfl, hb⟩; refine ⟨_, rfl, ?_⟩; have n0_ := Aside0.mk (blk_below (g := gb102) (o := .cells #[.slice A0_0 l0_0.length c0_0, .bool a0_1, .int .i64 a0_2, .int .i64 a0_3, .int .i64 a0_4] 31 (0, 0)) (by (with_reducible repeat (first | refine blk_drewN ?_ _ | refine blk_drew ?_ | refine blk_alloc ?_ _)); exact BK102.out) hb); have n1_ := Aside0.mk (blk_below (g := gb103) (o := .cells #[.slice A1_0 l1_0.length c1_0, .bool a1_1, .int .i64 a1_2, .int .i64 a1_3, .int .i64 a1_4] 31 (0, 0)) (by (with_reducible repeat (first | refine blk_drewN ?_ _ | refine blk_drew ?_ | refine blk_alloc ?_ _)); exact BK103.out) hb); have n2_ := Aside0.mk (below_step (by repeat (first | (with_reducible first | exact HB.out | apply below_alloc | apply pw_below_drewN | apply below_drew1 | refine below_set ?_ GE102.out | refine below_set ?_ GE103.out) | exact HB.out)) hb); clear BK102; clear BK103; clear HB; have BK102 := n0_; have BK103 := n1_; have HB := n2_; clear n0_ n1_ n2_; (try clear hb); (try clear hb2); (try clear hk); (try clear hi); have hcz55_0 : w54.cell? ⟨gb103, 0, none⟩ = some (.slice A1_0 l1_0.length c1_0) := (blk_cell BK103.out 0).trans rfl; have hcz55_1 : w54.cell? ⟨gb103, 1, none⟩ = some (.bool a1_1) := (blk_cell BK103.out 1).trans rfl; have hcz55_2 : w54.cell? ⟨gb103, 2, none⟩ = some (.int .i64 a1_2) := (blk_cell BK103.out 2).trans rfl; have hcz55_3 : w54.cell? ⟨gb103, 3, none⟩ = some (.int .i64 a1_3) := (blk_cell BK103.out 3).trans rfl; have hcz55_4 : w54.cell? ⟨gb103, 4, none⟩ = some (.int .i64 a1_4) := (blk_cell BK103.out 4).trans rfl; have hfz55_0 := blk_frozen BK103.out 0; have hfz55_1 := blk_frozen BK103.out 1; have hfz55_2 := blk_frozen BK103.out 2; have hfz55_3 := blk_frozen BK103.out 3; have hfz55_4 := blk_frozen BK103.out 4; have hcz56_0 : w54.cell? ⟨gb102, 0, none⟩ = some (.slice A0_0 l0_0.length c0_0) := (blk_cell BK102.out 0).trans rfl; have hcz56_1 : w54.cell? ⟨gb102, 1, none⟩ = some (.bool a0_1) := (blk_cell BK102.out 1).trans rfl; have hcz56_2 : w54.cell? ⟨gb102, 2, none⟩ = some (.int .i64 a0_2) := (blk_cell BK102.out 2).trans rfl; have hcz56_3 : w54.cell? ⟨gb102, 3, none⟩ = some (.int .i64 a0_3) := (blk_cell BK102.out 3).trans rfl; have hcz56_4 : w54.cell? ⟨gb102, 4, none⟩ = some (.int .i64 a0_4) := (blk_cell BK102.out 4).trans rfl; have hfz56_0 := blk_frozen BK102.out 0; have hfz56_1 := blk_frozen BK102.out 1; have hfz56_2 := blk_frozen BK102.out 2; have hfz56_3 := blk_frozen BK102.out 3; have hfz56_4 := blk_frozen BK102.out 4) | ((with_reducible refine gate_callee (f := 34) rfl ?_); refine goesL_ (some 62) rfl rfl Tryd.func34 (by kernel_rfl) rfl #[.agg #[.slice A1_0 l1_0.length c1_0, .bool a1_1, .int .i64 a1_2, .int .i64 a1_3, .int .i64 a1_4], .agg #[.slice A0_0 l0_0.length c0_0, .bool a0_1, .int .i64 a0_2, .int .i64 a0_3, .int .i64 a0_4]] rfl (by (try simp only [List.map_toArray, List.map_cons, List.map_nil]); first | done | rfl | (simp only [List.length_drop, List.length_take]; rfl)) ?_; (with_reducible refine (ih kj4 (by have := HJ4.out; omega) _ _ l1_0 a1_1 a1_2 a1_3 a1_4 _ _ l0_0 a0_1 a0_2 a0_3 a0_4 t109 _ ?side1 ?side2 ?side3 ?side4 A49.out).mono ?_); (case side1 => repeat (first | exact (Kd.C_below HR1_0.out HB.out) | (with_reducible refine Kd.C_alloc ?_ _) | (with_reducible refine Kd.C_drewN ?_ _) | (with_reducible refine Kd.C_drew ?_))); (case side2 => exact HC1_0.out); (case side3 => repeat (first | exact (Kd.C_below HR0_0.out HB.out) | (with_reducible refine Kd.C_alloc ?_ _) | (with_reducible refine Kd.C_drewN ?_ _) | (with_reducible refine Kd.C_drew ?_))); (case side4 => exact HC0_0.out); rintro e w57 ⟨rfl, hb⟩; refine ⟨_, rfl, ?_⟩; have n0_ := Aside0.mk (blk_below (g := gb102) (o := .cells #[.slice A0_0 l0_0.length c0_0, .bool a0_1, .int .i64 a0_2, .int .i64 a0_3, .int .i64 a0_4] 31 (0, 0)) (by (with_reducible repeat (first | refine blk_drewN ?_ _ | refine blk_drew ?_ | refine blk_alloc ?_ _)); exact BK102.out) hb); have n1_ := Aside0.mk (blk_below (g := gb103) (o := .cells #[.slice A1_0 l1_0.length c1_0, .bool a1_1, .int .i64 a1_2, .int .i64 a1_3, .int .i64 a1_4] 31 (0, 0)) (by (with_reducible repeat (first | refine blk_drewN ?_ _ | refine blk_drew ?_ | refine blk_alloc ?_ _)); exact BK103.out) hb); have n2_ := Aside0.mk (below_step (by repeat (first | (with_reducible first | exact HB.out | apply below_alloc | apply pw_below_drewN | apply below_drew1 | refine below_set ?_ GE102.out | refine below_set ?_ GE103.out) | exact HB.out)) hb); clear BK102; clear BK103; clear HB; have BK102 := n0_; have BK103 := n1_; have HB := n2_; clear n0_ n1_ n2_; (try clear hb); (try clear hb2); (try clear hk); (try clear hi)))
              go_ret
              exact ⟨by first | rfl | (simp [errW_none, errW_some] <;> rfl) | (simp [*, errW_none, errW_some] <;> rfl), by repeat (first | (with_reducible first | exact HB.out | apply below_alloc | apply pw_below_drewN | apply below_drew1 | refine below_set ?_ GE102.out | refine below_set ?_ GE103.out) | exact HB.out)⟩
            · replace c48 := Bool.eq_false_iff.mpr c48
              subst c48
              have H1 : (some true) = some r := by rw [if_neg (show ¬ (false = true) by decide)] at H; exact H
              clear H
              have H := H1
              clear H1
              obtain rfl := Option.some.inj H
              have hnb58 := NB102_103.out
              have hnc58 := NB103_102.out
              have hcz59_0 : wc.cell? ⟨gb102, 0, none⟩ = some (.slice A0_0 l0_0.length c0_0) := (blk_cell BK102.out 0).trans rfl
              have hcz59_1 : wc.cell? ⟨gb102, 1, none⟩ = some (.bool a0_1) := (blk_cell BK102.out 1).trans rfl
              have hcz59_2 : wc.cell? ⟨gb102, 2, none⟩ = some (.int .i64 a0_2) := (blk_cell BK102.out 2).trans rfl
              have hcz59_3 : wc.cell? ⟨gb102, 3, none⟩ = some (.int .i64 a0_3) := (blk_cell BK102.out 3).trans rfl
              have hcz59_4 : wc.cell? ⟨gb102, 4, none⟩ = some (.int .i64 a0_4) := (blk_cell BK102.out 4).trans rfl
              have hfz59_0 := blk_frozen BK102.out 0
              have hfz59_1 := blk_frozen BK102.out 1
              have hfz59_2 := blk_frozen BK102.out 2
              have hfz59_3 := blk_frozen BK102.out 3
              have hfz59_4 := blk_frozen BK102.out 4
              go_wp2_with (first | ((with_reducible refine gate_callee (f := 14) rfl ?_); refine goesL_ (some 42) rfl rfl Tryd.func14 (by kernel_rfl) rfl #[.agg #[.slice A0_0 l0_0.length c0_0, .bool a0_1, .int .i64 a0_2, .int .i64 a0_3, .int .i64 a0_4]] rfl (by (try simp only [List.map_toArray, List.map_cons, List.map_nil]); first | done | rfl | (simp only [List.length_drop, List.length_take]; rfl)) ?_; (with_reducible refine (trace_Ended.calls _ _ l0_0 a0_1 a0_2 a0_3 a0_4 false _ ?side1 ?side2 A34.out).mono ?_); (case side1 => repeat (first | exact (Kd.C_below HR0_0.out HB.out) | (with_reducible refine Kd.C_alloc ?_ _) | (with_reducible refine Kd.C_drewN ?_ _) | (with_reducible refine Kd.C_drew ?_))); (case side2 => exact HC0_0.out); rintro e w60 ⟨rfl, hb⟩; refine ⟨_, rfl, ?_⟩; have n0_ := Aside0.mk (blk_below (g := gb102) (o := .cells #[.slice A0_0 l0_0.length c0_0, .bool a0_1, .int .i64 a0_2, .int .i64 a0_3, .int .i64 a0_4] 31 (0, 0)) (by (with_reducible repeat (first | refine blk_drewN ?_ _ | refine blk_drew ?_ | refine blk_alloc ?_ _)); exact BK102.out) hb); have n1_ := Aside0.mk (blk_below (g := gb103) (o := .cells #[.slice A1_0 l1_0.length c1_0, .bool a1_1, .int .i64 a1_2, .int .i64 a1_3, .int .i64 a1_4] 31 (0, 0)) (by (with_reducible repeat (first | refine blk_drewN ?_ _ | refine blk_drew ?_ | refine blk_alloc ?_ _)); exact BK103.out) hb); have n2_ := Aside0.mk (below_step (by repeat (first | (with_reducible first | exact HB.out | apply below_alloc | apply pw_below_drewN | apply below_drew1 | refine below_set ?_ GE102.out | refine below_set ?_ GE103.out) | exact HB.out)) hb); clear BK102; clear BK103; clear HB; have BK102 := n0_; have BK103 := n1_; have HB := n2_; clear n0_ n1_ n2_; (try clear hb); (try clear hb2); (try clear hk); (try clear hi); have hcz61_0 : w60.cell? ⟨gb103, 0, none⟩ = some (.slice A1_0 l1_0.length c1_0) := (blk_cell BK103.out 0).trans rfl; have hcz61_1 : w60.cell? ⟨gb103, 1, none⟩ = some (.bool a1_1) := (blk_cell BK103.out 1).trans rfl; have hcz61_2 : w60.cell? ⟨gb103, 2, none⟩ = some (.int .i64 a1_2) := (blk_cell BK103.out 2).trans rfl; have hcz61_3 : w60.cell? ⟨gb103, 3, none⟩ = some (.int .i64 a1_3) := (blk_cell BK103.out 3).trans rfl; have hcz61_4 : w60.cell? ⟨gb103, 4, none⟩ = some (.int .i64 a1_4) := (blk_cell BK103.out 4).trans rfl; have hfz61_0 := blk_frozen BK103.out 0; have hfz61_1 := blk_frozen BK103.out 1; have hfz61_2 := blk_frozen BK103.out 2; have hfz61_3 := blk_frozen BK103.out 3; have hfz61_4 := blk_frozen BK103.out 4) | ((with_reducible refine gate_callee (f := 14) rfl ?_); refine goesL_ (some 59) rfl rfl Tryd.func14 (by kernel_rfl) rfl #[.agg #[.slice A1_0 l1_0.length c1_0, .bool a1_1, .int .i64 a1_2, .int .i64 a1_3, .int .i64 a1_4]] rfl (by (try simp only [List.map_toArray, List.map_cons, List.map_nil]); first | done | rfl | (simp only [List.length_drop, List.length_take]; rfl)) ?_; (with_reducible refine (trace_Ended.calls _ _ l1_0 a1_1 a1_2 a1_3 a1_4 false _ ?side1 ?side2 A47.out).mono ?_); (case side1 => repeat (first | exact (Kd.C_below HR1_0.out HB.out) | (with_reducible refine Kd.C_alloc ?_ _) | (with_reducible refine Kd.C_drewN ?_ _) | (with_reducible refine Kd.C_drew ?_))); (case side2 => exact HC1_0.out); rintro e w62 ⟨rfl, hb⟩; refine ⟨_, rfl, ?_⟩; have n0_ := Aside0.mk (blk_below (g := gb102) (o := .cells #[.slice A0_0 l0_0.length c0_0, .bool a0_1, .int .i64 a0_2, .int .i64 a0_3, .int .i64 a0_4] 31 (0, 0)) (by (with_reducible repeat (first | refine blk_drewN ?_ _ | refine blk_drew ?_ | refine blk_alloc ?_ _)); exact BK102.out) hb); have n1_ := Aside0.mk (blk_below (g := gb103) (o := .cells #[.slice A1_0 l1_0.length c1_0, .bool a1_1, .int .i64 a1_2, .int .i64 a1_3, .int .i64 a1_4] 31 (0, 0)) (by (with_reducible repeat (first | refine blk_drewN ?_ _ | refine blk_drew ?_ | refine blk_alloc ?_ _)); exact BK103.out) hb); have n2_ := Aside0.mk (below_step (by repeat (first | (with_reducible first | exact HB.out | apply below_alloc | apply pw_below_drewN | apply below_drew1 | refine below_set ?_ GE102.out | refine below_set ?_ GE103.out) | exact HB.out)) hb); clear BK102; clear BK103; clear HB; have BK102 := n0_; have BK103 := n1_; have HB := n2_; clear n0_ n1_ n2_; (try clear hb); (try clear hb2); (try clear hk); (try clear hi)))
              go_ret
              exact ⟨by first | rfl | (simp [errW_none, errW_some] <;> rfl) | (simp [*, errW_none, errW_some] <;> rfl), by repeat (first | (with_reducible first | exact HB.out | apply below_alloc | apply pw_below_drewN | apply below_drew1 | refine below_set ?_ GE102.out | refine below_set ?_ GE103.out) | exact HB.out)⟩
  · replace c4 := Bool.eq_false_iff.mpr c4
    subst c4
    have H1 : (some false) = some r := by rw [if_neg (show ¬ (false = true) by decide)] at H; exact H
    clear H
    have H := H1
    clear H1
    obtain rfl := Option.some.inj H
    go_enter Tryd.func34, Tryd.ntmps34
    go_wp2_with (first | ((with_reducible refine gate_dst (N := 2) rfl ?_); (try (refine gate_guard (by rfl) ?_; dsimp only)); refine box_event ?hg (N := 2) ?hd (cs := #[.slice A0_0 l0_0.length c0_0, .bool a0_1, .int .i64 a0_2, .int .i64 a0_3, .int .i64 a0_4]) (t := 31) ?hr ?_; (case hd => rfl); (case hg => rfl); (case hr => first | (go_simp; done) | (go_simp; rfl)); intro gb102 hg w63 hbox hb; have n0_ := Aside0.mk (below_step (by repeat (first | (with_reducible first | exact HB.out | apply below_alloc | apply pw_below_drewN | apply below_drew1) | exact HB.out)) hb); have n1_ := Aside0.mk (hbox); have n2_ := Aside0.mk ((by rw [hg]; exact (below_size (by repeat (first | (with_reducible first | exact HB.out | apply below_alloc | apply pw_below_drewN | apply below_drew1) | exact HB.out))) : w.heap.size ≤ gb102)); have n3_ := Aside0.mk ((by rw [hg]; exact (below_size (by repeat (first | (with_reducible first | exact HB.out | apply below_alloc | apply pw_below_drewN | apply below_drew1) | exact HB.out))) : w.heap.size ≤ gb102)); clear HB; have HB := n0_; have BK102 := n1_; have GW102 := n2_; have GE102 := n3_; clear n0_ n1_ n2_ n3_; clear hb hbox hg) | ((with_reducible refine gate_dst (N := 3) rfl ?_); (try (refine gate_guard (by rfl) ?_; dsimp only)); refine box_event ?hg (N := 3) ?hd (cs := #[.slice A1_0 l1_0.length c1_0, .bool a1_1, .int .i64 a1_2, .int .i64 a1_3, .int .i64 a1_4]) (t := 31) ?hr ?_; (case hd => rfl); (case hg => rfl); (case hr => first | (go_simp; done) | (go_simp; rfl)); intro gb103 hg w64 hbox hb; have n0_ := Aside0.mk (blk_below (g := gb102) (o := .cells #[.slice A0_0 l0_0.length c0_0, .bool a0_1, .int .i64 a0_2, .int .i64 a0_3, .int .i64 a0_4] 31 (0, 0)) (by (with_reducible repeat (first | refine blk_drewN ?_ _ | refine blk_drew ?_ | refine blk_alloc ?_ _)); exact BK102.out) hb); have n1_ := Aside0.mk (below_step (by repeat (first | (with_reducible first | exact HB.out | apply below_alloc | apply pw_below_drewN | apply below_drew1 | refine below_set ?_ GE102.out) | exact HB.out)) hb); have n2_ := Aside0.mk (hbox); have n3_ := Aside0.mk ((by rw [hg]; exact (below_size (by repeat (first | (with_reducible first | exact HB.out | apply below_alloc | apply pw_below_drewN | apply below_drew1 | refine below_set ?_ GE102.out) | exact HB.out))) : w.heap.size ≤ gb103)); have n4_ := Aside0.mk ((by rw [hg]; exact (below_size (by repeat (first | (with_reducible first | exact HB.out | apply below_alloc | apply pw_below_drewN | apply below_drew1 | refine below_set ?_ GE102.out) | exact HB.out))) : w.heap.size ≤ gb103)); have n5_ := Aside0.mk ((by rw [hg]; exact Nat.ne_of_lt (blk_lt (g := gb102) (o := .cells #[.slice A0_0 l0_0.length c0_0, .bool a0_1, .int .i64 a0_2, .int .i64 a0_3, .int .i64 a0_4] 31 (0, 0)) (by (with_reducible repeat (first | refine blk_drewN ?_ _ | refine blk_drew ?_ | refine blk_alloc ?_ _)); exact BK102.out)) : gb102 ≠ gb103)); have n6_ := Aside0.mk ((by rw [hg]; exact Nat.ne_of_gt (blk_lt (g := gb102) (o := .cells #[.slice A0_0 l0_0.length c0_0, .bool a0_1, .int .i64 a0_2, .int .i64 a0_3, .int .i64 a0_4] 31 (0, 0)) (by (with_reducible repeat (first | refine blk_drewN ?_ _ | refine blk_drew ?_ | refine blk_alloc ?_ _)); exact BK102.out)) : gb103 ≠ gb102)); clear BK102; clear HB; have BK102 := n0_; have HB := n1_; have BK103 := n2_; have GW103 := n3_; have GE103 := n4_; have NB102_103 := n5_; have NB103_102 := n6_; clear n0_ n1_ n2_ n3_ n4_ n5_ n6_; clear hb hbox hg; have hnb65 := NB102_103.out; have hnc65 := NB103_102.out; have hcz66_0 : w64.cell? ⟨gb102, 0, none⟩ = some (.slice A0_0 l0_0.length c0_0) := (blk_cell BK102.out 0).trans rfl; have hcz66_1 : w64.cell? ⟨gb102, 1, none⟩ = some (.bool a0_1) := (blk_cell BK102.out 1).trans rfl; have hcz66_2 : w64.cell? ⟨gb102, 2, none⟩ = some (.int .i64 a0_2) := (blk_cell BK102.out 2).trans rfl; have hcz66_3 : w64.cell? ⟨gb102, 3, none⟩ = some (.int .i64 a0_3) := (blk_cell BK102.out 3).trans rfl; have hcz66_4 : w64.cell? ⟨gb102, 4, none⟩ = some (.int .i64 a0_4) := (blk_cell BK102.out 4).trans rfl; have hfz66_0 := blk_frozen BK102.out 0; have hfz66_1 := blk_frozen BK102.out 1; have hfz66_2 := blk_frozen BK102.out 2; have hfz66_3 := blk_frozen BK102.out 3; have hfz66_4 := blk_frozen BK102.out 4; have hcz67_0 : w64.cell? ⟨gb103, 0, none⟩ = some (.slice A1_0 l1_0.length c1_0) := (blk_cell BK103.out 0).trans rfl; have hcz67_1 : w64.cell? ⟨gb103, 1, none⟩ = some (.bool a1_1) := (blk_cell BK103.out 1).trans rfl; have hcz67_2 : w64.cell? ⟨gb103, 2, none⟩ = some (.int .i64 a1_2) := (blk_cell BK103.out 2).trans rfl; have hcz67_3 : w64.cell? ⟨gb103, 3, none⟩ = some (.int .i64 a1_3) := (blk_cell BK103.out 3).trans rfl; have hcz67_4 : w64.cell? ⟨gb103, 4, none⟩ = some (.int .i64 a1_4) := (blk_cell BK103.out 4).trans rfl; have hfz67_0 := blk_frozen BK103.out 0; have hfz67_1 := blk_frozen BK103.out 1; have hfz67_2 := blk_frozen BK103.out 2; have hfz67_3 := blk_frozen BK103.out 3; have hfz67_4 := blk_frozen BK103.out 4) | ((with_reducible refine gate_callee (f := 20) rfl ?_); refine goesL_ (some 10) rfl rfl Tryd.func20 (by kernel_rfl) rfl #[.slice A0_0 l0_0.length c0_0, .slice A1_0 l1_0.length c1_0] rfl (by (try simp only [List.map_toArray, List.map_cons, List.map_nil]); first | done | rfl | (simp only [List.length_drop, List.length_take]; rfl)) ?_; (with_reducible refine (trace_Begins.calls _ _ l0_0 _ _ l1_0 false _ ?side1 ?side2 ?side3 ?side4 A3.out).mono ?_); (case side1 => repeat (first | exact (Kd.C_below HR0_0.out HB.out) | (with_reducible refine Kd.C_alloc ?_ _) | (with_reducible refine Kd.C_drewN ?_ _) | (with_reducible refine Kd.C_drew ?_))); (case side2 => exact HC0_0.out); (case side3 => repeat (first | exact (Kd.C_below HR1_0.out HB.out) | (with_reducible refine Kd.C_alloc ?_ _) | (with_reducible refine Kd.C_drewN ?_ _) | (with_reducible refine Kd.C_drew ?_))); (case side4 => exact HC1_0.out); rintro e w' ⟨rfl, ⟨nd, rfl⟩⟩; refine ⟨_, rfl, ?_⟩))
    go_ret
    exact ⟨by first | rfl | (simp [errW_none, errW_some] <;> rfl) | (simp [*, errW_none, errW_some] <;> rfl), by repeat (first | (with_reducible first | exact HB.out | apply below_alloc | apply pw_below_drewN | apply below_drew1 | refine below_set ?_ GE102.out | refine below_set ?_ GE103.out) | exact HB.out)⟩
mutual
noncomputable def trace_Agree.l0 : Nat → List (S31) → List (S31) → Int → Int → Option (Bool)
  | 0, _, _, _, _ => none
  | k + 1, x0, x7, x8, x9 => if x9 < x8 then (if 0 ≤ x9 then (if x9 < (x7.length : Int) then (if x9 ≤ (x0.length : Int) then ((some (x0.take (x9 : Int).toNat : List (S31))).bind fun y112 => (trace_Agree.l1 k x0 x7 x8 x9 y112 (y112.length : Int) 0 ((rd_T31 x7 x9).f0) ((rd_T31 x7 x9).f1) ((rd_T31 x7 x9).f2) ((rd_T31 x7 x9).f3) ((rd_T31 x7 x9).f4))) else (none)) else (none)) else (none)) else (some true)
noncomputable def trace_Agree.l1 : Nat → List (S31) → List (S31) → Int → Int → List (S31) → Int → Int → List Int → Bool → Int → Int → Int → Option (Bool)
  | 0, _, _, _, _, _, _, _, _, _, _, _, _ => none
  | k + 1, x0, x7, x8, x9, x16, x17, x18, x112000, x112001, x112002, x112003, x112004 => if x18 < x17 then (if 0 ≤ x18 then (if x18 < (x16.length : Int) then ((trace_agree.f k x112000 x112001 x112002 x112003 x112004 ((rd_T31 x16 x18).f0) ((rd_T31 x16 x18).f1) ((rd_T31 x16 x18).f2) ((rd_T31 x16 x18).f3) ((rd_T31 x16 x18).f4)).bind fun t118 => (if t118 = true then (trace_Agree.l1 k x0 x7 x8 x9 x16 x17 (wrap64 (x18 + 1)) x112000 x112001 x112002 x112003 x112004) else (some false))) else (none)) else (none)) else (trace_Agree.l0 k x0 x7 x8 (wrap64 (x9 + 1)))
end
noncomputable def trace_Agree.f (k : Nat) (l0 : List (S31)) : Option (Bool) := trace_Agree.l0 k l0 l0 (l0.length : Int) 0
set_option maxHeartbeats 8000000 in
set_option maxRecDepth 100000 in
theorem trace_Agree.calls (k : Nat) (A0 : Option Addr) (c0 : Nat) (l0 : List (S31)) (r : Bool) (w : World) (hr0 : Kd.C k31 w A0 l0.length l0) (hc0 : l0.length ≤ c0) (h : trace_Agree.f k l0 = some r) :
    Calls Tryd.prog 17 #[.slice A0 l0.length c0] w fun e w' => e = .returned (.bool r) ∧ Below w.heap.size w w' := by
  have hu31 := Tryd.underlying31
  have HR0 := Aside0.mk hr0
  have HC0 := Aside0.mk hc0
  clear hr0 hc0
  have HB := Aside0.mk (Below.refl w.heap.size w)
  have H : (trace_Agree.l0 k l0 l0 (l0.length : Int) 0) = some r := h
  clear h
  have H' := Aside0.mk H
  clear H
  go_enter Tryd.func17, Tryd.ntmps17
  go_wp2
  go_loopg [9] k (fun kq v9 w' => ∃ (x9_1 : Int), v9 = .int .i64 x9_1 ∧ Aside0 (trace_Agree.l0 kq l0 l0 (l0.length : Int) x9_1 = some r) ∧ Aside0 (kq ≤ k) ∧ Aside0 (Below w.heap.size w w'))
  case atStart => exact ⟨(0), (by first | rfl | (simp; done) | (simp [*]; done)), H', ⟨Nat.le_refl _⟩, ⟨by repeat (first | (with_reducible first | exact HB.out | apply below_alloc | apply pw_below_drewN | apply below_drew1) | exact HB.out)⟩⟩
  case round =>
    clear H'
    try clear c1
    obtain ⟨x9_1, rfl, HA, HK1, HB⟩ := hrel
    cases gk with
    | zero => exact absurd HA.out (by simp [trace_Agree.l0])
    | succ k1 =>
      have H := HA.out
      clear HA
      simp only [trace_Agree.l0] at H
      by_cases c2 : x9_1 < (l0.length : Int)
      · rw [if_pos c2] at H
        have c2b0 : decide (x9_1 < (l0.length : Int)) = true := decide_eq_true c2
        clear c2
        by_cases c3 : 0 ≤ x9_1
        · rw [if_pos c3] at H
          have c3b0 : decide (0 ≤ x9_1) = true := decide_eq_true c3
          clear c3
          by_cases c4 : x9_1 < (l0.length : Int)
          · rw [if_pos c4] at H
            have c4b0 : decide (x9_1 < (l0.length : Int)) = true := decide_eq_true c4
            clear c4
            have c5b0 := eq_true (of_decide_eq_true (by first | (with_reducible assumption) | assumption) : 0 ≤ x9_1)
            by_cases c6 : x9_1 ≤ (l0.length : Int)
            · rw [if_pos c6] at H
              have c6b0 := eq_true c6
              have c6b1 : decide (x9_1 ≤ (l0.length : Int)) = true := decide_eq_true c6
              clear c6
              obtain ⟨y112, hy112⟩ : ∃ y_ : List (S31), y_ = (l0.take (x9_1 : Int).toNat) := ⟨_, rfl⟩
              replace H : (trace_Agree.l1 k1 l0 l0 (l0.length : Int) x9_1 y112 (y112.length : Int) 0 ((rd_T31 l0 x9_1).f0) ((rd_T31 l0 x9_1).f1) ((rd_T31 l0 x9_1).f2) ((rd_T31 l0 x9_1).f3) ((rd_T31 l0 x9_1).f4)) = some r := by first | (rw [hy112]; with_reducible exact H) | (have H2_ := (Option.bind_some _ _).symm.trans H; rw [hy112]; with_reducible exact H2_) | (have H2_ := (Option.bind_some _ _).symm.trans H; with_reducible exact H2_) | with_reducible exact H | (rw [hy112]; exact H) | exact H
              have Ny112 := Aside0.mk hy112
              clear hy112
              have H' := Aside0.mk H
              clear H
              have p110 : 0 ≤ (x9_1 : Int) := of_decide_eq_true (by first | (with_reducible assumption) | assumption)
              have q110 : x9_1 < (l0.length : Int) := of_decide_eq_true (by first | (with_reducible assumption) | assumption)
              obtain ⟨ad110, A110_0, c110_0, e110, hx110_0, hx110_1, hx110_2, hx110_3, hx110_4, hl110_0, hi110_0⟩ := at_T31 HR0.out x9_1 p110 q110
              cases e110
              replace hx110_0 := (HB.out.cell (World.block_lt_of_cell? w _ hx110_0)).trans hx110_0
              replace hx110_1 := (HB.out.cell (World.block_lt_of_cell? w _ hx110_1)).trans hx110_1
              replace hx110_2 := (HB.out.cell (World.block_lt_of_cell? w _ hx110_2)).trans hx110_2
              replace hx110_3 := (HB.out.cell (World.block_lt_of_cell? w _ hx110_3)).trans hx110_3
              replace hx110_4 := (HB.out.cell (World.block_lt_of_cell? w _ hx110_4)).trans hx110_4
              have HR110_0 := Aside0.mk hi110_0
              have HC110_0 := Aside0.mk hl110_0
              clear hi110_0 hl110_0
              replace p110 := eq_true p110
              replace q110 := eq_true q110
              go_wp2_with (first | ((with_reducible refine gate_dst (N := 4) rfl ?_); refine box_event ?hg (N := 4) ?hd (cs := #[.slice none 0 0, .bool false, .int .i64 0, .int .i64 0, .int .i64 0]) (t := 31) ?hr ?_; (case hd => rfl); (case hg => rfl); (case hr => first | (go_simp; done) | (go_simp; rfl)); intro gb111 hg w7 hbox hb; have n0_ := Aside0.mk (below_step (by repeat (first | (with_reducible first | exact HB.out | apply below_alloc | apply pw_below_drewN | apply below_drew1) | exact HB.out)) hb); have n1_ := Aside0.mk (hbox); have n2_ := Aside0.mk ((by rw [hg]; exact (below_size (by repeat (first | (with_reducible first | exact HB.out | apply below_alloc | apply pw_below_drewN | apply below_drew1) | exact HB.out))) : w.heap.size ≤ gb111)); have n3_ := Aside0.mk ((by rw [hg]; exact (below_size (by repeat (first | (with_reducible first | exact HB.out | apply below_alloc | apply pw_below_drewN | apply below_drew1) | exact HB.out))) : w.heap.size ≤ gb111)); clear HB; have HB := n0_; have BK111 := n1_; have GW111 := n2_; have GE111 := n3_; clear n0_ n1_ n2_ n3_; clear hb hbox hg; have hcz8_0 : w7.cell? ⟨gb111, 0, none⟩ = some (.slice none 0 0) := (blk_cell BK111.out 0).trans rfl; have hcz8_1 : w7.cell? ⟨gb111, 1, none⟩ = some (.bool false) := (blk_cell BK111.out 1).trans rfl; have hcz8_2 : w7.cell? ⟨gb111, 2, none⟩ = some (.int .i64 0) := (blk_cell BK111.out 2).trans rfl; have hcz8_3 : w7.cell? ⟨gb111, 3, none⟩ = some (.int .i64 0) := (blk_cell BK111.out 3).trans rfl; have hcz8_4 : w7.cell? ⟨gb111, 4, none⟩ = some (.int .i64 0) := (blk_cell BK111.out 4).trans rfl; have hfz8_0 := blk_frozen BK111.out 0; have hfz8_1 := blk_frozen BK111.out 1; have hfz8_2 := blk_frozen BK111.out 2; have hfz8_3 := blk_frozen BK111.out 3; have hfz8_4 := blk_frozen BK111.out 4) | ((with_reducible refine gate_store (t := 31) (p := 4) rfl ?_); refine store_event (t := 31) (p := 4) (v := ?vo_w9) (w1 := (((((w7.setCell ⟨gb111, 0, none⟩ (.slice A110_0 ((rd_T31 l0 x9_1).f0).length c110_0)).setCell ⟨gb111, 1, none⟩ (.bool ((rd_T31 l0 x9_1).f1))).setCell ⟨gb111, 2, none⟩ (.int .i64 ((rd_T31 l0 x9_1).f2))).setCell ⟨gb111, 3, none⟩ (.int .i64 ((rd_T31 l0 x9_1).f3))).setCell ⟨gb111, 4, none⟩ (.int .i64 ((rd_T31 l0 x9_1).f4)))) ?hg ?ho ?hn ?hr ?_; (case ho => rfl); (case hg => rfl); (case hn => rfl); (case hr => first | (go_simp; done) | (go_simp; rfl)); intro w9 hw; have n0_ : Aside0 (w9.heap[gb111]? = some (.cells #[.slice A110_0 ((rd_T31 l0 x9_1).f0).length c110_0, .bool ((rd_T31 l0 x9_1).f1), .int .i64 ((rd_T31 l0 x9_1).f2), .int .i64 ((rd_T31 l0 x9_1).f3), .int .i64 ((rd_T31 l0 x9_1).f4)] 31 (0, 0))) := ⟨(by rw [hw]; exact (by (with_reducible repeat (first | refine blk_drewN ?_ _ | refine blk_drew ?_ | refine blk_alloc ?_ _)); refine blk_put (cs := #[.slice A110_0 ((rd_T31 l0 x9_1).f0).length c110_0, .bool ((rd_T31 l0 x9_1).f1), .int .i64 ((rd_T31 l0 x9_1).f2), .int .i64 ((rd_T31 l0 x9_1).f3), .int .i64 0]) ?_ 4 _ rfl; (with_reducible repeat (first | refine blk_drewN ?_ _ | refine blk_drew ?_ | refine blk_alloc ?_ _)); refine blk_put (cs := #[.slice A110_0 ((rd_T31 l0 x9_1).f0).length c110_0, .bool ((rd_T31 l0 x9_1).f1), .int .i64 ((rd_T31 l0 x9_1).f2), .int .i64 0, .int .i64 0]) ?_ 3 _ rfl; (with_reducible repeat (first | refine blk_drewN ?_ _ | refine blk_drew ?_ | refine blk_alloc ?_ _)); refine blk_put (cs := #[.slice A110_0 ((rd_T31 l0 x9_1).f0).length c110_0, .bool ((rd_T31 l0 x9_1).f1), .int .i64 0, .int .i64 0, .int .i64 0]) ?_ 2 _ rfl; (with_reducible repeat (first | refine blk_drewN ?_ _ | refine blk_drew ?_ | refine blk_alloc ?_ _)); refine blk_put (cs := #[.slice A110_0 ((rd_T31 l0 x9_1).f0).length c110_0, .bool false, .int .i64 0, .int .i64 0, .int .i64 0]) ?_ 1 _ rfl; (with_reducible repeat (first | refine blk_drewN ?_ _ | refine blk_drew ?_ | refine blk_alloc ?_ _)); refine blk_put (cs := #[.slice none 0 0, .bool false, .int .i64 0, .int .i64 0, .int .i64 0]) ?_ 0 _ rfl; (with_reducible repeat (first | refine blk_drewN ?_ _ | refine blk_drew ?_ | refine blk_alloc ?_ _)); exact BK111.out))⟩; have n1_ : Aside0 (Below w.heap.size w w9) := ⟨(by rw [hw]; exact (by repeat (first | (with_reducible first | exact HB.out | apply below_alloc | apply pw_below_drewN | apply below_drew1 | refine below_set ?_ GE111.out) | exact HB.out)))⟩; clear hw; clear BK111; clear HB; have BK111 := n0_; have HB := n1_; clear n0_ n1_; have q10 : (x9_1 : Int) ≤ ((l0.length : Int) : Int) := of_decide_eq_true (by first | (with_reducible assumption) | assumption); obtain ⟨i010, hi010, _, hsz10, _⟩ := info_parts info31; have hroom10 : l0.length ≤ c0 := HC0.out; have hC10 : Kd.C k31 _ (some ad110) l0.length l0 := HR0.out; have hcut10 := cut_to (P := Tryd.prog) 35 31 .i64 Tryd.underlying35 hi010 (some ad110) l0.length c0 x9_1 (of_decide_eq_true (by first | (with_reducible assumption) | assumption)) q10 hroom10; have hr10 := Kd.C_take (m := (x9_1 : Int).toNat) hC10 (by omega); have hy10 : y112.length = (x9_1 : Int).toNat := (by rw [Ny112.out, List.length_take]; omega); rw [← Ny112.out] at hr10; rw [← hy10] at hcut10; have HR115 := Aside0.mk hr10; have HC115 := Aside0.mk (show y112.length ≤ c0 from by omega); clear hr10 hC10 hroom10 hi010 hsz10; have KY10 := Aside0.mk hy10; clear hy10; replace q10 := eq_true q10))
              go_loopg [18] k1 (fun kq v18 w' => ∃ (x18_2 : Int), v18 = .int .i64 x18_2 ∧ Aside0 (trace_Agree.l1 kq l0 l0 (l0.length : Int) x9_1 y112 (y112.length : Int) x18_2 ((rd_T31 l0 x9_1).f0) ((rd_T31 l0 x9_1).f1) ((rd_T31 l0 x9_1).f2) ((rd_T31 l0 x9_1).f3) ((rd_T31 l0 x9_1).f4) = some r) ∧ Aside0 (kq ≤ k1) ∧ Aside0 (w'.heap[gb111]? = some (.cells #[(.slice A110_0 ((rd_T31 l0 x9_1).f0).length c110_0), .bool ((rd_T31 l0 x9_1).f1), .int .i64 ((rd_T31 l0 x9_1).f2), .int .i64 ((rd_T31 l0 x9_1).f3), .int .i64 ((rd_T31 l0 x9_1).f4)] 31 (0, 0))) ∧ Aside0 (Below w.heap.size w w'))
              case atStart => exact ⟨(0), (by first | rfl | (simp; done) | (simp [*]; done)), H', ⟨Nat.le_refl _⟩, ⟨by (with_reducible repeat (first | refine blk_drewN ?_ _ | refine blk_drew ?_ | refine blk_alloc ?_ _)); exact BK111.out⟩, ⟨by repeat (first | (with_reducible first | exact HB.out | apply below_alloc | apply pw_below_drewN | apply below_drew1 | refine below_set ?_ GE111.out) | exact HB.out)⟩⟩
              case round =>
                clear H'
                try clear c1
                try clear p1
                try clear q1
                try clear hx1
                try clear c2
                try clear c2b0
                try clear p2
                try clear c3
                try clear c3b0
                try clear c4
                try clear c4b0
                try clear c5
                try clear c5b0
                try clear c6
                try clear c6b0
                try clear c6b1
                try clear q10
                try clear hcz8_0
                try clear hcz8_1
                try clear hcz8_2
                try clear hcz8_3
                try clear hcz8_4
                try clear hfz8_0
                try clear hfz8_1
                try clear hfz8_2
                try clear hfz8_3
                try clear hfz8_4
                try clear hx110_0
                try clear hx110_1
                try clear hx110_2
                try clear hx110_3
                try clear hx110_4
                try clear p110
                try clear q10
                try clear q110
                obtain ⟨x18_2, rfl, HA, HK2, BK111, HB⟩ := hrel
                cases gk with
                | zero => exact absurd HA.out (by simp [trace_Agree.l1])
                | succ k2 =>
                  have H := HA.out
                  clear HA
                  simp only [trace_Agree.l1] at H
                  by_cases c11 : x18_2 < (y112.length : Int)
                  · rw [if_pos c11] at H
                    have c11b0 : decide (x18_2 < (y112.length : Int)) = true := decide_eq_true c11
                    clear c11
                    by_cases c12 : 0 ≤ x18_2
                    · rw [if_pos c12] at H
                      have c12b0 : decide (0 ≤ x18_2) = true := decide_eq_true c12
                      clear c12
                      by_cases c13 : x18_2 < (y112.length : Int)
                      · rw [if_pos c13] at H
                        have c13b0 : decide (x18_2 < (y112.length : Int)) = true := decide_eq_true c13
                        clear c13
                        replace H := Option.bind_eq_some_iff.mp H
                        obtain ⟨t118, A140, H⟩ := H
                        replace H : (if t118 = true then (trace_Agree.l1 k2 l0 l0 (l0.length : Int) x9_1 y112 (y112.length : Int) (wrap64 (x18_2 + 1)) ((rd_T31 l0 x9_1).f0) ((rd_T31 l0 x9_1).f1) ((rd_T31 l0 x9_1).f2) ((rd_T31 l0 x9_1).f3) ((rd_T31 l0 x9_1).f4)) else (some false)) = some r := H
                        have A14 := Aside0.mk A140
                        clear A140
                        by_cases c15 : t118 = true
                        · subst c15
                          have H1 : (trace_Agree.l1 k2 l0 l0 (l0.length : Int) x9_1 y112 (y112.length : Int) (wrap64 (x18_2 + 1)) ((rd_T31 l0 x9_1).f0) ((rd_T31 l0 x9_1).f1) ((rd_T31 l0 x9_1).f2) ((rd_T31 l0 x9_1).f3) ((rd_T31 l0 x9_1).f4)) = some r := by rw [if_pos rfl] at H; exact H
                          clear H
                          have H := H1
                          clear H1
                          have H' := Aside0.mk H
                          clear H
                          have p116 : 0 ≤ (x18_2 : Int) := of_decide_eq_true (by first | (with_reducible assumption) | assumption)
                          have q116 : x18_2 < (y112.length : Int) := of_decide_eq_true (by first | (with_reducible assumption) | assumption)
                          obtain ⟨ad116, A116_0, c116_0, e116, hx116_0, hx116_1, hx116_2, hx116_3, hx116_4, hl116_0, hi116_0⟩ := at_T31 HR115.out x18_2 p116 q116
                          obtain rfl : ad110 = ad116 := (by injection e116)
                          replace hx116_0 := (HB.out.cell (World.block_lt_of_cell? w _ hx116_0)).trans hx116_0
                          replace hx116_1 := (HB.out.cell (World.block_lt_of_cell? w _ hx116_1)).trans hx116_1
                          replace hx116_2 := (HB.out.cell (World.block_lt_of_cell? w _ hx116_2)).trans hx116_2
                          replace hx116_3 := (HB.out.cell (World.block_lt_of_cell? w _ hx116_3)).trans hx116_3
                          replace hx116_4 := (HB.out.cell (World.block_lt_of_cell? w _ hx116_4)).trans hx116_4
                          have HR116_0 := Aside0.mk hi116_0
                          have HC116_0 := Aside0.mk hl116_0
                          clear hi116_0 hl116_0
                          replace p116 := eq_true p116
                          replace q116 := eq_true q116
                          go_wp2_with (first | ((with_reducible refine gate_dst (N := 6) rfl ?_); refine box_event ?hg (N := 6) ?hd (cs := #[.slice none 0 0, .bool false, .int .i64 0, .int .i64 0, .int .i64 0]) (t := 31) ?hr ?_; (case hd => rfl); (case hg => rfl); (case hr => first | (go_simp; done) | (go_simp; rfl)); intro gb117 hg w16 hbox hb; have n0_ := Aside0.mk (blk_below (g := gb111) (o := .cells #[.slice A110_0 ((rd_T31 l0 x9_1).f0).length c110_0, .bool ((rd_T31 l0 x9_1).f1), .int .i64 ((rd_T31 l0 x9_1).f2), .int .i64 ((rd_T31 l0 x9_1).f3), .int .i64 ((rd_T31 l0 x9_1).f4)] 31 (0, 0)) (by (with_reducible repeat (first | refine blk_drewN ?_ _ | refine blk_drew ?_ | refine blk_alloc ?_ _)); exact BK111.out) hb); have n1_ := Aside0.mk (below_step (by repeat (first | (with_reducible first | exact HB.out | apply below_alloc | apply pw_below_drewN | apply below_drew1 | refine below_set ?_ GE111.out) | exact HB.out)) hb); have n2_ := Aside0.mk (hbox); have n3_ := Aside0.mk ((by rw [hg]; exact (below_size (by repeat (first | (with_reducible first | exact HB.out | apply below_alloc | apply pw_below_drewN | apply below_drew1 | refine below_set ?_ GE111.out) | exact HB.out))) : w.heap.size ≤ gb117)); have n4_ := Aside0.mk ((by rw [hg]; exact (below_size (by repeat (first | (with_reducible first | exact HB.out | apply below_alloc | apply pw_below_drewN | apply below_drew1 | refine below_set ?_ GE111.out) | exact HB.out))) : w.heap.size ≤ gb117)); have n5_ := Aside0.mk ((by rw [hg]; exact Nat.ne_of_lt (blk_lt (g := gb111) (o := .cells #[.slice A110_0 ((rd_T31 l0 x9_1).f0).length c110_0, .bool ((rd_T31 l0 x9_1).f1), .int .i64 ((rd_T31 l0 x9_1).f2), .int .i64 ((rd_T31 l0 x9_1).f3), .int .i64 ((rd_T31 l0 x9_1).f4)] 31 (0, 0)) (by (with_reducible repeat (first | refine blk_drewN ?_ _ | refine blk_drew ?_ | refine blk_alloc ?_ _)); exact BK111.out)) : gb111 ≠ gb117)); have n6_ := Aside0.mk ((by rw [hg]; exact Nat.ne_of_gt (blk_lt (g := gb111) (o := .cells #[.slice A110_0 ((rd_T31 l0 x9_1).f0).length c110_0, .bool ((rd_T31 l0 x9_1).f1), .int .i64 ((rd_T31 l0 x9_1).f2), .int .i64 ((rd_T31 l0 x9_1).f3), .int .i64 ((rd_T31 l0 x9_1).f4)] 31 (0, 0)) (by (with_reducible repeat (first | refine blk_drewN ?_ _ | refine blk_drew ?_ | refine blk_alloc ?_ _)); exact BK111.out)) : gb117 ≠ gb111)); clear BK111; clear HB; have BK111 := n0_; have HB := n1_; have BK117 := n2_; have GW117 := n3_; have GE117 := n4_; have NB111_117 := n5_; have NB117_111 := n6_; clear n0_ n1_ n2_ n3_ n4_ n5_ n6_; clear hb hbox hg; have hnb17 := NB117_111.out; have hnc17 := NB111_117.out; have hcz18_0 : w16.cell? ⟨gb117, 0, none⟩ = some (.slice none 0 0) := (blk_cell BK117.out 0).trans rfl; have hcz18_1 : w16.cell? ⟨gb117, 1, none⟩ = some (.bool false) := (blk_cell BK117.out 1).trans rfl; have hcz18_2 : w16.cell? ⟨gb117, 2, none⟩ = some (.int .i64 0) := (blk_cell BK117.out 2).trans rfl; have hcz18_3 : w16.cell? ⟨gb117, 3, none⟩ = some (.int .i64 0) := (blk_cell BK117.out 3).trans rfl; have hcz18_4 : w16.cell? ⟨gb117, 4, none⟩ = some (.int .i64 0) := (blk_cell BK117.out 4).trans rfl; have hfz18_0 := blk_frozen BK117.out 0; have hfz18_1 := blk_frozen BK117.out 1; have hfz18_2 := blk_frozen BK117.out 2; have hfz18_3 := blk_frozen BK117.out 3; have hfz18_4 := blk_frozen BK117.out 4; have hcz19_0 : w16.cell? ⟨gb111, 0, none⟩ = some (.slice A110_0 ((rd_T31 l0 x9_1).f0).length c110_0) := (blk_cell BK111.out 0).trans rfl; have hcz19_1 : w16.cell? ⟨gb111, 1, none⟩ = some (.bool ((rd_T31 l0 x9_1).f1)) := (blk_cell BK111.out 1).trans rfl; have hcz19_2 : w16.cell? ⟨gb111, 2, none⟩ = some (.int .i64 ((rd_T31 l0 x9_1).f2)) := (blk_cell BK111.out 2).trans rfl; have hcz19_3 : w16.cell? ⟨gb111, 3, none⟩ = some (.int .i64 ((rd_T31 l0 x9_1).f3)) := (blk_cell BK111.out 3).trans rfl; have hcz19_4 : w16.cell? ⟨gb111, 4, none⟩ = some (.int .i64 ((rd_T31 l0 x9_1).f4)) := (blk_cell BK111.out 4).trans rfl; have hfz19_0 := blk_frozen BK111.out 0; have hfz19_1 := blk_frozen BK111.out 1; have hfz19_2 := blk_frozen BK111.out 2; have hfz19_3 := blk_frozen BK111.out 3; have hfz19_4 := blk_frozen BK111.out 4) | ((with_reducible refine gate_callee (f := 34) rfl ?_); refine goesL_ (some 24) rfl rfl Tryd.func34 (by kernel_rfl) rfl #[.agg #[.slice A110_0 ((rd_T31 l0 x9_1).f0).length c110_0, .bool ((rd_T31 l0 x9_1).f1), .int .i64 ((rd_T31 l0 x9_1).f2), .int .i64 ((rd_T31 l0 x9_1).f3), .int .i64 ((rd_T31 l0 x9_1).f4)], .agg #[.slice A116_0 ((rd_T31 y112 x18_2).f0).length c116_0, .bool ((rd_T31 y112 x18_2).f1), .int .i64 ((rd_T31 y112 x18_2).f2), .int .i64 ((rd_T31 y112 x18_2).f3), .int .i64 ((rd_T31 y112 x18_2).f4)]] rfl (by (try simp only [List.map_toArray, List.map_cons, List.map_nil]); first | done | rfl | (simp only [List.length_drop, List.length_take]; rfl)) ?_; (with_reducible refine (trace_agree.calls k2 _ _ ((rd_T31 l0 x9_1).f0) ((rd_T31 l0 x9_1).f1) ((rd_T31 l0 x9_1).f2) ((rd_T31 l0 x9_1).f3) ((rd_T31 l0 x9_1).f4) _ _ ((rd_T31 y112 x18_2).f0) ((rd_T31 y112 x18_2).f1) ((rd_T31 y112 x18_2).f2) ((rd_T31 y112 x18_2).f3) ((rd_T31 y112 x18_2).f4) true _ ?side1 ?side2 ?side3 ?side4 A14.out).mono ?_); (case side1 => exact Kd.C_below HR110_0.out (by repeat (first | (with_reducible first | exact HB.out | apply below_alloc | apply pw_below_drewN | apply below_drew1 | refine below_set ?_ GE111.out | refine below_set ?_ GE117.out) | exact HB.out))); (case side2 => exact HC110_0.out); (case side3 => exact Kd.C_below HR116_0.out (by repeat (first | (with_reducible first | exact HB.out | apply below_alloc | apply pw_below_drewN | apply below_drew1 | refine below_set ?_ GE111.out | refine below_set ?_ GE117.out) | exact HB.out))); (case side4 => exact HC116_0.out); rintro e w20 ⟨rfl, hb⟩; refine ⟨_, rfl, ?_⟩; have n0_ := Aside0.mk (blk_below (g := gb111) (o := .cells #[.slice A110_0 ((rd_T31 l0 x9_1).f0).length c110_0, .bool ((rd_T31 l0 x9_1).f1), .int .i64 ((rd_T31 l0 x9_1).f2), .int .i64 ((rd_T31 l0 x9_1).f3), .int .i64 ((rd_T31 l0 x9_1).f4)] 31 (0, 0)) (by (with_reducible repeat (first | refine blk_drewN ?_ _ | refine blk_drew ?_ | refine blk_alloc ?_ _)); refine blk_far ?_ NB111_117.out _; (with_reducible repeat (first | refine blk_drewN ?_ _ | refine blk_drew ?_ | refine blk_alloc ?_ _)); refine blk_far ?_ NB111_117.out _; (with_reducible repeat (first | refine blk_drewN ?_ _ | refine blk_drew ?_ | refine blk_alloc ?_ _)); refine blk_far ?_ NB111_117.out _; (with_reducible repeat (first | refine blk_drewN ?_ _ | refine blk_drew ?_ | refine blk_alloc ?_ _)); refine blk_far ?_ NB111_117.out _; (with_reducible repeat (first | refine blk_drewN ?_ _ | refine blk_drew ?_ | refine blk_alloc ?_ _)); refine blk_far ?_ NB111_117.out _; (with_reducible repeat (first | refine blk_drewN ?_ _ | refine blk_drew ?_ | refine blk_alloc ?_ _)); exact BK111.out) hb); have n1_ := Aside0.mk (blk_below (g := gb117) (o := .cells #[.slice A116_0 ((rd_T31 y112 x18_2).f0).length c116_0, .bool ((rd_T31 y112 x18_2).f1), .int .i64 ((rd_T31 y112 x18_2).f2), .int .i64 ((rd_T31 y112 x18_2).f3), .int .i64 ((rd_T31 y112 x18_2).f4)] 31 (0, 0)) (by (with_reducible repeat (first | refine blk_drewN ?_ _ | refine blk_drew ?_ | refine blk_alloc ?_ _)); refine blk_put (cs := #[.slice A116_0 ((rd_T31 y112 x18_2).f0).length c116_0, .bool ((rd_T31 y112 x18_2).f1), .int .i64 ((rd_T31 y112 x18_2).f2), .int .i64 ((rd_T31 y112 x18_2).f3), .int .i64 0]) ?_ 4 _ rfl; (with_reducible repeat (first | refine blk_drewN ?_ _ | refine blk_drew ?_ | refine blk_alloc ?_ _)); refine blk_put (cs := #[.slice A116_0 ((rd_T31 y112 x18_2).f0).length c116_0, .bool ((rd_T31 y112 x18_2).f1), .int .i64 ((rd_T31 y112 x18_2).f2), .int .i64 0, .int .i64 0]) ?_ 3 _ rfl; (with_reducible repeat (first | refine blk_drewN ?_ _ | refine blk_drew ?_ | refine blk_alloc ?_ _)); refine blk_put (cs := #[.slice A116_0 ((rd_T31 y112 x18_2).f0).length c116_0, .bool ((rd_T31 y112 x18_2).f1), .int .i64 0, .int .i64 0, .int .i64 0]) ?_ 2 _ rfl; (with_reducible repeat (first | refine blk_drewN ?_ _ | refine blk_drew ?_ | refine blk_alloc ?_ _)); refine blk_put (cs := #[.slice A116_0 ((rd_T31 y112 x18_2).f0).length c116_0, .bool false, .int .i64 0, .int .i64 0, .int .i64 0]) ?_ 1 _ rfl; (with_reducible repeat (first | refine blk_drewN ?_ _ | refine blk_drew ?_ | refine blk_alloc ?_ _)); refine blk_put (cs := #[.slice none 0 0, .bool false, .int .i64 0, .int .i64 0, .int .i64 0]) ?_ 0 _ rfl; (with_reducible repeat (first | refine blk_drewN ?_ _ | refine blk_drew ?_ | refine blk_alloc ?_ _)); exact BK117.out) hb); have n2_ := Aside0.mk (below_step (by repeat (first | (with_reducible first | exact HB.out | apply below_alloc | apply pw_below_drewN | apply below_drew1 | refine below_set ?_ GE111.out | refine below_set ?_ GE117.out) | exact HB.out)) hb); clear BK111; clear BK117; clear HB; have BK111 := n0_; have BK117 := n1_; have HB := n2_; clear n0_ n1_ n2_; (try clear hb); (try clear hb2); (try clear hk); (try clear hi)))
                          go_roundg k2
                          case measure => have := HK1.out; have := HK2.out; omega
                          case rel => exact ⟨(wrap64 (x18_2 + 1)), (by first | rfl | (simp; done) | (simp [*]; done)), H', ⟨by have := HK1.out; have := HK2.out; omega⟩, ⟨by (with_reducible repeat (first | refine blk_drewN ?_ _ | refine blk_drew ?_ | refine blk_alloc ?_ _)); exact BK111.out⟩, ⟨by repeat (first | (with_reducible first | exact HB.out | apply below_alloc | apply pw_below_drewN | apply below_drew1 | refine below_set ?_ GE111.out | refine below_set ?_ GE117.out) | exact HB.out)⟩⟩
                        · replace c15 := Bool.eq_false_iff.mpr c15
                          subst c15
                          have H1 : (some false) = some r := by rw [if_neg (show ¬ (false = true) by decide)] at H; exact H
                          clear H
                          have H := H1
                          clear H1
                          obtain rfl := Option.some.inj H
                          have p116 : 0 ≤ (x18_2 : Int) := of_decide_eq_true (by first | (with_reducible assumption) | assumption)
                          have q116 : x18_2 < (y112.length : Int) := of_decide_eq_true (by first | (with_reducible assumption) | assumption)
                          obtain ⟨ad116, A116_0, c116_0, e116, hx116_0, hx116_1, hx116_2, hx116_3, hx116_4, hl116_0, hi116_0⟩ := at_T31 HR115.out x18_2 p116 q116
                          obtain rfl : ad110 = ad116 := (by injection e116)
                          replace hx116_0 := (HB.out.cell (World.block_lt_of_cell? w _ hx116_0)).trans hx116_0
                          replace hx116_1 := (HB.out.cell (World.block_lt_of_cell? w _ hx116_1)).trans hx116_1
                          replace hx116_2 := (HB.out.cell (World.block_lt_of_cell? w _ hx116_2)).trans hx116_2
                          replace hx116_3 := (HB.out.cell (World.block_lt_of_cell? w _ hx116_3)).trans hx116_3
                          replace hx116_4 := (HB.out.cell (World.block_lt_of_cell? w _ hx116_4)).trans hx116_4
                          have HR116_0 := Aside0.mk hi116_0
                          have HC116_0 := Aside0.mk hl116_0
                          clear hi116_0 hl116_0
                          replace p116 := eq_true p116
                          replace q116 := eq_true q116
                          go_wp2_with (first | ((with_reducible refine gate_dst (N := 6) rfl ?_); refine box_event ?hg (N := 6) ?hd (cs := #[.slice none 0 0, .bool false, .int .i64 0, .int .i64 0, .int .i64 0]) (t := 31) ?hr ?_; (case hd => rfl); (case hg => rfl); (case hr => first | (go_simp; done) | (go_simp; rfl)); intro gb117 hg w21 hbox hb; have n0_ := Aside0.mk (blk_below (g := gb111) (o := .cells #[.slice A110_0 ((rd_T31 l0 x9_1).f0).length c110_0, .bool ((rd_T31 l0 x9_1).f1), .int .i64 ((rd_T31 l0 x9_1).f2), .int .i64 ((rd_T31 l0 x9_1).f3), .int .i64 ((rd_T31 l0 x9_1).f4)] 31 (0, 0)) (by (with_reducible repeat (first | refine blk_drewN ?_ _ | refine blk_drew ?_ | refine blk_alloc ?_ _)); exact BK111.out) hb); have n1_ := Aside0.mk (below_step (by repeat (first | (with_reducible first | exact HB.out | apply below_alloc | apply pw_below_drewN | apply below_drew1 | refine below_set ?_ GE111.out) | exact HB.out)) hb); have n2_ := Aside0.mk (hbox); have n3_ := Aside0.mk ((by rw [hg]; exact (below_size (by repeat (first | (with_reducible first | exact HB.out | apply below_alloc | apply pw_below_drewN | apply below_drew1 | refine below_set ?_ GE111.out) | exact HB.out))) : w.heap.size ≤ gb117)); have n4_ := Aside0.mk ((by rw [hg]; exact (below_size (by repeat (first | (with_reducible first | exact HB.out | apply below_alloc | apply pw_below_drewN | apply below_drew1 | refine below_set ?_ GE111.out) | exact HB.out))) : w.heap.size ≤ gb117)); have n5_ := Aside0.mk ((by rw [hg]; exact Nat.ne_of_lt (blk_lt (g := gb111) (o := .cells #[.slice A110_0 ((rd_T31 l0 x9_1).f0).length c110_0, .bool ((rd_T31 l0 x9_1).f1), .int .i64 ((rd_T31 l0 x9_1).f2), .int .i64 ((rd_T31 l0 x9_1).f3), .int .i64 ((rd_T31 l0 x9_1).f4)] 31 (0, 0)) (by (with_reducible repeat (first | refine blk_drewN ?_ _ | refine blk_drew ?_ | refine blk_alloc ?_ _)); exact BK111.out)) : gb111 ≠ gb117)); have n6_ := Aside0.mk ((by rw [hg]; exact Nat.ne_of_gt (blk_lt (g := gb111) (o := .cells #[.slice A110_0 ((rd_T31 l0 x9_1).f0).length c110_0, .bool ((rd_T31 l0 x9_1).f1), .int .i64 ((rd_T31 l0 x9_1).f2), .int .i64 ((rd_T31 l0 x9_1).f3), .int .i64 ((rd_T31 l0 x9_1).f4)] 31 (0, 0)) (by (with_reducible repeat (first | refine blk_drewN ?_ _ | refine blk_drew ?_ | refine blk_alloc ?_ _)); exact BK111.out)) : gb117 ≠ gb111)); clear BK111; clear HB; have BK111 := n0_; have HB := n1_; have BK117 := n2_; have GW117 := n3_; have GE117 := n4_; have NB111_117 := n5_; have NB117_111 := n6_; clear n0_ n1_ n2_ n3_ n4_ n5_ n6_; clear hb hbox hg; have hnb22 := NB117_111.out; have hnc22 := NB111_117.out; have hcz23_0 : w21.cell? ⟨gb117, 0, none⟩ = some (.slice none 0 0) := (blk_cell BK117.out 0).trans rfl; have hcz23_1 : w21.cell? ⟨gb117, 1, none⟩ = some (.bool false) := (blk_cell BK117.out 1).trans rfl; have hcz23_2 : w21.cell? ⟨gb117, 2, none⟩ = some (.int .i64 0) := (blk_cell BK117.out 2).trans rfl; have hcz23_3 : w21.cell? ⟨gb117, 3, none⟩ = some (.int .i64 0) := (blk_cell BK117.out 3).trans rfl; have hcz23_4 : w21.cell? ⟨gb117, 4, none⟩ = some (.int .i64 0) := (blk_cell BK117.out 4).trans rfl; have hfz23_0 := blk_frozen BK117.out 0; have hfz23_1 := blk_frozen BK117.out 1; have hfz23_2 := blk_frozen BK117.out 2; have hfz23_3 := blk_frozen BK117.out 3; have hfz23_4 := blk_frozen BK117.out 4; have hcz24_0 : w21.cell? ⟨gb111, 0, none⟩ = some (.slice A110_0 ((rd_T31 l0 x9_1).f0).length c110_0) := (blk_cell BK111.out 0).trans rfl; have hcz24_1 : w21.cell? ⟨gb111, 1, none⟩ = some (.bool ((rd_T31 l0 x9_1).f1)) := (blk_cell BK111.out 1).trans rfl; have hcz24_2 : w21.cell? ⟨gb111, 2, none⟩ = some (.int .i64 ((rd_T31 l0 x9_1).f2)) := (blk_cell BK111.out 2).trans rfl; have hcz24_3 : w21.cell? ⟨gb111, 3, none⟩ = some (.int .i64 ((rd_T31 l0 x9_1).f3)) := (blk_cell BK111.out 3).trans rfl; have hcz24_4 : w21.cell? ⟨gb111, 4, none⟩ = some (.int .i64 ((rd_T31 l0 x9_1).f4)) := (blk_cell BK111.out 4).trans rfl; have hfz24_0 := blk_frozen BK111.out 0; have hfz24_1 := blk_frozen BK111.out 1; have hfz24_2 := blk_frozen BK111.out 2; have hfz24_3 := blk_frozen BK111.out 3; have hfz24_4 := blk_frozen BK111.out 4) | ((with_reducible refine gate_callee (f := 34) rfl ?_); refine goesL_ (some 24) rfl rfl Tryd.func34 (by kernel_rfl) rfl #[.agg #[.slice A110_0 ((rd_T31 l0 x9_1).f0).length c110_0, .bool ((rd_T31 l0 x9_1).f1), .int .i64 ((rd_T31 l0 x9_1).f2), .int .i64 ((rd_T31 l0 x9_1).f3), .int .i64 ((rd_T31 l0 x9_1).f4)], .agg #[.slice A116_0 ((rd_T31 y112 x18_2).f0).length c116_0, .bool ((rd_T31 y112 x18_2).f1), .int .i64 ((rd_T31 y112 x18_2).f2), .int .i64 ((rd_T31 y112 x18_2).f3), .int .i64 ((rd_T31 y112 x18_2).f4)]] rfl (by (try simp only [List.map_toArray, List.map_cons, List.map_nil]); first | done | rfl | (simp only [List.length_drop, List.length_take]; rfl)) ?_; (with_reducible refine (trace_agree.calls k2 _ _ ((rd_T31 l0 x9_1).f0) ((rd_T31 l0 x9_1).f1) ((rd_T31 l0 x9_1).f2) ((rd_T31 l0 x9_1).f3) ((rd_T31 l0 x9_1).f4) _ _ ((rd_T31 y112 x18_2).f0) ((rd_T31 y112 x18_2).f1) ((rd_T31 y112 x18_2).f2) ((rd_T31 y112 x18_2).f3) ((rd_T31 y112 x18_2).f4) false _ ?side1 ?side2 ?side3 ?side4 A14.out).mono ?_); (case side1 => exact Kd.C_below HR110_0.out (by repeat (first | (with_reducible first | exact HB.out | apply below_alloc | apply pw_below_drewN | apply below_drew1 | refine below_set ?_ GE111.out | refine below_set ?_ GE117.out) | exact HB.out))); (case side2 => exact HC110_0.out); (case side3 => exact Kd.C_below HR116_0.out (by repeat (first | (with_reducible first | exact HB.out | apply below_alloc | apply pw_below_drewN | apply below_drew1 | refine below_set ?_ GE111.out | refine below_set ?_ GE117.out) | exact HB.out))); (case side4 => exact HC116_0.out); rintro e w25 ⟨rfl, hb⟩; refine ⟨_, rfl, ?_⟩; have n0_ := Aside0.mk (blk_below (g := gb111) (o := .cells #[.slice A110_0 ((rd_T31 l0 x9_1).f0).length c110_0, .bool ((rd_T31 l0 x9_1).f1), .int .i64 ((rd_T31 l0 x9_1).f2), .int .i64 ((rd_T31 l0 x9_1).f3), .int .i64 ((rd_T31 l0 x9_1).f4)] 31 (0, 0)) (by (with_reducible repeat (first | refine blk_drewN ?_ _ | refine blk_drew ?_ | refine blk_alloc ?_ _)); refine blk_far ?_ NB111_117.out _; (with_reducible repeat (first | refine blk_drewN ?_ _ | refine blk_drew ?_ | refine blk_alloc ?_ _)); refine blk_far ?_ NB111_117.out _; (with_reducible repeat (first | refine blk_drewN ?_ _ | refine blk_drew ?_ | refine blk_alloc ?_ _)); refine blk_far ?_ NB111_117.out _; (with_reducible repeat (first | refine blk_drewN ?_ _ | refine blk_drew ?_ | refine blk_alloc ?_ _)); refine blk_far ?_ NB111_117.out _; (with_reducible repeat (first | refine blk_drewN ?_ _ | refine blk_drew ?_ | refine blk_alloc ?_ _)); refine blk_far ?_ NB111_117.out _; (with_reducible repeat (first | refine blk_drewN ?_ _ | refine blk_drew ?_ | refine blk_alloc ?_ _)); exact BK111.out) hb); have n1_ := Aside0.mk (blk_below (g := gb117) (o := .cells #[.slice A116_0 ((rd_T31 y112 x18_2).f0).length c116_0, .bool ((rd_T31 y112 x18_2).f1), .int .i64 ((rd_T31 y112 x18_2).f2), .int .i64 ((rd_T31 y112 x18_2).f3), .int .i64 ((rd_T31 y112 x18_2).f4)] 31 (0, 0)) (by (with_reducible repeat (first | refine blk_drewN ?_ _ | refine blk_drew ?_ | refine blk_alloc ?_ _)); refine blk_put (cs := #[.slice A116_0 ((rd_T31 y112 x18_2).f0).length c116_0, .bool ((rd_T31 y112 x18_2).f1), .int .i64 ((rd_T31 y112 x18_2).f2), .int .i64 ((rd_T31 y112 x18_2).f3), .int .i64 0]) ?_ 4 _ rfl; (with_reducible repeat (first | refine blk_drewN ?_ _ | refine blk_drew ?_ | refine blk_alloc ?_ _)); refine blk_put (cs := #[.slice A116_0 ((rd_T31 y112 x18_2).f0).length c116_0, .bool ((rd_T31 y112 x18_2).f1), .int .i64 ((rd_T31 y112 x18_2).f2), .int .i64 0, .int .i64 0]) ?_ 3 _ rfl; (with_reducible repeat (first | refine blk_drewN ?_ _ | refine blk_drew ?_ | refine blk_alloc ?_ _)); refine blk_put (cs := #[.slice A116_0 ((rd_T31 y112 x18_2).f0).length c116_0, .bool ((rd_T31 y112 x18_2).f1), .int .i64 0, .int .i64 0, .int .i64 0]) ?_ 2 _ rfl; (with_reducible repeat (first | refine blk_drewN ?_ _ | refine blk_drew ?_ | refine blk_alloc ?_ _)); refine blk_put (cs := #[.slice A116_0 ((rd_T31 y112 x18_2).f0).length c116_0, .bool false, .int .i64 0, .int .i64 0, .int .i64 0]) ?_ 1 _ rfl; (with_reducible repeat (first | refine blk_drewN ?_ _ | refine blk_drew ?_ | refine blk_alloc ?_ _)); refine blk_put (cs := #[.slice none 0 0, .bool false, .int .i64 0, .int .i64 0, .int .i64 0]) ?_ 0 _ rfl; (with_reducible repeat (first | refine blk_drewN ?_ _ | refine blk_drew ?_ | refine blk_alloc ?_ _)); exact BK117.out) hb); have n2_ := Aside0.mk (below_step (by repeat (first | (with_reducible first | exact HB.out | apply below_alloc | apply pw_below_drewN | apply below_drew1 | refine below_set ?_ GE111.out | refine below_set ?_ GE117.out) | exact HB.out)) hb); clear BK111; clear BK117; clear HB; have BK111 := n0_; have BK117 := n1_; have HB := n2_; clear n0_ n1_ n2_; (try clear hb); (try clear hb2); (try clear hk); (try clear hi)))
                          go_ret
                          exact ⟨by first | rfl | (simp [errW_none, errW_some] <;> rfl) | (simp [*, errW_none, errW_some] <;> rfl), by repeat (first | (with_reducible first | exact HB.out | apply below_alloc | apply pw_below_drewN | apply below_drew1 | refine below_set ?_ GE111.out | refine below_set ?_ GE117.out) | exact HB.out)⟩
                      · rw [if_neg c13] at H
                        exact absurd H (by simp)
                    · rw [if_neg c12] at H
                      exact absurd H (by simp)
                  · rw [if_neg c11] at H
                    have c11b0 : decide (x18_2 < (y112.length : Int)) = false := decide_eq_false c11
                    clear c11
                    have H' := Aside0.mk H
                    clear H
                    go_wp2
                    go_roundg k2
                    case measure => have := HK1.out; have := HK2.out; omega
                    case rel => exact ⟨(wrap64 (x9_1 + 1)), (by first | rfl | (simp; done) | (simp [*]; done)), H', ⟨by have := HK1.out; have := HK2.out; omega⟩, ⟨by repeat (first | (with_reducible first | exact HB.out | apply below_alloc | apply pw_below_drewN | apply below_drew1 | refine below_set ?_ GE111.out) | exact HB.out)⟩⟩
            · rw [if_neg c6] at H
              exact absurd H (by simp)
          · rw [if_neg c4] at H
            exact absurd H (by simp)
        · rw [if_neg c3] at H
          exact absurd H (by simp)
      · rw [if_neg c2] at H
        have c2b0 : decide (x9_1 < (l0.length : Int)) = false := decide_eq_false c2
        clear c2
        obtain rfl := Option.some.inj H
        go_wp2
        go_ret
        exact ⟨by first | rfl | (simp [errW_none, errW_some] <;> rfl) | (simp [*, errW_none, errW_some] <;> rfl), by repeat (first | (with_reducible first | exact HB.out | apply below_alloc | apply pw_below_drewN | apply below_drew1) | exact HB.out)⟩
noncomputable def lockstitchlaw22_few.l0 : Nat → List (S27) → List (S27) → Int → Int → Option (Bool)
  | 0, _, _, _, _ => none
  | k + 1, x0, x5, x6, x7 => if x7 < x6 then (if 0 ≤ x7 then (if x7 < (x5.length : Int) then (if (((rd_T27 x5 x7).f0).length : Int) > 60 then (some false) else (lockstitchlaw22_few.l0 k x0 x5 x6 (wrap64 (x7 + 1)))) else (none)) else (none)) else (some (decide ((x0.length : Int) ≤ 8)))
noncomputable def lockstitchlaw22_few.f (k : Nat) (l0 : List (S27)) : Option (Bool) := lockstitchlaw22_few.l0 k l0 l0 (l0.length : Int) 0
end Go.Proofs.YtfkfpcciacplkaaDoor.T

namespace Go.Proofs.YtfkfpcciacplkaaDoor.T
open Go.RowKit Go.Proofs.YtfkfpcciacplkaaDoorW.PrintWords Go.Proofs.YtfkfpcciacplkaaDoorW.PrintLast Go.Proofs.YtfkfpcciacplkaaDoorW.PrintMore
attribute [local go_sem] max2_int min2_int max_two min_two max_three min_three max_four min_four
set_option linter.unusedVariables false
set_option linter.unusedSimpArgs false
open Go.Proofs.YtfkfpcciacplkaaDoor.F
open Go.Proofs.YtfkfpcciacplkaaDoor.TE
open Go.Proofs.YtfkfpcciacplkaaDoor.TRB
noncomputable def lockstitchref22_Ended.f (l0_0 : List Int) (a0_1 : Bool) (a0_2 : Int) (a0_3 : Int) (a0_4 : Int) : Option (Bool) := if a0_1 = true then (if a0_2 = 0 then (some true) else (some (a0_2 == 9))) else (some false)
set_option maxHeartbeats 8000000 in
set_option maxRecDepth 100000 in
theorem lockstitchref22_Ended.calls (A0_0 : Option Addr) (c0_0 : Nat) (l0_0 : List Int) (a0_1 : Bool) (a0_2 : Int) (a0_3 : Int) (a0_4 : Int) (r : Bool) (w : World) (hr0_0 : Kd.C (Kd.int .i64) w A0_0 l0_0.length l0_0) (hc0_0 : l0_0.length ≤ c0_0) (h : lockstitchref22_Ended.f l0_0 a0_1 a0_2 a0_3 a0_4 = some r) :
    Calls Tryd.prog 16 #[.agg #[.slice A0_0 l0_0.length c0_0, .bool a0_1, .int .i64 a0_2, .int .i64 a0_3, .int .i64 a0_4]] w fun e w' => e = .returned (.bool r) ∧ Below w.heap.size w w' := by
  have hu27 := Tryd.underlying27
  have HR0_0 := Aside0.mk hr0_0
  have HC0_0 := Aside0.mk hc0_0
  clear hr0_0 hc0_0
  have HB := Aside0.mk (Below.refl w.heap.size w)
  have H : (if a0_1 = true then (if a0_2 = 0 then (some true) else (some (a0_2 == 9))) else (some false)) = some r := h
  clear h
  by_cases c2 : a0_1 = true
  · subst c2
    have H1 : (if a0_2 = 0 then (some true) else (some (a0_2 == 9))) = some r := by rw [if_pos rfl] at H; exact H
    clear H
    have H := H1
    clear H1
    by_cases c3 : a0_2 = 0
    · rw [if_pos c3] at H
      have c3b0 : (a0_2 == 0) = true := beq_iff_eq.mpr c3
      have c3b1 : (a0_2 != 0) = false := bne_eq_false_iff_eq.mpr c3
      clear c3
      obtain rfl := Option.some.inj H
      go_enter Tryd.func16, Tryd.ntmps16
      go_wp2_with (first | ((with_reducible refine gate_dst (N := 1) rfl ?_); refine box_event ?hg (N := 1) ?hd (cs := #[.slice A0_0 l0_0.length c0_0, .bool true, .int .i64 a0_2, .int .i64 a0_3, .int .i64 a0_4]) (t := 27) ?hr ?_; (case hd => rfl); (case hg => rfl); (case hr => first | (go_simp; done) | (go_simp; rfl)); intro gb121 hg w4 hbox hb; have n0_ := Aside0.mk (below_step (by repeat (first | (with_reducible first | exact HB.out | apply below_alloc | apply pw_below_drewN | apply below_drew1) | exact HB.out)) hb); have n1_ := Aside0.mk (hbox); have n2_ := Aside0.mk ((by rw [hg]; exact (below_size (by repeat (first | (with_reducible first | exact HB.out | apply below_alloc | apply pw_below_drewN | apply below_drew1) | exact HB.out))) : w.heap.size ≤ gb121)); have n3_ := Aside0.mk ((by rw [hg]; exact (below_size (by repeat (first | (with_reducible first | exact HB.out | apply below_alloc | apply pw_below_drewN | apply below_drew1) | exact HB.out))) : w.heap.size ≤ gb121)); clear HB; have HB := n0_; have BK121 := n1_; have GW121 := n2_; have GE121 := n3_; clear n0_ n1_ n2_ n3_; clear hb hbox hg; have hcz5_0 : w4.cell? ⟨gb121, 0, none⟩ = some (.slice A0_0 l0_0.length c0_0) := (blk_cell BK121.out 0).trans rfl; have hcz5_1 : w4.cell? ⟨gb121, 1, none⟩ = some (.bool true) := (blk_cell BK121.out 1).trans rfl; have hcz5_2 : w4.cell? ⟨gb121, 2, none⟩ = some (.int .i64 a0_2) := (blk_cell BK121.out 2).trans rfl; have hcz5_3 : w4.cell? ⟨gb121, 3, none⟩ = some (.int .i64 a0_3) := (blk_cell BK121.out 3).trans rfl; have hcz5_4 : w4.cell? ⟨gb121, 4, none⟩ = some (.int .i64 a0_4) := (blk_cell BK121.out 4).trans rfl; have hfz5_0 := blk_frozen BK121.out 0; have hfz5_1 := blk_frozen BK121.out 1; have hfz5_2 := blk_frozen BK121.out 2; have hfz5_3 := blk_frozen BK121.out 3; have hfz5_4 := blk_frozen BK121.out 4))
      go_ret
      exact ⟨by first | rfl | (simp [errW_none, errW_some] <;> rfl) | (simp [*, errW_none, errW_some] <;> rfl), by repeat (first | (with_reducible first | exact HB.out | apply below_alloc | apply pw_below_drewN | apply below_drew1 | refine below_set ?_ GE121.out) | exact HB.out)⟩
    · rw [if_neg c3] at H
      have c3b0 : (a0_2 == 0) = false := beq_eq_false_iff_ne.mpr c3
      have c3b1 : (a0_2 != 0) = true := bne_iff_ne.mpr c3
      obtain rfl := Option.some.inj H
      go_enter Tryd.func16, Tryd.ntmps16
      go_wp2_with (first | ((with_reducible refine gate_dst (N := 1) rfl ?_); refine box_event ?hg (N := 1) ?hd (cs := #[.slice A0_0 l0_0.length c0_0, .bool true, .int .i64 a0_2, .int .i64 a0_3, .int .i64 a0_4]) (t := 27) ?hr ?_; (case hd => rfl); (case hg => rfl); (case hr => first | (go_simp; done) | (go_simp; rfl)); intro gb121 hg w6 hbox hb; have n0_ := Aside0.mk (below_step (by repeat (first | (with_reducible first | exact HB.out | apply below_alloc | apply pw_below_drewN | apply below_drew1) | exact HB.out)) hb); have n1_ := Aside0.mk (hbox); have n2_ := Aside0.mk ((by rw [hg]; exact (below_size (by repeat (first | (with_reducible first | exact HB.out | apply below_alloc | apply pw_below_drewN | apply below_drew1) | exact HB.out))) : w.heap.size ≤ gb121)); have n3_ := Aside0.mk ((by rw [hg]; exact (below_size (by repeat (first | (with_reducible first | exact HB.out | apply below_alloc | apply pw_below_drewN | apply below_drew1) | exact HB.out))) : w.heap.size ≤ gb121)); clear HB; have HB := n0_; have BK121 := n1_; have GW121 := n2_; have GE121 := n3_; clear n0_ n1_ n2_ n3_; clear hb hbox hg; have hcz7_0 : w6.cell? ⟨gb121, 0, none⟩ = some (.slice A0_0 l0_0.length c0_0) := (blk_cell BK121.out 0).trans rfl; have hcz7_1 : w6.cell? ⟨gb121, 1, none⟩ = some (.bool true) := (blk_cell BK121.out 1).trans rfl; have hcz7_2 : w6.cell? ⟨gb121, 2, none⟩ = some (.int .i64 a0_2) := (blk_cell BK121.out 2).trans rfl; have hcz7_3 : w6.cell? ⟨gb121, 3, none⟩ = some (.int .i64 a0_3) := (blk_cell BK121.out 3).trans rfl; have hcz7_4 : w6.cell? ⟨gb121, 4, none⟩ = some (.int .i64 a0_4) := (blk_cell BK121.out 4).trans rfl; have hfz7_0 := blk_frozen BK121.out 0; have hfz7_1 := blk_frozen BK121.out 1; have hfz7_2 := blk_frozen BK121.out 2; have hfz7_3 := blk_frozen BK121.out 3; have hfz7_4 := blk_frozen BK121.out 4))
      go_ret
      exact ⟨by first | rfl | (simp [errW_none, errW_some] <;> rfl) | (simp [*, errW_none, errW_some] <;> rfl), by repeat (first | (with_reducible first | exact HB.out | apply below_alloc | apply pw_below_drewN | apply below_drew1 | refine below_set ?_ GE121.out) | exact HB.out)⟩
  · replace c2 := Bool.eq_false_iff.mpr c2
    subst c2
    have H1 : (some false) = some r := by rw [if_neg (show ¬ (false = true) by decide)] at H; exact H
    clear H
    have H := H1
    clear H1
    obtain rfl := Option.some.inj H
    go_enter Tryd.func16, Tryd.ntmps16
    go_wp2_with (first | ((with_reducible refine gate_dst (N := 1) rfl ?_); refine box_event ?hg (N := 1) ?hd (cs := #[.slice A0_0 l0_0.length c0_0, .bool false, .int .i64 a0_2, .int .i64 a0_3, .int .i64 a0_4]) (t := 27) ?hr ?_; (case hd => rfl); (case hg => rfl); (case hr => first | (go_simp; done) | (go_simp; rfl)); intro gb121 hg w8 hbox hb; have n0_ := Aside0.mk (below_step (by repeat (first | (with_reducible first | exact HB.out | apply below_alloc | apply pw_below_drewN | apply below_drew1) | exact HB.out)) hb); have n1_ := Aside0.mk (hbox); have n2_ := Aside0.mk ((by rw [hg]; exact (below_size (by repeat (first | (with_reducible first | exact HB.out | apply below_alloc | apply pw_below_drewN | apply below_drew1) | exact HB.out))) : w.heap.size ≤ gb121)); have n3_ := Aside0.mk ((by rw [hg]; exact (below_size (by repeat (first | (with_reducible first | exact HB.out | apply below_alloc | apply pw_below_drewN | apply below_drew1) | exact HB.out))) : w.heap.size ≤ gb121)); clear HB; have HB := n0_; have BK121 := n1_; have GW121 := n2_; have GE121 := n3_; clear n0_ n1_ n2_ n3_; clear hb hbox hg; have hcz9_0 : w8.cell? ⟨gb121, 0, none⟩ = some (.slice A0_0 l0_0.length c0_0) := (blk_cell BK121.out 0).trans rfl; have hcz9_1 : w8.cell? ⟨gb121, 1, none⟩ = some (.bool false) := (blk_cell BK121.out 1).trans rfl; have hcz9_2 : w8.cell? ⟨gb121, 2, none⟩ = some (.int .i64 a0_2) := (blk_cell BK121.out 2).trans rfl; have hcz9_3 : w8.cell? ⟨gb121, 3, none⟩ = some (.int .i64 a0_3) := (blk_cell BK121.out 3).trans rfl; have hcz9_4 : w8.cell? ⟨gb121, 4, none⟩ = some (.int .i64 a0_4) := (blk_cell BK121.out 4).trans rfl; have hfz9_0 := blk_frozen BK121.out 0; have hfz9_1 := blk_frozen BK121.out 1; have hfz9_2 := blk_frozen BK121.out 2; have hfz9_3 := blk_frozen BK121.out 3; have hfz9_4 := blk_frozen BK121.out 4))
    go_ret
    exact ⟨by first | rfl | (simp [errW_none, errW_some] <;> rfl) | (simp [*, errW_none, errW_some] <;> rfl), by repeat (first | (with_reducible first | exact HB.out | apply below_alloc | apply pw_below_drewN | apply below_drew1 | refine below_set ?_ GE121.out) | exact HB.out)⟩
mutual
noncomputable def lockstitchref22_Begins.l0 : Nat → List Int → List Int → Int → Option (Bool)
  | 0, _, _, _ => none
  | k + 1, x0, x1, x5 => if x5 < (x0.length : Int) then (lockstitchref22_Begins.j1 k x0 x1 x5 (decide (x5 < (x1.length : Int)))) else (lockstitchref22_Begins.j1 k x0 x1 x5 false)
noncomputable def lockstitchref22_Begins.j1 : Nat → List Int → List Int → Int → Bool → Option (Bool)
  | 0, _, _, _, _ => none
  | k + 1, x0, x1, x5, x15 => if x15 = true then (if 0 ≤ x5 then (if x5 < (x0.length : Int) then (if x5 < (x1.length : Int) then (if (rd x0 x5) = (rd x1 x5) then (lockstitchref22_Begins.l0 k x0 x1 (wrap64 (x5 + 1))) else (some false)) else (none)) else (none)) else (none)) else (some true)
end
noncomputable def lockstitchref22_Begins.f (k : Nat) (l0 : List Int) (l1 : List Int) : Option (Bool) := lockstitchref22_Begins.l0 k l0 l1 0
theorem lockstitchref22_Begins.mono_l : ∀ k, (∀ y0 y1 y2, LeO (lockstitchref22_Begins.l0 k y0 y1 y2) (lockstitchref22_Begins.l0 (k + 1) y0 y1 y2)) ∧ (∀ y0 y1 y2 y3, LeO (lockstitchref22_Begins.j1 k y0 y1 y2 y3) (lockstitchref22_Begins.j1 (k + 1) y0 y1 y2 y3))
  | 0 => ⟨fun _ _ _ r h => by simp [lockstitchref22_Begins.l0] at h, fun _ _ _ _ r h => by simp [lockstitchref22_Begins.j1] at h⟩
  | k + 1 => by
    obtain ⟨ih0, ih1⟩ := lockstitchref22_Begins.mono_l k
    refine ⟨?_, ?_⟩
    · intro y0 y1 y2
      unfold lockstitchref22_Begins.l0
      repeat' first
      | (with_reducible exact ih0 _ _ _)
      | (with_reducible exact ih1 _ _ _ _)
      | (with_reducible exact LeO.refl _)
      | (with_reducible exact LeO.none _)
      | (with_reducible refine LeO.ite ?_ ?_)
      | (with_reducible refine LeO.bind ?_ (fun _ => ?_))
      | exact ih0 _ _ _
      | exact ih1 _ _ _ _
      | exact LeO.none _
      | refine LeO.ite ?_ ?_
      | refine LeO.bind ?_ (fun _ => ?_)
    · intro y0 y1 y2 y3
      unfold lockstitchref22_Begins.j1
      repeat' first
      | (with_reducible exact ih0 _ _ _)
      | (with_reducible exact ih1 _ _ _ _)
      | (with_reducible exact LeO.refl _)
      | (with_reducible exact LeO.none _)
      | (with_reducible refine LeO.ite ?_ ?_)
      | (with_reducible refine LeO.bind ?_ (fun _ => ?_))
      | exact ih0 _ _ _
      | exact ih1 _ _ _ _
      | exact LeO.none _
      | refine LeO.ite ?_ ?_
      | refine LeO.bind ?_ (fun _ => ?_)
theorem lockstitchref22_Begins.mono : ∀ a0 a1 k, LeO (lockstitchref22_Begins.f k a0 a1) (lockstitchref22_Begins.f (k + 1) a0 a1) := by
  intro a0 a1 k
  obtain ⟨ih0, ih1⟩ := lockstitchref22_Begins.mono_l k
  unfold lockstitchref22_Begins.f
  repeat' first
      | (with_reducible exact ih0 _ _ _)
      | (with_reducible exact ih1 _ _ _ _)
      | (with_reducible exact LeO.refl _)
      | (with_reducible exact LeO.none _)
      | (with_reducible refine LeO.ite ?_ ?_)
      | (with_reducible refine LeO.bind ?_ (fun _ => ?_))
      | exact ih0 _ _ _
      | exact ih1 _ _ _ _
      | exact LeO.none _
      | refine LeO.ite ?_ ?_
      | refine LeO.bind ?_ (fun _ => ?_)
noncomputable def lockstitchref22_two.j0 : Nat → Bool → List Int → Bool → Int → Int → Int → List Int → Bool → Int → Int → Int → Option (Bool)
  | 0, _, _, _, _, _, _, _, _, _, _, _ => none
  | k + 1, x28, x125000, x125001, x125002, x125003, x125004, x126000, x126001, x126002, x126003, x126004 => if x28 = true then (some false) else ((lockstitchref22_Ended.f x125000 x125001 x125002 x125003 x125004).bind fun t128 => (if t128 = true then ((lockstitchref22_Ended.f x126000 x126001 x126002 x126003 x126004).bind fun t129 => (if t129 = true then (if x125002 = x126002 then (if x125003 = x126003 then (some ((x125000.length : Int) == (x126000.length : Int))) else (some false)) else (some false)) else (some true))) else (some true)))
noncomputable def lockstitchref22_two.f (k : Nat) (l0_0 : List Int) (a0_1 : Bool) (a0_2 : Int) (a0_3 : Int) (a0_4 : Int) (l1_0 : List Int) (a1_1 : Bool) (a1_2 : Int) (a1_3 : Int) (a1_4 : Int) : Option (Bool) := (lockstitchref22_Begins.f k l0_0 l1_0).bind fun t126 => (if t126 = true then ((lockstitchref22_Ended.f l0_0 a0_1 a0_2 a0_3 a0_4).bind fun t127 => (if t127 = true then (if a1_3 > a0_3 then (lockstitchref22_two.j0 k true l0_0 a0_1 a0_2 a0_3 a0_4 l1_0 a1_1 a1_2 a1_3 a1_4) else (lockstitchref22_two.j0 k (decide ((l1_0.length : Int) > (l0_0.length : Int))) l0_0 a0_1 a0_2 a0_3 a0_4 l1_0 a1_1 a1_2 a1_3 a1_4)) else (lockstitchref22_two.j0 k false l0_0 a0_1 a0_2 a0_3 a0_4 l1_0 a1_1 a1_2 a1_3 a1_4))) else (some false))
theorem lockstitchref22_two.mono_l : ∀ k, (∀ y0 y1 y2 y3 y4 y5 y6 y7 y8 y9 y10, LeO (lockstitchref22_two.j0 k y0 y1 y2 y3 y4 y5 y6 y7 y8 y9 y10) (lockstitchref22_two.j0 (k + 1) y0 y1 y2 y3 y4 y5 y6 y7 y8 y9 y10))
  | 0 => fun _ _ _ _ _ _ _ _ _ _ _ r h => by simp [lockstitchref22_two.j0] at h
  | k + 1 => by
    have ih0 := lockstitchref22_two.mono_l k
    · intro y0 y1 y2 y3 y4 y5 y6 y7 y8 y9 y10
      unfold lockstitchref22_two.j0
      repeat' first
      | (with_reducible exact ih0 _ _ _ _ _ _ _ _ _ _ _)
      | (with_reducible exact lockstitchref22_Begins.mono _ _ _)
      | (with_reducible exact LeO.refl _)
      | (with_reducible exact LeO.none _)
      | (with_reducible refine LeO.ite ?_ ?_)
      | (with_reducible refine LeO.bind ?_ (fun _ => ?_))
      | exact ih0 _ _ _ _ _ _ _ _ _ _ _
      | exact lockstitchref22_Begins.mono _ _ _
      | exact LeO.none _
      | refine LeO.ite ?_ ?_
      | refine LeO.bind ?_ (fun _ => ?_)
theorem lockstitchref22_two.mono : ∀ a0 a1 a2 a3 a4 a5 a6 a7 a8 a9 k, LeO (lockstitchref22_two.f k a0 a1 a2 a3 a4 a5 a6 a7 a8 a9) (lockstitchref22_two.f (k + 1) a0 a1 a2 a3 a4 a5 a6 a7 a8 a9) := by
  intro a0 a1 a2 a3 a4 a5 a6 a7 a8 a9 k
  have ih0 := lockstitchref22_two.mono_l k
  unfold lockstitchref22_two.f
  repeat' first
      | (with_reducible exact ih0 _ _ _ _ _ _ _ _ _ _ _)
      | (with_reducible exact lockstitchref22_Begins.mono _ _ _)
      | (with_reducible exact LeO.refl _)
      | (with_reducible exact LeO.none _)
      | (with_reducible refine LeO.ite ?_ ?_)
      | (with_reducible refine LeO.bind ?_ (fun _ => ?_))
      | exact ih0 _ _ _ _ _ _ _ _ _ _ _
      | exact lockstitchref22_Begins.mono _ _ _
      | exact LeO.none _
      | refine LeO.ite ?_ ?_
      | refine LeO.bind ?_ (fun _ => ?_)
end Go.Proofs.YtfkfpcciacplkaaDoor.T

namespace Go.Proofs.YtfkfpcciacplkaaDoor.T
open Go.RowKit Go.Proofs.YtfkfpcciacplkaaDoorW.PrintWords Go.Proofs.YtfkfpcciacplkaaDoorW.PrintLast Go.Proofs.YtfkfpcciacplkaaDoorW.PrintMore
attribute [local go_sem] max2_int min2_int max_two min_two max_three min_three max_four min_four
set_option linter.unusedVariables false
set_option linter.unusedSimpArgs false
open Go.Proofs.YtfkfpcciacplkaaDoor.F
open Go.Proofs.YtfkfpcciacplkaaDoor.TE
open Go.Proofs.YtfkfpcciacplkaaDoor.TRB
mutual
noncomputable def lockstitchref22_Agree.l0 : Nat → List (S27) → Int → Option (Bool)
  | 0, _, _ => none
  | k + 1, x0, x3 => if x3 < (x0.length : Int) then (lockstitchref22_Agree.l1 k x0 x3 0) else (some true)
noncomputable def lockstitchref22_Agree.l1 : Nat → List (S27) → Int → Int → Option (Bool)
  | 0, _, _, _ => none
  | k + 1, x0, x3, x4 => if x4 < (x0.length : Int) then (if x3 = x4 then (lockstitchref22_Agree.l1 k x0 x3 (wrap64 (x4 + 1))) else (if 0 ≤ x3 then (if x3 < (x0.length : Int) then (if 0 ≤ x4 then ((lockstitchref22_two.f k ((rd_T27 x0 x3).f0) ((rd_T27 x0 x3).f1) ((rd_T27 x0 x3).f2) ((rd_T27 x0 x3).f3) ((rd_T27 x0 x3).f4) ((rd_T27 x0 x4).f0) ((rd_T27 x0 x4).f1) ((rd_T27 x0 x4).f2) ((rd_T27 x0 x4).f3) ((rd_T27 x0 x4).f4)).bind fun t132 => (if t132 = true then (lockstitchref22_Agree.l1 k x0 x3 (wrap64 (x4 + 1))) else (some false))) else (none)) else (none)) else (none))) else (lockstitchref22_Agree.l0 k x0 (wrap64 (x3 + 1)))
end
noncomputable def lockstitchref22_Agree.f (k : Nat) (l0 : List (S27)) : Option (Bool) := lockstitchref22_Agree.l0 k l0 0
noncomputable def lockstitchref22_Agree.T7 : Bool × List (List Nat × List Nat) := (true, [([], []), ([], []), ([0, 1], [0, 1]), ([2], [2]), ([3], [3]), ([3], [3]), ([4, 5, 3], [3, 4, 5]), ([6, 3], [3, 6]), ([3], [3]), ([3], [3]), ([8, 9, 3], [3, 8, 9]), ([10, 3], [3, 10]), ([7, 11, 3, 3], [3, 7, 11]), ([12, 3], [3, 12]), ([3, 13], [3, 13])])
noncomputable def lockstitchref22_Agree.B7 : List Nat := [0, 0, 3, 7, 15, 15, 63, 127, 15, 15, 783, 1807, 4095, 8191, 16383]
noncomputable def lockstitchref22_Longest.l0 : Nat → List (S27) → Int → Int → Option (Int)
  | 0, _, _, _ => none
  | k + 1, x0, x3, x4 => if x4 < (x0.length : Int) then (if x3 < 0 then (lockstitchref22_Longest.l0 k x0 x4 (wrap64 (x4 + 1))) else (if 0 ≤ x4 then (if 0 ≤ x3 then (if x3 < (x0.length : Int) then (if ((rd_T27 x0 x4).f3) > ((rd_T27 x0 x3).f3) then (lockstitchref22_Longest.l0 k x0 x4 (wrap64 (x4 + 1))) else (lockstitchref22_Longest.l0 k x0 x3 (wrap64 (x4 + 1)))) else (none)) else (none)) else (none))) else (some x3)
noncomputable def lockstitchref22_Longest.f (k : Nat) (l0 : List (S27)) : Option (Int) := lockstitchref22_Longest.l0 k l0 (-1) 0
end Go.Proofs.YtfkfpcciacplkaaDoor.T

namespace Go.Proofs.YtfkfpcciacplkaaDoor.T
open Go.RowKit Go.Proofs.YtfkfpcciacplkaaDoorW.PrintWords Go.Proofs.YtfkfpcciacplkaaDoorW.PrintLast Go.Proofs.YtfkfpcciacplkaaDoorW.PrintMore
attribute [local go_sem] max2_int min2_int max_two min_two max_three min_three max_four min_four
set_option linter.unusedVariables false
set_option linter.unusedSimpArgs false
open Go.Proofs.YtfkfpcciacplkaaDoor.F
open Go.Proofs.YtfkfpcciacplkaaDoor.TE
open Go.Proofs.YtfkfpcciacplkaaDoor.TRB
end Go.Proofs.YtfkfpcciacplkaaDoor.T

namespace Go.Proofs.YtfkfpcciacplkaaDoor.TRP
open Go.RowKit Go.Proofs.YtfkfpcciacplkaaDoorW.PrintWords Go.Proofs.YtfkfpcciacplkaaDoor.Scan Go.Proofs.YtfkfpcciacplkaaDoor.F Go.Proofs.YtfkfpcciacplkaaDoor.T Go.Proofs.YtfkfpcciacplkaaDoor.TRB Go.Proofs.YtfkfpcciacplkaaDoor.TRL Go.Proofs.YtfkfpcciacplkaaDoor.TRA
set_option linter.unusedVariables false
set_option linter.unusedSimpArgs false
abbrev Rs := S31
abbrev Rr := S27
noncomputable abbrev rdS := rd_T31
noncomputable abbrev rdR := rd_T27
def fin (o : Bool) (e : Int) : Bool := o && (e == 0 || e == 9)
theorem ended_val (l : List Int) (o : Bool) (e s c : Int) : trace_Ended.f l o e s c = some (fin o e) := by
  unfold trace_Ended.f fin
  cases o
  · rfl
  · by_cases h : e = 0
    · subst h
      rfl
    · simp [h]
theorem rended_val (l : List Int) (o : Bool) (e s c : Int) : lockstitchref22_Ended.f l o e s c = some (fin o e) := by
  unfold lockstitchref22_Ended.f fin
  cases o
  · rfl
  · by_cases h : e = 0
    · subst h
      rfl
    · simp [h]
def agB (x y : Rs) : Bool := beg x.f0 y.f0 && (if fin x.f1 x.f2 = true ∧ fin y.f1 y.f2 = true then decide (x.f0.length = y.f0.length ∧ x.f2 = y.f2 ∧ x.f3 = y.f3) else if fin x.f1 x.f2 = true then decide (y.f3 ≤ x.f3 ∧ y.f0.length ≤ x.f0.length) else if fin y.f1 y.f2 = true then decide (x.f3 ≤ y.f3 ∧ x.f0.length ≤ y.f0.length) else true)
theorem beg_symm (a b : List Int) : beg a b = beg b a := by
  unfold beg
  rw [decide_eq_decide]
  exact ⟨Eq.symm, Eq.symm⟩
theorem agB_symm (x y : Rs) : agB x y = agB y x := by
  unfold agB
  rw [beg_symm]
  congr 1
  cases fin x.f1 x.f2 <;> cases fin y.f1 y.f2 <;> simp only [Bool.false_eq_true, false_and, and_false, if_false, and_self, if_true]
  rw [decide_eq_decide]
  exact ⟨fun h => ⟨h.1.symm, h.2.1.symm, h.2.2.symm⟩, fun h => ⟨h.1.symm, h.2.1.symm, h.2.2.symm⟩⟩
theorem agree_one (x y : Rs) (h : fin x.f1 x.f2 = true) : Ev (fun k => trace_agree.f k x.f0 x.f1 x.f2 x.f3 x.f4 y.f0 y.f1 y.f2 y.f3 y.f4) (agB x y) := by
  unfold agB
  cases hb : beg x.f0 y.f0 with
  | false => exact ev_some fun k => by rw [trace_agree.f.eq_2]; simp [trace_Begins.f, hb]
  | true =>
    refine ev_step (f := fun k => trace_agree.j0 k (fin y.f1 y.f2) x.f0 x.f1 x.f2 x.f3 x.f4 y.f0 y.f1 y.f2 y.f3 y.f4) (fun k => by rw [trace_agree.f.eq_2]; simp [trace_Begins.f, hb, ended_val, h]) (ev_some fun k => ?_)
    rw [trace_agree.j0.eq_2]
    cases hy : fin y.f1 y.f2 with
    | true =>
      rw [if_pos rfl, if_pos (⟨h, rfl⟩ : _ ∧ _), Bool.true_and]
      by_cases hh : x.f0.length = y.f0.length ∧ x.f2 = y.f2 ∧ x.f3 = y.f3
      · rw [decide_eq_true hh, if_pos (by omega), if_pos hh.2.1, hh.2.2, beq_self_eq_true]
      · rw [decide_eq_false hh]
        split
        · split
          · rename_i a b
            congr 1
            exact beq_eq_false_iff_ne.2 fun e => hh ⟨by omega, b, e⟩
          · rfl
        · rfl
    | false =>
      by_cases h1 : y.f3 ≤ x.f3 <;> simp [h, h1, ended_val]
theorem agree_ev (x y : Rs) : Ev (fun k => trace_agree.f k x.f0 x.f1 x.f2 x.f3 x.f4 y.f0 y.f1 y.f2 y.f3 y.f4) (agB x y) := by
  cases hx : fin x.f1 x.f2 with
  | true => exact agree_one x y hx
  | false =>
    cases hb : beg x.f0 y.f0 with
    | false =>
      have : agB x y = false := by simp [agB, hb]
      rw [this]
      exact ev_some fun k => by rw [trace_agree.f.eq_2]; simp [trace_Begins.f, hb]
    | true =>
      refine ev_step (f := fun k => trace_agree.j0 k false x.f0 x.f1 x.f2 x.f3 x.f4 y.f0 y.f1 y.f2 y.f3 y.f4) (fun k => by rw [trace_agree.f.eq_2]; simp [trace_Begins.f, hb, ended_val, hx]) ?_
      cases hy : fin y.f1 y.f2 with
      | true =>
        rw [agB_symm]
        refine ev_step (f := fun k => (trace_agree.f k y.f0 y.f1 y.f2 y.f3 y.f4 x.f0 x.f1 x.f2 x.f3 x.f4).bind fun t => some t) (fun k => by rw [trace_agree.j0.eq_2]; simp [ended_val, hx, hy]) (ev_bind (agree_one y x hy) ev_const)
      | false =>
        have : agB x y = true := by simp [agB, hb, hx, hy]
        rw [this]
        exact ev_some fun k => by rw [trace_agree.j0.eq_2]; simp [ended_val, hx, hy]
def Ag (L : List Rs) : Prop := ∀ i j : Nat, i < L.length → j < i → agB (rdS L i) (rdS L j) = true
open Classical in
noncomputable def ag (L : List Rs) : Bool := decide (Ag L)
theorem rd_take (L : List Rs) (i j : Nat) (h : j < i) : rdS (L.take i) j = rdS L j := by
  unfold rdS rd_T31
  rw [Int.toNat_natCast, List.getD_eq_getElem?_getD, List.getD_eq_getElem?_getD, List.getElem?_take, if_pos h]
theorem w1 {i : Int} (h0 : 0 ≤ i) (h : i < 9223372036854775807) : wrap64 (i + 1) = i + 1 := by unfold wrap64; omega
theorem Agree_ev (L : List Rs) (hl : (L.length : Int) ≤ 9223372036854775807) : Ev (fun k => trace_Agree.f k L) (ag L) := by
  classical
  let ok : Int → Prop := fun i => ∀ j : Nat, (j : Int) < i → agB (rdS L i) (rdS L j) = true
  have L1 : ∀ (i : Nat), i < L.length → ∀ q : Bool, ((ok i → Ev (fun k => trace_Agree.l0 k L L L.length (i + 1 : Int)) q) ∧ (¬ ok i → q = false)) → Ev (fun k => trace_Agree.l1 k L L L.length i (L.take i) i 0 (rdS L i).f0 (rdS L i).f1 (rdS L i).f2 (rdS L i).f3 (rdS L i).f4) q := by
    intro i hi q hq
    have S1 : ∀ j q, 0 ≤ j → j < (i : Int) → agB (rdS L i) (rdS L j) = true → Ev (fun k => trace_Agree.l1 k L L L.length i (L.take i) i (j + 1) (rdS L i).f0 (rdS L i).f1 (rdS L i).f2 (rdS L i).f3 (rdS L i).f4) q → Ev (fun k => trace_Agree.l1 k L L L.length i (L.take i) i j (rdS L i).f0 (rdS L i).f1 (rdS L i).f2 (rdS L i).f3 (rdS L i).f4) q := by
      intro j q j0 j1 h he
      obtain ⟨n, rfl⟩ := Int.eq_ofNat_of_zero_le j0
      have hln : (L.take i).length = i := by rw [List.length_take]; omega
      refine ev_step (f := fun k => (trace_agree.f k (rdS L i).f0 (rdS L i).f1 (rdS L i).f2 (rdS L i).f3 (rdS L i).f4 (rdS (L.take i) n).f0 (rdS (L.take i) n).f1 (rdS (L.take i) n).f2 (rdS (L.take i) n).f3 (rdS (L.take i) n).f4).bind fun t => if t = true then trace_Agree.l1 k L L L.length i (L.take i) i (n + 1) (rdS L i).f0 (rdS L i).f1 (rdS L i).f2 (rdS L i).f3 (rdS L i).f4 else some false) (fun k => ?_) (ev_bind (agree_ev (rdS L i) (rdS (L.take i) n)) ?_)
      · show trace_Agree.l1 (k + 1) _ _ _ _ _ _ _ _ _ _ _ _ = _
        rw [trace_Agree.l1.eq_2, if_pos j1, if_pos j0, if_pos (by rw [hln]; exact j1), w1 j0 (by omega)]
      · rw [rd_take L i n (by omega), h]
        exact Ev.congr (fun k => if_pos rfl) he
    have S2 : ∀ j, 0 ≤ j → j < (i : Int) → ¬ agB (rdS L i) (rdS L j) = true → Ev (fun k => trace_Agree.l1 k L L L.length i (L.take i) i j (rdS L i).f0 (rdS L i).f1 (rdS L i).f2 (rdS L i).f3 (rdS L i).f4) false := by
      intro j j0 j1 h
      obtain ⟨n, rfl⟩ := Int.eq_ofNat_of_zero_le j0
      have hln : (L.take i).length = i := by rw [List.length_take]; omega
      refine ev_step (f := fun k => (trace_agree.f k (rdS L i).f0 (rdS L i).f1 (rdS L i).f2 (rdS L i).f3 (rdS L i).f4 (rdS (L.take i) n).f0 (rdS (L.take i) n).f1 (rdS (L.take i) n).f2 (rdS (L.take i) n).f3 (rdS (L.take i) n).f4).bind fun t => if t = true then trace_Agree.l1 k L L L.length i (L.take i) i (n + 1) (rdS L i).f0 (rdS L i).f1 (rdS L i).f2 (rdS L i).f3 (rdS L i).f4 else some false) (fun k => ?_) (ev_bind (agree_ev (rdS L i) (rdS (L.take i) n)) ?_)
      · show trace_Agree.l1 (k + 1) _ _ _ _ _ _ _ _ _ _ _ _ = _
        rw [trace_Agree.l1.eq_2, if_pos j1, if_pos j0, if_pos (by rw [hln]; exact j1), w1 j0 (by omega)]
      · rw [rd_take L i n (by omega)]
        exact Ev.congr (fun k => if_neg h) ev_const
    by_cases hk : ok i
    · refine scan0_good (fun k j => trace_Agree.l1 k L L L.length i (L.take i) i j (rdS L i).f0 (rdS L i).f1 (rdS L i).f2 (rdS L i).f3 (rdS L i).f4) i q (fun j => agB (rdS L i) (rdS L j) = true) (by omega) S1 (ev_step (fun k => ?_) (hq.1 hk)) (fun j j0 j1 => ?_)
      · show trace_Agree.l1 (k + 1) _ _ _ _ _ _ _ _ _ _ _ _ = _
        rw [trace_Agree.l1.eq_2, if_neg (by omega), w1 (by omega) (by omega)]
      · obtain ⟨n, rfl⟩ := Int.eq_ofNat_of_zero_le j0
        exact hk n j1
    · rw [hq.2 hk]
      refine scan0_bad (fun k j => trace_Agree.l1 k L L L.length i (L.take i) i j (rdS L i).f0 (rdS L i).f1 (rdS L i).f2 (rdS L i).f3 (rdS L i).f4) i false (fun j => agB (rdS L i) (rdS L j) = true) (by omega) S1 S2 (fun h => hk fun j hj => h j (by omega) hj)
  have L0 : ∀ i : Nat, i < L.length → ∀ q, Ev (fun k => trace_Agree.l1 k L L L.length i (L.take i) i 0 (rdS L i).f0 (rdS L i).f1 (rdS L i).f2 (rdS L i).f3 (rdS L i).f4) q → Ev (fun k => trace_Agree.l0 k L L L.length i) q := by
    intro i hi q he
    refine ev_step (fun k => ?_) he
    have hln : (L.take i).length = i := by rw [List.length_take]; omega
    show trace_Agree.l0 (k + 1) _ _ _ _ = _
    rw [trace_Agree.l0.eq_2, if_pos (by omega), if_pos (by omega), if_pos (by omega), if_pos (by omega), Option.bind_some, Int.toNat_natCast, hln]
  have H1 : ∀ i q, 0 ≤ i → i < (L.length : Int) → ok i → Ev (fun k => trace_Agree.l0 k L L L.length (i + 1)) q → Ev (fun k => trace_Agree.l0 k L L L.length i) q := by
    intro i q i0 i1 hk he
    obtain ⟨n, rfl⟩ := Int.eq_ofNat_of_zero_le i0
    exact L0 n (by omega) q (L1 n (by omega) q ⟨fun _ => he, fun h => absurd hk h⟩)
  have H2 : ∀ i, 0 ≤ i → i < (L.length : Int) → ¬ ok i → Ev (fun k => trace_Agree.l0 k L L L.length i) false := by
    intro i i0 i1 hk
    obtain ⟨n, rfl⟩ := Int.eq_ofNat_of_zero_le i0
    exact L0 n (by omega) false (L1 n (by omega) false ⟨fun h => absurd h hk, fun _ => rfl⟩)
  by_cases h : Ag L
  · rw [show ag L = true from decide_eq_true h]
    refine scan0_good (fun k i => trace_Agree.l0 k L L L.length i) L.length true ok (by omega) H1 (ev_some fun k => ?_) (fun i i0 i1 j hj => ?_)
    · rw [trace_Agree.l0.eq_2, if_neg (by omega)]
    · obtain ⟨n, rfl⟩ := Int.eq_ofNat_of_zero_le i0
      exact h n j (by omega) (by omega)
  · rw [show ag L = false from decide_eq_false h]
    refine scan0_bad (fun k i => trace_Agree.l0 k L L L.length i) L.length false ok (by omega) H1 H2 (fun hh => h fun i j hi hj => hh i (by omega) (by omega) j (by omega))
theorem Agree_c (w : World) (A0 : Option Addr) (c0 : Nat) (L : List Rs) (h0 : Kd.C k31 w A0 L.length L) (hc0 : L.length ≤ c0) :
    Calls Tryd.prog 17 #[.slice A0 L.length c0] w fun e w' => e = .returned (.bool (ag L)) ∧ Below w.heap.size w w' := by
  obtain ⟨k, hk⟩ := ev_at (Agree_ev L (by have := Kd.C_max h0; omega))
  exact trace_Agree.calls k A0 c0 L _ w h0 hc0 hk
end Go.Proofs.YtfkfpcciacplkaaDoor.TRP

namespace Go.Proofs.YtfkfpcciacplkaaDoor.TRP
open Go.RowKit Go.Proofs.YtfkfpcciacplkaaDoorW.PrintWords Go.Proofs.YtfkfpcciacplkaaDoor.Scan Go.Proofs.YtfkfpcciacplkaaDoor.F Go.Proofs.YtfkfpcciacplkaaDoor.T Go.Proofs.YtfkfpcciacplkaaDoor.TRB Go.Proofs.YtfkfpcciacplkaaDoor.TRL Go.Proofs.YtfkfpcciacplkaaDoor.TRA
set_option linter.unusedVariables false
set_option linter.unusedSimpArgs false
def twB (x y : Rs) : Bool := beg x.f0 y.f0 && (if fin x.f1 x.f2 = true then (if x.f3 < y.f3 ∨ x.f0.length < y.f0.length then false else if fin y.f1 y.f2 = true then decide (x.f2 = y.f2 ∧ x.f3 = y.f3 ∧ x.f0.length = y.f0.length) else true) else true)
def Few22 (L : List Rr) : Prop := (∀ i : Int, 0 ≤ i → i < L.length → ((rdR L i).f0.length : Int) ≤ 60) ∧ L.length ≤ 8
end Go.Proofs.YtfkfpcciacplkaaDoor.TRP

namespace Go.Proofs.YtfkfpcciacplkaaDoor.TRC
open Go.RowKit Go.Proofs.YtfkfpcciacplkaaDoorW.PrintWords Go.Proofs.YtfkfpcciacplkaaDoor.Scan Go.Proofs.YtfkfpcciacplkaaDoor.F Go.Proofs.YtfkfpcciacplkaaDoor.T Go.Proofs.YtfkfpcciacplkaaDoor.ST0 Go.Proofs.YtfkfpcciacplkaaDoor.TRB Go.Proofs.YtfkfpcciacplkaaDoor.TRL Go.Proofs.YtfkfpcciacplkaaDoor.TRA Go.Proofs.YtfkfpcciacplkaaDoor.TRP
set_option linter.unusedVariables false
set_option linter.unusedSimpArgs false
set_option linter.unusedSectionVars false
theorem C_row {α : Type} (d : Kd α) {W : World} {g : Nat} {t : TypeId} {inner : List Value} {ps : List α} (hg : W.heap[g]? = some (.cells inner.toArray t (0, 0))) (hr : Reps (d.K W) d.sz ps inner) (hm : ps.length ≤ 9223372036854775807) : d.C W (some ⟨g, 0, none⟩) ps.length ps := by
  refine ⟨rfl, hm, fun _ => ⟨⟨g, 0, none⟩, rfl, fun j p hj => ⟨(inner.drop (j * d.sz)).take d.sz, ?_, hr.2 j p hj, fun i u hu => ?_⟩⟩⟩
  · have hl := (List.getElem?_eq_some_iff.1 hj).1
    have : j * d.sz + d.sz ≤ ps.length * d.sz := by rw [← Nat.succ_mul]; exact Nat.mul_le_mul_right _ hl
    rw [List.length_take, List.length_drop, hr.1]
    omega
  · have e : (⟨g, 0, none⟩ : Addr).add (j * d.sz + i) = ⟨g, j * d.sz + i, none⟩ := by
      unfold Addr.add
      split
      · rename_i h
        rw [h]
      · simp
    rw [List.getElem?_take] at hu
    split at hu
    · rw [List.getElem?_drop] at hu
      rw [e, cell_of_row _ _ _ _ _ _ hg]
      simpa using hu
    · cases hu
theorem C_ints {k : IntKind} {W : World} {g : Nat} {t : TypeId} (l : List Int) (hm : l.length ≤ 9223372036854775807) (hg : W.heap[g]? = some (.cells (encs (Value.int k) l).toArray t (0, 0))) : Kd.C (Kd.int k) W (some ⟨g, 0, none⟩) l.length l := C_row (Kd.int k) hg (Kd.reps_scalar l) hm
def ra : Rs := ⟨[1], false, 0, 3, 0⟩
def rb : Rs := ⟨[1, 2], true, 0, 5, 0⟩
def rc : Rs := ⟨[2], false, 0, 3, 0⟩
theorem ag2_ : Ag [ra, rb] := by
  intro i j hi hj
  obtain ⟨rfl, rfl⟩ : i = 1 ∧ j = 0 := by have : [ra, rb].length = 2 := rfl; omega
  show agB rb ra = true
  decide
theorem ag3_ : ¬ Ag [ra, rb, rc] := by
  intro hh
  have := hh 2 0 (by decide) (by decide)
  have : agB rc ra = true := this
  exact absurd this (by decide)
section
variable (W : World) (g h i : Nat) (t : TypeId) (hg : W.heap[g]? = some (.cells #[.int .i64 1] t (0, 0))) (hh : W.heap[h]? = some (.cells #[.int .i64 1, .int .i64 2] t (0, 0))) (hi : W.heap[i]? = some (.cells #[.int .i64 2] t (0, 0)))
include hg hh
abbrev cA (g : Nat) : List Value := [.slice (some ⟨g, 0, none⟩) 1 1, .bool false, .int .i64 0, .int .i64 3, .int .i64 0]
abbrev cB (g : Nat) : List Value := [.slice (some ⟨g, 0, none⟩) 2 2, .bool true, .int .i64 0, .int .i64 5, .int .i64 0]
theorem KA : k31.K W ra (cA g) := k31_mk W ra (Nat.le_refl _) (C_ints [1] (by decide) hg)
theorem KB : k31.K W rb (cB h) := k31_mk W rb (Nat.le_refl _) (C_ints [1, 2] (by decide) hh)
theorem reps2 (R : Rs → List Value → Prop) (x y : Rs) (cx cy : List Value) (hx : R x cx) (hy : R y cy) (lx : cx.length = 5) (ly : cy.length = 5) : Reps R 5 [x, y] (cx ++ cy) := ((Reps.none R 5).snoc hx lx).snoc hy ly
theorem row2 (A : World) (hA : A = W.alloc (.cells (cA g ++ cB h).toArray 31)) : Kd.C k31 A (some ⟨W.heap.size, 0, none⟩) 2 [ra, rb] := by
  subst hA
  have hb : Below W.heap.size W (W.alloc (.cells (cA g ++ cB h).toArray 31)) := below_alloc (Below.refl _ _) _
  exact C_row k31 (heap_alloc_new W _) (reps2 W g h t hg hh _ ra rb _ _ (KA _ g h t ((hb.block g (blk_lt hg)).trans hg) ((hb.block h (blk_lt hh)).trans hh)) (KB _ g h t ((hb.block g (blk_lt hg)).trans hg) ((hb.block h (blk_lt hh)).trans hh)) rfl rfl) (by decide)
theorem ag2_c : Calls Tryd.prog 17 #[.slice (some ⟨W.heap.size, 0, none⟩) 2 2] (W.alloc (.cells #[.slice (some ⟨g, 0, none⟩) 1 1, .bool false, .int .i64 0, .int .i64 3, .int .i64 0, .slice (some ⟨h, 0, none⟩) 2 2, .bool true, .int .i64 0, .int .i64 5, .int .i64 0] 31)) fun e w' => e = .returned (.bool true) ∧ Below W.heap.size W w' := by
  refine (Agree_c _ _ 2 [ra, rb] (row2 W g h t hg hh _ rfl) (Nat.le_refl _)).mono fun e w' q => ⟨?_, below_step (below_alloc (Below.refl _ _) _) q.2⟩
  rw [q.1, show ag [ra, rb] = true from by classical exact decide_eq_true (ag2_)]
theorem lng2_c : Calls Tryd.prog 22 #[.slice (some ⟨W.heap.size, 0, none⟩) 2 2] (W.alloc (.cells #[.slice (some ⟨g, 0, none⟩) 1 1, .bool false, .int .i64 0, .int .i64 3, .int .i64 0, .slice (some ⟨h, 0, none⟩) 2 2, .bool true, .int .i64 0, .int .i64 5, .int .i64 0] 31)) fun e w' => e = .returned (.int .i64 1) ∧ Below W.heap.size W w' := by
  refine (longest_c _ _ 2 [ra, rb] (row2 W g h t hg hh _ rfl) (Nat.le_refl _)).mono fun e w' q => ⟨?_, below_step (below_alloc (Below.refl _ _) _) q.2⟩
  have h1 : lng [ra, rb] 1 = 0 := if_pos (.inl (by decide))
  have h2 : lng [ra, rb] 2 = 1 := if_pos (.inr (by rw [h1]; show (5 : Int) > 3; decide))
  rw [q.1]
  show Ending.returned (.int .i64 (lng [ra, rb] 2)) = _
  rw [h2]
include hi
theorem ag3_c : Calls Tryd.prog 17 #[.slice (some ⟨W.heap.size, 0, none⟩) 3 3] (W.alloc (.cells #[.slice (some ⟨g, 0, none⟩) 1 1, .bool false, .int .i64 0, .int .i64 3, .int .i64 0, .slice (some ⟨h, 0, none⟩) 2 2, .bool true, .int .i64 0, .int .i64 5, .int .i64 0, .slice (some ⟨i, 0, none⟩) 1 1, .bool false, .int .i64 0, .int .i64 3, .int .i64 0] 31)) fun e w' => e = .returned (.bool false) ∧ Below W.heap.size W w' := by
  have hb : Below W.heap.size W (W.alloc (.cells (cA g ++ cB h ++ cA i).toArray 31)) := below_alloc (Below.refl _ _) _
  have g' := (hb.block g (blk_lt hg)).trans hg
  have h' := (hb.block h (blk_lt hh)).trans hh
  have i' := (hb.block i (blk_lt hi)).trans hi
  have kc : k31.K (W.alloc (.cells (cA g ++ cB h ++ cA i).toArray 31)) rc (cA i) := k31_mk _ rc (Nat.le_refl _) (C_ints [2] (by decide) i')
  have hC : Kd.C k31 (W.alloc (.cells (cA g ++ cB h ++ cA i).toArray 31)) (some ⟨W.heap.size, 0, none⟩) 3 [ra, rb, rc] := C_row k31 (heap_alloc_new W _) ((reps2 W g h t hg hh _ ra rb _ _ (KA _ g h t g' h') (KB _ g h t g' h') rfl rfl).snoc kc rfl) (by decide)
  refine (Agree_c _ _ 3 [ra, rb, rc] hC (Nat.le_refl _)).mono fun e w' q => ⟨?_, below_step (below_alloc (Below.refl _ _) _) q.2⟩
  rw [q.1, show ag [ra, rb, rc] = false from by classical exact decide_eq_false ag3_]
end
theorem lng0_c (w : World) : Calls Tryd.prog 22 #[.slice none 0 0] w fun e w' => e = .returned (.int .i64 (-1)) ∧ Below w.heap.size w w' :=
  (longest_c w none 0 [] ⟨rfl, by decide, fun h => absurd h (by decide)⟩ (Nat.le_refl _)).mono fun e w' q => ⟨q.1, q.2⟩
theorem beg0_c (W : World) (i : Nat) (t : TypeId) (hi : W.heap[i]? = some (.cells #[.int .i64 2] t (0, 0))) : Calls Tryd.prog 20 #[.slice none 0 0, .slice (some ⟨i, 0, none⟩) 1 1] W fun e w' => e = .returned (.bool true) ∧ Below W.heap.size W w' := by
  refine (begins_c W none 0 [] (some ⟨i, 0, none⟩) 1 [2] ⟨rfl, by decide, fun h => absurd h (by decide)⟩ (Nat.le_refl _) (C_ints [2] (by decide) hi) (Nat.le_refl _)).mono fun e w' q => ⟨?_, (Drawn0.mk q.2).below⟩
  rw [q.1]
  rfl
theorem ended_c (w : World) (A : Option Addr) (c : Nat) (l : List Int) (o : Bool) (e s y : Int) (h : Kd.C (Kd.int .i64) w A l.length l) (hc : l.length ≤ c) : Calls Tryd.prog 14 #[.agg #[.slice A l.length c, .bool o, .int .i64 e, .int .i64 s, .int .i64 y]] w fun x w' => x = .returned (.bool (fin o e)) ∧ Below w.heap.size w w' :=
  trace_Ended.calls A c l o e s y _ w h hc (ended_val l o e s y)
end Go.Proofs.YtfkfpcciacplkaaDoor.TRC

namespace Go.Proofs.YtfkfpcciacplkaaDoor.DO1
open Go.RowKit Go.Proofs.YtfkfpcciacplkaaDoorW.PrintWords Go.Proofs.YtfkfpcciacplkaaDoorW.PrintLast Go.Proofs.YtfkfpcciacplkaaDoorW.PrintMore Go.Proofs.YtfkfpcciacplkaaDoor.F Go.Proofs.YtfkfpcciacplkaaDoor.KP Go.Proofs.YtfkfpcciacplkaaDoor.CR Go.Proofs.YtfkfpcciacplkaaDoor.SH Go.Proofs.YtfkfpcciacplkaaDoor.FM Go.Proofs.YtfkfpcciacplkaaDoor.ST0 Go.Proofs.YtfkfpcciacplkaaDoor.PL Go.Proofs.YtfkfpcciacplkaaDoor.TRC Go.Proofs.YtfkfpcciacplkaaDoor.TRB Go.Proofs.YtfkfpcciacplkaaDoor.T Go.Proofs.YtfkfpcciacplkaaDoor.TRP
set_option linter.unusedVariables false
set_option linter.unusedSectionVars false
set_option linter.unusedSimpArgs false
def iP : S68 := ⟨14, 0, 0, 0, 0⟩
def pP (g h : Nat) : Pg := ⟨some ⟨g, 0, none⟩, 1, [⟨#[105]⟩], ByteArray.empty, ByteArray.empty, some ⟨h, 0, none⟩, 1, [iP]⟩
theorem pP_on (w : World) (g h : Nat) (s t : TypeId) (hg : w.heap[g]? = some (.cells #[.string ⟨#[105]⟩] s (0, 0))) (hh : w.heap[h]? = some (.cells #[.int .u8 14, .int .u8 0, .int .u8 0, .int .u8 0, .int .i64 0] t (0, 0))) (hot : OT w) : (pP g h).On w where
  hT := C_row Kd.string hg (Kd.reps_scalar (enc := Value.string) [⟨#[105]⟩]) (by show (1 : Nat) ≤ 9223372036854775807; decide)
  hc0 := Nat.le_refl _
  hC := C_row k68 hh ((Reps.none (k68.K w) 5).snoc (k68_mk w iP) rfl) (by show (1 : Nat) ≤ 9223372036854775807; decide)
  hc3 := Nat.le_refl _
  hs := fun s hs => by
    obtain rfl : s = ⟨#[105]⟩ := by simpa [pP] using hs
    decide
  hla := Nat.zero_le _
  hgl := Nat.zero_le _
  hw := fun x hx => by
    obtain rfl : x = iP := by simpa [pP] using hx
    exact ⟨by decide, by decide, by decide, by decide, by decide⟩
  ot := hot
theorem refs_nil (s : ByteArray) (hs : s = ⟨#[105]⟩) : refs [s] ByteArray.empty = true := by
  subst hs
  rw [refs_iff]
  refine ⟨⟨fun i h0 h1 => ?_, by decide, by decide⟩, fun j h0 h1 => ?_⟩
  · obtain rfl : i = 0 := by
      have : (([⟨#[105]⟩] : List ByteArray).length : Int) = 1 := rfl
      omega
    refine ⟨by decide, by decide, fun j j0 j1 => ?_⟩
    obtain rfl : j = 0 := by
      have : ((rdOf ByteArray.empty [(⟨#[105]⟩ : ByteArray)] 0).size : Int) = 1 := rfl
      omega
    exact .inl rfl
  · have : ((ByteArray.empty).size : Int) = 0 := rfl
    omega
theorem pP_sp (g h : Nat) : SpP (pP g h) where
  refs := ⟨refs_nil _ rfl, refs_nil _ rfl⟩
  locals := Nat.zero_le _
  globals := Nat.zero_le _
  len := ⟨Nat.le_refl 1, by show (1 : Nat) ≤ 200; decide⟩
  all := fun j hj => by
    obtain rfl : j = 0 := by
      have : (pP g h).code.length = 1 := rfl
      omega
    refine ⟨14, rfl, by decide, by show rightB 14 0 0 0 0 = true; decide, fun h => by omega, by show intsB 14 0 0 0 = true; decide, ?_⟩
    unfold KindsP
    refine ⟨fun h => ?_, fun h => ?_, fun h => ?_, fun h => ?_, fun h => ?_, fun h => ?_, fun h => ?_, fun h => ?_, fun h => ?_⟩ <;> omega
theorem pP_check (w : World) (g h : Nat) (hp : (pP g h).On w) : Calls Tryd.prog 41 #[(pP g h).v] w fun e w' => e = .returned (.tuple #[.int .i64 (-1), .int .i64 0]) ∧ Below w.heap.size w w' := by
  refine (pCheck_c (pP g h) w hp).mono ?_
  rintro e w' ⟨r, er, rfl, h1, h2, h3⟩
  obtain rfl := h1.2 (pP_sp g h)
  obtain rfl := h2 rfl
  exact ⟨rfl, h3⟩
set_option maxHeartbeats 4000000 in
set_option maxRecDepth 100000 in
theorem run1_c (w : World) (g h : Nat) (s t : TypeId) (hg : w.heap[g]? = some (.cells #[.string ⟨#[105]⟩] s (0, 0))) (hh : w.heap[h]? = some (.cells #[.int .u8 14, .int .u8 0, .int .u8 0, .int .u8 0, .int .i64 0] t (0, 0))) (hot : OT w) :
    Calls Tryd.prog 37 #[.agg #[.slice (some ⟨g, 0, none⟩) 1 1, .string ByteArray.empty, .string ByteArray.empty, .slice (some ⟨h, 0, none⟩) 1 1], .int .i64 1] w fun e w' => ∃ A c, e = .returned (.tuple #[.slice A 1 c, .int .i64 0]) ∧ 1 ≤ c ∧ Kd.C (Kd.int .i64) w' A 1 [0] ∧ Below w.heap.size w w' := by
  have CH := Aside0.mk (show ∀ W, Below w.heap.size w W → Calls Tryd.prog 41 #[.agg #[.slice (some ⟨g, 0, none⟩) 1 1, .string ByteArray.empty, .string ByteArray.empty, .slice (some ⟨h, 0, none⟩) 1 1]] W fun e w' => e = .returned (.tuple #[.int .i64 (-1), .int .i64 0]) ∧ Below W.heap.size W w' from fun W hW => pP_check W g h ((pP_on w g h s t hg hh hot).below hW))
  have HH := Aside0.mk hh
  have hw := blk_lt hh
  clear hg hh hot
  have HW := Aside0.mk (Below.refl w.heap.size w)
  go_enter Tryd.func37, Tryd.ntmps37
  go_wp2_with (go_at_call 41; (with_reducible refine (CH.out _ ?side1).mono ?_); (case side1 => exact below_alloc HW.out _); rintro e w1 ⟨rfl, hb1⟩; have R0 := (hb1.block w.heap.size (by simp)).trans (heap_alloc_new w _); have kR := fun j => cell_of_row w1 w.heap.size j _ _ _ R0; have HW := Aside0.mk (below_step (below_alloc HW.out _) hb1); clear hb1)
  obtain ⟨B, hB⟩ : ∃ B, B = w1.heap.size := ⟨_, rfl⟩
  obtain ⟨W0, hW0⟩ : ∃ W0 : World, W0 = w1.alloc (.cells (stR (.slice none 0 0) 0 0) 88) := ⟨_, rfl⟩
  have HRB := Aside0.mk (show W0.heap[B]? = some (.cells (stR (.slice none 0 0) 0 0) 88 (0, 0)) by rw [hW0, hB]; exact heap_alloc_new _ _)
  have HRP := Aside0.mk (show W0.heap[w.heap.size]? = some (.cells #[.slice (some ⟨g, 0, none⟩) 1 1, .string ByteArray.empty, .string ByteArray.empty, .slice (some ⟨h, 0, none⟩) 1 1] 46 (0, 0)) by rw [hW0]; exact row_old _ _ _ (blk_lt R0) R0)
  have HBW := Aside0.mk (show w.heap.size < B by rw [hB]; exact blk_lt R0)
  have HW := Aside0.mk (show Below w.heap.size w W0 by rw [hW0]; exact below_alloc HW.out _)
  have HHB := Aside0.mk (show h < B by rw [hB]; exact Nat.lt_trans hw (blk_lt R0))
  rw [← hB, ← hW0]
  clear hW0 kR R0 CH hB
  go_loopw [1] (fun f wr => (f = .int .i64 1 ∧ Aside0 (wr.heap[B]? = some (.cells (stR (.slice none 0 0) 0 0) 88 (0, 0))) ∧ Aside0 (wr.heap[w.heap.size]? = some (.cells #[.slice (some ⟨g, 0, none⟩) 1 1, .string ByteArray.empty, .string ByteArray.empty, .slice (some ⟨h, 0, none⟩) 1 1] 46 (0, 0))) ∧ Aside0 (Below w.heap.size w wr)) ∨ (f = .int .i64 0 ∧ ∃ A c, Aside0 (1 ≤ c) ∧ Aside0 (wr.heap[B]? = some (.cells (stR (.slice A 1 c) 1 1) 88 (0, 0))) ∧ Aside0 (Kd.C (Kd.int .i64) wr A 1 [0]) ∧ Aside0 (wr.heap[w.heap.size]? = some (.cells #[.slice (some ⟨g, 0, none⟩) 1 1, .string ByteArray.empty, .string ByteArray.empty, .slice (some ⟨h, 0, none⟩) 1 1] 46 (0, 0))) ∧ Aside0 (Below w.heap.size w wr))) (fun f _ => (intOf f).toNat)
  case atStart => exact .inl ⟨rfl, HRB, HRP, HW⟩
  case round =>
    clear HRB HRP HW
    rcases hrel with ⟨rfl, HRB, HRP, HW⟩ | ⟨rfl, A, c, HC, HRB, HK, HRP, HW⟩
    · obtain ⟨wo, rfl⟩ : ∃ wo : World, wo = wr := ⟨_, rfl⟩
      have kB := fun j => cell_of_row wo B j _ _ _ HRB.out
      have kP := fun j => cell_of_row wo w.heap.size j _ _ _ HRP.out
      have RH := (HW.out.block h hw).trans HH.out
      have kH := fun j => cell_of_row wo h j _ _ _ RH
      have HRH := Aside0.mk RH
      clear RH
      have p0 : wo.cell? ⟨w.heap.size, 0, none⟩ = some (.slice (some ⟨g, 0, none⟩) 1 1) := (kP 0).trans rfl
      have p1 : wo.cell? ⟨w.heap.size, 1, none⟩ = some (.string ByteArray.empty) := (kP 1).trans rfl
      have p2 : wo.cell? ⟨w.heap.size, 2, none⟩ = some (.string ByteArray.empty) := (kP 2).trans rfl
      have p3 : wo.cell? ⟨w.heap.size, 3, none⟩ = some (.slice (some ⟨h, 0, none⟩) 1 1) := (kP 3).trans rfl
      have b22 : wo.cell? ⟨B, 22, none⟩ = some (.int .i64 0) := (kB 22).trans rfl
      have i0 : wo.cell? ⟨h, 0, none⟩ = some (.int .u8 14) := (kH 0).trans rfl
      have i1 : wo.cell? ⟨h, 1, none⟩ = some (.int .u8 0) := (kH 1).trans rfl
      have i2 : wo.cell? ⟨h, 2, none⟩ = some (.int .u8 0) := (kH 2).trans rfl
      have i3 : wo.cell? ⟨h, 3, none⟩ = some (.int .u8 0) := (kH 3).trans rfl
      have i4 : wo.cell? ⟨h, 4, none⟩ = some (.int .i64 0) := (kH 4).trans rfl
      go_wp2
      clear kB kP kH
      go_still_tail 7, (by kernel_rfl)
      go_wp2_with (go_at_call 49; ((with_reducible refine (do_print _ B _ _ _ _ _ _ _ _ ?side1).mono ?_); (case side1 => exact HRB.out); rintro e w2 ⟨rfl, A, c, hc, hrow, hk, hb⟩; have HC := Aside0.mk hc; have HRB := Aside0.mk hrow; have HK := Aside0.mk hk; have HB := Aside0.mk hb; have kB := fun j => cell_of_row w2 B j _ _ _ hrow; clear hc hrow hk hb))
      refine ⟨.inr ⟨rfl, A, c, HC, HRB, HK, ⟨(HB.out.block w.heap.size HBW.out).trans HRP.out⟩, ⟨(below_drew1 HW.out).trans (HB.out.mono (Nat.le_of_lt HBW.out))⟩⟩, ?_⟩
      simp [intOf]
    · obtain ⟨wo, rfl⟩ : ∃ wo : World, wo = wr := ⟨_, rfl⟩
      have kB := fun j => cell_of_row wo B j _ _ _ HRB.out
      have kP := fun j => cell_of_row wo w.heap.size j _ _ _ HRP.out
      go_wp2
      go_ret2
      exact ⟨A, c, rfl, HC.out, HK.out, HW.out⟩
theorem equal_n (w : World) (A0 : Option Addr) (n0 c0 : Nat) (l0 : List Int) (A1 : Option Addr) (n1 c1 : Nat) (l1 : List Int) (b : Bool) (hb : decide (l0 = l1) = b) (e0 : l0.length = n0) (e1 : l1.length = n1) (h0 : Kd.C (Kd.int .i64) w A0 n0 l0) (hc0 : n0 ≤ c0) (h1 : Kd.C (Kd.int .i64) w A1 n1 l1) (hc1 : n1 ≤ c1) :
    Calls Tryd.prog 36 #[.slice A0 n0 c0, .slice A1 n1 c1] w fun e w' => e = .returned (.bool b) ∧ ∃ n, w' = w.drewN n := by
  subst e0 e1
  exact equal_c w A0 c0 l0 A1 c1 l1 b hb h0 hc0 h1 hc1
theorem ended_n (w : World) (A : Option Addr) (n c : Nat) (l : List Int) (o : Bool) (e s y : Int) (b : Bool) (hb : fin o e = b) (el : l.length = n) (h : Kd.C (Kd.int .i64) w A n l) (hc : n ≤ c) : Calls Tryd.prog 14 #[.agg #[.slice A n c, .bool o, .int .i64 e, .int .i64 s, .int .i64 y]] w fun x w' => x = .returned (.bool b) ∧ Below w.heap.size w w' := by
  subst el hb
  exact ended_c w A c l o e s y h hc
set_option maxHeartbeats 4000000 in
set_option maxRecDepth 100000 in
theorem model1_c (w : World) (g h i : Nat) (s t u : TypeId) (hg : w.heap[g]? = some (.cells #[.string ⟨#[105]⟩] s (0, 0))) (hh : w.heap[h]? = some (.cells #[.int .u8 14, .int .u8 0, .int .u8 0, .int .u8 0, .int .i64 0] t (0, 0))) (hi : w.heap[i]? = some (.cells #[.int .i64 0] u (0, 0))) (hot : OT w) :
    Calls Tryd.prog 25 #[.agg #[.slice (some ⟨g, 0, none⟩) 1 1, .string ByteArray.empty, .string ByteArray.empty, .slice (some ⟨h, 0, none⟩) 1 1], .agg #[.slice (some ⟨i, 0, none⟩) 1 1, .bool true, .int .i64 0, .int .i64 1, .int .i64 0]] w fun e w' => e = .returned (.bool true) ∧ Below w.heap.size w w' := by
  have RN := Aside0.mk (show ∀ W, Below w.heap.size w W → Calls Tryd.prog 37 #[.agg #[.slice (some ⟨g, 0, none⟩) 1 1, .string ByteArray.empty, .string ByteArray.empty, .slice (some ⟨h, 0, none⟩) 1 1], .int .i64 1] W fun e w' => ∃ A c, e = .returned (.tuple #[.slice A 1 c, .int .i64 0]) ∧ 1 ≤ c ∧ Kd.C (Kd.int .i64) w' A 1 [0] ∧ Below W.heap.size W w' from fun W hW => run1_c W g h s t ((hW.block g (blk_lt hg)).trans hg) ((hW.block h (blk_lt hh)).trans hh) (OT_below hot hW))
  have HI := Aside0.mk hi
  have hiw := blk_lt hi
  clear hi
  clear hg hh hot
  have HW := Aside0.mk (Below.refl w.heap.size w)
  go_enter Tryd.func25, Tryd.ntmps25
  go_wp2_with (first
    | (go_at_call 37; (with_reducible refine (RN.out _ ?side1).mono ?_); (case side1 => exact below_alloc (below_alloc HW.out _) _); rintro e w1 ⟨A, c, rfl, hc, hk, hb1⟩; have R0 := (hb1.block (w.heap.size + 1) (by simp)).trans (row_new _ _ _ (by simp)); have kR := fun j => cell_of_row w1 (w.heap.size + 1) j _ _ _ R0; have HR0 := Aside0.mk R0; have HK := Aside0.mk hk; have HC := Aside0.mk hc; have HW := Aside0.mk (below_step (below_alloc (below_alloc HW.out _) _) hb1); clear hb1 R0 hk hc)
    | (go_at_call 36; ((with_reducible refine (equal_n _ _ 1 _ [0] _ 1 1 [0] true (by decide) rfl rfl HK.out HC.out ?side2 (Nat.le_refl _)).mono ?_); (case side2 => exact C_ints [0] (by decide) ((HW.out.block i hiw).trans HI.out))); rintro e w2 ⟨rfl, n, rfl⟩; have HW := Aside0.mk (pw_below_drewN HW.out n); have kR := fun j => cell_of_row (w1.drewN n) (w.heap.size + 1) j _ _ _ HR0.out)
    | (go_at_call 14; ((with_reducible refine (ended_n _ _ 1 1 [0] _ _ _ _ true rfl rfl ?side3 (Nat.le_refl _)).mono ?_); (case side3 => exact C_ints [0] (by decide) ((HW.out.block i hiw).trans HI.out))); rintro e w3 ⟨rfl, hb3⟩; have HR0 := Aside0.mk ((hb3.block (w.heap.size + 1) (blk_lt (row_drewN (n := n) HR0.out))).trans (row_drewN HR0.out)); have kR := fun j => cell_of_row w3 (w.heap.size + 1) j _ _ _ HR0.out; have HW := Aside0.mk (below_step HW.out hb3); clear hb3))
  go_ret
  exact ⟨rfl, HW.out⟩
set_option maxHeartbeats 4000000 in
set_option maxRecDepth 100000 in
theorem model2_c (w : World) (g h : Nat) (s t : TypeId) (hg : w.heap[g]? = some (.cells #[.string ⟨#[105]⟩] s (0, 0))) (hh : w.heap[h]? = some (.cells #[.int .u8 14, .int .u8 0, .int .u8 0, .int .u8 0, .int .i64 0] t (0, 0))) (hot : OT w) :
    Calls Tryd.prog 25 #[.agg #[.slice (some ⟨g, 0, none⟩) 1 1, .string ByteArray.empty, .string ByteArray.empty, .slice (some ⟨h, 0, none⟩) 1 1], .agg #[.slice none 0 0, .bool false, .int .i64 0, .int .i64 1, .int .i64 0]] w fun e w' => e = .returned (.bool false) ∧ Below w.heap.size w w' := by
  have RN := Aside0.mk (show ∀ W, Below w.heap.size w W → Calls Tryd.prog 37 #[.agg #[.slice (some ⟨g, 0, none⟩) 1 1, .string ByteArray.empty, .string ByteArray.empty, .slice (some ⟨h, 0, none⟩) 1 1], .int .i64 1] W fun e w' => ∃ A c, e = .returned (.tuple #[.slice A 1 c, .int .i64 0]) ∧ 1 ≤ c ∧ Kd.C (Kd.int .i64) w' A 1 [0] ∧ Below W.heap.size W w' from fun W hW => run1_c W g h s t ((hW.block g (blk_lt hg)).trans hg) ((hW.block h (blk_lt hh)).trans hh) (OT_below hot hW))
  clear hg hh hot
  have HW := Aside0.mk (Below.refl w.heap.size w)
  go_enter Tryd.func25, Tryd.ntmps25
  go_wp2_with (first
    | (go_at_call 37; (with_reducible refine (RN.out _ ?side1).mono ?_); (case side1 => exact below_alloc (below_alloc HW.out _) _); rintro e w1 ⟨A, c, rfl, hc, hk, hb1⟩; have R0 := (hb1.block (w.heap.size + 1) (by simp)).trans (row_new _ _ _ (by simp)); have kR := fun j => cell_of_row w1 (w.heap.size + 1) j _ _ _ R0; have HR0 := Aside0.mk R0; have HK := Aside0.mk hk; have HC := Aside0.mk hc; have HW := Aside0.mk (below_step (below_alloc (below_alloc HW.out _) _) hb1); clear hb1 R0 hk hc)
    | (go_at_call 36; ((with_reducible refine (equal_n _ _ 1 _ [0] _ 0 0 [] false (by decide) rfl rfl HK.out HC.out ?side2 (Nat.le_refl _)).mono ?_); (case side2 => exact ⟨rfl, by decide, fun h => absurd h (by decide)⟩)); rintro e w2 ⟨rfl, n, rfl⟩; have HW := Aside0.mk (pw_below_drewN HW.out n); have kR := fun j => cell_of_row (w1.drewN n) (w.heap.size + 1) j _ _ _ HR0.out))
  go_ret
  exact ⟨rfl, HW.out⟩
end Go.Proofs.YtfkfpcciacplkaaDoor.DO1

namespace Go.Proofs.YtfkfpcciacplkaaDoor.TAL
open Go.RowKit Go.Proofs.YtfkfpcciacplkaaDoorW.PrintWords Go.Proofs.YtfkfpcciacplkaaDoorW.PrintLast Go.Proofs.YtfkfpcciacplkaaDoorW.PrintMore Go.Proofs.YtfkfpcciacplkaaDoor.F Go.Proofs.YtfkfpcciacplkaaDoor.KP Go.Proofs.YtfkfpcciacplkaaDoor.CR Go.Proofs.YtfkfpcciacplkaaDoor.ST0 Go.Proofs.YtfkfpcciacplkaaDoor.TRC Go.Proofs.YtfkfpcciacplkaaDoor.TRB Go.Proofs.YtfkfpcciacplkaaDoor.T Go.Proofs.YtfkfpcciacplkaaDoor.TRP Go.Proofs.YtfkfpcciacplkaaDoor.DO1
set_option linter.unusedVariables false
set_option linter.unusedSectionVars false
set_option linter.unusedSimpArgs false
set_option maxHeartbeats 8000000 in
set_option maxRecDepth 100000 in
theorem alive_c (w : World) (hot : OT w) : Calls Tryd.prog 12 #[] w fun e w' => e = .returned (.bool true) ∧ Below w.heap.size w w' := by
  have HOT := Aside0.mk hot
  clear hot
  go_enter Tryd.func12, Tryd.ntmps12
  go_upto_region 4 with (fail)
  obtain ⟨W0, hW0⟩ : ∃ W0 : World, W0 = (((((((((w.alloc (.cells #[.int .i64 1] 2)).alloc (.cells #[.int .i64 1, .int .i64 2] 2)).alloc (.cells #[.slice (some ⟨w.heap.size, 0, none⟩) 1 1, .bool false, .int .i64 0, .int .i64 3, .int .i64 0] 31)).alloc (.cells #[.slice (some ⟨w.heap.size + 1, 0, none⟩) 2 2, .bool true, .int .i64 0, .int .i64 5, .int .i64 0] 31)).alloc (.cells #[.int .i64 2] 2)).alloc (.cells #[.slice (some ⟨w.heap.size + 1 + 1 + 1 + 1, 0, none⟩) 1 1, .bool false, .int .i64 0, .int .i64 3, .int .i64 0] 31)).alloc (.cells #[.string ⟨#[105]⟩] 9)).alloc (.cells #[.int .u8 14, .int .u8 0, .int .u8 0, .int .u8 0, .int .i64 0] 68)).alloc (.cells #[.slice (some ⟨w.heap.size + 1 + 1 + 1 + 1 + 1 + 1, 0, none⟩) 1 1, .string ⟨#[]⟩, .string ⟨#[]⟩, .slice (some ⟨w.heap.size + 1 + 1 + 1 + 1 + 1 + 1 + 1, 0, none⟩) 1 1] 46)) := ⟨_, rfl⟩
  have r0 : W0.heap[w.heap.size]? = some (.cells #[.int .i64 1] 2 (0, 0)) := by rw [hW0]; exact rowT
  have r1 : W0.heap[w.heap.size + 1]? = some (.cells #[.int .i64 1, .int .i64 2] 2 (0, 0)) := by rw [hW0]; exact rowT
  have r2 : W0.heap[w.heap.size + 1 + 1]? = some (.cells #[.slice (some ⟨w.heap.size, 0, none⟩) 1 1, .bool false, .int .i64 0, .int .i64 3, .int .i64 0] 31 (0, 0)) := by rw [hW0]; exact rowT
  have r3 : W0.heap[w.heap.size + 1 + 1 + 1]? = some (.cells #[.slice (some ⟨w.heap.size + 1, 0, none⟩) 2 2, .bool true, .int .i64 0, .int .i64 5, .int .i64 0] 31 (0, 0)) := by rw [hW0]; exact rowT
  have r4 : W0.heap[w.heap.size + 1 + 1 + 1 + 1]? = some (.cells #[.int .i64 2] 2 (0, 0)) := by rw [hW0]; exact rowT
  have r5 : W0.heap[w.heap.size + 1 + 1 + 1 + 1 + 1]? = some (.cells #[.slice (some ⟨w.heap.size + 1 + 1 + 1 + 1, 0, none⟩) 1 1, .bool false, .int .i64 0, .int .i64 3, .int .i64 0] 31 (0, 0)) := by rw [hW0]; exact rowT
  have r6 : W0.heap[w.heap.size + 1 + 1 + 1 + 1 + 1 + 1]? = some (.cells #[.string ⟨#[105]⟩] 9 (0, 0)) := by rw [hW0]; exact rowT
  have r7 : W0.heap[w.heap.size + 1 + 1 + 1 + 1 + 1 + 1 + 1]? = some (.cells #[.int .u8 14, .int .u8 0, .int .u8 0, .int .u8 0, .int .i64 0] 68 (0, 0)) := by rw [hW0]; exact rowT
  have r8 : W0.heap[w.heap.size + 1 + 1 + 1 + 1 + 1 + 1 + 1 + 1]? = some (.cells #[.slice (some ⟨w.heap.size + 1 + 1 + 1 + 1 + 1 + 1, 0, none⟩) 1 1, .string ⟨#[]⟩, .string ⟨#[]⟩, .slice (some ⟨w.heap.size + 1 + 1 + 1 + 1 + 1 + 1 + 1, 0, none⟩) 1 1] 46 (0, 0)) := by rw [hW0]; exact rowT
  have HW := Aside0.mk (show Below w.heap.size w W0 by rw [hW0]; repeat (first | exact Below.refl _ _ | refine below_alloc ?_ _))
  rw [← hW0]
  clear hW0
  have Q0 := Aside0.mk r0
  have Q1 := Aside0.mk r1
  have Q2 := Aside0.mk r2
  have Q3 := Aside0.mk r3
  have Q4 := Aside0.mk r4
  have Q5 := Aside0.mk r5
  have Q6 := Aside0.mk r6
  have Q7 := Aside0.mk r7
  have Q8 := Aside0.mk r8
  have AG2 := Aside0.mk (show ∀ W, Below W0.heap.size W0 W → Calls Tryd.prog 17 #[.slice (some ⟨W.heap.size, 0, none⟩) 2 2] (W.alloc (.cells #[.slice (some ⟨w.heap.size, 0, none⟩) 1 1, .bool false, .int .i64 0, .int .i64 3, .int .i64 0, .slice (some ⟨w.heap.size + 1, 0, none⟩) 2 2, .bool true, .int .i64 0, .int .i64 5, .int .i64 0] 31)) fun e w' => e = .returned (.bool true) ∧ Below W.heap.size W w' from fun W hW => ag2_c W _ _ 2 ((hW.block _ (blk_lt Q0.out)).trans Q0.out) ((hW.block _ (blk_lt Q1.out)).trans Q1.out))
  have AG3 := Aside0.mk (show ∀ W, Below W0.heap.size W0 W → Calls Tryd.prog 17 #[.slice (some ⟨W.heap.size, 0, none⟩) 3 3] (W.alloc (.cells #[.slice (some ⟨w.heap.size, 0, none⟩) 1 1, .bool false, .int .i64 0, .int .i64 3, .int .i64 0, .slice (some ⟨w.heap.size + 1, 0, none⟩) 2 2, .bool true, .int .i64 0, .int .i64 5, .int .i64 0, .slice (some ⟨w.heap.size + 1 + 1 + 1 + 1, 0, none⟩) 1 1, .bool false, .int .i64 0, .int .i64 3, .int .i64 0] 31)) fun e w' => e = .returned (.bool false) ∧ Below W.heap.size W w' from fun W hW => ag3_c W _ _ _ 2 ((hW.block _ (blk_lt Q0.out)).trans Q0.out) ((hW.block _ (blk_lt Q1.out)).trans Q1.out) ((hW.block _ (blk_lt Q4.out)).trans Q4.out))
  have LN2 := Aside0.mk (show ∀ W, Below W0.heap.size W0 W → Calls Tryd.prog 22 #[.slice (some ⟨W.heap.size, 0, none⟩) 2 2] (W.alloc (.cells #[.slice (some ⟨w.heap.size, 0, none⟩) 1 1, .bool false, .int .i64 0, .int .i64 3, .int .i64 0, .slice (some ⟨w.heap.size + 1, 0, none⟩) 2 2, .bool true, .int .i64 0, .int .i64 5, .int .i64 0] 31)) fun e w' => e = .returned (.int .i64 1) ∧ Below W.heap.size W w' from fun W hW => lng2_c W _ _ 2 ((hW.block _ (blk_lt Q0.out)).trans Q0.out) ((hW.block _ (blk_lt Q1.out)).trans Q1.out))
  have LN0 := Aside0.mk (show ∀ W, Below W0.heap.size W0 W → Calls Tryd.prog 22 #[.slice none 0 0] W fun e w' => e = .returned (.int .i64 (-1)) ∧ Below W.heap.size W w' from fun W hW => lng0_c W)
  have BEG := Aside0.mk (show ∀ W, Below W0.heap.size W0 W → Calls Tryd.prog 20 #[.slice none 0 0, .slice (some ⟨w.heap.size + 1 + 1 + 1 + 1, 0, none⟩) 1 1] W fun e w' => e = .returned (.bool true) ∧ Below W.heap.size W w' from fun W hW => beg0_c W _ 2 ((hW.block _ (blk_lt Q4.out)).trans Q4.out))
  have ENB := Aside0.mk (show ∀ W, Below W0.heap.size W0 W → Calls Tryd.prog 14 #[.agg #[.slice (some ⟨w.heap.size + 1, 0, none⟩) 2 2, .bool true, .int .i64 0, .int .i64 5, .int .i64 0]] W fun e w' => e = .returned (.bool true) ∧ Below W.heap.size W w' from fun W hW => ended_n W _ 2 2 [1, 2] _ _ _ _ true rfl rfl (C_ints [1, 2] (by decide) ((hW.block _ (blk_lt Q1.out)).trans Q1.out)) (Nat.le_refl _))
  have ENA := Aside0.mk (show ∀ W, Below W0.heap.size W0 W → Calls Tryd.prog 14 #[.agg #[.slice (some ⟨w.heap.size, 0, none⟩) 1 1, .bool false, .int .i64 0, .int .i64 3, .int .i64 0]] W fun e w' => e = .returned (.bool false) ∧ Below W.heap.size W w' from fun W hW => ended_n W _ 1 1 [1] _ _ _ _ false rfl rfl (C_ints [1] (by decide) ((hW.block _ (blk_lt Q0.out)).trans Q0.out)) (Nat.le_refl _))
  have HOT := Aside0.mk (OT_below HOT.out HW.out)
  have MD1 := Aside0.mk (show ∀ W, Below W0.heap.size W0 W → Calls Tryd.prog 25 #[.agg #[.slice (some ⟨w.heap.size + 1 + 1 + 1 + 1 + 1 + 1, 0, none⟩) 1 1, .string ⟨#[]⟩, .string ⟨#[]⟩, .slice (some ⟨w.heap.size + 1 + 1 + 1 + 1 + 1 + 1 + 1, 0, none⟩) 1 1], .agg #[.slice (some ⟨W.heap.size, 0, none⟩) 1 1, .bool true, .int .i64 0, .int .i64 1, .int .i64 0]] (W.alloc (.cells #[.int .i64 0] 2)) fun e w' => e = .returned (.bool true) ∧ Below W.heap.size W w' from fun W hW => (model1_c (W.alloc (.cells #[.int .i64 0] 2)) _ _ W.heap.size _ _ 2 (row_old W _ _ (blk_lt ((hW.block _ (blk_lt Q6.out)).trans Q6.out)) ((hW.block _ (blk_lt Q6.out)).trans Q6.out)) (row_old W _ _ (blk_lt ((hW.block _ (blk_lt Q7.out)).trans Q7.out)) ((hW.block _ (blk_lt Q7.out)).trans Q7.out)) (heap_alloc_new W _) (OT_below (OT_below HOT.out hW) (below_alloc (Below.refl _ _) _))).mono fun e w' q => ⟨q.1, below_step (below_alloc (Below.refl _ _) _) q.2⟩)
  have MD2 := Aside0.mk (show ∀ W, Below W0.heap.size W0 W → Calls Tryd.prog 25 #[.agg #[.slice (some ⟨w.heap.size + 1 + 1 + 1 + 1 + 1 + 1, 0, none⟩) 1 1, .string ⟨#[]⟩, .string ⟨#[]⟩, .slice (some ⟨w.heap.size + 1 + 1 + 1 + 1 + 1 + 1 + 1, 0, none⟩) 1 1], .agg #[.slice none 0 0, .bool false, .int .i64 0, .int .i64 1, .int .i64 0]] W fun e w' => e = .returned (.bool false) ∧ Below W.heap.size W w' from fun W hW => model2_c W _ _ _ _ ((hW.block _ (blk_lt Q6.out)).trans Q6.out) ((hW.block _ (blk_lt Q7.out)).trans Q7.out) (OT_below HOT.out hW))
  have HV := Aside0.mk (Below.refl W0.heap.size W0)
  have k2 := fun j => cell_of_row W0 (w.heap.size + 1 + 1) j _ _ _ r2
  have k3 := fun j => cell_of_row W0 (w.heap.size + 1 + 1 + 1) j _ _ _ r3
  have k5 := fun j => cell_of_row W0 (w.heap.size + 1 + 1 + 1 + 1 + 1) j _ _ _ r5
  have k8 := fun j => cell_of_row W0 (w.heap.size + 1 + 1 + 1 + 1 + 1 + 1 + 1 + 1) j _ _ _ r8
  clear r0 r1 r2 r3 r4 r5 r6 r7 r8
  go_wp2_with (first
    | (go_at_call 17; (with_reducible refine (AG2.out _ HV.out).mono ?_); rintro e w1 ⟨rfl, hb1⟩; have HV := Aside0.mk (below_step HV.out hb1); have k2 := fun j => cell_of_row w1 (w.heap.size + 1 + 1) j _ _ _ ((HV.out.block _ (blk_lt Q2.out)).trans Q2.out); have k3 := fun j => cell_of_row w1 (w.heap.size + 1 + 1 + 1) j _ _ _ ((HV.out.block _ (blk_lt Q3.out)).trans Q3.out); have k5 := fun j => cell_of_row w1 (w.heap.size + 1 + 1 + 1 + 1 + 1) j _ _ _ ((HV.out.block _ (blk_lt Q5.out)).trans Q5.out); have k8 := fun j => cell_of_row w1 (w.heap.size + 1 + 1 + 1 + 1 + 1 + 1 + 1 + 1) j _ _ _ ((HV.out.block _ (blk_lt Q8.out)).trans Q8.out); clear hb1)
    | (go_at_call 17; (with_reducible refine (AG3.out _ HV.out).mono ?_); rintro e w1 ⟨rfl, hb1⟩; have HV := Aside0.mk (below_step HV.out hb1); have k2 := fun j => cell_of_row w1 (w.heap.size + 1 + 1) j _ _ _ ((HV.out.block _ (blk_lt Q2.out)).trans Q2.out); have k3 := fun j => cell_of_row w1 (w.heap.size + 1 + 1 + 1) j _ _ _ ((HV.out.block _ (blk_lt Q3.out)).trans Q3.out); have k5 := fun j => cell_of_row w1 (w.heap.size + 1 + 1 + 1 + 1 + 1) j _ _ _ ((HV.out.block _ (blk_lt Q5.out)).trans Q5.out); have k8 := fun j => cell_of_row w1 (w.heap.size + 1 + 1 + 1 + 1 + 1 + 1 + 1 + 1) j _ _ _ ((HV.out.block _ (blk_lt Q8.out)).trans Q8.out); clear hb1)
    | (go_at_call 22; (with_reducible refine (LN2.out _ HV.out).mono ?_); rintro e w1 ⟨rfl, hb1⟩; have HV := Aside0.mk (below_step HV.out hb1); have k2 := fun j => cell_of_row w1 (w.heap.size + 1 + 1) j _ _ _ ((HV.out.block _ (blk_lt Q2.out)).trans Q2.out); have k3 := fun j => cell_of_row w1 (w.heap.size + 1 + 1 + 1) j _ _ _ ((HV.out.block _ (blk_lt Q3.out)).trans Q3.out); have k5 := fun j => cell_of_row w1 (w.heap.size + 1 + 1 + 1 + 1 + 1) j _ _ _ ((HV.out.block _ (blk_lt Q5.out)).trans Q5.out); have k8 := fun j => cell_of_row w1 (w.heap.size + 1 + 1 + 1 + 1 + 1 + 1 + 1 + 1) j _ _ _ ((HV.out.block _ (blk_lt Q8.out)).trans Q8.out); clear hb1)
    | (go_at_call 22; (with_reducible refine (LN0.out _ HV.out).mono ?_); rintro e w1 ⟨rfl, hb1⟩; have HV := Aside0.mk (below_step HV.out hb1); have k2 := fun j => cell_of_row w1 (w.heap.size + 1 + 1) j _ _ _ ((HV.out.block _ (blk_lt Q2.out)).trans Q2.out); have k3 := fun j => cell_of_row w1 (w.heap.size + 1 + 1 + 1) j _ _ _ ((HV.out.block _ (blk_lt Q3.out)).trans Q3.out); have k5 := fun j => cell_of_row w1 (w.heap.size + 1 + 1 + 1 + 1 + 1) j _ _ _ ((HV.out.block _ (blk_lt Q5.out)).trans Q5.out); have k8 := fun j => cell_of_row w1 (w.heap.size + 1 + 1 + 1 + 1 + 1 + 1 + 1 + 1) j _ _ _ ((HV.out.block _ (blk_lt Q8.out)).trans Q8.out); clear hb1)
    | (go_at_call 20; (with_reducible refine (BEG.out _ HV.out).mono ?_); rintro e w1 ⟨rfl, hb1⟩; have HV := Aside0.mk (below_step HV.out hb1); have k2 := fun j => cell_of_row w1 (w.heap.size + 1 + 1) j _ _ _ ((HV.out.block _ (blk_lt Q2.out)).trans Q2.out); have k3 := fun j => cell_of_row w1 (w.heap.size + 1 + 1 + 1) j _ _ _ ((HV.out.block _ (blk_lt Q3.out)).trans Q3.out); have k5 := fun j => cell_of_row w1 (w.heap.size + 1 + 1 + 1 + 1 + 1) j _ _ _ ((HV.out.block _ (blk_lt Q5.out)).trans Q5.out); have k8 := fun j => cell_of_row w1 (w.heap.size + 1 + 1 + 1 + 1 + 1 + 1 + 1 + 1) j _ _ _ ((HV.out.block _ (blk_lt Q8.out)).trans Q8.out); clear hb1)
    | (go_at_call 14; (with_reducible refine (ENB.out _ HV.out).mono ?_); rintro e w1 ⟨rfl, hb1⟩; have HV := Aside0.mk (below_step HV.out hb1); have k2 := fun j => cell_of_row w1 (w.heap.size + 1 + 1) j _ _ _ ((HV.out.block _ (blk_lt Q2.out)).trans Q2.out); have k3 := fun j => cell_of_row w1 (w.heap.size + 1 + 1 + 1) j _ _ _ ((HV.out.block _ (blk_lt Q3.out)).trans Q3.out); have k5 := fun j => cell_of_row w1 (w.heap.size + 1 + 1 + 1 + 1 + 1) j _ _ _ ((HV.out.block _ (blk_lt Q5.out)).trans Q5.out); have k8 := fun j => cell_of_row w1 (w.heap.size + 1 + 1 + 1 + 1 + 1 + 1 + 1 + 1) j _ _ _ ((HV.out.block _ (blk_lt Q8.out)).trans Q8.out); clear hb1)
    | (go_at_call 14; (with_reducible refine (ENA.out _ HV.out).mono ?_); rintro e w1 ⟨rfl, hb1⟩; have HV := Aside0.mk (below_step HV.out hb1); have k2 := fun j => cell_of_row w1 (w.heap.size + 1 + 1) j _ _ _ ((HV.out.block _ (blk_lt Q2.out)).trans Q2.out); have k3 := fun j => cell_of_row w1 (w.heap.size + 1 + 1 + 1) j _ _ _ ((HV.out.block _ (blk_lt Q3.out)).trans Q3.out); have k5 := fun j => cell_of_row w1 (w.heap.size + 1 + 1 + 1 + 1 + 1) j _ _ _ ((HV.out.block _ (blk_lt Q5.out)).trans Q5.out); have k8 := fun j => cell_of_row w1 (w.heap.size + 1 + 1 + 1 + 1 + 1 + 1 + 1 + 1) j _ _ _ ((HV.out.block _ (blk_lt Q8.out)).trans Q8.out); clear hb1)
    | (go_at_call 25; (with_reducible refine (MD1.out _ HV.out).mono ?_); rintro e w1 ⟨rfl, hb1⟩; have HV := Aside0.mk (below_step HV.out hb1); have k2 := fun j => cell_of_row w1 (w.heap.size + 1 + 1) j _ _ _ ((HV.out.block _ (blk_lt Q2.out)).trans Q2.out); have k3 := fun j => cell_of_row w1 (w.heap.size + 1 + 1 + 1) j _ _ _ ((HV.out.block _ (blk_lt Q3.out)).trans Q3.out); have k5 := fun j => cell_of_row w1 (w.heap.size + 1 + 1 + 1 + 1 + 1) j _ _ _ ((HV.out.block _ (blk_lt Q5.out)).trans Q5.out); have k8 := fun j => cell_of_row w1 (w.heap.size + 1 + 1 + 1 + 1 + 1 + 1 + 1 + 1) j _ _ _ ((HV.out.block _ (blk_lt Q8.out)).trans Q8.out); clear hb1)
    | (go_at_call 25; (with_reducible refine (MD2.out _ HV.out).mono ?_); rintro e w1 ⟨rfl, hb1⟩; have HV := Aside0.mk (below_step HV.out hb1); have k2 := fun j => cell_of_row w1 (w.heap.size + 1 + 1) j _ _ _ ((HV.out.block _ (blk_lt Q2.out)).trans Q2.out); have k3 := fun j => cell_of_row w1 (w.heap.size + 1 + 1 + 1) j _ _ _ ((HV.out.block _ (blk_lt Q3.out)).trans Q3.out); have k5 := fun j => cell_of_row w1 (w.heap.size + 1 + 1 + 1 + 1 + 1) j _ _ _ ((HV.out.block _ (blk_lt Q5.out)).trans Q5.out); have k8 := fun j => cell_of_row w1 (w.heap.size + 1 + 1 + 1 + 1 + 1 + 1 + 1 + 1) j _ _ _ ((HV.out.block _ (blk_lt Q8.out)).trans Q8.out); clear hb1))
  go_ret
  exact ⟨rfl, HW.out.trans (HV.out.mono HW.out.size)⟩
end Go.Proofs.YtfkfpcciacplkaaDoor.TAL

namespace Go.Proofs.YtfkfpcciacplkaaDoor.TN
open Go.RowKit Go.Proofs.YtfkfpcciacplkaaDoorW.PrintWords Go.Proofs.YtfkfpcciacplkaaDoorW.PrintLast Go.Proofs.YtfkfpcciacplkaaDoorW.PrintMore
attribute [local go_sem] max2_int min2_int max_two min_two max_three min_three max_four min_four
set_option linter.unusedVariables false
set_option linter.unusedSimpArgs false
open Go.Proofs.YtfkfpcciacplkaaDoor.F
end Go.Proofs.YtfkfpcciacplkaaDoor.TN

namespace Go.Proofs.YtfkfpcciacplkaaDoor.TN
open Go.RowKit Go.Proofs.YtfkfpcciacplkaaDoorW.PrintWords Go.Proofs.YtfkfpcciacplkaaDoorW.PrintLast Go.Proofs.YtfkfpcciacplkaaDoorW.PrintMore
attribute [local go_sem] max2_int min2_int max_two min_two max_three min_three max_four min_four
set_option linter.unusedVariables false
set_option linter.unusedSimpArgs false
open Go.Proofs.YtfkfpcciacplkaaDoor.F
noncomputable def lockstitchref06_Nums.l0 : Nat → List Int → List Int → Int → Option (Bool)
  | 0, _, _, _ => none
  | k + 1, x0, x1, x5 => if x5 < (x0.length : Int) then (if 0 ≤ x5 then (if x5 < (x1.length : Int) then (if (rd x0 x5) = (rd x1 x5) then (lockstitchref06_Nums.l0 k x0 x1 (wrap64 (x5 + 1))) else (some false)) else (none)) else (none)) else (some true)
noncomputable def lockstitchref06_Nums.f (k : Nat) (l0 : List Int) (l1 : List Int) : Option (Bool) := if (l0.length : Int) = (l1.length : Int) then (lockstitchref06_Nums.l0 k l0 l1 0) else (some false)
set_option maxHeartbeats 8000000 in
set_option maxRecDepth 100000 in
theorem lockstitchref06_Nums.calls (k : Nat) (A0 : Option Addr) (c0 : Nat) (l0 : List Int) (A1 : Option Addr) (c1 : Nat) (l1 : List Int) (r : Bool) (w : World) (hr0 : Kd.C (Kd.int .i64) w A0 l0.length l0) (hc0 : l0.length ≤ c0) (hr1 : Kd.C (Kd.int .i64) w A1 l1.length l1) (hc1 : l1.length ≤ c1) (h : lockstitchref06_Nums.f k l0 l1 = some r) :
    Calls Tryd.prog 39 #[.slice A0 l0.length c0, .slice A1 l1.length c1] w fun e w' => e = .returned (.bool r) ∧ Drawn0 w w' := by
  have HR0 := Aside0.mk hr0
  have HC0 := Aside0.mk hc0
  clear hr0 hc0
  have HR1 := Aside0.mk hr1
  have HC1 := Aside0.mk hc1
  clear hr1 hc1
  have H : (if (l0.length : Int) = (l1.length : Int) then (lockstitchref06_Nums.l0 k l0 l1 0) else (some false)) = some r := h
  clear h
  by_cases c3 : (l0.length : Int) = (l1.length : Int)
  · rw [if_pos c3] at H
    have c3b0 : ((l0.length : Int) == (l1.length : Int)) = true := beq_iff_eq.mpr c3
    have c3b1 : ((l0.length : Int) != (l1.length : Int)) = false := bne_eq_false_iff_eq.mpr c3
    have c3b2 : (l0.length == l1.length) = true := by first | simpa using c3 | (simp at c3 ⊢; omega)
    clear c3
    have H' := Aside0.mk H
    clear H
    go_enter Tryd.func39, Tryd.ntmps39
    go_wp2
    repeat (go_quiet (fail); try go_wp2)
    go_loopg [5] k (fun kq v5 w' => ∃ (x5_1 : Int), v5 = .int .i64 x5_1 ∧ Aside0 (lockstitchref06_Nums.l0 kq l0 l1 x5_1 = some r) ∧ Aside0 (kq ≤ k) ∧ Drawn0 w w')
    case atStart => exact ⟨(0), (by first | rfl | (simp; done) | (simp [*]; done)), H', ⟨Nat.le_refl _⟩, by repeat (first | exact Drawn0.refl _ | apply Drawn0.step)⟩
    case round =>
      clear H'
      try clear c1
      try clear p2
      try clear c3
      try clear c3b0
      try clear c3b1
      try clear c3b2
      obtain ⟨x5_1, rfl, HA, HK1, ⟨m1, rfl⟩⟩ := hrel
      cases gk with
      | zero => exact absurd HA.out (by simp [lockstitchref06_Nums.l0])
      | succ k1 =>
        have H := HA.out
        clear HA
        simp only [lockstitchref06_Nums.l0] at H
        by_cases c4 : x5_1 < (l0.length : Int)
        · rw [if_pos c4] at H
          have c4b0 : decide (x5_1 < (l0.length : Int)) = true := decide_eq_true c4
          clear c4
          by_cases c5 : 0 ≤ x5_1
          · rw [if_pos c5] at H
            have c5b0 : decide (0 ≤ x5_1) = true := decide_eq_true c5
            clear c5
            by_cases c6 : x5_1 < (l1.length : Int)
            · rw [if_pos c6] at H
              have c6b0 : decide (x5_1 < (l1.length : Int)) = true := decide_eq_true c6
              clear c6
              by_cases c7 : (rd l0 x5_1) = (rd l1 x5_1)
              · rw [if_pos c7] at H
                have c7b0 : ((rd l0 x5_1) == (rd l1 x5_1)) = true := beq_iff_eq.mpr c7
                have c7b1 : ((rd l0 x5_1) != (rd l1 x5_1)) = false := bne_eq_false_iff_eq.mpr c7
                clear c7
                have H' := Aside0.mk H
                clear H
                have p101 : 0 ≤ (x5_1 : Int) := of_decide_eq_true (by first | (with_reducible assumption) | assumption)
                have q101 : x5_1 < (l0.length : Int) := of_decide_eq_true (by first | (with_reducible assumption) | assumption)
                obtain ⟨ad101, e101, hx101_0⟩ := Kd.at_int HR0.out x5_1 p101 q101
                cases e101
                replace p101 := eq_true p101
                replace q101 := eq_true q101
                have p102 : 0 ≤ (x5_1 : Int) := of_decide_eq_true (by first | (with_reducible assumption) | assumption)
                have q102 : x5_1 < (l1.length : Int) := of_decide_eq_true (by first | (with_reducible assumption) | assumption)
                obtain ⟨ad102, e102, hx102_0⟩ := Kd.at_int HR1.out x5_1 p102 q102
                cases e102
                replace p102 := eq_true p102
                replace q102 := eq_true q102
                go_wp2
                repeat (go_quiet (fail); try go_wp2)
                go_roundg k1
                case measure => have := HK1.out; omega
                case rel => exact ⟨(wrap64 (x5_1 + 1)), (by first | rfl | (simp; done) | (simp [*]; done)), H', ⟨by have := HK1.out; omega⟩, by repeat (first | exact Drawn0.refl _ | apply Drawn0.step)⟩
              · rw [if_neg c7] at H
                have c7b0 : ((rd l0 x5_1) == (rd l1 x5_1)) = false := beq_eq_false_iff_ne.mpr c7
                have c7b1 : ((rd l0 x5_1) != (rd l1 x5_1)) = true := bne_iff_ne.mpr c7
                obtain rfl := Option.some.inj H
                have p101 : 0 ≤ (x5_1 : Int) := of_decide_eq_true (by first | (with_reducible assumption) | assumption)
                have q101 : x5_1 < (l0.length : Int) := of_decide_eq_true (by first | (with_reducible assumption) | assumption)
                obtain ⟨ad101, e101, hx101_0⟩ := Kd.at_int HR0.out x5_1 p101 q101
                cases e101
                replace p101 := eq_true p101
                replace q101 := eq_true q101
                have p102 : 0 ≤ (x5_1 : Int) := of_decide_eq_true (by first | (with_reducible assumption) | assumption)
                have q102 : x5_1 < (l1.length : Int) := of_decide_eq_true (by first | (with_reducible assumption) | assumption)
                obtain ⟨ad102, e102, hx102_0⟩ := Kd.at_int HR1.out x5_1 p102 q102
                cases e102
                replace p102 := eq_true p102
                replace q102 := eq_true q102
                go_wp2
                repeat (go_quiet (fail); try go_wp2)
                go_ret
                exact ⟨by first | rfl | (simp; done) | (simp [*]; done), by repeat (first | exact Drawn0.refl _ | apply Drawn0.step)⟩
            · rw [if_neg c6] at H
              exact absurd H (by simp)
          · rw [if_neg c5] at H
            exact absurd H (by simp)
        · rw [if_neg c4] at H
          have c4b0 : decide (x5_1 < (l0.length : Int)) = false := decide_eq_false c4
          clear c4
          obtain rfl := Option.some.inj H
          go_wp2
          repeat (go_quiet (fail); try go_wp2)
          go_ret
          exact ⟨by first | rfl | (simp; done) | (simp [*]; done), by repeat (first | exact Drawn0.refl _ | apply Drawn0.step)⟩
  · rw [if_neg c3] at H
    have c3b0 : ((l0.length : Int) == (l1.length : Int)) = false := beq_eq_false_iff_ne.mpr c3
    have c3b1 : ((l0.length : Int) != (l1.length : Int)) = true := bne_iff_ne.mpr c3
    have c3b2 : (l0.length == l1.length) = false := by first | simpa using c3 | (simp at c3 ⊢; omega)
    obtain rfl := Option.some.inj H
    go_enter Tryd.func39, Tryd.ntmps39
    go_wp2
    repeat (go_quiet (fail); try go_wp2)
    go_ret
    exact ⟨by first | rfl | (simp; done) | (simp [*]; done), by repeat (first | exact Drawn0.refl _ | apply Drawn0.step)⟩
end Go.Proofs.YtfkfpcciacplkaaDoor.TN

namespace Go.Proofs.YtfkfpcciacplkaaDoor.TN
open Go.RowKit Go.Proofs.YtfkfpcciacplkaaDoorW.PrintWords Go.Proofs.YtfkfpcciacplkaaDoorW.PrintLast Go.Proofs.YtfkfpcciacplkaaDoorW.PrintMore
attribute [local go_sem] max2_int min2_int max_two min_two max_three min_three max_four min_four
set_option linter.unusedVariables false
set_option linter.unusedSimpArgs false
open Go.Proofs.YtfkfpcciacplkaaDoor.F
end Go.Proofs.YtfkfpcciacplkaaDoor.TN

namespace Go.Proofs.YtfkfpcciacplkaaDoor.TRN
open Go.RowKit Go.Proofs.YtfkfpcciacplkaaDoorW.PrintWords Go.Proofs.YtfkfpcciacplkaaDoor.Scan Go.Proofs.YtfkfpcciacplkaaDoor.F Go.Proofs.YtfkfpcciacplkaaDoor.TN Go.Proofs.YtfkfpcciacplkaaDoor.TRB
set_option linter.unusedVariables false
set_option linter.unusedSimpArgs false
theorem nums_l0 (l0 l1 : List Int) (hl : (l0.length : Int) ≤ 9223372036854775807) (hn : l0.length = l1.length) : ∀ d i : Nat, i + d = l0.length → Ev (fun k => lockstitchref06_Nums.l0 k l0 l1 i) (decide (l0.drop i = l1.drop i)) := by
  intro d
  induction d with
  | zero =>
    intro i hi
    have e : decide (l0.drop i = l1.drop i) = true := by
      rw [List.drop_of_length_le (by omega), List.drop_of_length_le (by omega)]
      rfl
    rw [e]
    refine ev_some fun k => ?_
    rw [lockstitchref06_Nums.l0, if_neg (by omega)]
  | succ d ih =>
    intro i hi
    have d0 := List.drop_eq_getElem_cons (l := l0) (i := i) (by omega)
    have d1 := List.drop_eq_getElem_cons (l := l1) (i := i) (by omega)
    have e0 := rd_nat l0 i (by omega)
    have e1 := rd_nat l1 i (by omega)
    by_cases h : rd l0 i = rd l1 i
    · have e : decide (l0.drop i = l1.drop i) = decide (l0.drop (i + 1) = l1.drop (i + 1)) := by
        rw [decide_eq_decide, d0, d1, ← e0, ← e1, h]
        simp
      rw [e]
      refine ev_step (fun k => ?_) (ih (i + 1) (by omega))
      show lockstitchref06_Nums.l0 (k + 1) l0 l1 i = lockstitchref06_Nums.l0 k l0 l1 ((i + 1 : Nat) : Int)
      rw [lockstitchref06_Nums.l0, if_pos (by omega), if_pos (by omega), if_pos (by omega), if_pos h]
      congr 1
      unfold wrap64
      omega
    · have e : decide (l0.drop i = l1.drop i) = false := by
        rw [decide_eq_false_iff_not, d0, d1, ← e0, ← e1]
        intro hh
        injection hh with h1 _
        exact h h1
      rw [e]
      refine ev_some fun k => ?_
      rw [lockstitchref06_Nums.l0, if_pos (by omega), if_pos (by omega), if_pos (by omega), if_neg h]
theorem nums_c (w : World) (A0 : Option Addr) (n0 c0 : Nat) (l0 : List Int) (A1 : Option Addr) (n1 c1 : Nat) (l1 : List Int) (b : Bool) (hb : decide (l0 = l1) = b) (e0 : l0.length = n0) (e1 : l1.length = n1) (h0 : Kd.C (Kd.int .i64) w A0 n0 l0) (hc0 : n0 ≤ c0) (h1 : Kd.C (Kd.int .i64) w A1 n1 l1) (hc1 : n1 ≤ c1) :
    Calls Tryd.prog 39 #[.slice A0 n0 c0, .slice A1 n1 c1] w fun e w' => e = .returned (.bool b) ∧ Below w.heap.size w w' := by
  subst e0 e1 hb
  have hl : (l0.length : Int) ≤ 9223372036854775807 := by have := Kd.C_max h0; omega
  have ev : Ev (fun k => lockstitchref06_Nums.f k l0 l1) (decide (l0 = l1)) := by
    unfold lockstitchref06_Nums.f
    by_cases h : l0.length = l1.length
    · exact Ev.congr (fun k => if_pos (by omega)) (nums_l0 l0 l1 hl h l0.length 0 (by omega))
    · have e : decide (l0 = l1) = false := decide_eq_false fun hh => h (by rw [hh])
      rw [e]
      exact Ev.congr (fun k => if_neg (by omega)) ev_const
  obtain ⟨k, hk⟩ := ev_at ev
  exact (lockstitchref06_Nums.calls k A0 c0 l0 A1 c1 l1 _ w h0 hc0 h1 hc1 hk).mono fun e w' h => ⟨h.1, h.2.below⟩
end Go.Proofs.YtfkfpcciacplkaaDoor.TRN

namespace Go.Proofs.YtfkfpcciacplkaaDoor.TMD
open Go.RowKit Go.Proofs.YtfkfpcciacplkaaDoorW.PrintWords Go.Proofs.YtfkfpcciacplkaaDoorW.PrintLast Go.Proofs.YtfkfpcciacplkaaDoorW.PrintMore Go.Proofs.YtfkfpcciacplkaaDoor.F Go.Proofs.YtfkfpcciacplkaaDoor.KP Go.Proofs.YtfkfpcciacplkaaDoor.CR Go.Proofs.YtfkfpcciacplkaaDoor.SH Go.Proofs.YtfkfpcciacplkaaDoor.FM Go.Proofs.YtfkfpcciacplkaaDoor.ST0 Go.Proofs.YtfkfpcciacplkaaDoor.PL Go.Proofs.YtfkfpcciacplkaaDoor.TRC Go.Proofs.YtfkfpcciacplkaaDoor.TRB Go.Proofs.YtfkfpcciacplkaaDoor.T Go.Proofs.YtfkfpcciacplkaaDoor.TRP Go.Proofs.YtfkfpcciacplkaaDoor.DO1 Go.Proofs.YtfkfpcciacplkaaDoor.TRN
set_option linter.unusedVariables false
set_option linter.unusedSectionVars false
set_option linter.unusedSimpArgs false
theorem rended_n (w : World) (A : Option Addr) (n c : Nat) (l : List Int) (o : Bool) (e s y : Int) (b : Bool) (hb : fin o e = b) (el : l.length = n) (h : Kd.C (Kd.int .i64) w A n l) (hc : n ≤ c) : Calls Tryd.prog 16 #[.agg #[.slice A n c, .bool o, .int .i64 e, .int .i64 s, .int .i64 y]] w fun x w' => x = .returned (.bool b) ∧ Below w.heap.size w w' := by
  subst el hb
  exact lockstitchref22_Ended.calls A c l o e s y _ w h hc (rended_val l o e s y)
def mdl (R : List Int × Int) (l : List Int) (o : Bool) (e : Int) : Bool := (!(R.2 == 2) && decide (R.1 = l)) && (if fin o e then e == R.2 else if o then e == 6 else e == 0)
abbrev RunA (f : Nat) (p : Pg) (s : Int) (R : List Int × Int) (w : World) : Prop :=
  ∀ W, Below w.heap.size w W → Calls Tryd.prog f #[p.v, .int .i64 s] W fun e w' => ∃ A c, e = .returned (.tuple #[.slice A R.1.length c, .int .i64 R.2]) ∧ R.1.length ≤ c ∧ Kd.C (Kd.int .i64) w' A R.1.length R.1 ∧ Below W.heap.size W w'
section
variable (w : World) (p : Pg) (R : List Int × Int) (A : Option Addr) (c : Nat) (l : List Int) (o : Bool) (e s y : Int) (h : Kd.C (Kd.int .i64) w A l.length l) (hc : l.length ≤ c)
include h hc
set_option maxHeartbeats 4000000 in
set_option maxRecDepth 100000 in
theorem refModel_c (hs0 : 0 ≤ s) (hs1 : s ≤ 100000) (hR : RunA 38 p s R w) : Calls Tryd.prog 26 #[p.v, .agg #[.slice A l.length c, .bool o, .int .i64 e, .int .i64 s, .int .i64 y]] w fun x w' => x = .returned (.bool (mdl R l o e)) ∧ Below w.heap.size w w' := by
  obtain ⟨R1, R2⟩ := R
  obtain ⟨A0, c0, ts, la, gl, A3, c3, code⟩ := p
  have RN := Aside0.mk (show ∀ W, Below w.heap.size w W → Calls Tryd.prog 38 #[.agg #[.slice A0 ts.length c0, .string la, .string gl, .slice A3 code.length c3], .int .i64 s] W fun e w' => ∃ A c, e = .returned (.tuple #[.slice A R1.length c, .int .i64 R2]) ∧ R1.length ≤ c ∧ Kd.C (Kd.int .i64) w' A R1.length R1 ∧ Below W.heap.size W w' from hR)
  have HL := Aside0.mk h
  have HC := Aside0.mk hc
  have s0 : ¬ s < 0 := by omega
  have s1 : ¬ s > 100000 := by omega
  obtain ⟨nn, hnn⟩ : ∃ nn, l.length = nn := ⟨_, rfl⟩
  obtain ⟨fb, hfb⟩ : ∃ fb, fin o e = fb := ⟨_, rfl⟩
  obtain ⟨db, hdb⟩ : ∃ db, decide (R1 = l) = db := ⟨_, rfl⟩
  unfold mdl
  simp only [hfb, hdb]
  rw [hnn] at HL HC ⊢
  have HN := Aside0.mk hnn
  have HF := Aside0.mk hfb
  have HD := Aside0.mk hdb
  clear h hc hR hnn hfb hdb
  show Calls _ _ #[.agg #[.slice A0 ts.length c0, .string la, .string gl, .slice A3 code.length c3], .agg #[.slice A nn c, .bool o, .int .i64 e, .int .i64 s, .int .i64 y]] _ _
  have HW := Aside0.mk (Below.refl w.heap.size w)
  by_cases h2 : R2 = 2
  · subst h2
    go_enter Tryd.func26, Tryd.ntmps26
    go_wp2_with (go_at_call 38; (with_reducible refine (RN.out _ ?side1).mono ?_); (case side1 => exact below_alloc (below_alloc HW.out _) _); rintro x w1 ⟨A', c', rfl, hc', hk, hb1⟩; have HW := Aside0.mk (below_step (below_alloc (below_alloc HW.out _) _) hb1); clear hb1)
    all_goals
      go_ret
      exact ⟨rfl, HW.out⟩
  · have h2' : (R2 == 2) = false := beq_false_of_ne h2
    have H2 := Aside0.mk h2'
    cases db <;> cases fb <;> cases o <;> (
      go_enter Tryd.func26, Tryd.ntmps26
      go_wp2_with (first
        | (go_at_call 38; (with_reducible refine (RN.out _ ?side1).mono ?_); (case side1 => exact below_alloc (below_alloc HW.out _) _); rintro x w1 ⟨A', c', rfl, hc', hk, hb1⟩; have R0 := (hb1.block (w.heap.size + 1) (by simp)).trans (row_new _ _ _ (by simp)); have kR := fun j => cell_of_row w1 (w.heap.size + 1) j _ _ _ R0; have HR0 := Aside0.mk R0; have HK := Aside0.mk hk; have HC' := Aside0.mk hc'; have HW := Aside0.mk (below_step (below_alloc (below_alloc HW.out _) _) hb1); clear hb1 R0 hk hc')
        | (go_at_call 39; ((with_reducible refine (nums_c _ _ _ _ R1 _ _ _ l _ HD.out rfl HN.out HK.out HC'.out ?side2 HC.out).mono ?_); (case side2 => exact Kd.C_below HL.out HW.out)); rintro x w2 ⟨rfl, hb2⟩; have HR1 := Aside0.mk ((hb2.block _ (blk_lt HR0.out)).trans HR0.out); have kR := fun j => cell_of_row w2 (w.heap.size + 1) j _ _ _ HR1.out; have HW := Aside0.mk (below_step HW.out hb2); clear hb2)
        | (go_at_call 16; ((with_reducible refine (rended_n _ _ _ _ l _ _ _ _ _ HF.out HN.out ?side3 HC.out).mono ?_); (case side3 => exact Kd.C_below HL.out HW.out)); rintro x w3 ⟨rfl, hb3⟩; have HR2 := Aside0.mk ((hb3.block _ (blk_lt HR1.out)).trans HR1.out); have kR := fun j => cell_of_row w3 (w.heap.size + 1) j _ _ _ HR2.out; have HW := Aside0.mk (below_step HW.out hb3); clear hb3))
      all_goals
        go_ret
        refine ⟨?_, HW.out⟩
        simp [H2.out])
set_option maxHeartbeats 4000000 in
set_option maxRecDepth 100000 in
theorem pModel_c (hs0 : 0 ≤ s) (hs1 : s ≤ 100000) (hR : RunA 37 p s R w) : Calls Tryd.prog 25 #[p.v, .agg #[.slice A l.length c, .bool o, .int .i64 e, .int .i64 s, .int .i64 y]] w fun x w' => x = .returned (.bool (mdl R l o e)) ∧ Below w.heap.size w w' := by
  obtain ⟨R1, R2⟩ := R
  obtain ⟨A0, c0, ts, la, gl, A3, c3, code⟩ := p
  have RN := Aside0.mk (show ∀ W, Below w.heap.size w W → Calls Tryd.prog 37 #[.agg #[.slice A0 ts.length c0, .string la, .string gl, .slice A3 code.length c3], .int .i64 s] W fun e w' => ∃ A c, e = .returned (.tuple #[.slice A R1.length c, .int .i64 R2]) ∧ R1.length ≤ c ∧ Kd.C (Kd.int .i64) w' A R1.length R1 ∧ Below W.heap.size W w' from hR)
  have HL := Aside0.mk h
  have HC := Aside0.mk hc
  have s0 : ¬ s < 0 := by omega
  have s1 : ¬ s > 100000 := by omega
  obtain ⟨nn, hnn⟩ : ∃ nn, l.length = nn := ⟨_, rfl⟩
  obtain ⟨fb, hfb⟩ : ∃ fb, fin o e = fb := ⟨_, rfl⟩
  obtain ⟨db, hdb⟩ : ∃ db, decide (R1 = l) = db := ⟨_, rfl⟩
  unfold mdl
  simp only [hfb, hdb]
  rw [hnn] at HL HC ⊢
  have HN := Aside0.mk hnn
  have HF := Aside0.mk hfb
  have HD := Aside0.mk hdb
  clear h hc hR hnn hfb hdb
  show Calls _ _ #[.agg #[.slice A0 ts.length c0, .string la, .string gl, .slice A3 code.length c3], .agg #[.slice A nn c, .bool o, .int .i64 e, .int .i64 s, .int .i64 y]] _ _
  have HW := Aside0.mk (Below.refl w.heap.size w)
  by_cases h2 : R2 = 2
  · subst h2
    go_enter Tryd.func25, Tryd.ntmps25
    go_wp2_with (go_at_call 37; (with_reducible refine (RN.out _ ?side1).mono ?_); (case side1 => exact below_alloc (below_alloc HW.out _) _); rintro x w1 ⟨A', c', rfl, hc', hk, hb1⟩; have HW := Aside0.mk (below_step (below_alloc (below_alloc HW.out _) _) hb1); clear hb1)
    all_goals
      go_ret
      exact ⟨rfl, HW.out⟩
  · have h2' : (R2 == 2) = false := beq_false_of_ne h2
    have H2 := Aside0.mk h2'
    cases db <;> cases fb <;> cases o <;> (
      go_enter Tryd.func25, Tryd.ntmps25
      go_wp2_with (first
        | (go_at_call 37; (with_reducible refine (RN.out _ ?side1).mono ?_); (case side1 => exact below_alloc (below_alloc HW.out _) _); rintro x w1 ⟨A', c', rfl, hc', hk, hb1⟩; have R0 := (hb1.block (w.heap.size + 1) (by simp)).trans (row_new _ _ _ (by simp)); have kR := fun j => cell_of_row w1 (w.heap.size + 1) j _ _ _ R0; have HR0 := Aside0.mk R0; have HK := Aside0.mk hk; have HC' := Aside0.mk hc'; have HW := Aside0.mk (below_step (below_alloc (below_alloc HW.out _) _) hb1); clear hb1 R0 hk hc')
        | (go_at_call 36; ((with_reducible refine (equal_n _ _ _ _ R1 _ _ _ l _ HD.out rfl HN.out HK.out HC'.out ?side2 HC.out).mono ?_); (case side2 => exact Kd.C_below HL.out HW.out)); rintro x w2 ⟨rfl, n2, hn2⟩; have hb2 : Below w1.heap.size w1 w2 := (by rw [hn2]; exact pw_below_drewN (Below.refl _ _) n2); clear hn2; have HR1 := Aside0.mk ((hb2.block _ (blk_lt HR0.out)).trans HR0.out); have kR := fun j => cell_of_row w2 (w.heap.size + 1) j _ _ _ HR1.out; have HW := Aside0.mk (below_step HW.out hb2); clear hb2)
        | (go_at_call 14; ((with_reducible refine (ended_n _ _ _ _ l _ _ _ _ _ HF.out HN.out ?side3 HC.out).mono ?_); (case side3 => exact Kd.C_below HL.out HW.out)); rintro x w3 ⟨rfl, hb3⟩; have HR2 := Aside0.mk ((hb3.block _ (blk_lt HR1.out)).trans HR1.out); have kR := fun j => cell_of_row w3 (w.heap.size + 1) j _ _ _ HR2.out; have HW := Aside0.mk (below_step HW.out hb3); clear hb3))
      all_goals
        go_ret
        refine ⟨?_, HW.out⟩
        simp [H2.out])
end
end Go.Proofs.YtfkfpcciacplkaaDoor.TMD

namespace Go.Proofs.YtfkfpcciacplkaaDoor.ST
open Go.RowKit Go.Proofs.YtfkfpcciacplkaaDoorW.PrintWords Go.Proofs.YtfkfpcciacplkaaDoor.F
set_option linter.unusedVariables false
structure PS where
  n : Nat → Int
  objs : List (List Int)
  out : List Int
  pc : Int
  steps : Int
def upd (n : Nat → Int) (k : Nat) (v : Int) : Nat → Int := fun j => if j = k then v else n j
theorem upd_same (n : Nat → Int) (k : Nat) (v : Int) : upd n k v k = v := if_pos rfl
theorem upd_ne (n : Nat → Int) {k j : Nat} (v : Int) (h : j ≠ k) : upd n k v j = n j := if_neg h
def fld (l : List (List Int)) (o f : Int) : Int := (l.getD (o - 1).toNat []).getD f.toNat 0
def putF (l : List (List Int)) (o f v : Int) : List (List Int) := l.set (o - 1).toNat ((l.getD (o - 1).toNat []).set f.toNat v)
def stepN (sz loc : Int → Int) (x : S68) (s : PS) : Option PS :=
  if x.f0 = 1 then some { s with n := upd s.n x.f1.toNat x.f4 }
  else if x.f0 = 2 then some { s with n := upd s.n x.f1.toNat (wrap64 (s.n x.f2.toNat + s.n x.f3.toNat)) }
  else if x.f0 = 15 then some { s with n := upd s.n x.f1.toNat (if s.n (8 + x.f2.toNat) = s.n (8 + x.f3.toNat) then 1 else 0) }
  else if x.f0 = 14 then some { s with out := s.out ++ [s.n x.f1.toNat] }
  else if x.f0 = 5 then some { s with objs := s.objs ++ [List.replicate (sz (loc x.f1)).toNat 0], n := upd s.n (8 + x.f1.toNat) ((s.objs.length + 1 : Nat) : Int) }
  else if x.f0 = 6 then some { s with n := upd s.n (8 + x.f1.toNat) 0 }
  else if x.f0 = 7 then some { s with n := upd s.n (8 + x.f1.toNat) (s.n (8 + x.f2.toNat)) }
  else if x.f0 = 12 then some { s with n := upd s.n (8 + x.f1.toNat) (s.n (16 + x.f2.toNat)) }
  else if x.f0 = 13 then some { s with n := upd s.n (16 + x.f1.toNat) (s.n (8 + x.f2.toNat)) }
  else if x.f0 = 8 then (if s.n (8 + x.f2.toNat) = 0 then none else some { s with n := upd s.n x.f1.toNat (fld s.objs (s.n (8 + x.f2.toNat)) x.f4) })
  else if x.f0 = 10 then (if s.n (8 + x.f2.toNat) = 0 then none else some { s with n := upd s.n (8 + x.f1.toNat) (fld s.objs (s.n (8 + x.f2.toNat)) x.f4) })
  else if x.f0 = 9 then (if s.n (8 + x.f1.toNat) = 0 then none else some { s with objs := putF s.objs (s.n (8 + x.f1.toNat)) x.f4 (s.n x.f2.toNat) })
  else (if s.n (8 + x.f1.toNat) = 0 then none else some { s with objs := putF s.objs (s.n (8 + x.f1.toNat)) x.f4 (s.n (8 + x.f2.toNat)) })
def stepP (sz loc : Int → Int) (code : List S68) (s : PS) : PS × Bool × Int :=
  if s.pc = code.length then (s, true, 0)
  else
    if (rd_T68 code s.pc).f0 = 3 ∨ ((rd_T68 code s.pc).f0 = 4 ∧ s.n (rd_T68 code s.pc).f1.toNat = 0) then ({ s with pc := (rd_T68 code s.pc).f4, steps := wrap64 (s.steps + 1) }, false, 0)
    else if (rd_T68 code s.pc).f0 = 4 then ({ s with pc := s.pc + 1, steps := wrap64 (s.steps + 1) }, false, 0)
    else match stepN sz loc (rd_T68 code s.pc) { s with pc := s.pc + 1, steps := wrap64 (s.steps + 1) } with
      | some u => (u, false, 0)
      | none => (s, false, 9)
def Pt (ty : List Int) (t v : Int) : Prop := v = 0 ∨ (1 ≤ v ∧ v ≤ ty.length ∧ ty.getD (v - 1).toNat (-1) = t)
theorem Pt.more {ty : List Int} {t v u : Int} (h : Pt ty t v) : Pt (ty ++ [u]) t v := by
  rcases h with h | ⟨h1, h2, h3⟩
  · exact .inl h
  · refine .inr ⟨h1, by rw [List.length_append]; omega, ?_⟩
    rw [List.getD_eq_getElem?_getD, List.getElem?_append_left (by omega), ← List.getD_eq_getElem?_getD, h3]
theorem Pt.cast {ty : List Int} {t u v : Int} (e : u = v) (h : Pt ty t v) : Pt ty t u := by
  rw [e]
  exact h
structure KK (loc glb sz : Int → Int) (tof : Int → Int → Int) (x : S68) : Prop where
  new : x.f0 = 5 → 0 ≤ loc x.f1
  move : x.f0 = 7 → loc x.f1 = loc x.f2
  loadI : x.f0 = 8 → 0 ≤ loc x.f2 ∧ 0 ≤ x.f4 ∧ x.f4 < sz (loc x.f2)
  loadP : x.f0 = 10 → 0 ≤ x.f4 ∧ x.f4 < sz (loc x.f2) ∧ 0 ≤ tof (loc x.f2) x.f4 ∧ loc x.f1 = tof (loc x.f2) x.f4
  storeI : x.f0 = 9 → 0 ≤ x.f4 ∧ x.f4 < sz (loc x.f1) ∧ tof (loc x.f1) x.f4 < 0
  storeP : x.f0 = 11 → 0 ≤ x.f4 ∧ x.f4 < sz (loc x.f1) ∧ 0 ≤ tof (loc x.f1) x.f4 ∧ loc x.f2 = tof (loc x.f1) x.f4
  loadG : x.f0 = 12 → loc x.f1 = glb x.f2
  storeG : x.f0 = 13 → loc x.f2 = glb x.f1
  ia : x.f0 = 1 ∨ x.f0 = 2 ∨ x.f0 = 4 ∨ x.f0 = 8 ∨ x.f0 = 14 ∨ x.f0 = 15 → x.f1 < 8
  ib : x.f0 = 2 ∨ x.f0 = 9 → x.f2 < 8
  ic : x.f0 = 2 → x.f3 < 8
  pa : x.f0 = 5 ∨ x.f0 = 6 ∨ x.f0 = 7 ∨ x.f0 = 9 ∨ x.f0 = 10 ∨ x.f0 = 11 ∨ x.f0 = 12 → x.f1 < 8
  pb : x.f0 = 7 ∨ x.f0 = 8 ∨ x.f0 = 10 ∨ x.f0 = 11 ∨ x.f0 = 13 ∨ x.f0 = 15 → x.f2 < 8
  pc : x.f0 = 15 → x.f3 < 8
  ga : x.f0 = 13 → x.f1 < 4
  gb : x.f0 = 12 → x.f2 < 4
structure WT (loc glb sz : Int → Int) (tof : Int → Int → Int) (ty : List Int) (s : PS) : Prop where
  len : ty.length = s.objs.length
  ps : ∀ a : Nat, a < 8 → Pt ty (loc a) (s.n (8 + a))
  gs : ∀ a : Nat, a < 4 → Pt ty (glb a) (s.n (16 + a))
  os : ∀ o : Nat, o < s.objs.length → (s.objs.getD o []).length = (sz (ty.getD o (-1))).toNat
  fs : ∀ o : Nat, o < s.objs.length → ∀ f : Nat, 0 ≤ tof (ty.getD o (-1)) f → Pt ty (tof (ty.getD o (-1)) f) ((s.objs.getD o []).getD f 0)
theorem WT.start (loc glb sz : Int → Int) (tof : Int → Int → Int) : WT loc glb sz tof [] ⟨fun _ => 0, [], [], 0, 0⟩ :=
  ⟨rfl, fun _ _ => .inl rfl, fun _ _ => .inl rfl, fun o h => absurd h (by simp), fun o h => absurd h (by simp)⟩
section
variable {loc glb sz : Int → Int} {tof : Int → Int → Int} {ty : List Int} {s : PS}
theorem WT.setX (h : WT loc glb sz tof ty s) {k : Nat} (hk : k < 8) (v : Int) : WT loc glb sz tof ty { s with n := upd s.n k v } :=
  ⟨h.len, fun a ha => Pt.cast (upd_ne s.n v (by omega)) (h.ps a ha), fun a ha => Pt.cast (upd_ne s.n v (by omega)) (h.gs a ha), h.os, h.fs⟩
theorem WT.setP (h : WT loc glb sz tof ty s) {k : Nat} (hk : k < 8) {v : Int} (hv : Pt ty (loc k) v) : WT loc glb sz tof ty { s with n := upd s.n (8 + k) v } := by
  refine ⟨h.len, fun a ha => ?_, fun a ha => Pt.cast (upd_ne s.n v (by omega)) (h.gs a ha), h.os, h.fs⟩
  by_cases e : a = k
  · subst e
    exact Pt.cast (upd_same s.n _ v) hv
  · exact Pt.cast (upd_ne s.n v (by omega)) (h.ps a ha)
theorem WT.setG (h : WT loc glb sz tof ty s) {k : Nat} (hk : k < 4) {v : Int} (hv : Pt ty (glb k) v) : WT loc glb sz tof ty { s with n := upd s.n (16 + k) v } := by
  refine ⟨h.len, fun a ha => Pt.cast (upd_ne s.n v (by omega)) (h.ps a ha), fun a ha => ?_, h.os, h.fs⟩
  by_cases e : a = k
  · subst e
    exact Pt.cast (upd_same s.n _ v) hv
  · exact Pt.cast (upd_ne s.n v (by omega)) (h.gs a ha)
theorem WT.pc (h : WT loc glb sz tof ty s) (p st : Int) (o : List Int) : WT loc glb sz tof ty { s with pc := p, steps := st, out := o } := ⟨h.len, h.ps, h.gs, h.os, h.fs⟩
theorem getD_app {α : Type} (l : List α) (x d : α) (i : Nat) : (l ++ [x]).getD i d = if i < l.length then l.getD i d else if i = l.length then x else d := by
  rw [List.getD_eq_getElem?_getD]
  by_cases h : i < l.length
  · rw [if_pos h, List.getElem?_append_left h, List.getD_eq_getElem?_getD]
  · rw [if_neg h, List.getElem?_append_right (by omega)]
    by_cases e : i = l.length
    · rw [if_pos e, e, Nat.sub_self]
      rfl
    · rw [if_neg e, List.getElem?_eq_none (by simp; omega)]
      rfl
theorem getD_rep (m f : Nat) : (List.replicate m (0 : Int)).getD f 0 = 0 := by
  rw [List.getD_eq_getElem?_getD, List.getElem?_replicate]
  split <;> rfl
theorem WT.more (h : WT loc glb sz tof ty s) (t : Int) : WT loc glb sz tof (ty ++ [t]) { s with objs := s.objs ++ [List.replicate (sz t).toNat 0] } := by
  have hl := h.len
  refine ⟨by rw [List.length_append, List.length_append, hl]; rfl, fun a ha => (h.ps a ha).more, fun a ha => (h.gs a ha).more, fun o ho => ?_, fun o ho f hf => ?_⟩
  · simp only [List.length_append, List.length_singleton] at ho
    show ((s.objs ++ [List.replicate (sz t).toNat 0]).getD o []).length = _
    rw [getD_app, getD_app, hl]
    by_cases e : o < s.objs.length
    · rw [if_pos e, if_pos e]
      exact h.os o e
    · rw [if_neg e, if_neg e, if_pos (by omega), if_pos (by omega), List.length_replicate]
  · simp only [List.length_append, List.length_singleton] at ho
    show Pt _ _ (((s.objs ++ [List.replicate (sz t).toNat 0]).getD o []).getD f 0)
    rw [getD_app, hl] at hf
    rw [getD_app, getD_app, hl]
    by_cases e : o < s.objs.length
    · rw [if_pos e] at hf
      rw [if_pos e, if_pos e]
      exact (h.fs o e f hf).more
    · rw [if_neg e, if_neg e, if_pos (by omega), if_pos (by omega), getD_rep]
      exact .inl rfl
theorem WT.put (h : WT loc glb sz tof ty s) {o f : Int} {t v : Int} (ho : Pt ty t o) (h0 : o ≠ 0) (hf : 0 ≤ f ∧ f < sz t) (hv : 0 ≤ tof t f → Pt ty (tof t f) v) : WT loc glb sz tof ty { s with objs := putF s.objs o f v } := by
  obtain ⟨h1, h2, h3⟩ := ho.resolve_left h0
  have hl := h.len
  have hon : (o - 1).toNat < s.objs.length := by omega
  have hg : ∀ i : Nat, (putF s.objs o f v).getD i [] = if i = (o - 1).toNat then (s.objs.getD (o - 1).toNat []).set f.toNat v else s.objs.getD i [] := by
    intro i
    unfold putF
    rw [List.getD_eq_getElem?_getD, List.getElem?_set]
    by_cases e : (o - 1).toNat = i
    · rw [if_pos e, if_pos (by omega), if_pos e.symm]
      rfl
    · rw [if_neg e, if_neg (fun e' => e e'.symm), List.getD_eq_getElem?_getD]
  have hlen : (putF s.objs o f v).length = s.objs.length := by unfold putF; rw [List.length_set]
  refine ⟨by rw [hl]; exact hlen.symm, h.ps, h.gs, fun i hi => ?_, fun i hi k hk => ?_⟩
  · show ((putF s.objs o f v).getD i []).length = _
    rw [hg]
    have hi' : i < s.objs.length := by rw [← hlen]; exact hi
    split
    · rename_i e
      rw [List.length_set, ← e]
      exact h.os i hi'
    · exact h.os i hi'
  · show Pt _ _ (((putF s.objs o f v).getD i []).getD k 0)
    have hi' : i < s.objs.length := by rw [← hlen]; exact hi
    rw [hg]
    split
    · rename_i e
      rw [e, h3] at hk ⊢
      rw [List.getD_eq_getElem?_getD, List.getElem?_set]
      by_cases ek : f.toNat = k
      · have ef : f = (k : Int) := by omega
        rw [ef] at hv
        rw [if_pos ek]
        split
        · exact hv hk
        · exact .inl rfl
      · rw [if_neg ek, ← List.getD_eq_getElem?_getD]
        have := h.fs (o - 1).toNat hon k
        rw [h3] at this
        exact this hk
    · exact h.fs i hi' k hk
theorem WT.fld (h : WT loc glb sz tof ty s) {o f t : Int} (ho : Pt ty t o) (h0 : o ≠ 0) (hf : 0 ≤ f) (hto : 0 ≤ tof t f) : Pt ty (tof t f) (fld s.objs o f) := by
  obtain ⟨h1, h2, h3⟩ := ho.resolve_left h0
  have hl := h.len
  have := h.fs (o - 1).toNat (by omega) f.toNat
  rw [h3, show ((f.toNat : Nat) : Int) = f by omega] at this
  exact this hto
end
section
variable {loc glb sz : Int → Int} {tof : Int → Int → Int} {x : S68} (hx : KK loc glb sz tof x) (h1 : 0 ≤ x.f1) (h2 : 0 ≤ x.f2) (hop : 1 ≤ x.f0 ∧ x.f0 ≤ 15) (hj : x.f0 ≠ 3 ∧ x.f0 ≠ 4)
include hx h1 h2 hop hj
theorem stepN_wt {ty : List Int} {s u : PS} (h : WT loc glb sz tof ty s) (e : stepN sz loc x s = some u) : ∃ ty', WT loc glb sz tof ty' u := by
  have e1 : ((x.f1.toNat : Nat) : Int) = x.f1 := by omega
  have e2 : ((x.f2.toNat : Nat) : Int) = x.f2 := by omega
  have P1 : x.f1 < 8 → Pt ty (loc x.f1) (s.n (8 + x.f1.toNat)) := fun hl => by have := h.ps x.f1.toNat (by omega); rwa [e1] at this
  have P2 : x.f2 < 8 → Pt ty (loc x.f2) (s.n (8 + x.f2.toNat)) := fun hl => by have := h.ps x.f2.toNat (by omega); rwa [e2] at this
  unfold stepN at e
  by_cases o1 : x.f0 = 1
  · rw [if_pos o1] at e
    obtain rfl := Option.some.inj e
    have := hx.ia (by omega)
    exact ⟨ty, h.setX (by omega) _⟩
  rw [if_neg o1] at e
  by_cases o2 : x.f0 = 2
  · rw [if_pos o2] at e
    obtain rfl := Option.some.inj e
    have := hx.ia (by omega)
    exact ⟨ty, h.setX (by omega) _⟩
  rw [if_neg o2] at e
  by_cases o15 : x.f0 = 15
  · rw [if_pos o15] at e
    obtain rfl := Option.some.inj e
    have := hx.ia (by omega)
    exact ⟨ty, h.setX (by omega) _⟩
  rw [if_neg o15] at e
  by_cases o14 : x.f0 = 14
  · rw [if_pos o14] at e
    obtain rfl := Option.some.inj e
    exact ⟨ty, h.pc _ _ _⟩
  rw [if_neg o14] at e
  by_cases o5 : x.f0 = 5
  · rw [if_pos o5] at e
    obtain rfl := Option.some.inj e
    have ha := hx.pa (by omega)
    refine ⟨ty ++ [loc x.f1], (h.more (loc x.f1)).setP (k := x.f1.toNat) (by omega) (.inr ⟨by omega, by rw [List.length_append, h.len]; simp, ?_⟩)⟩
    rw [getD_app, h.len, if_neg (by omega), if_pos (by omega), e1]
  rw [if_neg o5] at e
  by_cases o6 : x.f0 = 6
  · rw [if_pos o6] at e
    obtain rfl := Option.some.inj e
    have ha := hx.pa (by omega)
    exact ⟨ty, h.setP (by omega) (.inl rfl)⟩
  rw [if_neg o6] at e
  by_cases o7 : x.f0 = 7
  · rw [if_pos o7] at e
    obtain rfl := Option.some.inj e
    have ha := hx.pa (by omega)
    have hb := hx.pb (by omega)
    exact ⟨ty, h.setP (by omega) (by rw [e1, hx.move o7]; exact P2 hb)⟩
  rw [if_neg o7] at e
  by_cases o12 : x.f0 = 12
  · rw [if_pos o12] at e
    obtain rfl := Option.some.inj e
    have ha := hx.pa (by omega)
    have hb := hx.gb o12
    exact ⟨ty, h.setP (by omega) (by rw [e1, hx.loadG o12, ← e2]; exact h.gs _ (by omega))⟩
  rw [if_neg o12] at e
  by_cases o13 : x.f0 = 13
  · rw [if_pos o13] at e
    obtain rfl := Option.some.inj e
    have ha := hx.ga o13
    have hb := hx.pb (by omega)
    exact ⟨ty, h.setG (by omega) (by rw [e1, ← hx.storeG o13]; exact P2 hb)⟩
  rw [if_neg o13] at e
  by_cases o8 : x.f0 = 8
  · rw [if_pos o8] at e
    split at e
    · cases e
    · obtain rfl := Option.some.inj e
      have := hx.ia (by omega)
      exact ⟨ty, h.setX (by omega) _⟩
  rw [if_neg o8] at e
  by_cases o10 : x.f0 = 10
  · rw [if_pos o10] at e
    split at e
    · cases e
    · rename_i hz
      obtain rfl := Option.some.inj e
      have ha := hx.pa (by omega)
      have hb := hx.pb (by omega)
      obtain ⟨k1, k2, k3, k4⟩ := hx.loadP o10
      exact ⟨ty, h.setP (by omega) (by rw [e1, k4]; exact h.fld (P2 hb) hz k1 k3)⟩
  rw [if_neg o10] at e
  by_cases o9 : x.f0 = 9
  · rw [if_pos o9] at e
    split at e
    · cases e
    · rename_i hz
      obtain rfl := Option.some.inj e
      have ha := hx.pa (by omega)
      obtain ⟨k1, k2, k3⟩ := hx.storeI o9
      exact ⟨ty, h.put (P1 ha) hz ⟨k1, k2⟩ fun h0 => by omega⟩
  rw [if_neg o9] at e
  have o11 : x.f0 = 11 := by omega
  split at e
  · cases e
  · rename_i hz
    obtain rfl := Option.some.inj e
    have ha := hx.pa (by omega)
    have hb := hx.pb (by omega)
    obtain ⟨k1, k2, k3, k4⟩ := hx.storeP o11
    exact ⟨ty, h.put (P1 ha) hz ⟨k1, k2⟩ fun _ => by rw [← k4]; exact P2 hb⟩
end
end Go.Proofs.YtfkfpcciacplkaaDoor.ST

namespace Go.Proofs.YtfkfpcciacplkaaDoor.ST
open Go.RowKit Go.Proofs.YtfkfpcciacplkaaDoorW.PrintWords Go.Proofs.YtfkfpcciacplkaaDoor.ST0
set_option linter.unusedVariables false
def OutF (w : World) (P : Nat → Prop) (A : Option Addr) (out : List Int) : Prop := ∀ W' : World, (∀ k, P k → k < w.heap.size → W'.heap[k]? = w.heap[k]?) → (Kd.int .i64).C W' A out.length out
theorem OutF.now {w : World} {P : Nat → Prop} {A : Option Addr} {out : List Int} (h : OutF w P A out) : (Kd.int .i64).C w A out.length out := h w fun _ _ _ => rfl
theorem OutF.mono {w : World} {P Q : Nat → Prop} {A : Option Addr} {out : List Int} (h : OutF w P A out) (hp : ∀ k, P k → Q k) : OutF w Q A out := fun W' hW => h W' fun k hk hl => hW k (hp k hk) hl
theorem OutF.bound {w : World} {P : Nat → Prop} {A : Option Addr} {out : List Int} (h : OutF w P A out) : OutF w (fun k => P k ∧ k < w.heap.size) A out := fun W' hW => h W' fun k hp hk => hW k ⟨hp, hk⟩ hk
theorem OutF.step {w w' : World} {P : Nat → Prop} {A : Option Addr} {out : List Int} (h : OutF w P A out) (hb : ∀ k, P k → k < w.heap.size → w'.heap[k]? = w.heap[k]? ∧ k < w'.heap.size) : OutF w' P A out :=
  fun W' hW => h W' fun k hp hk => (hW k hp (hb k hp hk).2).trans (hb k hp hk).1
theorem OutF.below {w w' : World} {P : Nat → Prop} {A : Option Addr} {out : List Int} (h : OutF w P A out) (hb : Below w.heap.size w w') : OutF w' P A out := h.step fun k _ hk => ⟨hb.block k hk, Nat.lt_of_lt_of_le hk hb.size⟩
theorem cell_more2 {w : World} {b j : Nat} {v : Value} (hb : b < w.heap.size) (h : w.cell? ⟨b, j, none⟩ = some v) (q r : Obj) : ((w.alloc q).alloc r).cell? ⟨b, j, none⟩ = some v :=
  ((below_alloc (below_alloc (Below.refl _ _) q) r).cell (p := ⟨b, j, none⟩) hb).trans h
theorem heap_old2 (w : World) (o : Obj) {i : Nat} (h : i < w.heap.size) : (w.alloc o).heap[i]? = w.heap[i]? := by
  show (w.heap.push o)[i]? = w.heap[i]?
  rw [Array.getElem?_push, if_neg (Nat.ne_of_lt h)]
theorem sizeS : (Tryd.prog.info? 102).map (·.size) = some 24 := by kernel_rfl
section
variable {ops : Array Oper} {rest : List Oper} {o : Oper} {a : Act} {w w' : World} {Q : Exit → Act → World → Prop} {x y : Operand} {g : Nat} {cs old : Array Value}
theorem ldS (ho : o.op = .load 102 x) (hgd : o.guard = none) (hx : a.eval x = .pointer (some ⟨g, 0, none⟩)) (hg : w.heap[g]? = some (.cells cs 102 (0, 0))) (hs : cs.size = 24)
    (h : wpList Tryd.prog ops Q rest (a.put o.dst (.agg cs)) w) : wpList Tryd.prog ops Q (o :: rest) a w :=
  wpList_load_row hgd 102 x ho g hx 102 cs (0, 0) _ hg Tryd.underlying102 rfl (by rw [sizeS, hs]) h
theorem srS (ho : o.op = .store 102 x y) (hgd : o.guard = none) (hx : a.eval x = .pointer (some ⟨g, 0, none⟩)) (hy : a.eval y = .agg cs) (hg : w.heap[g]? = some (.cells old 102 (0, 0)))
    (hs : cs.size = 24) (hs' : old.size = 24) (h1 : cs.toList.all (·.oneCell') = true) (hw : w.setRow g cs = w')
    (h : wpList Tryd.prog ops Q rest (a.put o.dst undef) w') : wpList Tryd.prog ops Q (o :: rest) a w := by
  subst hw
  exact wpList_store_row hgd 102 x y ho g cs hx hy 102 old hg (by rw [sizeS, hs]) (by rw [hs, hs']) (by rw [← Array.all_toList]; exact h1) h
end
theorem ldS_run {w : World} {g : Nat} {cs : Array Value} (hg : w.heap[g]? = some (.cells cs 102 (0, 0))) (hs : cs.size = 24) :
    (loadVar 102 ⟨g, 0, none⟩).run Tryd.prog w = .ok (.agg cs) w :=
  run_loadVar_row (P := Tryd.prog) w g 102 102 cs (0, 0) _ hg Tryd.underlying102 rfl (by rw [sizeS, hs])
theorem ret2S {fn : Func} {R : Ending → World → Prop} {a : Act} {w : World} {p q : Tmp} {g : Nat} {cs : Array Value} {v : Value} (h : fn.results = #[.cell p 102, .tmp q]) (hd : a.defers = []) (hp : a.tmps.getD p undef = .pointer (some ⟨g, 0, none⟩))
    (hq : a.tmps.getD q undef = v) (hg : w.heap[g]? = some (.cells cs 102 (0, 0))) (hs : cs.size = 24) (hR : R (.returned (.tuple #[.agg cs, v])) w) : bodyPost Tryd.prog fn R .ret a w := by
  refine bodyPost_ret ?_ hd hR
  have hp' : a.tmps[p]?.getD undef = .pointer (some ⟨g, 0, none⟩) := by simpa using hp
  have hq' : a.tmps[q]?.getD undef = v := by simpa using hq
  simp [results, h, hp', hq', asAddr, ldS_run hg hs]
theorem ret3S {fn : Func} {R : Ending → World → Prop} {a : Act} {w : World} {p q r : Tmp} {g : Nat} {cs : Array Value} {v u : Value} (h : fn.results = #[.cell p 102, .tmp q, .tmp r]) (hd : a.defers = []) (hp : a.tmps.getD p undef = .pointer (some ⟨g, 0, none⟩))
    (hq : a.tmps.getD q undef = v) (hr : a.tmps.getD r undef = u) (hg : w.heap[g]? = some (.cells cs 102 (0, 0))) (hs : cs.size = 24) (hR : R (.returned (.tuple #[.agg cs, v, u])) w) : bodyPost Tryd.prog fn R .ret a w := by
  refine bodyPost_ret ?_ hd hR
  have hp' : a.tmps[p]?.getD undef = .pointer (some ⟨g, 0, none⟩) := by simpa using hp
  have hq' : a.tmps[q]?.getD undef = v := by simpa using hq
  have hr' : a.tmps[r]?.getD undef = u := by simpa using hr
  simp [results, h, hp', hq', hr', asAddr, ldS_run hg hs]
theorem row8 (n : Nat → Int) (b k : Nat) (h : k < 8) : ([.int .i64 (n (b + 0)), .int .i64 (n (b + 1)), .int .i64 (n (b + 2)), .int .i64 (n (b + 3)), .int .i64 (n (b + 4)), .int .i64 (n (b + 5)), .int .i64 (n (b + 6)), .int .i64 (n (b + 7))] : List Value)[k]? = some (.int .i64 (n (b + k))) := by
  match k, h with
  | 0, _ => rfl
  | 1, _ => rfl
  | 2, _ => rfl
  | 3, _ => rfl
  | 4, _ => rfl
  | 5, _ => rfl
  | 6, _ => rfl
  | 7, _ => rfl
theorem rowS (n : Nat → Int) (O T U V : Value) (k : Nat) (h : k < 20) : ([.int .i64 (n 0), .int .i64 (n 1), .int .i64 (n 2), .int .i64 (n 3), .int .i64 (n 4), .int .i64 (n 5), .int .i64 (n 6), .int .i64 (n 7), .int .i64 (n 8), .int .i64 (n 9), .int .i64 (n 10), .int .i64 (n 11), .int .i64 (n 12), .int .i64 (n 13), .int .i64 (n 14), .int .i64 (n 15), .int .i64 (n 16), .int .i64 (n 17), .int .i64 (n 18), .int .i64 (n 19), O, T, U, V] : List Value)[k]? = some (.int .i64 (n k)) := by
  match k, h with
  | 0, _ => rfl
  | 1, _ => rfl
  | 2, _ => rfl
  | 3, _ => rfl
  | 4, _ => rfl
  | 5, _ => rfl
  | 6, _ => rfl
  | 7, _ => rfl
  | 8, _ => rfl
  | 9, _ => rfl
  | 10, _ => rfl
  | 11, _ => rfl
  | 12, _ => rfl
  | 13, _ => rfl
  | 14, _ => rfl
  | 15, _ => rfl
  | 16, _ => rfl
  | 17, _ => rfl
  | 18, _ => rfl
  | 19, _ => rfl
  | m + 20, h => exact absurd h (by omega)
theorem rowSA (n : Nat → Int) (O T U V : Value) (k : Nat) (h : (k : Int) < 8) : (#[.int .i64 (n 0), .int .i64 (n 1), .int .i64 (n 2), .int .i64 (n 3), .int .i64 (n 4), .int .i64 (n 5), .int .i64 (n 6), .int .i64 (n 7), .int .i64 (n 8), .int .i64 (n 9), .int .i64 (n 10), .int .i64 (n 11), .int .i64 (n 12), .int .i64 (n 13), .int .i64 (n 14), .int .i64 (n 15), .int .i64 (n 16), .int .i64 (n 17), .int .i64 (n 18), .int .i64 (n 19), O, T, U, V] : Array Value)[k]? = some (.int .i64 (n k)) :=
  (List.getElem?_toArray ..).trans (rowS n O T U V k (by omega))
theorem upd_upd (n : Nat → Int) (k : Nat) (u v : Int) : upd (upd n k u) k v = upd n k v := by
  funext j
  unfold upd
  split <;> rfl
theorem row4 (n : Nat → Int) (b k : Nat) (h : k < 4) : ([.int .i64 (n (b + 0)), .int .i64 (n (b + 1)), .int .i64 (n (b + 2)), .int .i64 (n (b + 3))] : List Value)[k]? = some (.int .i64 (n (b + k))) := by
  match k, h with
  | 0, _ => rfl
  | 1, _ => rfl
  | 2, _ => rfl
  | 3, _ => rfl
theorem upd_at (n : Nat → Int) (b k j : Nat) (v : Int) : upd n (b + k) v (b + j) = if j = k then v else n (b + j) := by
  unfold upd
  by_cases e : j = k
  · rw [if_pos e, if_pos (by omega)]
  · rw [if_neg e, if_neg (by omega)]
theorem set8 (n : Nat → Int) (b k : Nat) (h : k < 8) (v : Int) : ([.int .i64 (n (b + 0)), .int .i64 (n (b + 1)), .int .i64 (n (b + 2)), .int .i64 (n (b + 3)), .int .i64 (n (b + 4)), .int .i64 (n (b + 5)), .int .i64 (n (b + 6)), .int .i64 (n (b + 7))] : List Value).set k (.int .i64 v) =
   [.int .i64 (upd n (b + k) v (b + 0)), .int .i64 (upd n (b + k) v (b + 1)), .int .i64 (upd n (b + k) v (b + 2)), .int .i64 (upd n (b + k) v (b + 3)), .int .i64 (upd n (b + k) v (b + 4)), .int .i64 (upd n (b + k) v (b + 5)), .int .i64 (upd n (b + k) v (b + 6)), .int .i64 (upd n (b + k) v (b + 7))] := by
  simp only [upd_at]
  match k, h with
  | 0, _ => rfl
  | 1, _ => rfl
  | 2, _ => rfl
  | 3, _ => rfl
  | 4, _ => rfl
  | 5, _ => rfl
  | 6, _ => rfl
  | 7, _ => rfl
theorem set4 (n : Nat → Int) (b k : Nat) (h : k < 4) (v : Int) : ([.int .i64 (n (b + 0)), .int .i64 (n (b + 1)), .int .i64 (n (b + 2)), .int .i64 (n (b + 3))] : List Value).set k (.int .i64 v) =
   [.int .i64 (upd n (b + k) v (b + 0)), .int .i64 (upd n (b + k) v (b + 1)), .int .i64 (upd n (b + k) v (b + 2)), .int .i64 (upd n (b + k) v (b + 3))] := by
  simp only [upd_at]
  match k, h with
  | 0, _ => rfl
  | 1, _ => rfl
  | 2, _ => rfl
  | 3, _ => rfl
end Go.Proofs.YtfkfpcciacplkaaDoor.ST

namespace Go.Proofs.YtfkfpcciacplkaaDoor.ST
open Go.RowKit Go.Proofs.YtfkfpcciacplkaaDoorW.PrintWords Go.Proofs.YtfkfpcciacplkaaDoor.ST0
set_option linter.unusedVariables false
structure Hd where
  A : Option Addr
  n : Nat
  c : Nat
instance : Inhabited Hd := ⟨⟨none, 0, 0⟩⟩
def Hd.v (h : Hd) : Value := .slice h.A h.n h.c
theorem Hd.one (h : Hd) : h.v.oneCell' = true := rfl
abbrev KH : Kd Hd := Kd.scalar Hd.v Hd.one
abbrev KI : Kd Int := Kd.int .i64
def Hd.Is (w : World) (h : Hd) (xs : List Int) : Prop := h.n = xs.length ∧ h.n ≤ h.c ∧ KI.C w h.A xs.length xs
structure Objs (w : World) (A : Option Addr) (hs : List Hd) (os : List (List Int)) : Prop where
  row : KH.C w A hs.length hs
  len : hs.length = os.length
  is : ∀ j : Nat, j < hs.length → (hs.getD j default).Is w (os.getD j [])
theorem Objs.none (w : World) : Objs w none [] [] := ⟨Kd.C_nil _ _, rfl, fun j hj => absurd hj (by simp)⟩
def ObF (w : World) (P : Nat → Prop) (A : Option Addr) (hs : List Hd) (os : List (List Int)) : Prop := ∀ W' : World, (∀ k, P k → k < w.heap.size → W'.heap[k]? = w.heap[k]?) → Objs W' A hs os
theorem ObF.now {w : World} {P : Nat → Prop} {A : Option Addr} {hs : List Hd} {os : List (List Int)} (h : ObF w P A hs os) : Objs w A hs os := h w fun _ _ _ => rfl
theorem ObF.step {w w' : World} {P : Nat → Prop} {A : Option Addr} {hs : List Hd} {os : List (List Int)} (h : ObF w P A hs os) (hb : ∀ k, P k → k < w.heap.size → w'.heap[k]? = w.heap[k]? ∧ k < w'.heap.size) : ObF w' P A hs os :=
  fun W' hW => h W' fun k hp hk => (hW k hp (hb k hp hk).2).trans (hb k hp hk).1
theorem ObF.bound {w : World} {P : Nat → Prop} {A : Option Addr} {hs : List Hd} {os : List (List Int)} (h : ObF w P A hs os) : ObF w (fun k => P k ∧ k < w.heap.size) A hs os := fun W' hW => h W' fun k hp hk => hW k ⟨hp, hk⟩ hk
theorem ObF.mono {w : World} {P Q : Nat → Prop} {A : Option Addr} {hs : List Hd} {os : List (List Int)} (h : ObF w P A hs os) (hp : ∀ k, P k → Q k) : ObF w Q A hs os := fun W' hW => h W' fun k hk hl => hW k (hp k hk) hl
theorem ObF.below {w w' : World} {P : Nat → Prop} {A : Option Addr} {hs : List Hd} {os : List (List Int)} (h : ObF w P A hs os) (hb : Below w.heap.size w w') : ObF w' P A hs os := h.step fun k _ hk => ⟨hb.block k hk, Nat.lt_of_lt_of_le hk hb.size⟩
theorem own_other_world {α : Type} {enc : α → Value} {h1 : ∀ x, (enc x).oneCell' = true} {e base g n cap : Nat} {W W' : World} {ok : Nat → Prop} {xs : List α} (h : (Kd.scalar enc h1).R e W base ok (.slice (some ⟨g, 0, none⟩) n cap) xs) (hg : W'.heap[g]? = W.heap[g]?) : (Kd.scalar enc h1).C W' (some ⟨g, 0, none⟩) xs.length xs := by
  have e1 : n = xs.length := (Kd.R_reads' h).1
  subst e1
  have h2 := own_move (Kd.own_of_R h) (w1 := W') fun k hk => by
    injection hk with hk
    subst hk
    exact hg
  exact (Kd.R_reads' (Kd.R_of_own (h1 := h1) (ok := fun _ => True) h2 fun _ _ => trivial)).2.2
theorem info_h : (Tryd.prog.info? 23).map (fun i => (i.zero, i.size, i.bytes)) = some (some (.slice none 0 0), 1, 24) := by kernel_rfl
theorem info_i : (Tryd.prog.info? 2).map (fun i => (i.zero, i.size, i.bytes)) = some (some (.int .i64 0), 1, 8) := by kernel_rfl
theorem own_empty {α : Type} {enc : α → Value} {h1 : ∀ x, (enc x).oneCell' = true} (W : World) (B e g : Nat) (hg : g = W.heap.size) (hB : B ≤ W.heap.size) : (Kd.scalar enc h1).R e (W.alloc (.cells #[] e)) B (fun _ => True) (.slice (some ⟨g, 0, none⟩) 0 0) [] := by
  subst hg
  exact Kd.R_of_own (own_lit_of (enc := enc) W B e [] hB (by simp)) fun _ _ => trivial
theorem put_get {α : Type} (l : List α) (i j : Nat) (x d : α) (h : i < l.length) : (l.set i x).getD j d = if j = i then x else l.getD j d := by
  rw [List.getD_eq_getElem?_getD, List.getElem?_set]
  by_cases e : i = j
  · rw [if_pos e, if_pos (by omega), if_pos e.symm]
    rfl
  · rw [if_neg e, if_neg (fun e' => e e'.symm), List.getD_eq_getElem?_getD]
theorem Kd.R_tightg {α : Type} {enc : α → Value} {h1 : ∀ x, (enc x).oneCell' = true} {e base g n cap : Nat} {W : World} {ok : Nat → Prop} {xs : List α} (h : (Kd.scalar enc h1).R e W base ok (.slice (some ⟨g, 0, none⟩) n cap) xs) : (Kd.scalar enc h1).R e W base (fun k => k = g) (.slice (some ⟨g, 0, none⟩) n cap) xs := by
  have e1 : n = xs.length := (Kd.R_reads' h).1
  subst e1
  exact Kd.R_of_own (Kd.own_of_R h) fun k hk => by injection hk with hk; exact hk.symm
theorem region_tail {P : Program} {id : Nat} {Q : Exit → Act → World → Prop} {a : Act} {w : World} {l : List Oper} (n : Nat) (hm : P.follows .mixedOrders = true) (hB : Region.lexTailB .any l.toArray n = true)
    (h : wpStill P l.toArray w.drew (fun a' => wpList P l.toArray Q (l.drop n) a' w.drew) (l.take n) a) : (Code.region id l.toArray true).wp P Q a w := wp_region_still_tail n hm hB h
theorem cell_more {w : World} {a : Addr} {v : Value} (h : w.cell? a = some v) (p q r s : Obj) : ((((w.alloc p).alloc q).alloc r).alloc s).cell? a = some v :=
  ((below_alloc (below_alloc (below_alloc (below_alloc (Below.refl _ _) p) q) r) s).cell (World.block_lt_of_cell? w _ h)).trans h
theorem Objs.reads {w : World} {A : Option Addr} {hs : List Hd} {os : List (List Int)} (h : Objs w A hs os) {o f : Nat} (ho : o < hs.length) (hf : f < (os.getD o []).length) :
    ∃ ad had, A = some ad ∧ (hs.getD o default).A = some had ∧ w.cell? (ad.add o) = some (.slice (some had) (os.getD o []).length (hs.getD o default).c) ∧ w.cell? (had.add f) = some (.int .i64 ((os.getD o []).getD f 0)) := by
  obtain ⟨_, _, h3⟩ := Kd.reads_of_C (d := default) h.row
  obtain ⟨ad, e, h4⟩ := h3 (by omega)
  obtain ⟨i1, i2, i3⟩ := h.is o ho
  obtain ⟨_, _, j3⟩ := Kd.reads_of_C (d := (0 : Int)) i3
  obtain ⟨had, e2, j4⟩ := j3 (by omega)
  refine ⟨ad, had, e, e2, ?_, j4 f hf⟩
  have := h4 o ho
  rw [this]
  show some (Value.slice (hs.getD o default).A (hs.getD o default).n (hs.getD o default).c) = _
  rw [e2, i1]
theorem objs_append {w w3 : World} {P : Nat → Prop} {oA An : Option Addr} {hs : List Hd} {os : List (List Int)} {e B g m n cn : Nat} {t : TypeId} {ok : Nat → Prop} (hF : ObF w P oA hs os) (hb : Below w.heap.size w w3)
    (hR : KH.R e w3 B ok (.slice An n cn) (hs ++ [⟨some ⟨g, 0, none⟩, m, m⟩])) (hg : w3.heap[g]? = some (.cells (madeCells #[.int .i64 0] m) t (0, 0))) (hgB : B ≤ g) (hm : m ≤ 1000000) :
    ObF w3 (fun k => (P k ∧ k < w.heap.size) ∨ B ≤ k) An (hs ++ [⟨some ⟨g, 0, none⟩, m, m⟩]) (os ++ [List.replicate m 0]) := by
  intro W' hW'
  have hO : Objs W' oA hs os := hF W' fun k hp hk => (hW' k (.inl ⟨hp, hk⟩) (Nat.lt_of_lt_of_le hk hb.size)).trans (hb.block k hk)
  have hgl : g < w3.heap.size := (Array.getElem?_eq_some_iff.1 hg).1
  have hn : n = (hs ++ [(⟨some ⟨g, 0, none⟩, m, m⟩ : Hd)]).length := (Kd.R_reads' hR).1
  subst hn
  have hown := Kd.own_of_R hR
  have h2 := own_move hown (w1 := W') fun k hk => hW' k (.inr (own_base hown k hk)) (own_lt hown k hk)
  refine ⟨(Kd.R_reads' (Kd.R_of_own (h1 := Hd.one) (ok := fun _ => True) h2 fun _ _ => trivial)).2.2, by simp [hO.len], fun j hj => ?_⟩
  rw [List.length_append, List.length_singleton] at hj
  rw [getD_app, getD_app, ← hO.len]
  by_cases e1 : j < hs.length
  · rw [if_pos e1, if_pos e1]
    exact hO.is j e1
  · rw [if_neg e1, if_neg e1, if_pos (by omega), if_pos (by omega)]
    refine ⟨by simp, Nat.le_refl _, Kd.C_of_reads (d := (0 : Int)) ⟨rfl, by simp; omega, fun hp => ⟨⟨g, 0, none⟩, rfl, fun i hi => ?_⟩⟩⟩
    have ha : (⟨g, 0, none⟩ : Addr).add i = ⟨g, i, none⟩ := by unfold Addr.add; split <;> simp_all
    rw [ha, cell_of_row W' g i _ t (0, 0) ((hW' g (.inr hgB) hgl).trans hg)]
    have hi' : i < m := by simpa using hi
    rw [getD_rep]
    simp [madeCells, hi', Nat.mod_one]
section
variable (w : World) (A : Option Addr) (c : Nat) (hs : List Hd) (os : List (List Int)) (o f : Nat) (v : Int)
set_option maxHeartbeats 1000000 in
set_option maxRecDepth 100000 in
theorem put_calls (P : Nat → Prop) (hF : ObF w P A hs os) (hc : hs.length ≤ c) (ho : o < hs.length) (hf : f < (os.getD o []).length) (hl1 : hs.length ≤ 1000000) (hl2 : (os.getD o []).length ≤ 1000000) :
    Calls Tryd.prog 109 #[.slice A hs.length c, .int .i64 ((o : Int) + 1), .int .i64 f, .int .i64 v] w fun e w' => ∃ A' c' hs', e = .returned (.slice A' hs'.length c') ∧ hs'.length ≤ c' ∧ ObF w' (fun k => P k ∨ w.heap.size ≤ k) A' hs' (os.set o ((os.getD o []).set f v)) ∧ Below w.heap.size w w' := by
  have hO := hF.now
  have HF := Aside0.mk hF
  clear hF
  have hH := Aside0.mk hO
  have HB := Aside0.mk (Below.refl w.heap.size w)
  have hm1 := hO.row.2.1
  obtain ⟨hd, ehd⟩ : ∃ hd, hd = hs.getD o default := ⟨_, rfl⟩
  have hI := Aside0.mk (show hd.Is w (os.getD o []) by rw [ehd]; exact hO.is o ho)
  have hcell : ∃ ad, A = some ad ∧ w.cell? (ad.add o) = some (.slice hd.A hd.n hd.c) := by
    obtain ⟨_, _, h3⟩ := Kd.reads_of_C (d := default) hO.row
    obtain ⟨ad, e, h4⟩ := h3 (by omega)
    exact ⟨ad, e, by rw [ehd]; exact h4 o ho⟩
  obtain ⟨ad, rfl, hcell⟩ := hcell
  have hcell' := Aside0.mk hcell
  clear hcell hO
  obtain ⟨xs, exs⟩ : ∃ xs, xs = os.getD o [] := ⟨_, rfl⟩
  rw [← exs] at hI hf hl2 ⊢
  have hn : hd.n = xs.length := hI.out.1
  obtain ⟨hA, hnn, hcc⟩ := hd
  obtain rfl : hnn = xs.length := hn
  have EX := Aside0.mk exs
  have ED := Aside0.mk ehd
  clear exs ehd
  have i0 : (0 : Int) ≤ o := by omega
  have i1 : (o : Int) < hs.length := by omega
  have f0 : (0 : Int) ≤ f := by omega
  have f1 : (f : Int) < xs.length := by omega
  go_enter Tryd.func109, Tryd.ntmps109
  go_wp2_with (first
    | (at_builtin; refine Kd.R_append_row (w0 := w) Hd.v default w.heap.size rfl (.tmp 11) (.tmp 12) 86 23 _ 24 rfl Tryd.underlying86 info_h rfl (by decide) (.slice (some ⟨w.heap.size, 0, none⟩) 0 0) [] hs (some ad) hs.length c (fun _ => True) rfl rfl (fun _ _ => trivial) (own_empty w _ _ _ rfl (Nat.le_refl _)) (Kd.C_alloc hH.out.row _) (below_alloc HB.out _) (by simp) (by simp; omega) ?_; intro v1 w1 hr1 hb1 hg1 _; obtain ⟨g1, c1, e1, hg1a, hg1b, _⟩ := Kd.R_form hr1 (by simp; omega); subst e1; have HR1 := Aside0.mk hr1; have HB1 := Aside0.mk hb1; have HG1 := Aside0.mk (And.intro hg1a hg1b); have hx1 : (w1.alloc (Obj.cells #[] 2)).cell? (ad.add o) = some (.slice hA xs.length hcc) := ((below_alloc HB1.out (Obj.cells #[] 2)).cell (World.block_lt_of_cell? w _ hcell'.out)).trans hcell'.out; clear hr1 hb1 hg1 hg1a hg1b)
    | (at_builtin; refine Kd.R_append_row (w0 := w1) (Value.int .i64) 0 w1.heap.size rfl (.tmp 14) (.tmp 19) 23 2 _ 8 rfl Tryd.underlying23 info_i rfl (by decide) (.slice (some ⟨w1.heap.size, 0, none⟩) 0 0) [] xs hA xs.length hcc (fun _ => True) rfl rfl (fun _ _ => trivial) (own_empty w1 _ _ _ rfl (Nat.le_refl _)) (Kd.C_below hI.out.2.2 (below_alloc HB1.out _)) (below_alloc (Below.refl _ _) _) (by simp) (by simp; omega) ?_; intro v2 w2 hr2 hb2 hg2 _; obtain ⟨g2, c2, e2, hg2a, hg2b, _⟩ := Kd.R_form hr2 (by simp; omega); subst e2; obtain ⟨y1, y2⟩ := Kd.R_cell 0 hr2 f f0 f1; obtain ⟨z1, z2⟩ := Kd.R_cell default (Kd.R_far (ok := fun k => k = g1) (Kd.R_tightg (Kd.R_below HR1.out hb2)) (p := ⟨g2, f, none⟩) (fun k hk => show k ≠ g2 by have := HG1.out.2; omega) (.int .i64 v)) o i0 i1; rw [Int.toNat_natCast] at y1 y2 z1 z2; have HR2 := Aside0.mk hr2; have HB2 := Aside0.mk hb2; have HG2 := Aside0.mk (And.intro hg2a hg2b); clear hr2 hb2 hg2 hg2a hg2b))
  go_ret
  refine ⟨some ⟨g1, 0, none⟩, c1, hs.set o ⟨some ⟨g2, 0, none⟩, xs.length, c2⟩, by rw [List.length_set]; rfl, ?_, ?_, ?_⟩
  · rw [List.length_set]
    exact (Kd.R_reads' HR1.out).2.1
  · have hb3 : Below w1.heap.size w1 (w2.setCell ⟨g2, f, none⟩ (.int .i64 v)) := below_set HB2.out HG2.out.1
    have hR3 : KH.R 23 (w2.setCell ⟨g2, f, none⟩ (.int .i64 v)) w.heap.size (fun k => k = g1) (.slice (some ⟨g1, 0, none⟩) hs.length c1) hs := Kd.R_far (Kd.R_tightg (Kd.R_below HR1.out HB2.out)) (fun k hk => show k ≠ g2 by have := HG1.out.2; have := HG2.out.1; omega) _
    have hR4 := Kd.R_put hR3 o ⟨some ⟨g2, 0, none⟩, xs.length, c2⟩
    have hr2' := Kd.R_put HR2.out f v
    have hI4 : KI.R 2 ((w2.setCell ⟨g2, f, none⟩ (.int .i64 v)).setCell ⟨g1, o, none⟩ (.slice (some ⟨g2, 0, none⟩) xs.length c2)) w1.heap.size (fun k => k = g2) (.slice (some ⟨g2, 0, none⟩) xs.length c2) (xs.set f v) :=
      Kd.R_far (Kd.R_tightg hr2'.1) (fun k hk => show k ≠ g1 by have := HG1.out.2; have := HG2.out.1; omega) _
    have hb4 : Below w.heap.size w ((w2.setCell ⟨g2, f, none⟩ (.int .i64 v)).setCell ⟨g1, o, none⟩ (.slice (some ⟨g2, 0, none⟩) xs.length c2)) := below_set (below_step HB1.out hb3) HG1.out.1
    have hsz : w2.heap.size ≤ ((w2.setCell ⟨g2, f, none⟩ (.int .i64 v)).setCell ⟨g1, o, none⟩ (.slice (some ⟨g2, 0, none⟩) xs.length c2)).heap.size := by simp [World.setCell]
    have q1 := HG1.out
    have q2 := HG2.out
    have q3 := HB1.out.size
    intro W' hW'
    have hO' : Objs W' (some ad) hs os := HF.out W' fun k hp hk => (hW' k (.inl hp) (Nat.lt_of_lt_of_le hk hb4.size)).trans (hb4.block k hk)
    refine ⟨?_, by rw [List.length_set, List.length_set]; exact hH.out.len, fun j hj => ?_⟩
    · exact own_other_world hR4.1 (hW' g1 (.inr q1.1) (by have := HB2.out.size; omega))
    · rw [List.length_set] at hj
      rw [put_get _ _ _ _ _ ho, put_get _ _ _ _ _ (by rw [← hH.out.len]; exact ho)]
      by_cases e : j = o
      · rw [if_pos e, if_pos e]
        exact ⟨by rw [List.length_set], (Kd.R_reads' HR2.out).2.1, own_other_world hI4 (hW' g2 (.inr (by omega)) (by omega))⟩
      · rw [if_neg e, if_neg e]
        exact hO'.is j hj
  · exact below_set (below_set (below_step HB1.out HB2.out) (Nat.le_trans (Nat.le_trans HG1.out.1 (Nat.le_of_lt HG1.out.2)) HG2.out.1)) HG1.out.1
end
end Go.Proofs.YtfkfpcciacplkaaDoor.ST

namespace Go.Proofs.YtfkfpcciacplkaaDoor.ST
open Go.RowKit Go.Proofs.YtfkfpcciacplkaaDoorW.PrintWords Go.Proofs.YtfkfpcciacplkaaDoor.ST0
set_option linter.unusedVariables false
set_option linter.unusedSimpArgs false
section
variable (w : World) (n : Nat → Int) (oA tA : Option Addr) (ol oc tl tc : Nat) (pc st : Int) (a b c : Nat) (o N : Int)
set_option maxHeartbeats 1000000 in
set_option maxRecDepth 100000 in
theorem num_set (ha : (a : Int) < 8) :
    Calls Tryd.prog 74 #[.agg #[.int .i64 (n 0), .int .i64 (n 1), .int .i64 (n 2), .int .i64 (n 3), .int .i64 (n 4), .int .i64 (n 5), .int .i64 (n 6), .int .i64 (n 7), .int .i64 (n 8), .int .i64 (n 9), .int .i64 (n 10), .int .i64 (n 11), .int .i64 (n 12), .int .i64 (n 13), .int .i64 (n 14), .int .i64 (n 15), .int .i64 (n 16), .int .i64 (n 17), .int .i64 (n 18), .int .i64 (n 19), .slice oA ol oc, .slice tA tl tc, .int .i64 pc, .int .i64 st], .agg #[.int .u8 1, .int .u8 a, .int .u8 b, .int .u8 c, .int .i64 N]] w fun e w' => e = .returned (.tuple #[.agg #[.int .i64 (upd n a (N) 0), .int .i64 (upd n a (N) 1), .int .i64 (upd n a (N) 2), .int .i64 (upd n a (N) 3), .int .i64 (upd n a (N) 4), .int .i64 (upd n a (N) 5), .int .i64 (upd n a (N) 6), .int .i64 (upd n a (N) 7), .int .i64 (n 8), .int .i64 (n 9), .int .i64 (n 10), .int .i64 (n 11), .int .i64 (n 12), .int .i64 (n 13), .int .i64 (n 14), .int .i64 (n 15), .int .i64 (n 16), .int .i64 (n 17), .int .i64 (n 18), .int .i64 (n 19), .slice oA ol oc, .slice tA tl tc, .int .i64 pc, .int .i64 st], .bool true]) ∧ Below w.heap.size w w' := by
  have ra := row8 n 0 a (by omega)
  simp only [Nat.zero_add, Nat.reduceAdd] at ra
  have s8 := set8 n 0 a (by omega) (N)
  simp only [Nat.zero_add, Nat.reduceAdd] at s8
  have a0 : (0 : Int) ≤ a := by omega
  go_enter Tryd.func74, Tryd.ntmps74
  go_wp2_with (first
    | (apply ldS; (with_reducible rfl); rfl; rfl; exact rowT; rfl)
    | (apply srS; (with_reducible rfl); rfl; rfl; rfl; exact rowT; rfl; rfl; rfl; exact setT))
  refine ret2S rfl rfl rfl rfl rowT rfl ⟨rfl, ?_⟩
  repeat (first | exact Below.refl _ _ | refine below_alloc ?_ _ | refine below_drew1 ?_ | refine pw_below_drewN ?_ _)
set_option maxHeartbeats 1000000 in
set_option maxRecDepth 100000 in
theorem num_add (ha : (a : Int) < 8) (hb : (b : Int) < 8) (hc : (c : Int) < 8) :
    Calls Tryd.prog 74 #[.agg #[.int .i64 (n 0), .int .i64 (n 1), .int .i64 (n 2), .int .i64 (n 3), .int .i64 (n 4), .int .i64 (n 5), .int .i64 (n 6), .int .i64 (n 7), .int .i64 (n 8), .int .i64 (n 9), .int .i64 (n 10), .int .i64 (n 11), .int .i64 (n 12), .int .i64 (n 13), .int .i64 (n 14), .int .i64 (n 15), .int .i64 (n 16), .int .i64 (n 17), .int .i64 (n 18), .int .i64 (n 19), .slice oA ol oc, .slice tA tl tc, .int .i64 pc, .int .i64 st], .agg #[.int .u8 2, .int .u8 a, .int .u8 b, .int .u8 c, .int .i64 N]] w fun e w' => e = .returned (.tuple #[.agg #[.int .i64 (upd n a (wrap64 (n b + n c)) 0), .int .i64 (upd n a (wrap64 (n b + n c)) 1), .int .i64 (upd n a (wrap64 (n b + n c)) 2), .int .i64 (upd n a (wrap64 (n b + n c)) 3), .int .i64 (upd n a (wrap64 (n b + n c)) 4), .int .i64 (upd n a (wrap64 (n b + n c)) 5), .int .i64 (upd n a (wrap64 (n b + n c)) 6), .int .i64 (upd n a (wrap64 (n b + n c)) 7), .int .i64 (n 8), .int .i64 (n 9), .int .i64 (n 10), .int .i64 (n 11), .int .i64 (n 12), .int .i64 (n 13), .int .i64 (n 14), .int .i64 (n 15), .int .i64 (n 16), .int .i64 (n 17), .int .i64 (n 18), .int .i64 (n 19), .slice oA ol oc, .slice tA tl tc, .int .i64 pc, .int .i64 st], .bool true]) ∧ Below w.heap.size w w' := by
  have ra := row8 n 0 a (by omega)
  simp only [Nat.zero_add, Nat.reduceAdd] at ra
  have rb := row8 n 0 b (by omega)
  simp only [Nat.zero_add, Nat.reduceAdd] at rb
  have rc := row8 n 0 c (by omega)
  simp only [Nat.zero_add, Nat.reduceAdd] at rc
  have s8 := set8 n 0 a (by omega) (wrap64 (n b + n c))
  simp only [Nat.zero_add, Nat.reduceAdd] at s8
  have a0 : (0 : Int) ≤ a := by omega
  have b0 : (0 : Int) ≤ b := by omega
  have c0 : (0 : Int) ≤ c := by omega
  go_enter Tryd.func74, Tryd.ntmps74
  go_upto_region 7 with (fail)
  go_region
  go_wp2_with (first
    | (apply ldS; (with_reducible rfl); rfl; rfl; exact rowT; rfl)
    | (apply srS; (with_reducible rfl); rfl; rfl; rfl; exact rowT; rfl; rfl; rfl; exact setT))
  refine ret2S rfl rfl rfl rfl rowT rfl ⟨rfl, ?_⟩
  repeat (first | exact Below.refl _ _ | refine below_alloc ?_ _ | refine below_drew1 ?_ | refine pw_below_drewN ?_ _)
set_option maxHeartbeats 1000000 in
set_option maxRecDepth 100000 in
theorem num_same_eq (ha : (a : Int) < 8) (hb : (b : Int) < 8) (hc : (c : Int) < 8) (hh : n (8 + b) = n (8 + c)) :
    Calls Tryd.prog 74 #[.agg #[.int .i64 (n 0), .int .i64 (n 1), .int .i64 (n 2), .int .i64 (n 3), .int .i64 (n 4), .int .i64 (n 5), .int .i64 (n 6), .int .i64 (n 7), .int .i64 (n 8), .int .i64 (n 9), .int .i64 (n 10), .int .i64 (n 11), .int .i64 (n 12), .int .i64 (n 13), .int .i64 (n 14), .int .i64 (n 15), .int .i64 (n 16), .int .i64 (n 17), .int .i64 (n 18), .int .i64 (n 19), .slice oA ol oc, .slice tA tl tc, .int .i64 pc, .int .i64 st], .agg #[.int .u8 15, .int .u8 a, .int .u8 b, .int .u8 c, .int .i64 N]] w fun e w' => e = .returned (.tuple #[.agg #[.int .i64 (upd n a (1) 0), .int .i64 (upd n a (1) 1), .int .i64 (upd n a (1) 2), .int .i64 (upd n a (1) 3), .int .i64 (upd n a (1) 4), .int .i64 (upd n a (1) 5), .int .i64 (upd n a (1) 6), .int .i64 (upd n a (1) 7), .int .i64 (n 8), .int .i64 (n 9), .int .i64 (n 10), .int .i64 (n 11), .int .i64 (n 12), .int .i64 (n 13), .int .i64 (n 14), .int .i64 (n 15), .int .i64 (n 16), .int .i64 (n 17), .int .i64 (n 18), .int .i64 (n 19), .slice oA ol oc, .slice tA tl tc, .int .i64 pc, .int .i64 st], .bool true]) ∧ Below w.heap.size w w' := by
  have ra := row8 n 0 a (by omega)
  simp only [Nat.zero_add, Nat.reduceAdd] at ra
  have rb := rowS n (.slice oA ol oc) (.slice tA tl tc) (.int .i64 pc) (.int .i64 st) (8 + b) (by omega)
  have rc := rowS n (.slice oA ol oc) (.slice tA tl tc) (.int .i64 pc) (.int .i64 st) (8 + c) (by omega)
  have s8 := set8 n 0 a (by omega) (0)
  simp only [Nat.zero_add, Nat.reduceAdd] at s8
  have s9 := set8 (upd n a 0) 0 a (by omega) 1
  simp only [Nat.zero_add, upd_upd] at s9
  have ra2 := row8 (upd n a 0) 0 a (by omega)
  simp only [Nat.zero_add] at ra2
  have a0 : (0 : Int) ≤ a := by omega
  have b0 : (0 : Int) ≤ b := by omega
  have c0 : (0 : Int) ≤ c := by omega
  have hd : (n (8 + b) == n (8 + c)) = true := by simpa using hh
  clear hh
  go_enter Tryd.func74, Tryd.ntmps74
  go_upto_region 10 with (fail)
  go_region
  go_wp2_with (first
    | (apply ldS; (with_reducible rfl); rfl; rfl; exact rowT; rfl)
    | (apply srS; (with_reducible rfl); rfl; rfl; rfl; exact rowT; rfl; rfl; rfl; exact setT))
  refine ret2S rfl rfl rfl rfl rowT rfl ⟨rfl, ?_⟩
  repeat (first | exact Below.refl _ _ | refine below_alloc ?_ _ | refine below_drew1 ?_ | refine pw_below_drewN ?_ _)
set_option maxHeartbeats 1000000 in
set_option maxRecDepth 100000 in
theorem num_same_ne (ha : (a : Int) < 8) (hb : (b : Int) < 8) (hc : (c : Int) < 8) (hh : ¬ n (8 + b) = n (8 + c)) :
    Calls Tryd.prog 74 #[.agg #[.int .i64 (n 0), .int .i64 (n 1), .int .i64 (n 2), .int .i64 (n 3), .int .i64 (n 4), .int .i64 (n 5), .int .i64 (n 6), .int .i64 (n 7), .int .i64 (n 8), .int .i64 (n 9), .int .i64 (n 10), .int .i64 (n 11), .int .i64 (n 12), .int .i64 (n 13), .int .i64 (n 14), .int .i64 (n 15), .int .i64 (n 16), .int .i64 (n 17), .int .i64 (n 18), .int .i64 (n 19), .slice oA ol oc, .slice tA tl tc, .int .i64 pc, .int .i64 st], .agg #[.int .u8 15, .int .u8 a, .int .u8 b, .int .u8 c, .int .i64 N]] w fun e w' => e = .returned (.tuple #[.agg #[.int .i64 (upd n a (0) 0), .int .i64 (upd n a (0) 1), .int .i64 (upd n a (0) 2), .int .i64 (upd n a (0) 3), .int .i64 (upd n a (0) 4), .int .i64 (upd n a (0) 5), .int .i64 (upd n a (0) 6), .int .i64 (upd n a (0) 7), .int .i64 (n 8), .int .i64 (n 9), .int .i64 (n 10), .int .i64 (n 11), .int .i64 (n 12), .int .i64 (n 13), .int .i64 (n 14), .int .i64 (n 15), .int .i64 (n 16), .int .i64 (n 17), .int .i64 (n 18), .int .i64 (n 19), .slice oA ol oc, .slice tA tl tc, .int .i64 pc, .int .i64 st], .bool true]) ∧ Below w.heap.size w w' := by
  have ra := row8 n 0 a (by omega)
  simp only [Nat.zero_add, Nat.reduceAdd] at ra
  have rb := rowS n (.slice oA ol oc) (.slice tA tl tc) (.int .i64 pc) (.int .i64 st) (8 + b) (by omega)
  have rc := rowS n (.slice oA ol oc) (.slice tA tl tc) (.int .i64 pc) (.int .i64 st) (8 + c) (by omega)
  have s8 := set8 n 0 a (by omega) (0)
  simp only [Nat.zero_add, Nat.reduceAdd] at s8
  have a0 : (0 : Int) ≤ a := by omega
  have b0 : (0 : Int) ≤ b := by omega
  have c0 : (0 : Int) ≤ c := by omega
  have hd : (n (8 + b) == n (8 + c)) = false := by simpa using hh
  clear hh
  go_enter Tryd.func74, Tryd.ntmps74
  go_upto_region 10 with (fail)
  go_region
  go_wp2_with (first
    | (apply ldS; (with_reducible rfl); rfl; rfl; exact rowT; rfl)
    | (apply srS; (with_reducible rfl); rfl; rfl; rfl; exact rowT; rfl; rfl; rfl; exact setT))
  refine ret2S rfl rfl rfl rfl rowT rfl ⟨rfl, ?_⟩
  repeat (first | exact Below.refl _ _ | refine below_alloc ?_ _ | refine below_drew1 ?_ | refine pw_below_drewN ?_ _)
set_option maxHeartbeats 1000000 in
set_option maxRecDepth 100000 in
theorem num_other (h1 : ¬ o = 1) (h2 : ¬ o = 2) (h14 : ¬ o = 14) (h15 : ¬ o = 15) :
    Calls Tryd.prog 74 #[.agg #[.int .i64 (n 0), .int .i64 (n 1), .int .i64 (n 2), .int .i64 (n 3), .int .i64 (n 4), .int .i64 (n 5), .int .i64 (n 6), .int .i64 (n 7), .int .i64 (n 8), .int .i64 (n 9), .int .i64 (n 10), .int .i64 (n 11), .int .i64 (n 12), .int .i64 (n 13), .int .i64 (n 14), .int .i64 (n 15), .int .i64 (n 16), .int .i64 (n 17), .int .i64 (n 18), .int .i64 (n 19), .slice oA ol oc, .slice tA tl tc, .int .i64 pc, .int .i64 st], .agg #[.int .u8 o, .int .u8 a, .int .u8 b, .int .u8 c, .int .i64 N]] w fun e w' => e = .returned (.tuple #[.agg #[.int .i64 (n 0), .int .i64 (n 1), .int .i64 (n 2), .int .i64 (n 3), .int .i64 (n 4), .int .i64 (n 5), .int .i64 (n 6), .int .i64 (n 7), .int .i64 (n 8), .int .i64 (n 9), .int .i64 (n 10), .int .i64 (n 11), .int .i64 (n 12), .int .i64 (n 13), .int .i64 (n 14), .int .i64 (n 15), .int .i64 (n 16), .int .i64 (n 17), .int .i64 (n 18), .int .i64 (n 19), .slice oA ol oc, .slice tA tl tc, .int .i64 pc, .int .i64 st], .bool false]) ∧ Below w.heap.size w w' := by
  go_enter Tryd.func74, Tryd.ntmps74
  go_wp2_with (first
    | (apply ldS; (with_reducible rfl); rfl; rfl; exact rowT; rfl)
    | (apply srS; (with_reducible rfl); rfl; rfl; rfl; exact rowT; rfl; rfl; rfl; exact setT))
  refine ret2S rfl rfl rfl rfl rowT rfl ⟨rfl, ?_⟩
  repeat (first | exact Below.refl _ _ | refine below_alloc ?_ _ | refine below_drew1 ?_ | refine pw_below_drewN ?_ _)
set_option maxHeartbeats 1000000 in
set_option maxRecDepth 100000 in
theorem num_print (out : List Int) (etl : tl = out.length) (htc : out.length ≤ tc) (hT : KI.C w tA out.length out) (hl : out.length ≤ 1000000) (ha : (a : Int) < 8) :
    Calls Tryd.prog 74 #[.agg #[.int .i64 (n 0), .int .i64 (n 1), .int .i64 (n 2), .int .i64 (n 3), .int .i64 (n 4), .int .i64 (n 5), .int .i64 (n 6), .int .i64 (n 7), .int .i64 (n 8), .int .i64 (n 9), .int .i64 (n 10), .int .i64 (n 11), .int .i64 (n 12), .int .i64 (n 13), .int .i64 (n 14), .int .i64 (n 15), .int .i64 (n 16), .int .i64 (n 17), .int .i64 (n 18), .int .i64 (n 19), .slice oA ol oc, .slice tA tl tc, .int .i64 pc, .int .i64 st], .agg #[.int .u8 14, .int .u8 a, .int .u8 b, .int .u8 c, .int .i64 N]] w fun e w' => ∃ A' c', e = .returned (.tuple #[.agg #[.int .i64 (n 0), .int .i64 (n 1), .int .i64 (n 2), .int .i64 (n 3), .int .i64 (n 4), .int .i64 (n 5), .int .i64 (n 6), .int .i64 (n 7), .int .i64 (n 8), .int .i64 (n 9), .int .i64 (n 10), .int .i64 (n 11), .int .i64 (n 12), .int .i64 (n 13), .int .i64 (n 14), .int .i64 (n 15), .int .i64 (n 16), .int .i64 (n 17), .int .i64 (n 18), .int .i64 (n 19), .slice oA ol oc, .slice A' (out.length + 1) c', .int .i64 pc, .int .i64 st], .bool true]) ∧ out.length + 1 ≤ c' ∧ OutF w' (fun k => w.heap.size ≤ k) A' (out ++ [n a]) ∧ Below w.heap.size w w' := by
  subst etl
  have HT := Aside0.mk hT
  clear hT
  have ra := row8 n 0 a (by omega)
  simp only [Nat.zero_add] at ra
  have a0 : (0 : Int) ≤ a := by omega
  go_enter Tryd.func74, Tryd.ntmps74
  go_upto_region 16 with (first
    | (apply ldS; (with_reducible rfl); rfl; rfl; exact rowT; rfl)
    | (apply srS; (with_reducible rfl); rfl; rfl; rfl; exact rowT; rfl; rfl; rfl; exact setT)
    | (at_builtin; refine Kd.R_append_row (w0 := _) (Value.int .i64) 0 (w.heap.size + 1 + 1 + 1 + 1) rfl (.tmp 55) (.tmp 57) 23 2 _ 8 rfl Tryd.underlying23 info_i rfl (by decide) (.slice (some ⟨w.heap.size + 1 + 1 + 1 + 1, 0, none⟩) 0 0) [] out tA out.length tc (fun _ => True) rfl rfl (fun _ _ => trivial) (own_empty _ _ _ _ (by simp) (by simp)) (Kd.C_below HT.out (by repeat (first | exact Below.refl _ _ | refine below_alloc ?_ _))) (Below.alloc (Below.refl _ _) (by simp) _) (by simp) (by simp; omega) ?_; intro v1 w1 hr1 hb1 hg1 _; obtain ⟨hc1, hf1⟩ := bcell hb1; have hz1 : w.heap.size + 1 + 1 + 1 + 1 ≤ w1.heap.size := Nat.le_trans (by simp) hb1.size; have HR1 := Aside0.mk hr1; clear hr1 hg1)
    | (at_builtin; refine print_append_num (w0 := w1) (w.heap.size + 1 + 1 + 1 + 1) rfl (.tmp 59) (.tmp 64) 23 2 .i64 8 rfl Tryd.underlying23 info_i (by decide) v1 ([] ++ out) (n a) rfl rfl (Kd.own_of_R HR1.out) (Below.refl _ _) hz1 (by simp; omega) ?_; intro v2 w2 hr2 hb2 hg2 _; obtain ⟨hc2, hf2⟩ := bcell hb2; have b0 := (hb2.block w.heap.size (by omega)).trans ((hb1.block w.heap.size (by omega)).trans (rowT (p := _ = some (.cells _ 102 (0, 0))))); have b2 := (hb2.block (w.heap.size + 1 + 1) (by omega)).trans ((hb1.block (w.heap.size + 1 + 1) (by omega)).trans (rowT (p := _ = some (.cells _ 102 (0, 0))))); obtain ⟨A2, c2, e2, hc2'⟩ := own_reads hr2; subst e2; have HR2 := Aside0.mk hr2; have HB2 := Aside0.mk hb2; clear hr2 hg2))
  have HC2 := Aside0.mk hc2'
  have LC2 := Aside0.mk (ST0.own_le HR2.out)
  generalize hW : World.setCell _ _ _ = W
  have r0 : W.heap[w.heap.size]? = some (.cells #[.int .i64 (n 0), .int .i64 (n 1), .int .i64 (n 2), .int .i64 (n 3), .int .i64 (n 4), .int .i64 (n 5), .int .i64 (n 6), .int .i64 (n 7), .int .i64 (n 8), .int .i64 (n 9), .int .i64 (n 10), .int .i64 (n 11), .int .i64 (n 12), .int .i64 (n 13), .int .i64 (n 14), .int .i64 (n 15), .int .i64 (n 16), .int .i64 (n 17), .int .i64 (n 18), .int .i64 (n 19), .slice oA ol oc, .slice A2 (out.length + 1) c2, .int .i64 pc, .int .i64 st] 102 (0, 0)) := by
    rw [← hW]
    refine Eq.trans (rowT (p := _ = some (.cells _ 102 (0, 0)))) ?_
    simp
  have r2 : W.heap[w.heap.size + 1 + 1]? = some (.cells #[.int .i64 0, .int .i64 0, .int .i64 0, .int .i64 0, .int .i64 0, .int .i64 0, .int .i64 0, .int .i64 0, .int .i64 0, .int .i64 0, .int .i64 0, .int .i64 0, .int .i64 0, .int .i64 0, .int .i64 0, .int .i64 0, .int .i64 0, .int .i64 0, .int .i64 0, .int .i64 0, .slice none 0 0, .slice none 0 0, .int .i64 0, .int .i64 0] 102 (0, 0)) := by
    rw [← hW]
    exact rowT
  have hRW : W.ownsRow (w.heap.size + 1 + 1 + 1 + 1) 2 1 (.slice A2 ([] ++ out ++ [n a]).length c2) ([] ++ out ++ [n a]).length (nums .i64 ([] ++ out ++ [n a])) := by
    have hne : (Value.slice A2 ([] ++ out ++ [n a]).length c2).ownBlock ≠ some w.heap.size := fun e => by
      have := own_base HR2.out _ e
      omega
    rw [← hW]
    repeat (first | (with_reducible refine ownsRow_setCell_other ?_ hne _) | exact HR2.out)
  have hBW : Below w.heap.size w W := by
    rw [← hW]
    repeat (first | (with_reducible refine below_set ?_ (Nat.le_refl _)) | exact ((Below.refl w.heap.size w).alloc (Nat.le_refl _) _ |>.alloc (by simp) _ |>.alloc (by simp; omega) _ |>.alloc (by simp; omega) _).trans ((hb1.mono (by omega)).trans (hb2.mono (by omega))))
  have HBW := Aside0.mk hBW
  have HRW := Aside0.mk hRW
  clear hW hBW b0 b2 hb1 hc1 hf1 hb2 hc2 hf2 hc2' hRW
  go_wp2_with (first
    | (apply ldS; (with_reducible rfl); rfl; rfl; exact rowT; rfl)
    | (apply srS; (with_reducible rfl); rfl; rfl; rfl; exact rowT; rfl; rfl; rfl; rfl))
  have H3 : ∀ cs, OutF (W.setRow (w.heap.size + 1 + 1) cs) (fun k => w.heap.size ≤ k) A2 (out ++ [n a]) := fun cs W' hW' => by
    have hne : (Value.slice A2 ([] ++ out ++ [n a]).length c2).ownBlock ≠ some (w.heap.size + 1 + 1) := fun e => by
      have := own_base HRW.out _ e
      omega
    have h1 := Kd.R_of_own (h1 := fun _ => rfl) (ok := fun _ => True) (own_move HRW.out (w1 := W') fun k hk => (hW' k (by have := own_base HRW.out k hk; omega) (by have := own_lt HRW.out k hk; simpa using this)).trans (setRow_other W (w.heap.size + 1 + 1) k cs (fun e => hne (by rw [← e]; exact hk)))) fun _ _ => trivial
    exact (Kd.R_reads' h1).2.2
  refine ret2S rfl rfl rfl rfl (setRow_heap _ _ _ _ _ _ r2) rfl ⟨A2, c2, rfl, ?_, H3 _, below_row HBW.out (by omega)⟩
  have := ST0.own_le HRW.out
  simpa using this
end
end Go.Proofs.YtfkfpcciacplkaaDoor.ST

/- Texts of this claim, pruned to what it needs and laid together by prune.py. -/
import Derived.Test.YtfkfpcciacplkaaDoorMU22
import Derived.StillTailTactics
import Derived.Deep.RegionHeld3
import Derived.Deep.RegionLaw
import Derived.IntWalk
namespace Go.Proofs.YtfkfpcciacplkaaDoor.T
open Go.RowKit Go.Proofs.YtfkfpcciacplkaaDoorW.PrintWords Go.Proofs.YtfkfpcciacplkaaDoorW.PrintLast Go.Proofs.YtfkfpcciacplkaaDoorW.PrintMore
attribute [local go_sem] max2_int min2_int max_two min_two max_three min_three max_four min_four
set_option linter.unusedVariables false
set_option linter.unusedSimpArgs false
open Go.Proofs.YtfkfpcciacplkaaDoor.F
open Go.Proofs.YtfkfpcciacplkaaDoor.TE
open Go.Proofs.YtfkfpcciacplkaaDoor.TRB
noncomputable def trace_Ended.f (l0_0 : List Int) (a0_1 : Bool) (a0_2 : Int) (a0_3 : Int) (a0_4 : Int) : Option (Bool) := if a0_1 = true then (if a0_2 = 0 then (some true) else (some (a0_2 == 9))) else (some false)
set_option maxHeartbeats 8000000 in
set_option maxRecDepth 100000 in
theorem trace_Ended.calls (A0_0 : Option Addr) (c0_0 : Nat) (l0_0 : List Int) (a0_1 : Bool) (a0_2 : Int) (a0_3 : Int) (a0_4 : Int) (r : Bool) (w : World) (hr0_0 : Kd.C (Kd.int .i64) w A0_0 l0_0.length l0_0) (hc0_0 : l0_0.length ≤ c0_0) (h : trace_Ended.f l0_0 a0_1 a0_2 a0_3 a0_4 = some r) :
    Calls Tryd.prog 14 #[.agg #[.slice A0_0 l0_0.length c0_0, .bool a0_1, .int .i64 a0_2, .int .i64 a0_3, .int .i64 a0_4]] w fun e w' => e = .returned (.bool r) ∧ Below w.heap.size w w' := by
  have hu31 := Tryd.underlying31
  have HR0_0 := Aside0.mk hr0_0
  have HC0_0 := Aside0.mk hc0_0
  clear hr0_0 hc0_0
  have HB := Aside0.mk (Below.refl w.heap.size w)
  have H : (if a0_1 = true then (if a0_2 = 0 then (some true) else (some (a0_2 == 9))) else (some false)) = some r := h
  clear h
  by_cases c2 : a0_1 = true
  · subst c2
    have H1 : (if a0_2 = 0 then (some true) else (some (a0_2 == 9))) = some r := by rw [if_pos rfl] at H; exact H
    clear H
    have H := H1
    clear H1
    by_cases c3 : a0_2 = 0
    · rw [if_pos c3] at H
      have c3b0 : (a0_2 == 0) = true := beq_iff_eq.mpr c3
      have c3b1 : (a0_2 != 0) = false := bne_eq_false_iff_eq.mpr c3
      clear c3
      obtain rfl := Option.some.inj H
      go_enter Tryd.func14, Tryd.ntmps14
      go_wp2_with (first | ((with_reducible refine gate_dst (N := 1) rfl ?_); refine box_event ?hg (N := 1) ?hd (cs := #[.slice A0_0 l0_0.length c0_0, .bool true, .int .i64 a0_2, .int .i64 a0_3, .int .i64 a0_4]) (t := 31) ?hr ?_; (case hd => rfl); (case hg => rfl); (case hr => first | (go_simp; done) | (go_simp; rfl)); intro gb101 hg w4 hbox hb; have n0_ := Aside0.mk (below_step (by repeat (first | (with_reducible first | exact HB.out | apply below_alloc | apply pw_below_drewN | apply below_drew1) | exact HB.out)) hb); have n1_ := Aside0.mk (hbox); have n2_ := Aside0.mk ((by rw [hg]; exact (below_size (by repeat (first | (with_reducible first | exact HB.out | apply below_alloc | apply pw_below_drewN | apply below_drew1) | exact HB.out))) : w.heap.size ≤ gb101)); have n3_ := Aside0.mk ((by rw [hg]; exact (below_size (by repeat (first | (with_reducible first | exact HB.out | apply below_alloc | apply pw_below_drewN | apply below_drew1) | exact HB.out))) : w.heap.size ≤ gb101)); clear HB; have HB := n0_; have BK101 := n1_; have GW101 := n2_; have GE101 := n3_; clear n0_ n1_ n2_ n3_; clear hb hbox hg; have hcz5_0 : w4.cell? ⟨gb101, 0, none⟩ = some (.slice A0_0 l0_0.length c0_0) := (blk_cell BK101.out 0).trans rfl; have hcz5_1 : w4.cell? ⟨gb101, 1, none⟩ = some (.bool true) := (blk_cell BK101.out 1).trans rfl; have hcz5_2 : w4.cell? ⟨gb101, 2, none⟩ = some (.int .i64 a0_2) := (blk_cell BK101.out 2).trans rfl; have hcz5_3 : w4.cell? ⟨gb101, 3, none⟩ = some (.int .i64 a0_3) := (blk_cell BK101.out 3).trans rfl; have hcz5_4 : w4.cell? ⟨gb101, 4, none⟩ = some (.int .i64 a0_4) := (blk_cell BK101.out 4).trans rfl; have hfz5_0 := blk_frozen BK101.out 0; have hfz5_1 := blk_frozen BK101.out 1; have hfz5_2 := blk_frozen BK101.out 2; have hfz5_3 := blk_frozen BK101.out 3; have hfz5_4 := blk_frozen BK101.out 4))
      go_ret
      exact ⟨by first | rfl | (simp [errW_none, errW_some] <;> rfl) | (simp [*, errW_none, errW_some] <;> rfl), by repeat (first | (with_reducible first | exact HB.out | apply below_alloc | apply pw_below_drewN | apply below_drew1 | refine below_set ?_ GE101.out) | exact HB.out)⟩
    · rw [if_neg c3] at H
      have c3b0 : (a0_2 == 0) = false := beq_eq_false_iff_ne.mpr c3
      have c3b1 : (a0_2 != 0) = true := bne_iff_ne.mpr c3
      obtain rfl := Option.some.inj H
      go_enter Tryd.func14, Tryd.ntmps14
      go_wp2_with (first | ((with_reducible refine gate_dst (N := 1) rfl ?_); refine box_event ?hg (N := 1) ?hd (cs := #[.slice A0_0 l0_0.length c0_0, .bool true, .int .i64 a0_2, .int .i64 a0_3, .int .i64 a0_4]) (t := 31) ?hr ?_; (case hd => rfl); (case hg => rfl); (case hr => first | (go_simp; done) | (go_simp; rfl)); intro gb101 hg w6 hbox hb; have n0_ := Aside0.mk (below_step (by repeat (first | (with_reducible first | exact HB.out | apply below_alloc | apply pw_below_drewN | apply below_drew1) | exact HB.out)) hb); have n1_ := Aside0.mk (hbox); have n2_ := Aside0.mk ((by rw [hg]; exact (below_size (by repeat (first | (with_reducible first | exact HB.out | apply below_alloc | apply pw_below_drewN | apply below_drew1) | exact HB.out))) : w.heap.size ≤ gb101)); have n3_ := Aside0.mk ((by rw [hg]; exact (below_size (by repeat (first | (with_reducible first | exact HB.out | apply below_alloc | apply pw_below_drewN | apply below_drew1) | exact HB.out))) : w.heap.size ≤ gb101)); clear HB; have HB := n0_; have BK101 := n1_; have GW101 := n2_; have GE101 := n3_; clear n0_ n1_ n2_ n3_; clear hb hbox hg; have hcz7_0 : w6.cell? ⟨gb101, 0, none⟩ = some (.slice A0_0 l0_0.length c0_0) := (blk_cell BK101.out 0).trans rfl; have hcz7_1 : w6.cell? ⟨gb101, 1, none⟩ = some (.bool true) := (blk_cell BK101.out 1).trans rfl; have hcz7_2 : w6.cell? ⟨gb101, 2, none⟩ = some (.int .i64 a0_2) := (blk_cell BK101.out 2).trans rfl; have hcz7_3 : w6.cell? ⟨gb101, 3, none⟩ = some (.int .i64 a0_3) := (blk_cell BK101.out 3).trans rfl; have hcz7_4 : w6.cell? ⟨gb101, 4, none⟩ = some (.int .i64 a0_4) := (blk_cell BK101.out 4).trans rfl; have hfz7_0 := blk_frozen BK101.out 0; have hfz7_1 := blk_frozen BK101.out 1; have hfz7_2 := blk_frozen BK101.out 2; have hfz7_3 := blk_frozen BK101.out 3; have hfz7_4 := blk_frozen BK101.out 4))
      go_ret
      exact ⟨by first | rfl | (simp [errW_none, errW_some] <;> rfl) | (simp [*, errW_none, errW_some] <;> rfl), by repeat (first | (with_reducible first | exact HB.out | apply below_alloc | apply pw_below_drewN | apply below_drew1 | refine below_set ?_ GE101.out) | exact HB.out)⟩
  · replace c2 := Bool.eq_false_iff.mpr c2
    subst c2
    have H1 : (some false) = some r := by rw [if_neg (show ¬ (false = true) by decide)] at H; exact H
    clear H
    have H := H1
    clear H1
    obtain rfl := Option.some.inj H
    go_enter Tryd.func14, Tryd.ntmps14
    go_wp2_with (first | ((with_reducible refine gate_dst (N := 1) rfl ?_); refine box_event ?hg (N := 1) ?hd (cs := #[.slice A0_0 l0_0.length c0_0, .bool false, .int .i64 a0_2, .int .i64 a0_3, .int .i64 a0_4]) (t := 31) ?hr ?_; (case hd => rfl); (case hg => rfl); (case hr => first | (go_simp; done) | (go_simp; rfl)); intro gb101 hg w8 hbox hb; have n0_ := Aside0.mk (below_step (by repeat (first | (with_reducible first | exact HB.out | apply below_alloc | apply pw_below_drewN | apply below_drew1) | exact HB.out)) hb); have n1_ := Aside0.mk (hbox); have n2_ := Aside0.mk ((by rw [hg]; exact (below_size (by repeat (first | (with_reducible first | exact HB.out | apply below_alloc | apply pw_below_drewN | apply below_drew1) | exact HB.out))) : w.heap.size ≤ gb101)); have n3_ := Aside0.mk ((by rw [hg]; exact (below_size (by repeat (first | (with_reducible first | exact HB.out | apply below_alloc | apply pw_below_drewN | apply below_drew1) | exact HB.out))) : w.heap.size ≤ gb101)); clear HB; have HB := n0_; have BK101 := n1_; have GW101 := n2_; have GE101 := n3_; clear n0_ n1_ n2_ n3_; clear hb hbox hg; have hcz9_0 : w8.cell? ⟨gb101, 0, none⟩ = some (.slice A0_0 l0_0.length c0_0) := (blk_cell BK101.out 0).trans rfl; have hcz9_1 : w8.cell? ⟨gb101, 1, none⟩ = some (.bool false) := (blk_cell BK101.out 1).trans rfl; have hcz9_2 : w8.cell? ⟨gb101, 2, none⟩ = some (.int .i64 a0_2) := (blk_cell BK101.out 2).trans rfl; have hcz9_3 : w8.cell? ⟨gb101, 3, none⟩ = some (.int .i64 a0_3) := (blk_cell BK101.out 3).trans rfl; have hcz9_4 : w8.cell? ⟨gb101, 4, none⟩ = some (.int .i64 a0_4) := (blk_cell BK101.out 4).trans rfl; have hfz9_0 := blk_frozen BK101.out 0; have hfz9_1 := blk_frozen BK101.out 1; have hfz9_2 := blk_frozen BK101.out 2; have hfz9_3 := blk_frozen BK101.out 3; have hfz9_4 := blk_frozen BK101.out 4))
    go_ret
    exact ⟨by first | rfl | (simp [errW_none, errW_some] <;> rfl) | (simp [*, errW_none, errW_some] <;> rfl), by repeat (first | (with_reducible first | exact HB.out | apply below_alloc | apply pw_below_drewN | apply below_drew1 | refine below_set ?_ GE101.out) | exact HB.out)⟩
mutual
noncomputable def trace_agree.j0 : Nat → Bool → List Int → Bool → Int → Int → Int → List Int → Bool → Int → Int → Int → Option (Bool)
  | 0, _, _, _, _, _, _, _, _, _, _, _ => none
  | k + 1, x12, x103000, x103001, x103002, x103003, x103004, x104000, x104001, x104002, x104003, x104004 => if x12 = true then (if (x103000.length : Int) = (x104000.length : Int) then (if x103002 = x104002 then (some (x103003 == x104003)) else (some false)) else (some false)) else ((trace_Ended.f x103000 x103001 x103002 x103003 x103004).bind fun t107 => (if t107 = true then (if x104003 ≤ x103003 then (some (decide ((x104000.length : Int) ≤ (x103000.length : Int)))) else (some false)) else ((trace_Ended.f x104000 x104001 x104002 x104003 x104004).bind fun t108 => (if t108 = true then ((trace_agree.f k x104000 x104001 x104002 x104003 x104004 x103000 x103001 x103002 x103003 x103004).bind fun t109 => (some t109)) else (some true)))))
noncomputable def trace_agree.f : Nat → List Int → Bool → Int → Int → Int → List Int → Bool → Int → Int → Int → Option (Bool)
  | 0, _, _, _, _, _, _, _, _, _, _ => none
  | k + 1, l0_0, a0_1, a0_2, a0_3, a0_4, l1_0, a1_1, a1_2, a1_3, a1_4 => (trace_Begins.f l0_0 l1_0).bind fun t104 => (if t104 = true then ((trace_Ended.f l0_0 a0_1 a0_2 a0_3 a0_4).bind fun t105 => (if t105 = true then ((trace_Ended.f l1_0 a1_1 a1_2 a1_3 a1_4).bind fun t106 => (trace_agree.j0 k t106 l0_0 a0_1 a0_2 a0_3 a0_4 l1_0 a1_1 a1_2 a1_3 a1_4)) else (trace_agree.j0 k false l0_0 a0_1 a0_2 a0_3 a0_4 l1_0 a1_1 a1_2 a1_3 a1_4))) else (some false))
end
theorem trace_agree.mono_l : ∀ k, (∀ y0 y1 y2 y3 y4 y5 y6 y7 y8 y9, LeO (trace_agree.f k y0 y1 y2 y3 y4 y5 y6 y7 y8 y9) (trace_agree.f (k + 1) y0 y1 y2 y3 y4 y5 y6 y7 y8 y9)) ∧ (∀ y0 y1 y2 y3 y4 y5 y6 y7 y8 y9 y10, LeO (trace_agree.j0 k y0 y1 y2 y3 y4 y5 y6 y7 y8 y9 y10) (trace_agree.j0 (k + 1) y0 y1 y2 y3 y4 y5 y6 y7 y8 y9 y10))
  | 0 => ⟨fun _ _ _ _ _ _ _ _ _ _ r h => by simp [trace_agree.f] at h, fun _ _ _ _ _ _ _ _ _ _ _ r h => by simp [trace_agree.j0] at h⟩
  | k + 1 => by
    obtain ⟨ih0, ih1⟩ := trace_agree.mono_l k
    refine ⟨?_, ?_⟩
    · intro y0 y1 y2 y3 y4 y5 y6 y7 y8 y9
      unfold trace_agree.f
      repeat' first
      | (with_reducible exact ih0 _ _ _ _ _ _ _ _ _ _)
      | (with_reducible exact ih1 _ _ _ _ _ _ _ _ _ _ _)
      | (with_reducible exact LeO.refl _)
      | (with_reducible exact LeO.none _)
      | (with_reducible refine LeO.ite ?_ ?_)
      | (with_reducible refine LeO.bind ?_ (fun _ => ?_))
      | exact ih0 _ _ _ _ _ _ _ _ _ _
      | exact ih1 _ _ _ _ _ _ _ _ _ _ _
      | exact LeO.none _
      | refine LeO.ite ?_ ?_
      | refine LeO.bind ?_ (fun _ => ?_)
    · intro y0 y1 y2 y3 y4 y5 y6 y7 y8 y9 y10
      unfold trace_agree.j0
      repeat' first
      | (with_reducible exact ih0 _ _ _ _ _ _ _ _ _ _)
      | (with_reducible exact ih1 _ _ _ _ _ _ _ _ _ _ _)
      | (with_reducible exact LeO.refl _)
      | (with_reducible exact LeO.none _)
      | (with_reducible refine LeO.ite ?_ ?_)
      | (with_reducible refine LeO.bind ?_ (fun _ => ?_))
      | exact ih0 _ _ _ _ _ _ _ _ _ _
      | exact ih1 _ _ _ _ _ _ _ _ _ _ _
      | exact LeO.none _
      | refine LeO.ite ?_ ?_
      | refine LeO.bind ?_ (fun _ => ?_)
theorem trace_agree.mono : ∀ a0 a1 a2 a3 a4 a5 a6 a7 a8 a9 k, LeO (trace_agree.f k a0 a1 a2 a3 a4 a5 a6 a7 a8 a9) (trace_agree.f (k + 1) a0 a1 a2 a3 a4 a5 a6 a7 a8 a9) := by
  intro a0 a1 a2 a3 a4 a5 a6 a7 a8 a9 k
  obtain ⟨ih0, ih1⟩ := trace_agree.mono_l k
  exact ih0 a0 a1 a2 a3 a4 a5 a6 a7 a8 a9
set_option maxHeartbeats 8000000 in
set_option maxRecDepth 100000 in
theorem trace_agree.calls (k : Nat) : ∀ (A0_0 : Option Addr) (c0_0 : Nat) (l0_0 : List Int) (a0_1 : Bool) (a0_2 : Int) (a0_3 : Int) (a0_4 : Int) (A1_0 : Option Addr) (c1_0 : Nat) (l1_0 : List Int) (a1_1 : Bool) (a1_2 : Int) (a1_3 : Int) (a1_4 : Int) (r : Bool) (w : World) (hr0_0 : Kd.C (Kd.int .i64) w A0_0 l0_0.length l0_0) (hc0_0 : l0_0.length ≤ c0_0) (hr1_0 : Kd.C (Kd.int .i64) w A1_0 l1_0.length l1_0) (hc1_0 : l1_0.length ≤ c1_0) (h : trace_agree.f k l0_0 a0_1 a0_2 a0_3 a0_4 l1_0 a1_1 a1_2 a1_3 a1_4 = some r),
    Calls Tryd.prog 34 #[.agg #[.slice A0_0 l0_0.length c0_0, .bool a0_1, .int .i64 a0_2, .int .i64 a0_3, .int .i64 a0_4], .agg #[.slice A1_0 l1_0.length c1_0, .bool a1_1, .int .i64 a1_2, .int .i64 a1_3, .int .i64 a1_4]] w fun e w' => e = .returned (.bool r) ∧ Below w.heap.size w w' := by
  induction k using Nat.strongRecOn with
  | _ k ih =>
  intro A0_0 c0_0 l0_0 a0_1 a0_2 a0_3 a0_4 A1_0 c1_0 l1_0 a1_1 a1_2 a1_3 a1_4 r w hr0_0 hc0_0 hr1_0 hc1_0 h
  cases k with
  | zero => exact absurd h (by simp [trace_agree.f])
  | succ k =>
  simp only [trace_agree.f] at h
  have hu31 := Tryd.underlying31
  have HR0_0 := Aside0.mk hr0_0
  have HC0_0 := Aside0.mk hc0_0
  clear hr0_0 hc0_0
  have HR1_0 := Aside0.mk hr1_0
  have HC1_0 := Aside0.mk hc1_0
  clear hr1_0 hc1_0
  have HB := Aside0.mk (Below.refl w.heap.size w)
  have H : ((trace_Begins.f l0_0 l1_0).bind fun t104 => (if t104 = true then ((trace_Ended.f l0_0 a0_1 a0_2 a0_3 a0_4).bind fun t105 => (if t105 = true then ((trace_Ended.f l1_0 a1_1 a1_2 a1_3 a1_4).bind fun t106 => (trace_agree.j0 k t106 l0_0 a0_1 a0_2 a0_3 a0_4 l1_0 a1_1 a1_2 a1_3 a1_4)) else (trace_agree.j0 k false l0_0 a0_1 a0_2 a0_3 a0_4 l1_0 a1_1 a1_2 a1_3 a1_4))) else (some false))) = some r := h
  clear h
  replace H := Option.bind_eq_some_iff.mp H
  obtain ⟨t104, A30, H⟩ := H
  replace H : (if t104 = true then ((trace_Ended.f l0_0 a0_1 a0_2 a0_3 a0_4).bind fun t105 => (if t105 = true then ((trace_Ended.f l1_0 a1_1 a1_2 a1_3 a1_4).bind fun t106 => (trace_agree.j0 k t106 l0_0 a0_1 a0_2 a0_3 a0_4 l1_0 a1_1 a1_2 a1_3 a1_4)) else (trace_agree.j0 k false l0_0 a0_1 a0_2 a0_3 a0_4 l1_0 a1_1 a1_2 a1_3 a1_4))) else (some false)) = some r := H
  have A3 := Aside0.mk A30
  clear A30
  by_cases c4 : t104 = true
  · subst c4
    have H1 : ((trace_Ended.f l0_0 a0_1 a0_2 a0_3 a0_4).bind fun t105 => (if t105 = true then ((trace_Ended.f l1_0 a1_1 a1_2 a1_3 a1_4).bind fun t106 => (trace_agree.j0 k t106 l0_0 a0_1 a0_2 a0_3 a0_4 l1_0 a1_1 a1_2 a1_3 a1_4)) else (trace_agree.j0 k false l0_0 a0_1 a0_2 a0_3 a0_4 l1_0 a1_1 a1_2 a1_3 a1_4))) = some r := by rw [if_pos rfl] at H; exact H
    clear H
    have H := H1
    clear H1
    have HC5 := Aside0.mk H
    clear H
    go_enter Tryd.func34, Tryd.ntmps34
    go_upto_region 3 with (first | ((with_reducible refine gate_dst (N := 2) rfl ?_); (try (refine gate_guard (by rfl) ?_; dsimp only)); refine box_event ?hg (N := 2) ?hd (cs := #[.slice A0_0 l0_0.length c0_0, .bool a0_1, .int .i64 a0_2, .int .i64 a0_3, .int .i64 a0_4]) (t := 31) ?hr ?_; (case hd => rfl); (case hg => rfl); (case hr => first | (go_simp; done) | (go_simp; rfl)); intro gb102 hg w6 hbox hb; have n0_ := Aside0.mk (below_step (by repeat (first | (with_reducible first | exact HB.out | apply below_alloc | apply pw_below_drewN | apply below_drew1) | exact HB.out)) hb); have n1_ := Aside0.mk (hbox); have n2_ := Aside0.mk ((by rw [hg]; exact (below_size (by repeat (first | (with_reducible first | exact HB.out | apply below_alloc | apply pw_below_drewN | apply below_drew1) | exact HB.out))) : w.heap.size ≤ gb102)); have n3_ := Aside0.mk ((by rw [hg]; exact (below_size (by repeat (first | (with_reducible first | exact HB.out | apply below_alloc | apply pw_below_drewN | apply below_drew1) | exact HB.out))) : w.heap.size ≤ gb102)); clear HB; have HB := n0_; have BK102 := n1_; have GW102 := n2_; have GE102 := n3_; clear n0_ n1_ n2_ n3_; clear hb hbox hg) | ((with_reducible refine gate_dst (N := 3) rfl ?_); (try (refine gate_guard (by rfl) ?_; dsimp only)); refine box_event ?hg (N := 3) ?hd (cs := #[.slice A1_0 l1_0.length c1_0, .bool a1_1, .int .i64 a1_2, .int .i64 a1_3, .int .i64 a1_4]) (t := 31) ?hr ?_; (case hd => rfl); (case hg => rfl); (case hr => first | (go_simp; done) | (go_simp; rfl)); intro gb103 hg w7 hbox hb; have n0_ := Aside0.mk (blk_below (g := gb102) (o := .cells #[.slice A0_0 l0_0.length c0_0, .bool a0_1, .int .i64 a0_2, .int .i64 a0_3, .int .i64 a0_4] 31 (0, 0)) (by (with_reducible repeat (first | refine blk_drewN ?_ _ | refine blk_drew ?_ | refine blk_alloc ?_ _)); exact BK102.out) hb); have n1_ := Aside0.mk (below_step (by repeat (first | (with_reducible first | exact HB.out | apply below_alloc | apply pw_below_drewN | apply below_drew1 | refine below_set ?_ GE102.out) | exact HB.out)) hb); have n2_ := Aside0.mk (hbox); have n3_ := Aside0.mk ((by rw [hg]; exact (below_size (by repeat (first | (with_reducible first | exact HB.out | apply below_alloc | apply pw_below_drewN | apply below_drew1 | refine below_set ?_ GE102.out) | exact HB.out))) : w.heap.size ≤ gb103)); have n4_ := Aside0.mk ((by rw [hg]; exact (below_size (by repeat (first | (with_reducible first | exact HB.out | apply below_alloc | apply pw_below_drewN | apply below_drew1 | refine below_set ?_ GE102.out) | exact HB.out))) : w.heap.size ≤ gb103)); have n5_ := Aside0.mk ((by rw [hg]; exact Nat.ne_of_lt (blk_lt (g := gb102) (o := .cells #[.slice A0_0 l0_0.length c0_0, .bool a0_1, .int .i64 a0_2, .int .i64 a0_3, .int .i64 a0_4] 31 (0, 0)) (by (with_reducible repeat (first | refine blk_drewN ?_ _ | refine blk_drew ?_ | refine blk_alloc ?_ _)); exact BK102.out)) : gb102 ≠ gb103)); have n6_ := Aside0.mk ((by rw [hg]; exact Nat.ne_of_gt (blk_lt (g := gb102) (o := .cells #[.slice A0_0 l0_0.length c0_0, .bool a0_1, .int .i64 a0_2, .int .i64 a0_3, .int .i64 a0_4] 31 (0, 0)) (by (with_reducible repeat (first | refine blk_drewN ?_ _ | refine blk_drew ?_ | refine blk_alloc ?_ _)); exact BK102.out)) : gb103 ≠ gb102)); clear BK102; clear HB; have BK102 := n0_; have HB := n1_; have BK103 := n2_; have GW103 := n3_; have GE103 := n4_; have NB102_103 := n5_; have NB103_102 := n6_; clear n0_ n1_ n2_ n3_ n4_ n5_ n6_; clear hb hbox hg; have hnb8 := NB102_103.out; have hnc8 := NB103_102.out; have hcz9_0 : w7.cell? ⟨gb102, 0, none⟩ = some (.slice A0_0 l0_0.length c0_0) := (blk_cell BK102.out 0).trans rfl; have hcz9_1 : w7.cell? ⟨gb102, 1, none⟩ = some (.bool a0_1) := (blk_cell BK102.out 1).trans rfl; have hcz9_2 : w7.cell? ⟨gb102, 2, none⟩ = some (.int .i64 a0_2) := (blk_cell BK102.out 2).trans rfl; have hcz9_3 : w7.cell? ⟨gb102, 3, none⟩ = some (.int .i64 a0_3) := (blk_cell BK102.out 3).trans rfl; have hcz9_4 : w7.cell? ⟨gb102, 4, none⟩ = some (.int .i64 a0_4) := (blk_cell BK102.out 4).trans rfl; have hfz9_0 := blk_frozen BK102.out 0; have hfz9_1 := blk_frozen BK102.out 1; have hfz9_2 := blk_frozen BK102.out 2; have hfz9_3 := blk_frozen BK102.out 3; have hfz9_4 := blk_frozen BK102.out 4; have hcz10_0 : w7.cell? ⟨gb103, 0, none⟩ = some (.slice A1_0 l1_0.length c1_0) := (blk_cell BK103.out 0).trans rfl; have hcz10_1 : w7.cell? ⟨gb103, 1, none⟩ = some (.bool a1_1) := (blk_cell BK103.out 1).trans rfl; have hcz10_2 : w7.cell? ⟨gb103, 2, none⟩ = some (.int .i64 a1_2) := (blk_cell BK103.out 2).trans rfl; have hcz10_3 : w7.cell? ⟨gb103, 3, none⟩ = some (.int .i64 a1_3) := (blk_cell BK103.out 3).trans rfl; have hcz10_4 : w7.cell? ⟨gb103, 4, none⟩ = some (.int .i64 a1_4) := (blk_cell BK103.out 4).trans rfl; have hfz10_0 := blk_frozen BK103.out 0; have hfz10_1 := blk_frozen BK103.out 1; have hfz10_2 := blk_frozen BK103.out 2; have hfz10_3 := blk_frozen BK103.out 3; have hfz10_4 := blk_frozen BK103.out 4) | ((with_reducible refine gate_callee (f := 20) rfl ?_); refine goesL_ (some 10) rfl rfl Tryd.func20 (by kernel_rfl) rfl #[.slice A0_0 l0_0.length c0_0, .slice A1_0 l1_0.length c1_0] rfl (by (try simp only [List.map_toArray, List.map_cons, List.map_nil]); first | done | rfl | (simp only [List.length_drop, List.length_take]; rfl)) ?_; (with_reducible refine (trace_Begins.calls _ _ l0_0 _ _ l1_0 true _ ?side1 ?side2 ?side3 ?side4 A3.out).mono ?_); (case side1 => repeat (first | exact (Kd.C_below HR0_0.out HB.out) | (with_reducible refine Kd.C_alloc ?_ _) | (with_reducible refine Kd.C_drewN ?_ _) | (with_reducible refine Kd.C_drew ?_))); (case side2 => exact HC0_0.out); (case side3 => repeat (first | exact (Kd.C_below HR1_0.out HB.out) | (with_reducible refine Kd.C_alloc ?_ _) | (with_reducible refine Kd.C_drewN ?_ _) | (with_reducible refine Kd.C_drew ?_))); (case side4 => exact HC1_0.out); rintro e w' ⟨rfl, ⟨nd, rfl⟩⟩; refine ⟨_, rfl, ?_⟩))
    (try simp only [Act.put, List.setIfInBounds_toArray, List.set_cons_zero, List.set_cons_succ])
    go_cut [12] (fun v12 wc => ∃ (kq : Nat) (x12_4 : Bool), v12 = .bool x12_4 ∧ Aside0 (trace_agree.j0 kq x12_4 l0_0 a0_1 a0_2 a0_3 a0_4 l1_0 a1_1 a1_2 a1_3 a1_4 = some r) ∧ Aside0 (kq ≤ k) ∧ Aside0 (wc.heap[gb102]? = some (.cells #[(.slice A0_0 l0_0.length c0_0), .bool a0_1, .int .i64 a0_2, .int .i64 a0_3, .int .i64 a0_4] 31 (0, 0))) ∧ Aside0 (wc.heap[gb103]? = some (.cells #[(.slice A1_0 l1_0.length c1_0), .bool a1_1, .int .i64 a1_2, .int .i64 a1_3, .int .i64 a1_4] 31 (0, 0))) ∧ Aside0 (Below w.heap.size w wc))
    case first =>
      have H := HC5.out
      clear HC5
      replace H := Option.bind_eq_some_iff.mp H
      obtain ⟨t105, A110, H⟩ := H
      replace H : (if t105 = true then ((trace_Ended.f l1_0 a1_1 a1_2 a1_3 a1_4).bind fun t106 => (trace_agree.j0 k t106 l0_0 a0_1 a0_2 a0_3 a0_4 l1_0 a1_1 a1_2 a1_3 a1_4)) else (trace_agree.j0 k false l0_0 a0_1 a0_2 a0_3 a0_4 l1_0 a1_1 a1_2 a1_3 a1_4)) = some r := H
      have A11 := Aside0.mk A110
      clear A110
      by_cases c12 : t105 = true
      · subst c12
        have H1 : ((trace_Ended.f l1_0 a1_1 a1_2 a1_3 a1_4).bind fun t106 => (trace_agree.j0 k t106 l0_0 a0_1 a0_2 a0_3 a0_4 l1_0 a1_1 a1_2 a1_3 a1_4)) = some r := by rw [if_pos rfl] at H; exact H
        clear H
        have H := H1
        clear H1
        replace H := Option.bind_eq_some_iff.mp H
        obtain ⟨t106, A130, H⟩ := H
        replace H : (trace_agree.j0 k t106 l0_0 a0_1 a0_2 a0_3 a0_4 l1_0 a1_1 a1_2 a1_3 a1_4) = some r := H
        have A13 := Aside0.mk A130
        clear A130
        have H' := Aside0.mk H
        clear H
        have hnb14 := NB102_103.out
        have hnc14 := NB103_102.out
        have hcz15_0 : w7.cell? ⟨gb102, 0, none⟩ = some (.slice A0_0 l0_0.length c0_0) := (blk_cell BK102.out 0).trans rfl
        have hcz15_1 : w7.cell? ⟨gb102, 1, none⟩ = some (.bool a0_1) := (blk_cell BK102.out 1).trans rfl
        have hcz15_2 : w7.cell? ⟨gb102, 2, none⟩ = some (.int .i64 a0_2) := (blk_cell BK102.out 2).trans rfl
        have hcz15_3 : w7.cell? ⟨gb102, 3, none⟩ = some (.int .i64 a0_3) := (blk_cell BK102.out 3).trans rfl
        have hcz15_4 : w7.cell? ⟨gb102, 4, none⟩ = some (.int .i64 a0_4) := (blk_cell BK102.out 4).trans rfl
        have hfz15_0 := blk_frozen BK102.out 0
        have hfz15_1 := blk_frozen BK102.out 1
        have hfz15_2 := blk_frozen BK102.out 2
        have hfz15_3 := blk_frozen BK102.out 3
        have hfz15_4 := blk_frozen BK102.out 4
        go_wp2_with (first | ((with_reducible refine gate_callee (f := 14) rfl ?_); refine goesL_ (some 14) rfl rfl Tryd.func14 (by kernel_rfl) rfl #[.agg #[.slice A0_0 l0_0.length c0_0, .bool a0_1, .int .i64 a0_2, .int .i64 a0_3, .int .i64 a0_4]] rfl (by (try simp only [List.map_toArray, List.map_cons, List.map_nil]); first | done | rfl | (simp only [List.length_drop, List.length_take]; rfl)) ?_; (with_reducible refine (trace_Ended.calls _ _ l0_0 a0_1 a0_2 a0_3 a0_4 true _ ?side1 ?side2 A11.out).mono ?_); (case side1 => repeat (first | exact (Kd.C_below HR0_0.out HB.out) | (with_reducible refine Kd.C_alloc ?_ _) | (with_reducible refine Kd.C_drewN ?_ _) | (with_reducible refine Kd.C_drew ?_))); (case side2 => exact HC0_0.out); rintro e w16 ⟨rfl, hb⟩; refine ⟨_, rfl, ?_⟩; have n0_ := Aside0.mk (blk_below (g := gb102) (o := .cells #[.slice A0_0 l0_0.length c0_0, .bool a0_1, .int .i64 a0_2, .int .i64 a0_3, .int .i64 a0_4] 31 (0, 0)) (by (with_reducible repeat (first | refine blk_drewN ?_ _ | refine blk_drew ?_ | refine blk_alloc ?_ _)); exact BK102.out) hb); have n1_ := Aside0.mk (blk_below (g := gb103) (o := .cells #[.slice A1_0 l1_0.length c1_0, .bool a1_1, .int .i64 a1_2, .int .i64 a1_3, .int .i64 a1_4] 31 (0, 0)) (by (with_reducible repeat (first | refine blk_drewN ?_ _ | refine blk_drew ?_ | refine blk_alloc ?_ _)); exact BK103.out) hb); have n2_ := Aside0.mk (below_step (by repeat (first | (with_reducible first | exact HB.out | apply below_alloc | apply pw_below_drewN | apply below_drew1 | refine below_set ?_ GE102.out | refine below_set ?_ GE103.out) | exact HB.out)) hb); clear BK102; clear BK103; clear HB; have BK102 := n0_; have BK103 := n1_; have HB := n2_; clear n0_ n1_ n2_; (try clear hb); (try clear hb2); (try clear hk); (try clear hi); have hcz17_0 : w16.cell? ⟨gb103, 0, none⟩ = some (.slice A1_0 l1_0.length c1_0) := (blk_cell BK103.out 0).trans rfl; have hcz17_1 : w16.cell? ⟨gb103, 1, none⟩ = some (.bool a1_1) := (blk_cell BK103.out 1).trans rfl; have hcz17_2 : w16.cell? ⟨gb103, 2, none⟩ = some (.int .i64 a1_2) := (blk_cell BK103.out 2).trans rfl; have hcz17_3 : w16.cell? ⟨gb103, 3, none⟩ = some (.int .i64 a1_3) := (blk_cell BK103.out 3).trans rfl; have hcz17_4 : w16.cell? ⟨gb103, 4, none⟩ = some (.int .i64 a1_4) := (blk_cell BK103.out 4).trans rfl; have hfz17_0 := blk_frozen BK103.out 0; have hfz17_1 := blk_frozen BK103.out 1; have hfz17_2 := blk_frozen BK103.out 2; have hfz17_3 := blk_frozen BK103.out 3; have hfz17_4 := blk_frozen BK103.out 4) | (go_at_call 14; (with_reducible refine (trace_Ended.calls _ _ l1_0 a1_1 a1_2 a1_3 a1_4 t106 _ ?side1 ?side2 A13.out).mono ?_); (case side1 => repeat (first | exact (Kd.C_below HR1_0.out HB.out) | (with_reducible refine Kd.C_alloc ?_ _) | (with_reducible refine Kd.C_drewN ?_ _) | (with_reducible refine Kd.C_drew ?_))); (case side2 => exact HC1_0.out); rintro e w18 ⟨rfl, hb⟩; have n0_ := Aside0.mk (blk_below (g := gb102) (o := .cells #[.slice A0_0 l0_0.length c0_0, .bool a0_1, .int .i64 a0_2, .int .i64 a0_3, .int .i64 a0_4] 31 (0, 0)) (by (with_reducible repeat (first | refine blk_drewN ?_ _ | refine blk_drew ?_ | refine blk_alloc ?_ _)); exact BK102.out) hb); have n1_ := Aside0.mk (blk_below (g := gb103) (o := .cells #[.slice A1_0 l1_0.length c1_0, .bool a1_1, .int .i64 a1_2, .int .i64 a1_3, .int .i64 a1_4] 31 (0, 0)) (by (with_reducible repeat (first | refine blk_drewN ?_ _ | refine blk_drew ?_ | refine blk_alloc ?_ _)); exact BK103.out) hb); have n2_ := Aside0.mk (below_step (by repeat (first | (with_reducible first | exact HB.out | apply below_alloc | apply pw_below_drewN | apply below_drew1 | refine below_set ?_ GE102.out | refine below_set ?_ GE103.out) | exact HB.out)) hb); clear BK102; clear BK103; clear HB; have BK102 := n0_; have BK103 := n1_; have HB := n2_; clear n0_ n1_ n2_; (try clear hb); (try clear hb2); (try clear hk); (try clear hi)))
        go_meet
        case rel => exact ⟨_, (t106), (by first | rfl | (simp; done) | (simp [*]; done)), H', ⟨by first | omega | exact Nat.le_refl _⟩, ⟨by (with_reducible repeat (first | refine blk_drewN ?_ _ | refine blk_drew ?_ | refine blk_alloc ?_ _)); exact BK102.out⟩, ⟨by (with_reducible repeat (first | refine blk_drewN ?_ _ | refine blk_drew ?_ | refine blk_alloc ?_ _)); exact BK103.out⟩, ⟨by repeat (first | (with_reducible first | exact HB.out | apply below_alloc | apply pw_below_drewN | apply below_drew1 | refine below_set ?_ GE102.out | refine below_set ?_ GE103.out) | exact HB.out)⟩⟩
      · replace c12 := Bool.eq_false_iff.mpr c12
        subst c12
        have H1 : (trace_agree.j0 k false l0_0 a0_1 a0_2 a0_3 a0_4 l1_0 a1_1 a1_2 a1_3 a1_4) = some r := by rw [if_neg (show ¬ (false = true) by decide)] at H; exact H
        clear H
        have H := H1
        clear H1
        have H' := Aside0.mk H
        clear H
        have hnb19 := NB102_103.out
        have hnc19 := NB103_102.out
        have hcz20_0 : w7.cell? ⟨gb102, 0, none⟩ = some (.slice A0_0 l0_0.length c0_0) := (blk_cell BK102.out 0).trans rfl
        have hcz20_1 : w7.cell? ⟨gb102, 1, none⟩ = some (.bool a0_1) := (blk_cell BK102.out 1).trans rfl
        have hcz20_2 : w7.cell? ⟨gb102, 2, none⟩ = some (.int .i64 a0_2) := (blk_cell BK102.out 2).trans rfl
        have hcz20_3 : w7.cell? ⟨gb102, 3, none⟩ = some (.int .i64 a0_3) := (blk_cell BK102.out 3).trans rfl
        have hcz20_4 : w7.cell? ⟨gb102, 4, none⟩ = some (.int .i64 a0_4) := (blk_cell BK102.out 4).trans rfl
        have hfz20_0 := blk_frozen BK102.out 0
        have hfz20_1 := blk_frozen BK102.out 1
        have hfz20_2 := blk_frozen BK102.out 2
        have hfz20_3 := blk_frozen BK102.out 3
        have hfz20_4 := blk_frozen BK102.out 4
        go_wp2_with (first | ((with_reducible refine gate_callee (f := 14) rfl ?_); refine goesL_ (some 14) rfl rfl Tryd.func14 (by kernel_rfl) rfl #[.agg #[.slice A0_0 l0_0.length c0_0, .bool a0_1, .int .i64 a0_2, .int .i64 a0_3, .int .i64 a0_4]] rfl (by (try simp only [List.map_toArray, List.map_cons, List.map_nil]); first | done | rfl | (simp only [List.length_drop, List.length_take]; rfl)) ?_; (with_reducible refine (trace_Ended.calls _ _ l0_0 a0_1 a0_2 a0_3 a0_4 false _ ?side1 ?side2 A11.out).mono ?_); (case side1 => repeat (first | exact (Kd.C_below HR0_0.out HB.out) | (with_reducible refine Kd.C_alloc ?_ _) | (with_reducible refine Kd.C_drewN ?_ _) | (with_reducible refine Kd.C_drew ?_))); (case side2 => exact HC0_0.out); rintro e w21 ⟨rfl, hb⟩; refine ⟨_, rfl, ?_⟩; have n0_ := Aside0.mk (blk_below (g := gb102) (o := .cells #[.slice A0_0 l0_0.length c0_0, .bool a0_1, .int .i64 a0_2, .int .i64 a0_3, .int .i64 a0_4] 31 (0, 0)) (by (with_reducible repeat (first | refine blk_drewN ?_ _ | refine blk_drew ?_ | refine blk_alloc ?_ _)); exact BK102.out) hb); have n1_ := Aside0.mk (blk_below (g := gb103) (o := .cells #[.slice A1_0 l1_0.length c1_0, .bool a1_1, .int .i64 a1_2, .int .i64 a1_3, .int .i64 a1_4] 31 (0, 0)) (by (with_reducible repeat (first | refine blk_drewN ?_ _ | refine blk_drew ?_ | refine blk_alloc ?_ _)); exact BK103.out) hb); have n2_ := Aside0.mk (below_step (by repeat (first | (with_reducible first | exact HB.out | apply below_alloc | apply pw_below_drewN | apply below_drew1 | refine below_set ?_ GE102.out | refine below_set ?_ GE103.out) | exact HB.out)) hb); clear BK102; clear BK103; clear HB; have BK102 := n0_; have BK103 := n1_; have HB := n2_; clear n0_ n1_ n2_; (try clear hb); (try clear hb2); (try clear hk); (try clear hi)))
        go_meet
        case rel => exact ⟨_, (false), (by first | rfl | (simp; done) | (simp [*]; done)), H', ⟨by first | omega | exact Nat.le_refl _⟩, ⟨by (with_reducible repeat (first | refine blk_drewN ?_ _ | refine blk_drew ?_ | refine blk_alloc ?_ _)); exact BK102.out⟩, ⟨by (with_reducible repeat (first | refine blk_drewN ?_ _ | refine blk_drew ?_ | refine blk_alloc ?_ _)); exact BK103.out⟩, ⟨by repeat (first | (with_reducible first | exact HB.out | apply below_alloc | apply pw_below_drewN | apply below_drew1 | refine below_set ?_ GE102.out | refine below_set ?_ GE103.out) | exact HB.out)⟩⟩
    case rest =>
      clear HC5
      try clear c1
      try clear c2
      try clear p2
      try clear c3
      try clear c4
      try clear c8
      try clear c12
      try clear c14
      try clear c19
      try clear c20
      try clear hcz10_0
      try clear hcz10_1
      try clear hcz10_2
      try clear hcz10_3
      try clear hcz10_4
      try clear hcz15_0
      try clear hcz15_1
      try clear hcz15_2
      try clear hcz15_3
      try clear hcz15_4
      try clear hcz17_0
      try clear hcz17_1
      try clear hcz17_2
      try clear hcz17_3
      try clear hcz17_4
      try clear hcz20_0
      try clear hcz20_1
      try clear hcz20_2
      try clear hcz20_3
      try clear hcz20_4
      try clear hcz9_0
      try clear hcz9_1
      try clear hcz9_2
      try clear hcz9_3
      try clear hcz9_4
      try clear hfz10_0
      try clear hfz10_1
      try clear hfz10_2
      try clear hfz10_3
      try clear hfz10_4
      try clear hfz15_0
      try clear hfz15_1
      try clear hfz15_2
      try clear hfz15_3
      try clear hfz15_4
      try clear hfz17_0
      try clear hfz17_1
      try clear hfz17_2
      try clear hfz17_3
      try clear hfz17_4
      try clear hfz20_0
      try clear hfz20_1
      try clear hfz20_2
      try clear hfz20_3
      try clear hfz20_4
      try clear hfz9_0
      try clear hfz9_1
      try clear hfz9_2
      try clear hfz9_3
      try clear hfz9_4
      obtain ⟨kq, x12_4, rfl, HA, HJ4, BK102, BK103, HB⟩ := hcut
      cases kq with
      | zero => exact absurd HA.out (by simp [trace_agree.j0])
      | succ kj4 =>
        have H := HA.out
        clear HA
        simp only [trace_agree.j0] at H
        by_cases c22 : x12_4 = true
        · subst c22
          have H1 : (if (l0_0.length : Int) = (l1_0.length : Int) then (if a0_2 = a1_2 then (some (a0_3 == a1_3)) else (some false)) else (some false)) = some r := by rw [if_pos rfl] at H; exact H
          clear H
          have H := H1
          clear H1
          by_cases c23 : (l0_0.length : Int) = (l1_0.length : Int)
          · rw [if_pos c23] at H
            have c23b0 : ((l0_0.length : Int) == (l1_0.length : Int)) = true := beq_iff_eq.mpr c23
            have c23b1 : ((l0_0.length : Int) != (l1_0.length : Int)) = false := bne_eq_false_iff_eq.mpr c23
            have c23b2 : (l0_0.length == l1_0.length) = true := by first | simpa using c23 | (simp at c23 ⊢; omega)
            clear c23
            by_cases c24 : a0_2 = a1_2
            · rw [if_pos c24] at H
              have c24b0 : (a0_2 == a1_2) = true := beq_iff_eq.mpr c24
              have c24b1 : (a0_2 != a1_2) = false := bne_eq_false_iff_eq.mpr c24
              clear c24
              obtain rfl := Option.some.inj H
              have hnb25 := NB102_103.out
              have hnc25 := NB103_102.out
              have hcz26_0 : wc.cell? ⟨gb102, 0, none⟩ = some (.slice A0_0 l0_0.length c0_0) := (blk_cell BK102.out 0).trans rfl
              have hcz26_1 : wc.cell? ⟨gb102, 1, none⟩ = some (.bool a0_1) := (blk_cell BK102.out 1).trans rfl
              have hcz26_2 : wc.cell? ⟨gb102, 2, none⟩ = some (.int .i64 a0_2) := (blk_cell BK102.out 2).trans rfl
              have hcz26_3 : wc.cell? ⟨gb102, 3, none⟩ = some (.int .i64 a0_3) := (blk_cell BK102.out 3).trans rfl
              have hcz26_4 : wc.cell? ⟨gb102, 4, none⟩ = some (.int .i64 a0_4) := (blk_cell BK102.out 4).trans rfl
              have hfz26_0 := blk_frozen BK102.out 0
              have hfz26_1 := blk_frozen BK102.out 1
              have hfz26_2 := blk_frozen BK102.out 2
              have hfz26_3 := blk_frozen BK102.out 3
              have hfz26_4 := blk_frozen BK102.out 4
              have hcz27_0 : wc.cell? ⟨gb103, 0, none⟩ = some (.slice A1_0 l1_0.length c1_0) := (blk_cell BK103.out 0).trans rfl
              have hcz27_1 : wc.cell? ⟨gb103, 1, none⟩ = some (.bool a1_1) := (blk_cell BK103.out 1).trans rfl
              have hcz27_2 : wc.cell? ⟨gb103, 2, none⟩ = some (.int .i64 a1_2) := (blk_cell BK103.out 2).trans rfl
              have hcz27_3 : wc.cell? ⟨gb103, 3, none⟩ = some (.int .i64 a1_3) := (blk_cell BK103.out 3).trans rfl
              have hcz27_4 : wc.cell? ⟨gb103, 4, none⟩ = some (.int .i64 a1_4) := (blk_cell BK103.out 4).trans rfl
              have hfz27_0 := blk_frozen BK103.out 0
              have hfz27_1 := blk_frozen BK103.out 1
              have hfz27_2 := blk_frozen BK103.out 2
              have hfz27_3 := blk_frozen BK103.out 3
              have hfz27_4 := blk_frozen BK103.out 4
              go_wp2
              go_ret
              exact ⟨by first | rfl | (simp [errW_none, errW_some] <;> rfl) | (simp [*, errW_none, errW_some] <;> rfl), by repeat (first | (with_reducible first | exact HB.out | apply below_alloc | apply pw_below_drewN | apply below_drew1 | refine below_set ?_ GE102.out | refine below_set ?_ GE103.out) | exact HB.out)⟩
            · rw [if_neg c24] at H
              have c24b0 : (a0_2 == a1_2) = false := beq_eq_false_iff_ne.mpr c24
              have c24b1 : (a0_2 != a1_2) = true := bne_iff_ne.mpr c24
              obtain rfl := Option.some.inj H
              have hnb28 := NB102_103.out
              have hnc28 := NB103_102.out
              have hcz29_0 : wc.cell? ⟨gb102, 0, none⟩ = some (.slice A0_0 l0_0.length c0_0) := (blk_cell BK102.out 0).trans rfl
              have hcz29_1 : wc.cell? ⟨gb102, 1, none⟩ = some (.bool a0_1) := (blk_cell BK102.out 1).trans rfl
              have hcz29_2 : wc.cell? ⟨gb102, 2, none⟩ = some (.int .i64 a0_2) := (blk_cell BK102.out 2).trans rfl
              have hcz29_3 : wc.cell? ⟨gb102, 3, none⟩ = some (.int .i64 a0_3) := (blk_cell BK102.out 3).trans rfl
              have hcz29_4 : wc.cell? ⟨gb102, 4, none⟩ = some (.int .i64 a0_4) := (blk_cell BK102.out 4).trans rfl
              have hfz29_0 := blk_frozen BK102.out 0
              have hfz29_1 := blk_frozen BK102.out 1
              have hfz29_2 := blk_frozen BK102.out 2
              have hfz29_3 := blk_frozen BK102.out 3
              have hfz29_4 := blk_frozen BK102.out 4
              have hcz30_0 : wc.cell? ⟨gb103, 0, none⟩ = some (.slice A1_0 l1_0.length c1_0) := (blk_cell BK103.out 0).trans rfl
              have hcz30_1 : wc.cell? ⟨gb103, 1, none⟩ = some (.bool a1_1) := (blk_cell BK103.out 1).trans rfl
              have hcz30_2 : wc.cell? ⟨gb103, 2, none⟩ = some (.int .i64 a1_2) := (blk_cell BK103.out 2).trans rfl
              have hcz30_3 : wc.cell? ⟨gb103, 3, none⟩ = some (.int .i64 a1_3) := (blk_cell BK103.out 3).trans rfl
              have hcz30_4 : wc.cell? ⟨gb103, 4, none⟩ = some (.int .i64 a1_4) := (blk_cell BK103.out 4).trans rfl
              have hfz30_0 := blk_frozen BK103.out 0
              have hfz30_1 := blk_frozen BK103.out 1
              have hfz30_2 := blk_frozen BK103.out 2
              have hfz30_3 := blk_frozen BK103.out 3
              have hfz30_4 := blk_frozen BK103.out 4
              go_wp2
              go_ret
              exact ⟨by first | rfl | (simp [errW_none, errW_some] <;> rfl) | (simp [*, errW_none, errW_some] <;> rfl), by repeat (first | (with_reducible first | exact HB.out | apply below_alloc | apply pw_below_drewN | apply below_drew1 | refine below_set ?_ GE102.out | refine below_set ?_ GE103.out) | exact HB.out)⟩
          · rw [if_neg c23] at H
            have c23b0 : ((l0_0.length : Int) == (l1_0.length : Int)) = false := beq_eq_false_iff_ne.mpr c23
            have c23b1 : ((l0_0.length : Int) != (l1_0.length : Int)) = true := bne_iff_ne.mpr c23
            have c23b2 : (l0_0.length == l1_0.length) = false := by first | simpa using c23 | (simp at c23 ⊢; omega)
            obtain rfl := Option.some.inj H
            have hnb31 := NB102_103.out
            have hnc31 := NB103_102.out
            have hcz32_0 : wc.cell? ⟨gb102, 0, none⟩ = some (.slice A0_0 l0_0.length c0_0) := (blk_cell BK102.out 0).trans rfl
            have hcz32_1 : wc.cell? ⟨gb102, 1, none⟩ = some (.bool a0_1) := (blk_cell BK102.out 1).trans rfl
            have hcz32_2 : wc.cell? ⟨gb102, 2, none⟩ = some (.int .i64 a0_2) := (blk_cell BK102.out 2).trans rfl
            have hcz32_3 : wc.cell? ⟨gb102, 3, none⟩ = some (.int .i64 a0_3) := (blk_cell BK102.out 3).trans rfl
            have hcz32_4 : wc.cell? ⟨gb102, 4, none⟩ = some (.int .i64 a0_4) := (blk_cell BK102.out 4).trans rfl
            have hfz32_0 := blk_frozen BK102.out 0
            have hfz32_1 := blk_frozen BK102.out 1
            have hfz32_2 := blk_frozen BK102.out 2
            have hfz32_3 := blk_frozen BK102.out 3
            have hfz32_4 := blk_frozen BK102.out 4
            have hcz33_0 : wc.cell? ⟨gb103, 0, none⟩ = some (.slice A1_0 l1_0.length c1_0) := (blk_cell BK103.out 0).trans rfl
            have hcz33_1 : wc.cell? ⟨gb103, 1, none⟩ = some (.bool a1_1) := (blk_cell BK103.out 1).trans rfl
            have hcz33_2 : wc.cell? ⟨gb103, 2, none⟩ = some (.int .i64 a1_2) := (blk_cell BK103.out 2).trans rfl
            have hcz33_3 : wc.cell? ⟨gb103, 3, none⟩ = some (.int .i64 a1_3) := (blk_cell BK103.out 3).trans rfl
            have hcz33_4 : wc.cell? ⟨gb103, 4, none⟩ = some (.int .i64 a1_4) := (blk_cell BK103.out 4).trans rfl
            have hfz33_0 := blk_frozen BK103.out 0
            have hfz33_1 := blk_frozen BK103.out 1
            have hfz33_2 := blk_frozen BK103.out 2
            have hfz33_3 := blk_frozen BK103.out 3
            have hfz33_4 := blk_frozen BK103.out 4
            go_wp2
            go_ret
            exact ⟨by first | rfl | (simp [errW_none, errW_some] <;> rfl) | (simp [*, errW_none, errW_some] <;> rfl), by repeat (first | (with_reducible first | exact HB.out | apply below_alloc | apply pw_below_drewN | apply below_drew1 | refine below_set ?_ GE102.out | refine below_set ?_ GE103.out) | exact HB.out)⟩
        · replace c22 := Bool.eq_false_iff.mpr c22
          subst c22
          have H1 : ((trace_Ended.f l0_0 a0_1 a0_2 a0_3 a0_4).bind fun t107 => (if t107 = true then (if a1_3 ≤ a0_3 then (some (decide ((l1_0.length : Int) ≤ (l0_0.length : Int)))) else (some false)) else ((trace_Ended.f l1_0 a1_1 a1_2 a1_3 a1_4).bind fun t108 => (if t108 = true then ((trace_agree.f kj4 l1_0 a1_1 a1_2 a1_3 a1_4 l0_0 a0_1 a0_2 a0_3 a0_4).bind fun t109 => (some t109)) else (some true))))) = some r := by rw [if_neg (show ¬ (false = true) by decide)] at H; exact H
          clear H
          have H := H1
          clear H1
          replace H := Option.bind_eq_some_iff.mp H
          obtain ⟨t107, A340, H⟩ := H
          replace H : (if t107 = true then (if a1_3 ≤ a0_3 then (some (decide ((l1_0.length : Int) ≤ (l0_0.length : Int)))) else (some false)) else ((trace_Ended.f l1_0 a1_1 a1_2 a1_3 a1_4).bind fun t108 => (if t108 = true then ((trace_agree.f kj4 l1_0 a1_1 a1_2 a1_3 a1_4 l0_0 a0_1 a0_2 a0_3 a0_4).bind fun t109 => (some t109)) else (some true)))) = some r := H
          have A34 := Aside0.mk A340
          clear A340
          by_cases c35 : t107 = true
          · subst c35
            have H1 : (if a1_3 ≤ a0_3 then (some (decide ((l1_0.length : Int) ≤ (l0_0.length : Int)))) else (some false)) = some r := by rw [if_pos rfl] at H; exact H
            clear H
            have H := H1
            clear H1
            by_cases c36 : a1_3 ≤ a0_3
            · rw [if_pos c36] at H
              have c36b0 : decide (a1_3 ≤ a0_3) = true := decide_eq_true c36
              clear c36
              obtain rfl := Option.some.inj H
              have hnb37 := NB102_103.out
              have hnc37 := NB103_102.out
              have hcz38_0 : wc.cell? ⟨gb102, 0, none⟩ = some (.slice A0_0 l0_0.length c0_0) := (blk_cell BK102.out 0).trans rfl
              have hcz38_1 : wc.cell? ⟨gb102, 1, none⟩ = some (.bool a0_1) := (blk_cell BK102.out 1).trans rfl
              have hcz38_2 : wc.cell? ⟨gb102, 2, none⟩ = some (.int .i64 a0_2) := (blk_cell BK102.out 2).trans rfl
              have hcz38_3 : wc.cell? ⟨gb102, 3, none⟩ = some (.int .i64 a0_3) := (blk_cell BK102.out 3).trans rfl
              have hcz38_4 : wc.cell? ⟨gb102, 4, none⟩ = some (.int .i64 a0_4) := (blk_cell BK102.out 4).trans rfl
              have hfz38_0 := blk_frozen BK102.out 0
              have hfz38_1 := blk_frozen BK102.out 1
              have hfz38_2 := blk_frozen BK102.out 2
              have hfz38_3 := blk_frozen BK102.out 3
              have hfz38_4 := blk_frozen BK102.out 4
              go_wp2_with (first | ((with_reducible refine gate_callee (f := 14) rfl ?_); refine goesL_ (some 42) rfl rfl Tryd.func14 (by kernel_rfl) rfl #[.agg #[.slice A0_0 l0_0.length c0_0, .bool a0_1, .int .i64 a0_2, .int .i64 a0_3, .int .i64 a0_4]] rfl (by (try simp only [List.map_toArray, List.map_cons, List.map_nil]); first | done | rfl | (simp only [List.length_drop, List.length_take]; rfl)) ?_; (with_reducible refine (trace_Ended.calls _ _ l0_0 a0_1 a0_2 a0_3 a0_4 true _ ?side1 ?side2 A34.out).mono ?_); (case side1 => repeat (first | exact (Kd.C_below HR0_0.out HB.out) | (with_reducible refine Kd.C_alloc ?_ _) | (with_reducible refine Kd.C_drewN ?_ _) | (with_reducible refine Kd.C_drew ?_))); (case side2 => exact HC0_0.out); rintro e w39 ⟨rfl, hb⟩; refine ⟨_, rfl, ?_⟩; have n0_ := Aside0.mk (blk_below (g := gb102) (o := .cells #[.slice A0_0 l0_0.length c0_0, .bool a0_1, .int .i64 a0_2, .int .i64 a0_3, .int .i64 a0_4] 31 (0, 0)) (by (with_reducible repeat (first | refine blk_drewN ?_ _ | refine blk_drew ?_ | refine blk_alloc ?_ _)); exact BK102.out) hb); have n1_ := Aside0.mk (blk_below (g := gb103) (o := .cells #[.slice A1_0 l1_0.length c1_0, .bool a1_1, .int .i64 a1_2, .int .i64 a1_3, .int .i64 a1_4] 31 (0, 0)) (by (with_reducible repeat (first | refine blk_drewN ?_ _ | refine blk_drew ?_ | refine blk_alloc ?_ _)); exact BK103.out) hb); have n2_ := Aside0.mk (below_step (by repeat (first | (with_reducible first | exact HB.out | apply below_alloc | apply pw_below_drewN | apply below_drew1 | refine below_set ?_ GE102.out | refine below_set ?_ GE103.out) | exact HB.out)) hb); clear BK102; clear BK103; clear HB; have BK102 := n0_; have BK103 := n1_; have HB := n2_; clear n0_ n1_ n2_; (try clear hb); (try clear hb2); (try clear hk); (try clear hi); have hcz40_0 : w39.cell? ⟨gb103, 0, none⟩ = some (.slice A1_0 l1_0.length c1_0) := (blk_cell BK103.out 0).trans rfl; have hcz40_1 : w39.cell? ⟨gb103, 1, none⟩ = some (.bool a1_1) := (blk_cell BK103.out 1).trans rfl; have hcz40_2 : w39.cell? ⟨gb103, 2, none⟩ = some (.int .i64 a1_2) := (blk_cell BK103.out 2).trans rfl; have hcz40_3 : w39.cell? ⟨gb103, 3, none⟩ = some (.int .i64 a1_3) := (blk_cell BK103.out 3).trans rfl; have hcz40_4 : w39.cell? ⟨gb103, 4, none⟩ = some (.int .i64 a1_4) := (blk_cell BK103.out 4).trans rfl; have hfz40_0 := blk_frozen BK103.out 0; have hfz40_1 := blk_frozen BK103.out 1; have hfz40_2 := blk_frozen BK103.out 2; have hfz40_3 := blk_frozen BK103.out 3; have hfz40_4 := blk_frozen BK103.out 4; have hcz41_0 : w39.cell? ⟨gb102, 0, none⟩ = some (.slice A0_0 l0_0.length c0_0) := (blk_cell BK102.out 0).trans rfl; have hcz41_1 : w39.cell? ⟨gb102, 1, none⟩ = some (.bool a0_1) := (blk_cell BK102.out 1).trans rfl; have hcz41_2 : w39.cell? ⟨gb102, 2, none⟩ = some (.int .i64 a0_2) := (blk_cell BK102.out 2).trans rfl; have hcz41_3 : w39.cell? ⟨gb102, 3, none⟩ = some (.int .i64 a0_3) := (blk_cell BK102.out 3).trans rfl; have hcz41_4 : w39.cell? ⟨gb102, 4, none⟩ = some (.int .i64 a0_4) := (blk_cell BK102.out 4).trans rfl; have hfz41_0 := blk_frozen BK102.out 0; have hfz41_1 := blk_frozen BK102.out 1; have hfz41_2 := blk_frozen BK102.out 2; have hfz41_3 := blk_frozen BK102.out 3; have hfz41_4 := blk_frozen BK102.out 4))
              go_ret
              exact ⟨by first | rfl | (simp [errW_none, errW_some] <;> rfl) | (simp [*, errW_none, errW_some] <;> rfl), by repeat (first | (with_reducible first | exact HB.out | apply below_alloc | apply pw_below_drewN | apply below_drew1 | refine below_set ?_ GE102.out | refine below_set ?_ GE103.out) | exact HB.out)⟩
            · rw [if_neg c36] at H
              have c36b0 : decide (a1_3 ≤ a0_3) = false := decide_eq_false c36
              clear c36
              obtain rfl := Option.some.inj H
              have hnb42 := NB102_103.out
              have hnc42 := NB103_102.out
              have hcz43_0 : wc.cell? ⟨gb102, 0, none⟩ = some (.slice A0_0 l0_0.length c0_0) := (blk_cell BK102.out 0).trans rfl
              have hcz43_1 : wc.cell? ⟨gb102, 1, none⟩ = some (.bool a0_1) := (blk_cell BK102.out 1).trans rfl
              have hcz43_2 : wc.cell? ⟨gb102, 2, none⟩ = some (.int .i64 a0_2) := (blk_cell BK102.out 2).trans rfl
              have hcz43_3 : wc.cell? ⟨gb102, 3, none⟩ = some (.int .i64 a0_3) := (blk_cell BK102.out 3).trans rfl
              have hcz43_4 : wc.cell? ⟨gb102, 4, none⟩ = some (.int .i64 a0_4) := (blk_cell BK102.out 4).trans rfl
              have hfz43_0 := blk_frozen BK102.out 0
              have hfz43_1 := blk_frozen BK102.out 1
              have hfz43_2 := blk_frozen BK102.out 2
              have hfz43_3 := blk_frozen BK102.out 3
              have hfz43_4 := blk_frozen BK102.out 4
              go_wp2_with (first | ((with_reducible refine gate_callee (f := 14) rfl ?_); refine goesL_ (some 42) rfl rfl Tryd.func14 (by kernel_rfl) rfl #[.agg #[.slice A0_0 l0_0.length c0_0, .bool a0_1, .int .i64 a0_2, .int .i64 a0_3, .int .i64 a0_4]] rfl (by (try simp only [List.map_toArray, List.map_cons, List.map_nil]); first | done | rfl | (simp only [List.length_drop, List.length_take]; rfl)) ?_; (with_reducible refine (trace_Ended.calls _ _ l0_0 a0_1 a0_2 a0_3 a0_4 true _ ?side1 ?side2 A34.out).mono ?_); (case side1 => repeat (first | exact (Kd.C_below HR0_0.out HB.out) | (with_reducible refine Kd.C_alloc ?_ _) | (with_reducible refine Kd.C_drewN ?_ _) | (with_reducible refine Kd.C_drew ?_))); (case side2 => exact HC0_0.out); rintro e w44 ⟨rfl, hb⟩; refine ⟨_, rfl, ?_⟩; have n0_ := Aside0.mk (blk_below (g := gb102) (o := .cells #[.slice A0_0 l0_0.length c0_0, .bool a0_1, .int .i64 a0_2, .int .i64 a0_3, .int .i64 a0_4] 31 (0, 0)) (by (with_reducible repeat (first | refine blk_drewN ?_ _ | refine blk_drew ?_ | refine blk_alloc ?_ _)); exact BK102.out) hb); have n1_ := Aside0.mk (blk_below (g := gb103) (o := .cells #[.slice A1_0 l1_0.length c1_0, .bool a1_1, .int .i64 a1_2, .int .i64 a1_3, .int .i64 a1_4] 31 (0, 0)) (by (with_reducible repeat (first | refine blk_drewN ?_ _ | refine blk_drew ?_ | refine blk_alloc ?_ _)); exact BK103.out) hb); have n2_ := Aside0.mk (below_step (by repeat (first | (with_reducible first | exact HB.out | apply below_alloc | apply pw_below_drewN | apply below_drew1 | refine below_set ?_ GE102.out | refine below_set ?_ GE103.out) | exact HB.out)) hb); clear BK102; clear BK103; clear HB; have BK102 := n0_; have BK103 := n1_; have HB := n2_; clear n0_ n1_ n2_; (try clear hb); (try clear hb2); (try clear hk); (try clear hi); have hcz45_0 : w44.cell? ⟨gb103, 0, none⟩ = some (.slice A1_0 l1_0.length c1_0) := (blk_cell BK103.out 0).trans rfl; have hcz45_1 : w44.cell? ⟨gb103, 1, none⟩ = some (.bool a1_1) := (blk_cell BK103.out 1).trans rfl; have hcz45_2 : w44.cell? ⟨gb103, 2, none⟩ = some (.int .i64 a1_2) := (blk_cell BK103.out 2).trans rfl; have hcz45_3 : w44.cell? ⟨gb103, 3, none⟩ = some (.int .i64 a1_3) := (blk_cell BK103.out 3).trans rfl; have hcz45_4 : w44.cell? ⟨gb103, 4, none⟩ = some (.int .i64 a1_4) := (blk_cell BK103.out 4).trans rfl; have hfz45_0 := blk_frozen BK103.out 0; have hfz45_1 := blk_frozen BK103.out 1; have hfz45_2 := blk_frozen BK103.out 2; have hfz45_3 := blk_frozen BK103.out 3; have hfz45_4 := blk_frozen BK103.out 4; have hcz46_0 : w44.cell? ⟨gb102, 0, none⟩ = some (.slice A0_0 l0_0.length c0_0) := (blk_cell BK102.out 0).trans rfl; have hcz46_1 : w44.cell? ⟨gb102, 1, none⟩ = some (.bool a0_1) := (blk_cell BK102.out 1).trans rfl; have hcz46_2 : w44.cell? ⟨gb102, 2, none⟩ = some (.int .i64 a0_2) := (blk_cell BK102.out 2).trans rfl; have hcz46_3 : w44.cell? ⟨gb102, 3, none⟩ = some (.int .i64 a0_3) := (blk_cell BK102.out 3).trans rfl; have hcz46_4 : w44.cell? ⟨gb102, 4, none⟩ = some (.int .i64 a0_4) := (blk_cell BK102.out 4).trans rfl; have hfz46_0 := blk_frozen BK102.out 0; have hfz46_1 := blk_frozen BK102.out 1; have hfz46_2 := blk_frozen BK102.out 2; have hfz46_3 := blk_frozen BK102.out 3; have hfz46_4 := blk_frozen BK102.out 4))
              go_ret
              exact ⟨by first | rfl | (simp [errW_none, errW_some] <;> rfl) | (simp [*, errW_none, errW_some] <;> rfl), by repeat (first | (with_reducible first | exact HB.out | apply below_alloc | apply pw_below_drewN | apply below_drew1 | refine below_set ?_ GE102.out | refine below_set ?_ GE103.out) | exact HB.out)⟩
          · replace c35 := Bool.eq_false_iff.mpr c35
            subst c35
            have H1 : ((trace_Ended.f l1_0 a1_1 a1_2 a1_3 a1_4).bind fun t108 => (if t108 = true then ((trace_agree.f kj4 l1_0 a1_1 a1_2 a1_3 a1_4 l0_0 a0_1 a0_2 a0_3 a0_4).bind fun t109 => (some t109)) else (some true))) = some r := by rw [if_neg (show ¬ (false = true) by decide)] at H; exact H
            clear H
            have H := H1
            clear H1
            replace H := Option.bind_eq_some_iff.mp H
            obtain ⟨t108, A470, H⟩ := H
            replace H : (if t108 = true then ((trace_agree.f kj4 l1_0 a1_1 a1_2 a1_3 a1_4 l0_0 a0_1 a0_2 a0_3 a0_4).bind fun t109 => (some t109)) else (some true)) = some r := H
            have A47 := Aside0.mk A470
            clear A470
            by_cases c48 : t108 = true
            · subst c48
              have H1 : ((trace_agree.f kj4 l1_0 a1_1 a1_2 a1_3 a1_4 l0_0 a0_1 a0_2 a0_3 a0_4).bind fun t109 => (some t109)) = some r := by rw [if_pos rfl] at H; exact H
              clear H
              have H := H1
              clear H1
              replace H := Option.bind_eq_some_iff.mp H
              obtain ⟨t109, A490, H⟩ := H
              replace H : (some t109) = some r := H
              have A49 := Aside0.mk A490
              clear A490
              obtain rfl := Option.some.inj H
              have hnb50 := NB102_103.out
              have hnc50 := NB103_102.out
              have hcz51_0 : wc.cell? ⟨gb102, 0, none⟩ = some (.slice A0_0 l0_0.length c0_0) := (blk_cell BK102.out 0).trans rfl
              have hcz51_1 : wc.cell? ⟨gb102, 1, none⟩ = some (.bool a0_1) := (blk_cell BK102.out 1).trans rfl
              have hcz51_2 : wc.cell? ⟨gb102, 2, none⟩ = some (.int .i64 a0_2) := (blk_cell BK102.out 2).trans rfl
              have hcz51_3 : wc.cell? ⟨gb102, 3, none⟩ = some (.int .i64 a0_3) := (blk_cell BK102.out 3).trans rfl
              have hcz51_4 : wc.cell? ⟨gb102, 4, none⟩ = some (.int .i64 a0_4) := (blk_cell BK102.out 4).trans rfl
              have hfz51_0 := blk_frozen BK102.out 0
              have hfz51_1 := blk_frozen BK102.out 1
              have hfz51_2 := blk_frozen BK102.out 2
              have hfz51_3 := blk_frozen BK102.out 3
              have hfz51_4 := blk_frozen BK102.out 4
              go_wp2_with (first | ((with_reducible refine gate_callee (f := 14) rfl ?_); refine goesL_ (some 42) rfl rfl Tryd.func14 (by kernel_rfl) rfl #[.agg #[.slice A0_0 l0_0.length c0_0, .bool a0_1, .int .i64 a0_2, .int .i64 a0_3, .int .i64 a0_4]] rfl (by (try simp only [List.map_toArray, List.map_cons, List.map_nil]); first | done | rfl | (simp only [List.length_drop, List.length_take]; rfl)) ?_; (with_reducible refine (trace_Ended.calls _ _ l0_0 a0_1 a0_2 a0_3 a0_4 false _ ?side1 ?side2 A34.out).mono ?_); (case side1 => repeat (first | exact (Kd.C_below HR0_0.out HB.out) | (with_reducible refine Kd.C_alloc ?_ _) | (with_reducible refine Kd.C_drewN ?_ _) | (with_reducible refine Kd.C_drew ?_))); (case side2 => exact HC0_0.out); rintro e w52 ⟨rfl, hb⟩; refine ⟨_, rfl, ?_⟩; have n0_ := Aside0.mk (blk_below (g := gb102) (o := .cells #[.slice A0_0 l0_0.length c0_0, .bool a0_1, .int .i64 a0_2, .int .i64 a0_3, .int .i64 a0_4] 31 (0, 0)) (by (with_reducible repeat (first | refine blk_drewN ?_ _ | refine blk_drew ?_ | refine blk_alloc ?_ _)); exact BK102.out) hb); have n1_ := Aside0.mk (blk_below (g := gb103) (o := .cells #[.slice A1_0 l1_0.length c1_0, .bool a1_1, .int .i64 a1_2, .int .i64 a1_3, .int .i64 a1_4] 31 (0, 0)) (by (with_reducible repeat (first | refine blk_drewN ?_ _ | refine blk_drew ?_ | refine blk_alloc ?_ _)); exact BK103.out) hb); have n2_ := Aside0.mk (below_step (by repeat (first | (with_reducible first | exact HB.out | apply below_alloc | apply pw_below_drewN | apply below_drew1 | refine below_set ?_ GE102.out | refine below_set ?_ GE103.out) | exact HB.out)) hb); clear BK102; clear BK103; clear HB; have BK102 := n0_; have BK103 := n1_; have HB := n2_; clear n0_ n1_ n2_; (try clear hb); (try clear hb2); (try clear hk); (try clear hi); have hcz53_0 : w52.cell? ⟨gb103, 0, none⟩ = some (.slice A1_0 l1_0.length c1_0) := (blk_cell BK103.out 0).trans rfl; have hcz53_1 : w52.cell? ⟨gb103, 1, none⟩ = some (.bool a1_1) := (blk_cell BK103.out 1).trans rfl; have hcz53_2 : w52.cell? ⟨gb103, 2, none⟩ = some (.int .i64 a1_2) := (blk_cell BK103.out 2).trans rfl; have hcz53_3 : w52.cell? ⟨gb103, 3, none⟩ = some (.int .i64 a1_3) := (blk_cell BK103.out 3).trans rfl; have hcz53_4 : w52.cell? ⟨gb103, 4, none⟩ = some (.int .i64 a1_4) := (blk_cell BK103.out 4).trans rfl; have hfz53_0 := blk_frozen BK103.out 0; have hfz53_1 := blk_frozen BK103.out 1; have hfz53_2 := blk_frozen BK103.out 2; have hfz53_3 := blk_frozen BK103.out 3; have hfz53_4 := blk_frozen BK103.out 4) | ((with_reducible refine gate_callee (f := 14) rfl ?_); refine goesL_ (some 59) rfl rfl Tryd.func14 (by kernel_rfl) rfl #[.agg #[.slice A1_0 l1_0.length c1_0, .bool a1_1, .int .i64 a1_2, .int .i64 a1_3, .int .i64 a1_4]] rfl (by (try simp only [List.map_toArray, List.map_cons, List.map_nil]); first | done | rfl | (simp only [List.length_drop, List.length_take]; rfl)) ?_; (with_reducible refine (trace_Ended.calls _ _ l1_0 a1_1 a1_2 a1_3 a1_4 true _ ?side1 ?side2 A47.out).mono ?_); (case side1 => repeat (first | exact (Kd.C_below HR1_0.out HB.out) | (with_reducible refine Kd.C_alloc ?_ _) | (with_reducible refine Kd.C_drewN ?_ _) | (with_reducible refine Kd.C_drew ?_))); (case side2 => exact HC1_0.out); rintro e w54 ⟨rfl, hb⟩; refine ⟨_, rfl, ?_⟩; have n0_ := Aside0.mk (blk_below (g := gb102) (o := .cells #[.slice A0_0 l0_0.length c0_0, .bool a0_1, .int .i64 a0_2, .int .i64 a0_3, .int .i64 a0_4] 31 (0, 0)) (by (with_reducible repeat (first | refine blk_drewN ?_ _ | refine blk_drew ?_ | refine blk_alloc ?_ _)); exact BK102.out) hb); have n1_ := Aside0.mk (blk_below (g := gb103) (o := .cells #[.slice A1_0 l1_0.length c1_0, .bool a1_1, .int .i64 a1_2, .int .i64 a1_3, .int .i64 a1_4] 31 (0, 0)) (by (with_reducible repeat (first | refine blk_drewN ?_ _ | refine blk_drew ?_ | refine blk_alloc ?_ _)); exact BK103.out) hb); have n2_ := Aside0.mk (below_step (by repeat (first | (with_reducible first | exact HB.out | apply below_alloc | apply pw_below_drewN | apply below_drew1 | refine below_set ?_ GE102.out | refine below_set ?_ GE103.out) | exact HB.out)) hb); clear BK102; clear BK103; clear HB; have BK102 := n0_; have BK103 := n1_; have HB := n2_; clear n0_ n1_ n2_; (try clear hb); (try clear hb2); (try clear hk); (try clear hi); have hcz55_0 : w54.cell? ⟨gb103, 0, none⟩ = some (.slice A1_0 l1_0.length c1_0) := (blk_cell BK103.out 0).trans rfl; have hcz55_1 : w54.cell? ⟨gb103, 1, none⟩ = some (.bool a1_1) := (blk_cell BK103.out 1).trans rfl; have hcz55_2 : w54.cell? ⟨gb103, 2, none⟩ = some (.int .i64 a1_2) := (blk_cell BK103.out 2).trans rfl; have hcz55_3 : w54.cell? ⟨gb103, 3, none⟩ = some (.int .i64 a1_3) := (blk_cell BK103.out 3).trans rfl; have hcz55_4 : w54.cell? ⟨gb103, 4, none⟩ = some (.int .i64 a1_4) := (blk_cell BK103.out 4).trans rfl; have hfz55_0 := blk_frozen BK103.out 0; have hfz55_1 := blk_frozen BK103.out 1; have hfz55_2 := blk_frozen BK103.out 2; have hfz55_3 := blk_frozen BK103.out 3; have hfz55_4 := blk_frozen BK103.out 4; have hcz56_0 : w54.cell? ⟨gb102, 0, none⟩ = some (.slice A0_0 l0_0.length c0_0) := (blk_cell BK102.out 0).trans rfl; have hcz56_1 : w54.cell? ⟨gb102, 1, none⟩ = some (.bool a0_1) := (blk_cell BK102.out 1).trans rfl; have hcz56_2 : w54.cell? ⟨gb102, 2, none⟩ = some (.int .i64 a0_2) := (blk_cell BK102.out 2).trans rfl; have hcz56_3 : w54.cell? ⟨gb102, 3, none⟩ = some (.int .i64 a0_3) := (blk_cell BK102.out 3).trans rfl; have hcz56_4 : w54.cell? ⟨gb102, 4, none⟩ = some (.int .i64 a0_4) := (blk_cell BK102.out 4).trans rfl; have hfz56_0 := blk_frozen BK102.out 0; have hfz56_1 := blk_frozen BK102.out 1; have hfz56_2 := blk_frozen BK102.out 2; have hfz56_3 := blk_frozen BK102.out 3; have hfz56_4 := blk_frozen BK102.out 4) | ((with_reducible refine gate_callee (f := 34) rfl ?_); refine goesL_ (some 62) rfl rfl Tryd.func34 (by kernel_rfl) rfl #[.agg #[.slice A1_0 l1_0.length c1_0, .bool a1_1, .int .i64 a1_2, .int .i64 a1_3, .int .i64 a1_4], .agg #[.slice A0_0 l0_0.length c0_0, .bool a0_1, .int .i64 a0_2, .int .i64 a0_3, .int .i64 a0_4]] rfl (by (try simp only [List.map_toArray, List.map_cons, List.map_nil]); first | done | rfl | (simp only [List.length_drop, List.length_take]; rfl)) ?_; (with_reducible refine (ih kj4 (by have := HJ4.out; omega) _ _ l1_0 a1_1 a1_2 a1_3 a1_4 _ _ l0_0 a0_1 a0_2 a0_3 a0_4 t109 _ ?side1 ?side2 ?side3 ?side4 A49.out).mono ?_); (case side1 => repeat (first | exact (Kd.C_below HR1_0.out HB.out) | (with_reducible refine Kd.C_alloc ?_ _) | (with_reducible refine Kd.C_drewN ?_ _) | (with_reducible refine Kd.C_drew ?_))); (case side2 => exact HC1_0.out); (case side3 => repeat (first | exact (Kd.C_below HR0_0.out HB.out) | (with_reducible refine Kd.C_alloc ?_ _) | (with_reducible refine Kd.C_drewN ?_ _) | (with_reducible refine Kd.C_drew ?_))); (case side4 => exact HC0_0.out); rintro e w57 ⟨rfl, hb⟩; refine ⟨_, rfl, ?_⟩; have n0_ := Aside0.mk (blk_below (g := gb102) (o := .cells #[.slice A0_0 l0_0.length c0_0, .bool a0_1, .int .i64 a0_2, .int .i64 a0_3, .int .i64 a0_4] 31 (0, 0)) (by (with_reducible repeat (first | refine blk_drewN ?_ _ | refine blk_drew ?_ | refine blk_alloc ?_ _)); exact BK102.out) hb); have n1_ := Aside0.mk (blk_below (g := gb103) (o := .cells #[.slice A1_0 l1_0.length c1_0, .bool a1_1, .int .i64 a1_2, .int .i64 a1_3, .int .i64 a1_4] 31 (0, 0)) (by (with_reducible repeat (first | refine blk_drewN ?_ _ | refine blk_drew ?_ | refine blk_alloc ?_ _)); exact BK103.out) hb); have n2_ := Aside0.mk (below_step (by repeat (first | (with_reducible first | exact HB.out | apply below_alloc | apply pw_below_drewN | apply below_drew1 | refine below_set ?_ GE102.out | refine below_set ?_ GE103.out) | exact HB.out)) hb); clear BK102; clear BK103; clear HB; have BK102 := n0_; have BK103 := n1_; have HB := n2_; clear n0_ n1_ n2_; (try clear hb); (try clear hb2); (try clear hk); (try clear hi)))
              go_ret
              exact ⟨by first | rfl | (simp [errW_none, errW_some] <;> rfl) | (simp [*, errW_none, errW_some] <;> rfl), by repeat (first | (with_reducible first | exact HB.out | apply below_alloc | apply pw_below_drewN | apply below_drew1 | refine below_set ?_ GE102.out | refine below_set ?_ GE103.out) | exact HB.out)⟩
            · replace c48 := Bool.eq_false_iff.mpr c48
              subst c48
              have H1 : (some true) = some r := by rw [if_neg (show ¬ (false = true) by decide)] at H; exact H
              clear H
              have H := H1
              clear H1
              obtain rfl := Option.some.inj H
              have hnb58 := NB102_103.out
              have hnc58 := NB103_102.out
              have hcz59_0 : wc.cell? ⟨gb102, 0, none⟩ = some (.slice A0_0 l0_0.length c0_0) := (blk_cell BK102.out 0).trans rfl
              have hcz59_1 : wc.cell? ⟨gb102, 1, none⟩ = some (.bool a0_1) := (blk_cell BK102.out 1).trans rfl
              have hcz59_2 : wc.cell? ⟨gb102, 2, none⟩ = some (.int .i64 a0_2) := (blk_cell BK102.out 2).trans rfl
              have hcz59_3 : wc.cell? ⟨gb102, 3, none⟩ = some (.int .i64 a0_3) := (blk_cell BK102.out 3).trans rfl
              have hcz59_4 : wc.cell? ⟨gb102, 4, none⟩ = some (.int .i64 a0_4) := (blk_cell BK102.out 4).trans rfl
              have hfz59_0 := blk_frozen BK102.out 0
              have hfz59_1 := blk_frozen BK102.out 1
              have hfz59_2 := blk_frozen BK102.out 2
              have hfz59_3 := blk_frozen BK102.out 3
              have hfz59_4 := blk_frozen BK102.out 4
              go_wp2_with (first | ((with_reducible refine gate_callee (f := 14) rfl ?_); refine goesL_ (some 42) rfl rfl Tryd.func14 (by kernel_rfl) rfl #[.agg #[.slice A0_0 l0_0.length c0_0, .bool a0_1, .int .i64 a0_2, .int .i64 a0_3, .int .i64 a0_4]] rfl (by (try simp only [List.map_toArray, List.map_cons, List.map_nil]); first | done | rfl | (simp only [List.length_drop, List.length_take]; rfl)) ?_; (with_reducible refine (trace_Ended.calls _ _ l0_0 a0_1 a0_2 a0_3 a0_4 false _ ?side1 ?side2 A34.out).mono ?_); (case side1 => repeat (first | exact (Kd.C_below HR0_0.out HB.out) | (with_reducible refine Kd.C_alloc ?_ _) | (with_reducible refine Kd.C_drewN ?_ _) | (with_reducible refine Kd.C_drew ?_))); (case side2 => exact HC0_0.out); rintro e w60 ⟨rfl, hb⟩; refine ⟨_, rfl, ?_⟩; have n0_ := Aside0.mk (blk_below (g := gb102) (o := .cells #[.slice A0_0 l0_0.length c0_0, .bool a0_1, .int .i64 a0_2, .int .i64 a0_3, .int .i64 a0_4] 31 (0, 0)) (by (with_reducible repeat (first | refine blk_drewN ?_ _ | refine blk_drew ?_ | refine blk_alloc ?_ _)); exact BK102.out) hb); have n1_ := Aside0.mk (blk_below (g := gb103) (o := .cells #[.slice A1_0 l1_0.length c1_0, .bool a1_1, .int .i64 a1_2, .int .i64 a1_3, .int .i64 a1_4] 31 (0, 0)) (by (with_reducible repeat (first | refine blk_drewN ?_ _ | refine blk_drew ?_ | refine blk_alloc ?_ _)); exact BK103.out) hb); have n2_ := Aside0.mk (below_step (by repeat (first | (with_reducible first | exact HB.out | apply below_alloc | apply pw_below_drewN | apply below_drew1 | refine below_set ?_ GE102.out | refine below_set ?_ GE103.out) | exact HB.out)) hb); clear BK102; clear BK103; clear HB; have BK102 := n0_; have BK103 := n1_; have HB := n2_; clear n0_ n1_ n2_; (try clear hb); (try clear hb2); (try clear hk); (try clear hi); have hcz61_0 : w60.cell? ⟨gb103, 0, none⟩ = some (.slice A1_0 l1_0.length c1_0) := (blk_cell BK103.out 0).trans rfl; have hcz61_1 : w60.cell? ⟨gb103, 1, none⟩ = some (.bool a1_1) := (blk_cell BK103.out 1).trans rfl; have hcz61_2 : w60.cell? ⟨gb103, 2, none⟩ = some (.int .i64 a1_2) := (blk_cell BK103.out 2).trans rfl; have hcz61_3 : w60.cell? ⟨gb103, 3, none⟩ = some (.int .i64 a1_3) := (blk_cell BK103.out 3).trans rfl; have hcz61_4 : w60.cell? ⟨gb103, 4, none⟩ = some (.int .i64 a1_4) := (blk_cell BK103.out 4).trans rfl; have hfz61_0 := blk_frozen BK103.out 0; have hfz61_1 := blk_frozen BK103.out 1; have hfz61_2 := blk_frozen BK103.out 2; have hfz61_3 := blk_frozen BK103.out 3; have hfz61_4 := blk_frozen BK103.out 4) | ((with_reducible refine gate_callee (f := 14) rfl ?_); refine goesL_ (some 59) rfl rfl Tryd.func14 (by kernel_rfl) rfl #[.agg #[.slice A1_0 l1_0.length c1_0, .bool a1_1, .int .i64 a1_2, .int .i64 a1_3, .int .i64 a1_4]] rfl (by (try simp only [List.map_toArray, List.map_cons, List.map_nil]); first | done | rfl | (simp only [List.length_drop, List.length_take]; rfl)) ?_; (with_reducible refine (trace_Ended.calls _ _ l1_0 a1_1 a1_2 a1_3 a1_4 false _ ?side1 ?side2 A47.out).mono ?_); (case side1 => repeat (first | exact (Kd.C_below HR1_0.out HB.out) | (with_reducible refine Kd.C_alloc ?_ _) | (with_reducible refine Kd.C_drewN ?_ _) | (with_reducible refine Kd.C_drew ?_))); (case side2 => exact HC1_0.out); rintro e w62 ⟨rfl, hb⟩; refine ⟨_, rfl, ?_⟩; have n0_ := Aside0.mk (blk_below (g := gb102) (o := .cells #[.slice A0_0 l0_0.length c0_0, .bool a0_1, .int .i64 a0_2, .int .i64 a0_3, .int .i64 a0_4] 31 (0, 0)) (by (with_reducible repeat (first | refine blk_drewN ?_ _ | refine blk_drew ?_ | refine blk_alloc ?_ _)); exact BK102.out) hb); have n1_ := Aside0.mk (blk_below (g := gb103) (o := .cells #[.slice A1_0 l1_0.length c1_0, .bool a1_1, .int .i64 a1_2, .int .i64 a1_3, .int .i64 a1_4] 31 (0, 0)) (by (with_reducible repeat (first | refine blk_drewN ?_ _ | refine blk_drew ?_ | refine blk_alloc ?_ _)); exact BK103.out) hb); have n2_ := Aside0.mk (below_step (by repeat (first | (with_reducible first | exact HB.out | apply below_alloc | apply pw_below_drewN | apply below_drew1 | refine below_set ?_ GE102.out | refine below_set ?_ GE103.out) | exact HB.out)) hb); clear BK102; clear BK103; clear HB; have BK102 := n0_; have BK103 := n1_; have HB := n2_; clear n0_ n1_ n2_; (try clear hb); (try clear hb2); (try clear hk); (try clear hi)))
              go_ret
              exact ⟨by first | rfl | (simp [errW_none, errW_some] <;> rfl) | (simp [*, errW_none, errW_some] <;> rfl), by repeat (first | (with_reducible first | exact HB.out | apply below_alloc | apply pw_below_drewN | apply below_drew1 | refine below_set ?_ GE102.out | refine below_set ?_ GE103.out) | exact HB.out)⟩
  · replace c4 := Bool.eq_false_iff.mpr c4
    subst c4
    have H1 : (some false) = some r := by rw [if_neg (show ¬ (false = true) by decide)] at H; exact H
    clear H
    have H := H1
    clear H1
    obtain rfl := Option.some.inj H
    go_enter Tryd.func34, Tryd.ntmps34
    go_wp2_with (first | ((with_reducible refine gate_dst (N := 2) rfl ?_); (try (refine gate_guard (by rfl) ?_; dsimp only)); refine box_event ?hg (N := 2) ?hd (cs := #[.slice A0_0 l0_0.length c0_0, .bool a0_1, .int .i64 a0_2, .int .i64 a0_3, .int .i64 a0_4]) (t := 31) ?hr ?_; (case hd => rfl); (case hg => rfl); (case hr => first | (go_simp; done) | (go_simp; rfl)); intro gb102 hg w63 hbox hb; have n0_ := Aside0.mk (below_step (by repeat (first | (with_reducible first | exact HB.out | apply below_alloc | apply pw_below_drewN | apply below_drew1) | exact HB.out)) hb); have n1_ := Aside0.mk (hbox); have n2_ := Aside0.mk ((by rw [hg]; exact (below_size (by repeat (first | (with_reducible first | exact HB.out | apply below_alloc | apply pw_below_drewN | apply below_drew1) | exact HB.out))) : w.heap.size ≤ gb102)); have n3_ := Aside0.mk ((by rw [hg]; exact (below_size (by repeat (first | (with_reducible first | exact HB.out | apply below_alloc | apply pw_below_drewN | apply below_drew1) | exact HB.out))) : w.heap.size ≤ gb102)); clear HB; have HB := n0_; have BK102 := n1_; have GW102 := n2_; have GE102 := n3_; clear n0_ n1_ n2_ n3_; clear hb hbox hg) | ((with_reducible refine gate_dst (N := 3) rfl ?_); (try (refine gate_guard (by rfl) ?_; dsimp only)); refine box_event ?hg (N := 3) ?hd (cs := #[.slice A1_0 l1_0.length c1_0, .bool a1_1, .int .i64 a1_2, .int .i64 a1_3, .int .i64 a1_4]) (t := 31) ?hr ?_; (case hd => rfl); (case hg => rfl); (case hr => first | (go_simp; done) | (go_simp; rfl)); intro gb103 hg w64 hbox hb; have n0_ := Aside0.mk (blk_below (g := gb102) (o := .cells #[.slice A0_0 l0_0.length c0_0, .bool a0_1, .int .i64 a0_2, .int .i64 a0_3, .int .i64 a0_4] 31 (0, 0)) (by (with_reducible repeat (first | refine blk_drewN ?_ _ | refine blk_drew ?_ | refine blk_alloc ?_ _)); exact BK102.out) hb); have n1_ := Aside0.mk (below_step (by repeat (first | (with_reducible first | exact HB.out | apply below_alloc | apply pw_below_drewN | apply below_drew1 | refine below_set ?_ GE102.out) | exact HB.out)) hb); have n2_ := Aside0.mk (hbox); have n3_ := Aside0.mk ((by rw [hg]; exact (below_size (by repeat (first | (with_reducible first | exact HB.out | apply below_alloc | apply pw_below_drewN | apply below_drew1 | refine below_set ?_ GE102.out) | exact HB.out))) : w.heap.size ≤ gb103)); have n4_ := Aside0.mk ((by rw [hg]; exact (below_size (by repeat (first | (with_reducible first | exact HB.out | apply below_alloc | apply pw_below_drewN | apply below_drew1 | refine below_set ?_ GE102.out) | exact HB.out))) : w.heap.size ≤ gb103)); have n5_ := Aside0.mk ((by rw [hg]; exact Nat.ne_of_lt (blk_lt (g := gb102) (o := .cells #[.slice A0_0 l0_0.length c0_0, .bool a0_1, .int .i64 a0_2, .int .i64 a0_3, .int .i64 a0_4] 31 (0, 0)) (by (with_reducible repeat (first | refine blk_drewN ?_ _ | refine blk_drew ?_ | refine blk_alloc ?_ _)); exact BK102.out)) : gb102 ≠ gb103)); have n6_ := Aside0.mk ((by rw [hg]; exact Nat.ne_of_gt (blk_lt (g := gb102) (o := .cells #[.slice A0_0 l0_0.length c0_0, .bool a0_1, .int .i64 a0_2, .int .i64 a0_3, .int .i64 a0_4] 31 (0, 0)) (by (with_reducible repeat (first | refine blk_drewN ?_ _ | refine blk_drew ?_ | refine blk_alloc ?_ _)); exact BK102.out)) : gb103 ≠ gb102)); clear BK102; clear HB; have BK102 := n0_; have HB := n1_; have BK103 := n2_; have GW103 := n3_; have GE103 := n4_; have NB102_103 := n5_; have NB103_102 := n6_; clear n0_ n1_ n2_ n3_ n4_ n5_ n6_; clear hb hbox hg; have hnb65 := NB102_103.out; have hnc65 := NB103_102.out; have hcz66_0 : w64.cell? ⟨gb102, 0, none⟩ = some (.slice A0_0 l0_0.length c0_0) := (blk_cell BK102.out 0).trans rfl; have hcz66_1 : w64.cell? ⟨gb102, 1, none⟩ = some (.bool a0_1) := (blk_cell BK102.out 1).trans rfl; have hcz66_2 : w64.cell? ⟨gb102, 2, none⟩ = some (.int .i64 a0_2) := (blk_cell BK102.out 2).trans rfl; have hcz66_3 : w64.cell? ⟨gb102, 3, none⟩ = some (.int .i64 a0_3) := (blk_cell BK102.out 3).trans rfl; have hcz66_4 : w64.cell? ⟨gb102, 4, none⟩ = some (.int .i64 a0_4) := (blk_cell BK102.out 4).trans rfl; have hfz66_0 := blk_frozen BK102.out 0; have hfz66_1 := blk_frozen BK102.out 1; have hfz66_2 := blk_frozen BK102.out 2; have hfz66_3 := blk_frozen BK102.out 3; have hfz66_4 := blk_frozen BK102.out 4; have hcz67_0 : w64.cell? ⟨gb103, 0, none⟩ = some (.slice A1_0 l1_0.length c1_0) := (blk_cell BK103.out 0).trans rfl; have hcz67_1 : w64.cell? ⟨gb103, 1, none⟩ = some (.bool a1_1) := (blk_cell BK103.out 1).trans rfl; have hcz67_2 : w64.cell? ⟨gb103, 2, none⟩ = some (.int .i64 a1_2) := (blk_cell BK103.out 2).trans rfl; have hcz67_3 : w64.cell? ⟨gb103, 3, none⟩ = some (.int .i64 a1_3) := (blk_cell BK103.out 3).trans rfl; have hcz67_4 : w64.cell? ⟨gb103, 4, none⟩ = some (.int .i64 a1_4) := (blk_cell BK103.out 4).trans rfl; have hfz67_0 := blk_frozen BK103.out 0; have hfz67_1 := blk_frozen BK103.out 1; have hfz67_2 := blk_frozen BK103.out 2; have hfz67_3 := blk_frozen BK103.out 3; have hfz67_4 := blk_frozen BK103.out 4) | ((with_reducible refine gate_callee (f := 20) rfl ?_); refine goesL_ (some 10) rfl rfl Tryd.func20 (by kernel_rfl) rfl #[.slice A0_0 l0_0.length c0_0, .slice A1_0 l1_0.length c1_0] rfl (by (try simp only [List.map_toArray, List.map_cons, List.map_nil]); first | done | rfl | (simp only [List.length_drop, List.length_take]; rfl)) ?_; (with_reducible refine (trace_Begins.calls _ _ l0_0 _ _ l1_0 false _ ?side1 ?side2 ?side3 ?side4 A3.out).mono ?_); (case side1 => repeat (first | exact (Kd.C_below HR0_0.out HB.out) | (with_reducible refine Kd.C_alloc ?_ _) | (with_reducible refine Kd.C_drewN ?_ _) | (with_reducible refine Kd.C_drew ?_))); (case side2 => exact HC0_0.out); (case side3 => repeat (first | exact (Kd.C_below HR1_0.out HB.out) | (with_reducible refine Kd.C_alloc ?_ _) | (with_reducible refine Kd.C_drewN ?_ _) | (with_reducible refine Kd.C_drew ?_))); (case side4 => exact HC1_0.out); rintro e w' ⟨rfl, ⟨nd, rfl⟩⟩; refine ⟨_, rfl, ?_⟩))
    go_ret
    exact ⟨by first | rfl | (simp [errW_none, errW_some] <;> rfl) | (simp [*, errW_none, errW_some] <;> rfl), by repeat (first | (with_reducible first | exact HB.out | apply below_alloc | apply pw_below_drewN | apply below_drew1 | refine below_set ?_ GE102.out | refine below_set ?_ GE103.out) | exact HB.out)⟩
mutual
noncomputable def trace_Agree.l0 : Nat → List (S31) → List (S31) → Int → Int → Option (Bool)
  | 0, _, _, _, _ => none
  | k + 1, x0, x7, x8, x9 => if x9 < x8 then (if 0 ≤ x9 then (if x9 < (x7.length : Int) then (if x9 ≤ (x0.length : Int) then ((some (x0.take (x9 : Int).toNat : List (S31))).bind fun y112 => (trace_Agree.l1 k x0 x7 x8 x9 y112 (y112.length : Int) 0 ((rd_T31 x7 x9).f0) ((rd_T31 x7 x9).f1) ((rd_T31 x7 x9).f2) ((rd_T31 x7 x9).f3) ((rd_T31 x7 x9).f4))) else (none)) else (none)) else (none)) else (some true)
noncomputable def trace_Agree.l1 : Nat → List (S31) → List (S31) → Int → Int → List (S31) → Int → Int → List Int → Bool → Int → Int → Int → Option (Bool)
  | 0, _, _, _, _, _, _, _, _, _, _, _, _ => none
  | k + 1, x0, x7, x8, x9, x16, x17, x18, x112000, x112001, x112002, x112003, x112004 => if x18 < x17 then (if 0 ≤ x18 then (if x18 < (x16.length : Int) then ((trace_agree.f k x112000 x112001 x112002 x112003 x112004 ((rd_T31 x16 x18).f0) ((rd_T31 x16 x18).f1) ((rd_T31 x16 x18).f2) ((rd_T31 x16 x18).f3) ((rd_T31 x16 x18).f4)).bind fun t118 => (if t118 = true then (trace_Agree.l1 k x0 x7 x8 x9 x16 x17 (wrap64 (x18 + 1)) x112000 x112001 x112002 x112003 x112004) else (some false))) else (none)) else (none)) else (trace_Agree.l0 k x0 x7 x8 (wrap64 (x9 + 1)))
end
noncomputable def trace_Agree.f (k : Nat) (l0 : List (S31)) : Option (Bool) := trace_Agree.l0 k l0 l0 (l0.length : Int) 0
set_option maxHeartbeats 8000000 in
set_option maxRecDepth 100000 in
theorem trace_Agree.calls (k : Nat) (A0 : Option Addr) (c0 : Nat) (l0 : List (S31)) (r : Bool) (w : World) (hr0 : Kd.C k31 w A0 l0.length l0) (hc0 : l0.length ≤ c0) (h : trace_Agree.f k l0 = some r) :
    Calls Tryd.prog 17 #[.slice A0 l0.length c0] w fun e w' => e = .returned (.bool r) ∧ Below w.heap.size w w' := by
  have hu31 := Tryd.underlying31
  have HR0 := Aside0.mk hr0
  have HC0 := Aside0.mk hc0
  clear hr0 hc0
  have HB := Aside0.mk (Below.refl w.heap.size w)
  have H : (trace_Agree.l0 k l0 l0 (l0.length : Int) 0) = some r := h
  clear h
  have H' := Aside0.mk H
  clear H
  go_enter Tryd.func17, Tryd.ntmps17
  go_wp2
  go_loopg [9] k (fun kq v9 w' => ∃ (x9_1 : Int), v9 = .int .i64 x9_1 ∧ Aside0 (trace_Agree.l0 kq l0 l0 (l0.length : Int) x9_1 = some r) ∧ Aside0 (kq ≤ k) ∧ Aside0 (Below w.heap.size w w'))
  case atStart => exact ⟨(0), (by first | rfl | (simp; done) | (simp [*]; done)), H', ⟨Nat.le_refl _⟩, ⟨by repeat (first | (with_reducible first | exact HB.out | apply below_alloc | apply pw_below_drewN | apply below_drew1) | exact HB.out)⟩⟩
  case round =>
    clear H'
    try clear c1
    obtain ⟨x9_1, rfl, HA, HK1, HB⟩ := hrel
    cases gk with
    | zero => exact absurd HA.out (by simp [trace_Agree.l0])
    | succ k1 =>
      have H := HA.out
      clear HA
      simp only [trace_Agree.l0] at H
      by_cases c2 : x9_1 < (l0.length : Int)
      · rw [if_pos c2] at H
        have c2b0 : decide (x9_1 < (l0.length : Int)) = true := decide_eq_true c2
        clear c2
        by_cases c3 : 0 ≤ x9_1
        · rw [if_pos c3] at H
          have c3b0 : decide (0 ≤ x9_1) = true := decide_eq_true c3
          clear c3
          by_cases c4 : x9_1 < (l0.length : Int)
          · rw [if_pos c4] at H
            have c4b0 : decide (x9_1 < (l0.length : Int)) = true := decide_eq_true c4
            clear c4
            have c5b0 := eq_true (of_decide_eq_true (by first | (with_reducible assumption) | assumption) : 0 ≤ x9_1)
            by_cases c6 : x9_1 ≤ (l0.length : Int)
            · rw [if_pos c6] at H
              have c6b0 := eq_true c6
              have c6b1 : decide (x9_1 ≤ (l0.length : Int)) = true := decide_eq_true c6
              clear c6
              obtain ⟨y112, hy112⟩ : ∃ y_ : List (S31), y_ = (l0.take (x9_1 : Int).toNat) := ⟨_, rfl⟩
              replace H : (trace_Agree.l1 k1 l0 l0 (l0.length : Int) x9_1 y112 (y112.length : Int) 0 ((rd_T31 l0 x9_1).f0) ((rd_T31 l0 x9_1).f1) ((rd_T31 l0 x9_1).f2) ((rd_T31 l0 x9_1).f3) ((rd_T31 l0 x9_1).f4)) = some r := by first | (rw [hy112]; with_reducible exact H) | (have H2_ := (Option.bind_some _ _).symm.trans H; rw [hy112]; with_reducible exact H2_) | (have H2_ := (Option.bind_some _ _).symm.trans H; with_reducible exact H2_) | with_reducible exact H | (rw [hy112]; exact H) | exact H
              have Ny112 := Aside0.mk hy112
              clear hy112
              have H' := Aside0.mk H
              clear H
              have p110 : 0 ≤ (x9_1 : Int) := of_decide_eq_true (by first | (with_reducible assumption) | assumption)
              have q110 : x9_1 < (l0.length : Int) := of_decide_eq_true (by first | (with_reducible assumption) | assumption)
              obtain ⟨ad110, A110_0, c110_0, e110, hx110_0, hx110_1, hx110_2, hx110_3, hx110_4, hl110_0, hi110_0⟩ := at_T31 HR0.out x9_1 p110 q110
              cases e110
              replace hx110_0 := (HB.out.cell (World.block_lt_of_cell? w _ hx110_0)).trans hx110_0
              replace hx110_1 := (HB.out.cell (World.block_lt_of_cell? w _ hx110_1)).trans hx110_1
              replace hx110_2 := (HB.out.cell (World.block_lt_of_cell? w _ hx110_2)).trans hx110_2
              replace hx110_3 := (HB.out.cell (World.block_lt_of_cell? w _ hx110_3)).trans hx110_3
              replace hx110_4 := (HB.out.cell (World.block_lt_of_cell? w _ hx110_4)).trans hx110_4
              have HR110_0 := Aside0.mk hi110_0
              have HC110_0 := Aside0.mk hl110_0
              clear hi110_0 hl110_0
              replace p110 := eq_true p110
              replace q110 := eq_true q110
              go_wp2_with (first | ((with_reducible refine gate_dst (N := 4) rfl ?_); refine box_event ?hg (N := 4) ?hd (cs := #[.slice none 0 0, .bool false, .int .i64 0, .int .i64 0, .int .i64 0]) (t := 31) ?hr ?_; (case hd => rfl); (case hg => rfl); (case hr => first | (go_simp; done) | (go_simp; rfl)); intro gb111 hg w7 hbox hb; have n0_ := Aside0.mk (below_step (by repeat (first | (with_reducible first | exact HB.out | apply below_alloc | apply pw_below_drewN | apply below_drew1) | exact HB.out)) hb); have n1_ := Aside0.mk (hbox); have n2_ := Aside0.mk ((by rw [hg]; exact (below_size (by repeat (first | (with_reducible first | exact HB.out | apply below_alloc | apply pw_below_drewN | apply below_drew1) | exact HB.out))) : w.heap.size ≤ gb111)); have n3_ := Aside0.mk ((by rw [hg]; exact (below_size (by repeat (first | (with_reducible first | exact HB.out | apply below_alloc | apply pw_below_drewN | apply below_drew1) | exact HB.out))) : w.heap.size ≤ gb111)); clear HB; have HB := n0_; have BK111 := n1_; have GW111 := n2_; have GE111 := n3_; clear n0_ n1_ n2_ n3_; clear hb hbox hg; have hcz8_0 : w7.cell? ⟨gb111, 0, none⟩ = some (.slice none 0 0) := (blk_cell BK111.out 0).trans rfl; have hcz8_1 : w7.cell? ⟨gb111, 1, none⟩ = some (.bool false) := (blk_cell BK111.out 1).trans rfl; have hcz8_2 : w7.cell? ⟨gb111, 2, none⟩ = some (.int .i64 0) := (blk_cell BK111.out 2).trans rfl; have hcz8_3 : w7.cell? ⟨gb111, 3, none⟩ = some (.int .i64 0) := (blk_cell BK111.out 3).trans rfl; have hcz8_4 : w7.cell? ⟨gb111, 4, none⟩ = some (.int .i64 0) := (blk_cell BK111.out 4).trans rfl; have hfz8_0 := blk_frozen BK111.out 0; have hfz8_1 := blk_frozen BK111.out 1; have hfz8_2 := blk_frozen BK111.out 2; have hfz8_3 := blk_frozen BK111.out 3; have hfz8_4 := blk_frozen BK111.out 4) | ((with_reducible refine gate_store (t := 31) (p := 4) rfl ?_); refine store_event (t := 31) (p := 4) (v := ?vo_w9) (w1 := (((((w7.setCell ⟨gb111, 0, none⟩ (.slice A110_0 ((rd_T31 l0 x9_1).f0).length c110_0)).setCell ⟨gb111, 1, none⟩ (.bool ((rd_T31 l0 x9_1).f1))).setCell ⟨gb111, 2, none⟩ (.int .i64 ((rd_T31 l0 x9_1).f2))).setCell ⟨gb111, 3, none⟩ (.int .i64 ((rd_T31 l0 x9_1).f3))).setCell ⟨gb111, 4, none⟩ (.int .i64 ((rd_T31 l0 x9_1).f4)))) ?hg ?ho ?hn ?hr ?_; (case ho => rfl); (case hg => rfl); (case hn => rfl); (case hr => first | (go_simp; done) | (go_simp; rfl)); intro w9 hw; have n0_ : Aside0 (w9.heap[gb111]? = some (.cells #[.slice A110_0 ((rd_T31 l0 x9_1).f0).length c110_0, .bool ((rd_T31 l0 x9_1).f1), .int .i64 ((rd_T31 l0 x9_1).f2), .int .i64 ((rd_T31 l0 x9_1).f3), .int .i64 ((rd_T31 l0 x9_1).f4)] 31 (0, 0))) := ⟨(by rw [hw]; exact (by (with_reducible repeat (first | refine blk_drewN ?_ _ | refine blk_drew ?_ | refine blk_alloc ?_ _)); refine blk_put (cs := #[.slice A110_0 ((rd_T31 l0 x9_1).f0).length c110_0, .bool ((rd_T31 l0 x9_1).f1), .int .i64 ((rd_T31 l0 x9_1).f2), .int .i64 ((rd_T31 l0 x9_1).f3), .int .i64 0]) ?_ 4 _ rfl; (with_reducible repeat (first | refine blk_drewN ?_ _ | refine blk_drew ?_ | refine blk_alloc ?_ _)); refine blk_put (cs := #[.slice A110_0 ((rd_T31 l0 x9_1).f0).length c110_0, .bool ((rd_T31 l0 x9_1).f1), .int .i64 ((rd_T31 l0 x9_1).f2), .int .i64 0, .int .i64 0]) ?_ 3 _ rfl; (with_reducible repeat (first | refine blk_drewN ?_ _ | refine blk_drew ?_ | refine blk_alloc ?_ _)); refine blk_put (cs := #[.slice A110_0 ((rd_T31 l0 x9_1).f0).length c110_0, .bool ((rd_T31 l0 x9_1).f1), .int .i64 0, .int .i64 0, .int .i64 0]) ?_ 2 _ rfl; (with_reducible repeat (first | refine blk_drewN ?_ _ | refine blk_drew ?_ | refine blk_alloc ?_ _)); refine blk_put (cs := #[.slice A110_0 ((rd_T31 l0 x9_1).f0).length c110_0, .bool false, .int .i64 0, .int .i64 0, .int .i64 0]) ?_ 1 _ rfl; (with_reducible repeat (first | refine blk_drewN ?_ _ | refine blk_drew ?_ | refine blk_alloc ?_ _)); refine blk_put (cs := #[.slice none 0 0, .bool false, .int .i64 0, .int .i64 0, .int .i64 0]) ?_ 0 _ rfl; (with_reducible repeat (first | refine blk_drewN ?_ _ | refine blk_drew ?_ | refine blk_alloc ?_ _)); exact BK111.out))⟩; have n1_ : Aside0 (Below w.heap.size w w9) := ⟨(by rw [hw]; exact (by repeat (first | (with_reducible first | exact HB.out | apply below_alloc | apply pw_below_drewN | apply below_drew1 | refine below_set ?_ GE111.out) | exact HB.out)))⟩; clear hw; clear BK111; clear HB; have BK111 := n0_; have HB := n1_; clear n0_ n1_; have q10 : (x9_1 : Int) ≤ ((l0.length : Int) : Int) := of_decide_eq_true (by first | (with_reducible assumption) | assumption); obtain ⟨i010, hi010, _, hsz10, _⟩ := info_parts info31; have hroom10 : l0.length ≤ c0 := HC0.out; have hC10 : Kd.C k31 _ (some ad110) l0.length l0 := HR0.out; have hcut10 := cut_to (P := Tryd.prog) 35 31 .i64 Tryd.underlying35 hi010 (some ad110) l0.length c0 x9_1 (of_decide_eq_true (by first | (with_reducible assumption) | assumption)) q10 hroom10; have hr10 := Kd.C_take (m := (x9_1 : Int).toNat) hC10 (by omega); have hy10 : y112.length = (x9_1 : Int).toNat := (by rw [Ny112.out, List.length_take]; omega); rw [← Ny112.out] at hr10; rw [← hy10] at hcut10; have HR115 := Aside0.mk hr10; have HC115 := Aside0.mk (show y112.length ≤ c0 from by omega); clear hr10 hC10 hroom10 hi010 hsz10; have KY10 := Aside0.mk hy10; clear hy10; replace q10 := eq_true q10))
              go_loopg [18] k1 (fun kq v18 w' => ∃ (x18_2 : Int), v18 = .int .i64 x18_2 ∧ Aside0 (trace_Agree.l1 kq l0 l0 (l0.length : Int) x9_1 y112 (y112.length : Int) x18_2 ((rd_T31 l0 x9_1).f0) ((rd_T31 l0 x9_1).f1) ((rd_T31 l0 x9_1).f2) ((rd_T31 l0 x9_1).f3) ((rd_T31 l0 x9_1).f4) = some r) ∧ Aside0 (kq ≤ k1) ∧ Aside0 (w'.heap[gb111]? = some (.cells #[(.slice A110_0 ((rd_T31 l0 x9_1).f0).length c110_0), .bool ((rd_T31 l0 x9_1).f1), .int .i64 ((rd_T31 l0 x9_1).f2), .int .i64 ((rd_T31 l0 x9_1).f3), .int .i64 ((rd_T31 l0 x9_1).f4)] 31 (0, 0))) ∧ Aside0 (Below w.heap.size w w'))
              case atStart => exact ⟨(0), (by first | rfl | (simp; done) | (simp [*]; done)), H', ⟨Nat.le_refl _⟩, ⟨by (with_reducible repeat (first | refine blk_drewN ?_ _ | refine blk_drew ?_ | refine blk_alloc ?_ _)); exact BK111.out⟩, ⟨by repeat (first | (with_reducible first | exact HB.out | apply below_alloc | apply pw_below_drewN | apply below_drew1 | refine below_set ?_ GE111.out) | exact HB.out)⟩⟩
              case round =>
                clear H'
                try clear c1
                try clear p1
                try clear q1
                try clear hx1
                try clear c2
                try clear c2b0
                try clear p2
                try clear c3
                try clear c3b0
                try clear c4
                try clear c4b0
                try clear c5
                try clear c5b0
                try clear c6
                try clear c6b0
                try clear c6b1
                try clear q10
                try clear hcz8_0
                try clear hcz8_1
                try clear hcz8_2
                try clear hcz8_3
                try clear hcz8_4
                try clear hfz8_0
                try clear hfz8_1
                try clear hfz8_2
                try clear hfz8_3
                try clear hfz8_4
                try clear hx110_0
                try clear hx110_1
                try clear hx110_2
                try clear hx110_3
                try clear hx110_4
                try clear p110
                try clear q10
                try clear q110
                obtain ⟨x18_2, rfl, HA, HK2, BK111, HB⟩ := hrel
                cases gk with
                | zero => exact absurd HA.out (by simp [trace_Agree.l1])
                | succ k2 =>
                  have H := HA.out
                  clear HA
                  simp only [trace_Agree.l1] at H
                  by_cases c11 : x18_2 < (y112.length : Int)
                  · rw [if_pos c11] at H
                    have c11b0 : decide (x18_2 < (y112.length : Int)) = true := decide_eq_true c11
                    clear c11
                    by_cases c12 : 0 ≤ x18_2
                    · rw [if_pos c12] at H
                      have c12b0 : decide (0 ≤ x18_2) = true := decide_eq_true c12
                      clear c12
                      by_cases c13 : x18_2 < (y112.length : Int)
                      · rw [if_pos c13] at H
                        have c13b0 : decide (x18_2 < (y112.length : Int)) = true := decide_eq_true c13
                        clear c13
                        replace H := Option.bind_eq_some_iff.mp H
                        obtain ⟨t118, A140, H⟩ := H
                        replace H : (if t118 = true then (trace_Agree.l1 k2 l0 l0 (l0.length : Int) x9_1 y112 (y112.length : Int) (wrap64 (x18_2 + 1)) ((rd_T31 l0 x9_1).f0) ((rd_T31 l0 x9_1).f1) ((rd_T31 l0 x9_1).f2) ((rd_T31 l0 x9_1).f3) ((rd_T31 l0 x9_1).f4)) else (some false)) = some r := H
                        have A14 := Aside0.mk A140
                        clear A140
                        by_cases c15 : t118 = true
                        · subst c15
                          have H1 : (trace_Agree.l1 k2 l0 l0 (l0.length : Int) x9_1 y112 (y112.length : Int) (wrap64 (x18_2 + 1)) ((rd_T31 l0 x9_1).f0) ((rd_T31 l0 x9_1).f1) ((rd_T31 l0 x9_1).f2) ((rd_T31 l0 x9_1).f3) ((rd_T31 l0 x9_1).f4)) = some r := by rw [if_pos rfl] at H; exact H
                          clear H
                          have H := H1
                          clear H1
                          have H' := Aside0.mk H
                          clear H
                          have p116 : 0 ≤ (x18_2 : Int) := of_decide_eq_true (by first | (with_reducible assumption) | assumption)
                          have q116 : x18_2 < (y112.length : Int) := of_decide_eq_true (by first | (with_reducible assumption) | assumption)
                          obtain ⟨ad116, A116_0, c116_0, e116, hx116_0, hx116_1, hx116_2, hx116_3, hx116_4, hl116_0, hi116_0⟩ := at_T31 HR115.out x18_2 p116 q116
                          obtain rfl : ad110 = ad116 := (by injection e116)
                          replace hx116_0 := (HB.out.cell (World.block_lt_of_cell? w _ hx116_0)).trans hx116_0
                          replace hx116_1 := (HB.out.cell (World.block_lt_of_cell? w _ hx116_1)).trans hx116_1
                          replace hx116_2 := (HB.out.cell (World.block_lt_of_cell? w _ hx116_2)).trans hx116_2
                          replace hx116_3 := (HB.out.cell (World.block_lt_of_cell? w _ hx116_3)).trans hx116_3
                          replace hx116_4 := (HB.out.cell (World.block_lt_of_cell? w _ hx116_4)).trans hx116_4
                          have HR116_0 := Aside0.mk hi116_0
                          have HC116_0 := Aside0.mk hl116_0
                          clear hi116_0 hl116_0
                          replace p116 := eq_true p116
                          replace q116 := eq_true q116
                          go_wp2_with (first | ((with_reducible refine gate_dst (N := 6) rfl ?_); refine box_event ?hg (N := 6) ?hd (cs := #[.slice none 0 0, .bool false, .int .i64 0, .int .i64 0, .int .i64 0]) (t := 31) ?hr ?_; (case hd => rfl); (case hg => rfl); (case hr => first | (go_simp; done) | (go_simp; rfl)); intro gb117 hg w16 hbox hb; have n0_ := Aside0.mk (blk_below (g := gb111) (o := .cells #[.slice A110_0 ((rd_T31 l0 x9_1).f0).length c110_0, .bool ((rd_T31 l0 x9_1).f1), .int .i64 ((rd_T31 l0 x9_1).f2), .int .i64 ((rd_T31 l0 x9_1).f3), .int .i64 ((rd_T31 l0 x9_1).f4)] 31 (0, 0)) (by (with_reducible repeat (first | refine blk_drewN ?_ _ | refine blk_drew ?_ | refine blk_alloc ?_ _)); exact BK111.out) hb); have n1_ := Aside0.mk (below_step (by repeat (first | (with_reducible first | exact HB.out | apply below_alloc | apply pw_below_drewN | apply below_drew1 | refine below_set ?_ GE111.out) | exact HB.out)) hb); have n2_ := Aside0.mk (hbox); have n3_ := Aside0.mk ((by rw [hg]; exact (below_size (by repeat (first | (with_reducible first | exact HB.out | apply below_alloc | apply pw_below_drewN | apply below_drew1 | refine below_set ?_ GE111.out) | exact HB.out))) : w.heap.size ≤ gb117)); have n4_ := Aside0.mk ((by rw [hg]; exact (below_size (by repeat (first | (with_reducible first | exact HB.out | apply below_alloc | apply pw_below_drewN | apply below_drew1 | refine below_set ?_ GE111.out) | exact HB.out))) : w.heap.size ≤ gb117)); have n5_ := Aside0.mk ((by rw [hg]; exact Nat.ne_of_lt (blk_lt (g := gb111) (o := .cells #[.slice A110_0 ((rd_T31 l0 x9_1).f0).length c110_0, .bool ((rd_T31 l0 x9_1).f1), .int .i64 ((rd_T31 l0 x9_1).f2), .int .i64 ((rd_T31 l0 x9_1).f3), .int .i64 ((rd_T31 l0 x9_1).f4)] 31 (0, 0)) (by (with_reducible repeat (first | refine blk_drewN ?_ _ | refine blk_drew ?_ | refine blk_alloc ?_ _)); exact BK111.out)) : gb111 ≠ gb117)); have n6_ := Aside0.mk ((by rw [hg]; exact Nat.ne_of_gt (blk_lt (g := gb111) (o := .cells #[.slice A110_0 ((rd_T31 l0 x9_1).f0).length c110_0, .bool ((rd_T31 l0 x9_1).f1), .int .i64 ((rd_T31 l0 x9_1).f2), .int .i64 ((rd_T31 l0 x9_1).f3), .int .i64 ((rd_T31 l0 x9_1).f4)] 31 (0, 0)) (by (with_reducible repeat (first | refine blk_drewN ?_ _ | refine blk_drew ?_ | refine blk_alloc ?_ _)); exact BK111.out)) : gb117 ≠ gb111)); clear BK111; clear HB; have BK111 := n0_; have HB := n1_; have BK117 := n2_; have GW117 := n3_; have GE117 := n4_; have NB111_117 := n5_; have NB117_111 := n6_; clear n0_ n1_ n2_ n3_ n4_ n5_ n6_; clear hb hbox hg; have hnb17 := NB117_111.out; have hnc17 := NB111_117.out; have hcz18_0 : w16.cell? ⟨gb117, 0, none⟩ = some (.slice none 0 0) := (blk_cell BK117.out 0).trans rfl; have hcz18_1 : w16.cell? ⟨gb117, 1, none⟩ = some (.bool false) := (blk_cell BK117.out 1).trans rfl; have hcz18_2 : w16.cell? ⟨gb117, 2, none⟩ = some (.int .i64 0) := (blk_cell BK117.out 2).trans rfl; have hcz18_3 : w16.cell? ⟨gb117, 3, none⟩ = some (.int .i64 0) := (blk_cell BK117.out 3).trans rfl; have hcz18_4 : w16.cell? ⟨gb117, 4, none⟩ = some (.int .i64 0) := (blk_cell BK117.out 4).trans rfl; have hfz18_0 := blk_frozen BK117.out 0; have hfz18_1 := blk_frozen BK117.out 1; have hfz18_2 := blk_frozen BK117.out 2; have hfz18_3 := blk_frozen BK117.out 3; have hfz18_4 := blk_frozen BK117.out 4; have hcz19_0 : w16.cell? ⟨gb111, 0, none⟩ = some (.slice A110_0 ((rd_T31 l0 x9_1).f0).length c110_0) := (blk_cell BK111.out 0).trans rfl; have hcz19_1 : w16.cell? ⟨gb111, 1, none⟩ = some (.bool ((rd_T31 l0 x9_1).f1)) := (blk_cell BK111.out 1).trans rfl; have hcz19_2 : w16.cell? ⟨gb111, 2, none⟩ = some (.int .i64 ((rd_T31 l0 x9_1).f2)) := (blk_cell BK111.out 2).trans rfl; have hcz19_3 : w16.cell? ⟨gb111, 3, none⟩ = some (.int .i64 ((rd_T31 l0 x9_1).f3)) := (blk_cell BK111.out 3).trans rfl; have hcz19_4 : w16.cell? ⟨gb111, 4, none⟩ = some (.int .i64 ((rd_T31 l0 x9_1).f4)) := (blk_cell BK111.out 4).trans rfl; have hfz19_0 := blk_frozen BK111.out 0; have hfz19_1 := blk_frozen BK111.out 1; have hfz19_2 := blk_frozen BK111.out 2; have hfz19_3 := blk_frozen BK111.out 3; have hfz19_4 := blk_frozen BK111.out 4) | ((with_reducible refine gate_callee (f := 34) rfl ?_); refine goesL_ (some 24) rfl rfl Tryd.func34 (by kernel_rfl) rfl #[.agg #[.slice A110_0 ((rd_T31 l0 x9_1).f0).length c110_0, .bool ((rd_T31 l0 x9_1).f1), .int .i64 ((rd_T31 l0 x9_1).f2), .int .i64 ((rd_T31 l0 x9_1).f3), .int .i64 ((rd_T31 l0 x9_1).f4)], .agg #[.slice A116_0 ((rd_T31 y112 x18_2).f0).length c116_0, .bool ((rd_T31 y112 x18_2).f1), .int .i64 ((rd_T31 y112 x18_2).f2), .int .i64 ((rd_T31 y112 x18_2).f3), .int .i64 ((rd_T31 y112 x18_2).f4)]] rfl (by (try simp only [List.map_toArray, List.map_cons, List.map_nil]); first | done | rfl | (simp only [List.length_drop, List.length_take]; rfl)) ?_; (with_reducible refine (trace_agree.calls k2 _ _ ((rd_T31 l0 x9_1).f0) ((rd_T31 l0 x9_1).f1) ((rd_T31 l0 x9_1).f2) ((rd_T31 l0 x9_1).f3) ((rd_T31 l0 x9_1).f4) _ _ ((rd_T31 y112 x18_2).f0) ((rd_T31 y112 x18_2).f1) ((rd_T31 y112 x18_2).f2) ((rd_T31 y112 x18_2).f3) ((rd_T31 y112 x18_2).f4) true _ ?side1 ?side2 ?side3 ?side4 A14.out).mono ?_); (case side1 => exact Kd.C_below HR110_0.out (by repeat (first | (with_reducible first | exact HB.out | apply below_alloc | apply pw_below_drewN | apply below_drew1 | refine below_set ?_ GE111.out | refine below_set ?_ GE117.out) | exact HB.out))); (case side2 => exact HC110_0.out); (case side3 => exact Kd.C_below HR116_0.out (by repeat (first | (with_reducible first | exact HB.out | apply below_alloc | apply pw_below_drewN | apply below_drew1 | refine below_set ?_ GE111.out | refine below_set ?_ GE117.out) | exact HB.out))); (case side4 => exact HC116_0.out); rintro e w20 ⟨rfl, hb⟩; refine ⟨_, rfl, ?_⟩; have n0_ := Aside0.mk (blk_below (g := gb111) (o := .cells #[.slice A110_0 ((rd_T31 l0 x9_1).f0).length c110_0, .bool ((rd_T31 l0 x9_1).f1), .int .i64 ((rd_T31 l0 x9_1).f2), .int .i64 ((rd_T31 l0 x9_1).f3), .int .i64 ((rd_T31 l0 x9_1).f4)] 31 (0, 0)) (by (with_reducible repeat (first | refine blk_drewN ?_ _ | refine blk_drew ?_ | refine blk_alloc ?_ _)); refine blk_far ?_ NB111_117.out _; (with_reducible repeat (first | refine blk_drewN ?_ _ | refine blk_drew ?_ | refine blk_alloc ?_ _)); refine blk_far ?_ NB111_117.out _; (with_reducible repeat (first | refine blk_drewN ?_ _ | refine blk_drew ?_ | refine blk_alloc ?_ _)); refine blk_far ?_ NB111_117.out _; (with_reducible repeat (first | refine blk_drewN ?_ _ | refine blk_drew ?_ | refine blk_alloc ?_ _)); refine blk_far ?_ NB111_117.out _; (with_reducible repeat (first | refine blk_drewN ?_ _ | refine blk_drew ?_ | refine blk_alloc ?_ _)); refine blk_far ?_ NB111_117.out _; (with_reducible repeat (first | refine blk_drewN ?_ _ | refine blk_drew ?_ | refine blk_alloc ?_ _)); exact BK111.out) hb); have n1_ := Aside0.mk (blk_below (g := gb117) (o := .cells #[.slice A116_0 ((rd_T31 y112 x18_2).f0).length c116_0, .bool ((rd_T31 y112 x18_2).f1), .int .i64 ((rd_T31 y112 x18_2).f2), .int .i64 ((rd_T31 y112 x18_2).f3), .int .i64 ((rd_T31 y112 x18_2).f4)] 31 (0, 0)) (by (with_reducible repeat (first | refine blk_drewN ?_ _ | refine blk_drew ?_ | refine blk_alloc ?_ _)); refine blk_put (cs := #[.slice A116_0 ((rd_T31 y112 x18_2).f0).length c116_0, .bool ((rd_T31 y112 x18_2).f1), .int .i64 ((rd_T31 y112 x18_2).f2), .int .i64 ((rd_T31 y112 x18_2).f3), .int .i64 0]) ?_ 4 _ rfl; (with_reducible repeat (first | refine blk_drewN ?_ _ | refine blk_drew ?_ | refine blk_alloc ?_ _)); refine blk_put (cs := #[.slice A116_0 ((rd_T31 y112 x18_2).f0).length c116_0, .bool ((rd_T31 y112 x18_2).f1), .int .i64 ((rd_T31 y112 x18_2).f2), .int .i64 0, .int .i64 0]) ?_ 3 _ rfl; (with_reducible repeat (first | refine blk_drewN ?_ _ | refine blk_drew ?_ | refine blk_alloc ?_ _)); refine blk_put (cs := #[.slice A116_0 ((rd_T31 y112 x18_2).f0).length c116_0, .bool ((rd_T31 y112 x18_2).f1), .int .i64 0, .int .i64 0, .int .i64 0]) ?_ 2 _ rfl; (with_reducible repeat (first | refine blk_drewN ?_ _ | refine blk_drew ?_ | refine blk_alloc ?_ _)); refine blk_put (cs := #[.slice A116_0 ((rd_T31 y112 x18_2).f0).length c116_0, .bool false, .int .i64 0, .int .i64 0, .int .i64 0]) ?_ 1 _ rfl; (with_reducible repeat (first | refine blk_drewN ?_ _ | refine blk_drew ?_ | refine blk_alloc ?_ _)); refine blk_put (cs := #[.slice none 0 0, .bool false, .int .i64 0, .int .i64 0, .int .i64 0]) ?_ 0 _ rfl; (with_reducible repeat (first | refine blk_drewN ?_ _ | refine blk_drew ?_ | refine blk_alloc ?_ _)); exact BK117.out) hb); have n2_ := Aside0.mk (below_step (by repeat (first | (with_reducible first | exact HB.out | apply below_alloc | apply pw_below_drewN | apply below_drew1 | refine below_set ?_ GE111.out | refine below_set ?_ GE117.out) | exact HB.out)) hb); clear BK111; clear BK117; clear HB; have BK111 := n0_; have BK117 := n1_; have HB := n2_; clear n0_ n1_ n2_; (try clear hb); (try clear hb2); (try clear hk); (try clear hi)))
                          go_roundg k2
                          case measure => have := HK1.out; have := HK2.out; omega
                          case rel => exact ⟨(wrap64 (x18_2 + 1)), (by first | rfl | (simp; done) | (simp [*]; done)), H', ⟨by have := HK1.out; have := HK2.out; omega⟩, ⟨by (with_reducible repeat (first | refine blk_drewN ?_ _ | refine blk_drew ?_ | refine blk_alloc ?_ _)); exact BK111.out⟩, ⟨by repeat (first | (with_reducible first | exact HB.out | apply below_alloc | apply pw_below_drewN | apply below_drew1 | refine below_set ?_ GE111.out | refine below_set ?_ GE117.out) | exact HB.out)⟩⟩
                        · replace c15 := Bool.eq_false_iff.mpr c15
                          subst c15
                          have H1 : (some false) = some r := by rw [if_neg (show ¬ (false = true) by decide)] at H; exact H
                          clear H
                          have H := H1
                          clear H1
                          obtain rfl := Option.some.inj H
                          have p116 : 0 ≤ (x18_2 : Int) := of_decide_eq_true (by first | (with_reducible assumption) | assumption)
                          have q116 : x18_2 < (y112.length : Int) := of_decide_eq_true (by first | (with_reducible assumption) | assumption)
                          obtain ⟨ad116, A116_0, c116_0, e116, hx116_0, hx116_1, hx116_2, hx116_3, hx116_4, hl116_0, hi116_0⟩ := at_T31 HR115.out x18_2 p116 q116
                          obtain rfl : ad110 = ad116 := (by injection e116)
                          replace hx116_0 := (HB.out.cell (World.block_lt_of_cell? w _ hx116_0)).trans hx116_0
                          replace hx116_1 := (HB.out.cell (World.block_lt_of_cell? w _ hx116_1)).trans hx116_1
                          replace hx116_2 := (HB.out.cell (World.block_lt_of_cell? w _ hx116_2)).trans hx116_2
                          replace hx116_3 := (HB.out.cell (World.block_lt_of_cell? w _ hx116_3)).trans hx116_3
                          replace hx116_4 := (HB.out.cell (World.block_lt_of_cell? w _ hx116_4)).trans hx116_4
                          have HR116_0 := Aside0.mk hi116_0
                          have HC116_0 := Aside0.mk hl116_0
                          clear hi116_0 hl116_0
                          replace p116 := eq_true p116
                          replace q116 := eq_true q116
                          go_wp2_with (first | ((with_reducible refine gate_dst (N := 6) rfl ?_); refine box_event ?hg (N := 6) ?hd (cs := #[.slice none 0 0, .bool false, .int .i64 0, .int .i64 0, .int .i64 0]) (t := 31) ?hr ?_; (case hd => rfl); (case hg => rfl); (case hr => first | (go_simp; done) | (go_simp; rfl)); intro gb117 hg w21 hbox hb; have n0_ := Aside0.mk (blk_below (g := gb111) (o := .cells #[.slice A110_0 ((rd_T31 l0 x9_1).f0).length c110_0, .bool ((rd_T31 l0 x9_1).f1), .int .i64 ((rd_T31 l0 x9_1).f2), .int .i64 ((rd_T31 l0 x9_1).f3), .int .i64 ((rd_T31 l0 x9_1).f4)] 31 (0, 0)) (by (with_reducible repeat (first | refine blk_drewN ?_ _ | refine blk_drew ?_ | refine blk_alloc ?_ _)); exact BK111.out) hb); have n1_ := Aside0.mk (below_step (by repeat (first | (with_reducible first | exact HB.out | apply below_alloc | apply pw_below_drewN | apply below_drew1 | refine below_set ?_ GE111.out) | exact HB.out)) hb); have n2_ := Aside0.mk (hbox); have n3_ := Aside0.mk ((by rw [hg]; exact (below_size (by repeat (first | (with_reducible first | exact HB.out | apply below_alloc | apply pw_below_drewN | apply below_drew1 | refine below_set ?_ GE111.out) | exact HB.out))) : w.heap.size ≤ gb117)); have n4_ := Aside0.mk ((by rw [hg]; exact (below_size (by repeat (first | (with_reducible first | exact HB.out | apply below_alloc | apply pw_below_drewN | apply below_drew1 | refine below_set ?_ GE111.out) | exact HB.out))) : w.heap.size ≤ gb117)); have n5_ := Aside0.mk ((by rw [hg]; exact Nat.ne_of_lt (blk_lt (g := gb111) (o := .cells #[.slice A110_0 ((rd_T31 l0 x9_1).f0).length c110_0, .bool ((rd_T31 l0 x9_1).f1), .int .i64 ((rd_T31 l0 x9_1).f2), .int .i64 ((rd_T31 l0 x9_1).f3), .int .i64 ((rd_T31 l0 x9_1).f4)] 31 (0, 0)) (by (with_reducible repeat (first | refine blk_drewN ?_ _ | refine blk_drew ?_ | refine blk_alloc ?_ _)); exact BK111.out)) : gb111 ≠ gb117)); have n6_ := Aside0.mk ((by rw [hg]; exact Nat.ne_of_gt (blk_lt (g := gb111) (o := .cells #[.slice A110_0 ((rd_T31 l0 x9_1).f0).length c110_0, .bool ((rd_T31 l0 x9_1).f1), .int .i64 ((rd_T31 l0 x9_1).f2), .int .i64 ((rd_T31 l0 x9_1).f3), .int .i64 ((rd_T31 l0 x9_1).f4)] 31 (0, 0)) (by (with_reducible repeat (first | refine blk_drewN ?_ _ | refine blk_drew ?_ | refine blk_alloc ?_ _)); exact BK111.out)) : gb117 ≠ gb111)); clear BK111; clear HB; have BK111 := n0_; have HB := n1_; have BK117 := n2_; have GW117 := n3_; have GE117 := n4_; have NB111_117 := n5_; have NB117_111 := n6_; clear n0_ n1_ n2_ n3_ n4_ n5_ n6_; clear hb hbox hg; have hnb22 := NB117_111.out; have hnc22 := NB111_117.out; have hcz23_0 : w21.cell? ⟨gb117, 0, none⟩ = some (.slice none 0 0) := (blk_cell BK117.out 0).trans rfl; have hcz23_1 : w21.cell? ⟨gb117, 1, none⟩ = some (.bool false) := (blk_cell BK117.out 1).trans rfl; have hcz23_2 : w21.cell? ⟨gb117, 2, none⟩ = some (.int .i64 0) := (blk_cell BK117.out 2).trans rfl; have hcz23_3 : w21.cell? ⟨gb117, 3, none⟩ = some (.int .i64 0) := (blk_cell BK117.out 3).trans rfl; have hcz23_4 : w21.cell? ⟨gb117, 4, none⟩ = some (.int .i64 0) := (blk_cell BK117.out 4).trans rfl; have hfz23_0 := blk_frozen BK117.out 0; have hfz23_1 := blk_frozen BK117.out 1; have hfz23_2 := blk_frozen BK117.out 2; have hfz23_3 := blk_frozen BK117.out 3; have hfz23_4 := blk_frozen BK117.out 4; have hcz24_0 : w21.cell? ⟨gb111, 0, none⟩ = some (.slice A110_0 ((rd_T31 l0 x9_1).f0).length c110_0) := (blk_cell BK111.out 0).trans rfl; have hcz24_1 : w21.cell? ⟨gb111, 1, none⟩ = some (.bool ((rd_T31 l0 x9_1).f1)) := (blk_cell BK111.out 1).trans rfl; have hcz24_2 : w21.cell? ⟨gb111, 2, none⟩ = some (.int .i64 ((rd_T31 l0 x9_1).f2)) := (blk_cell BK111.out 2).trans rfl; have hcz24_3 : w21.cell? ⟨gb111, 3, none⟩ = some (.int .i64 ((rd_T31 l0 x9_1).f3)) := (blk_cell BK111.out 3).trans rfl; have hcz24_4 : w21.cell? ⟨gb111, 4, none⟩ = some (.int .i64 ((rd_T31 l0 x9_1).f4)) := (blk_cell BK111.out 4).trans rfl; have hfz24_0 := blk_frozen BK111.out 0; have hfz24_1 := blk_frozen BK111.out 1; have hfz24_2 := blk_frozen BK111.out 2; have hfz24_3 := blk_frozen BK111.out 3; have hfz24_4 := blk_frozen BK111.out 4) | ((with_reducible refine gate_callee (f := 34) rfl ?_); refine goesL_ (some 24) rfl rfl Tryd.func34 (by kernel_rfl) rfl #[.agg #[.slice A110_0 ((rd_T31 l0 x9_1).f0).length c110_0, .bool ((rd_T31 l0 x9_1).f1), .int .i64 ((rd_T31 l0 x9_1).f2), .int .i64 ((rd_T31 l0 x9_1).f3), .int .i64 ((rd_T31 l0 x9_1).f4)], .agg #[.slice A116_0 ((rd_T31 y112 x18_2).f0).length c116_0, .bool ((rd_T31 y112 x18_2).f1), .int .i64 ((rd_T31 y112 x18_2).f2), .int .i64 ((rd_T31 y112 x18_2).f3), .int .i64 ((rd_T31 y112 x18_2).f4)]] rfl (by (try simp only [List.map_toArray, List.map_cons, List.map_nil]); first | done | rfl | (simp only [List.length_drop, List.length_take]; rfl)) ?_; (with_reducible refine (trace_agree.calls k2 _ _ ((rd_T31 l0 x9_1).f0) ((rd_T31 l0 x9_1).f1) ((rd_T31 l0 x9_1).f2) ((rd_T31 l0 x9_1).f3) ((rd_T31 l0 x9_1).f4) _ _ ((rd_T31 y112 x18_2).f0) ((rd_T31 y112 x18_2).f1) ((rd_T31 y112 x18_2).f2) ((rd_T31 y112 x18_2).f3) ((rd_T31 y112 x18_2).f4) false _ ?side1 ?side2 ?side3 ?side4 A14.out).mono ?_); (case side1 => exact Kd.C_below HR110_0.out (by repeat (first | (with_reducible first | exact HB.out | apply below_alloc | apply pw_below_drewN | apply below_drew1 | refine below_set ?_ GE111.out | refine below_set ?_ GE117.out) | exact HB.out))); (case side2 => exact HC110_0.out); (case side3 => exact Kd.C_below HR116_0.out (by repeat (first | (with_reducible first | exact HB.out | apply below_alloc | apply pw_below_drewN | apply below_drew1 | refine below_set ?_ GE111.out | refine below_set ?_ GE117.out) | exact HB.out))); (case side4 => exact HC116_0.out); rintro e w25 ⟨rfl, hb⟩; refine ⟨_, rfl, ?_⟩; have n0_ := Aside0.mk (blk_below (g := gb111) (o := .cells #[.slice A110_0 ((rd_T31 l0 x9_1).f0).length c110_0, .bool ((rd_T31 l0 x9_1).f1), .int .i64 ((rd_T31 l0 x9_1).f2), .int .i64 ((rd_T31 l0 x9_1).f3), .int .i64 ((rd_T31 l0 x9_1).f4)] 31 (0, 0)) (by (with_reducible repeat (first | refine blk_drewN ?_ _ | refine blk_drew ?_ | refine blk_alloc ?_ _)); refine blk_far ?_ NB111_117.out _; (with_reducible repeat (first | refine blk_drewN ?_ _ | refine blk_drew ?_ | refine blk_alloc ?_ _)); refine blk_far ?_ NB111_117.out _; (with_reducible repeat (first | refine blk_drewN ?_ _ | refine blk_drew ?_ | refine blk_alloc ?_ _)); refine blk_far ?_ NB111_117.out _; (with_reducible repeat (first | refine blk_drewN ?_ _ | refine blk_drew ?_ | refine blk_alloc ?_ _)); refine blk_far ?_ NB111_117.out _; (with_reducible repeat (first | refine blk_drewN ?_ _ | refine blk_drew ?_ | refine blk_alloc ?_ _)); refine blk_far ?_ NB111_117.out _; (with_reducible repeat (first | refine blk_drewN ?_ _ | refine blk_drew ?_ | refine blk_alloc ?_ _)); exact BK111.out) hb); have n1_ := Aside0.mk (blk_below (g := gb117) (o := .cells #[.slice A116_0 ((rd_T31 y112 x18_2).f0).length c116_0, .bool ((rd_T31 y112 x18_2).f1), .int .i64 ((rd_T31 y112 x18_2).f2), .int .i64 ((rd_T31 y112 x18_2).f3), .int .i64 ((rd_T31 y112 x18_2).f4)] 31 (0, 0)) (by (with_reducible repeat (first | refine blk_drewN ?_ _ | refine blk_drew ?_ | refine blk_alloc ?_ _)); refine blk_put (cs := #[.slice A116_0 ((rd_T31 y112 x18_2).f0).length c116_0, .bool ((rd_T31 y112 x18_2).f1), .int .i64 ((rd_T31 y112 x18_2).f2), .int .i64 ((rd_T31 y112 x18_2).f3), .int .i64 0]) ?_ 4 _ rfl; (with_reducible repeat (first | refine blk_drewN ?_ _ | refine blk_drew ?_ | refine blk_alloc ?_ _)); refine blk_put (cs := #[.slice A116_0 ((rd_T31 y112 x18_2).f0).length c116_0, .bool ((rd_T31 y112 x18_2).f1), .int .i64 ((rd_T31 y112 x18_2).f2), .int .i64 0, .int .i64 0]) ?_ 3 _ rfl; (with_reducible repeat (first | refine blk_drewN ?_ _ | refine blk_drew ?_ | refine blk_alloc ?_ _)); refine blk_put (cs := #[.slice A116_0 ((rd_T31 y112 x18_2).f0).length c116_0, .bool ((rd_T31 y112 x18_2).f1), .int .i64 0, .int .i64 0, .int .i64 0]) ?_ 2 _ rfl; (with_reducible repeat (first | refine blk_drewN ?_ _ | refine blk_drew ?_ | refine blk_alloc ?_ _)); refine blk_put (cs := #[.slice A116_0 ((rd_T31 y112 x18_2).f0).length c116_0, .bool false, .int .i64 0, .int .i64 0, .int .i64 0]) ?_ 1 _ rfl; (with_reducible repeat (first | refine blk_drewN ?_ _ | refine blk_drew ?_ | refine blk_alloc ?_ _)); refine blk_put (cs := #[.slice none 0 0, .bool false, .int .i64 0, .int .i64 0, .int .i64 0]) ?_ 0 _ rfl; (with_reducible repeat (first | refine blk_drewN ?_ _ | refine blk_drew ?_ | refine blk_alloc ?_ _)); exact BK117.out) hb); have n2_ := Aside0.mk (below_step (by repeat (first | (with_reducible first | exact HB.out | apply below_alloc | apply pw_below_drewN | apply below_drew1 | refine below_set ?_ GE111.out | refine below_set ?_ GE117.out) | exact HB.out)) hb); clear BK111; clear BK117; clear HB; have BK111 := n0_; have BK117 := n1_; have HB := n2_; clear n0_ n1_ n2_; (try clear hb); (try clear hb2); (try clear hk); (try clear hi)))
                          go_ret
                          exact ⟨by first | rfl | (simp [errW_none, errW_some] <;> rfl) | (simp [*, errW_none, errW_some] <;> rfl), by repeat (first | (with_reducible first | exact HB.out | apply below_alloc | apply pw_below_drewN | apply below_drew1 | refine below_set ?_ GE111.out | refine below_set ?_ GE117.out) | exact HB.out)⟩
                      · rw [if_neg c13] at H
                        exact absurd H (by simp)
                    · rw [if_neg c12] at H
                      exact absurd H (by simp)
                  · rw [if_neg c11] at H
                    have c11b0 : decide (x18_2 < (y112.length : Int)) = false := decide_eq_false c11
                    clear c11
                    have H' := Aside0.mk H
                    clear H
                    go_wp2
                    go_roundg k2
                    case measure => have := HK1.out; have := HK2.out; omega
                    case rel => exact ⟨(wrap64 (x9_1 + 1)), (by first | rfl | (simp; done) | (simp [*]; done)), H', ⟨by have := HK1.out; have := HK2.out; omega⟩, ⟨by repeat (first | (with_reducible first | exact HB.out | apply below_alloc | apply pw_below_drewN | apply below_drew1 | refine below_set ?_ GE111.out) | exact HB.out)⟩⟩
            · rw [if_neg c6] at H
              exact absurd H (by simp)
          · rw [if_neg c4] at H
            exact absurd H (by simp)
        · rw [if_neg c3] at H
          exact absurd H (by simp)
      · rw [if_neg c2] at H
        have c2b0 : decide (x9_1 < (l0.length : Int)) = false := decide_eq_false c2
        clear c2
        obtain rfl := Option.some.inj H
        go_wp2
        go_ret
        exact ⟨by first | rfl | (simp [errW_none, errW_some] <;> rfl) | (simp [*, errW_none, errW_some] <;> rfl), by repeat (first | (with_reducible first | exact HB.out | apply below_alloc | apply pw_below_drewN | apply below_drew1) | exact HB.out)⟩
noncomputable def lockstitchlaw22_few.l0 : Nat → List (S27) → List (S27) → Int → Int → Option (Bool)
  | 0, _, _, _, _ => none
  | k + 1, x0, x5, x6, x7 => if x7 < x6 then (if 0 ≤ x7 then (if x7 < (x5.length : Int) then (if (((rd_T27 x5 x7).f0).length : Int) > 60 then (some false) else (lockstitchlaw22_few.l0 k x0 x5 x6 (wrap64 (x7 + 1)))) else (none)) else (none)) else (some (decide ((x0.length : Int) ≤ 8)))
noncomputable def lockstitchlaw22_few.f (k : Nat) (l0 : List (S27)) : Option (Bool) := lockstitchlaw22_few.l0 k l0 l0 (l0.length : Int) 0
set_option maxHeartbeats 8000000 in
set_option maxRecDepth 100000 in
theorem lockstitchlaw22_few.calls (k : Nat) (A0 : Option Addr) (c0 : Nat) (l0 : List (S27)) (r : Bool) (w : World) (hr0 : Kd.C k27 w A0 l0.length l0) (hc0 : l0.length ≤ c0) (h : lockstitchlaw22_few.f k l0 = some r) :
    Calls Tryd.prog 13 #[.slice A0 l0.length c0] w fun e w' => e = .returned (.bool r) ∧ Below w.heap.size w w' := by
  have hu27 := Tryd.underlying27
  have HR0 := Aside0.mk hr0
  have HC0 := Aside0.mk hc0
  clear hr0 hc0
  have HB := Aside0.mk (Below.refl w.heap.size w)
  have H : (lockstitchlaw22_few.l0 k l0 l0 (l0.length : Int) 0) = some r := h
  clear h
  have H' := Aside0.mk H
  clear H
  go_enter Tryd.func13, Tryd.ntmps13
  go_wp2
  go_loopg [7] k (fun kq v7 w' => ∃ (x7_1 : Int), v7 = .int .i64 x7_1 ∧ Aside0 (lockstitchlaw22_few.l0 kq l0 l0 (l0.length : Int) x7_1 = some r) ∧ Aside0 (kq ≤ k) ∧ Aside0 (Below w.heap.size w w'))
  case atStart => exact ⟨(0), (by first | rfl | (simp; done) | (simp [*]; done)), H', ⟨Nat.le_refl _⟩, ⟨by repeat (first | (with_reducible first | exact HB.out | apply below_alloc | apply pw_below_drewN | apply below_drew1) | exact HB.out)⟩⟩
  case round =>
    clear H'
    try clear c1
    obtain ⟨x7_1, rfl, HA, HK1, HB⟩ := hrel
    cases gk with
    | zero => exact absurd HA.out (by simp [lockstitchlaw22_few.l0])
    | succ k1 =>
      have H := HA.out
      clear HA
      simp only [lockstitchlaw22_few.l0] at H
      by_cases c2 : x7_1 < (l0.length : Int)
      · rw [if_pos c2] at H
        have c2b0 : decide (x7_1 < (l0.length : Int)) = true := decide_eq_true c2
        clear c2
        by_cases c3 : 0 ≤ x7_1
        · rw [if_pos c3] at H
          have c3b0 : decide (0 ≤ x7_1) = true := decide_eq_true c3
          clear c3
          by_cases c4 : x7_1 < (l0.length : Int)
          · rw [if_pos c4] at H
            have c4b0 : decide (x7_1 < (l0.length : Int)) = true := decide_eq_true c4
            clear c4
            by_cases c5 : (((rd_T27 l0 x7_1).f0).length : Int) > 60
            · rw [if_pos c5] at H
              have c5b0 : decide (60 < (((rd_T27 l0 x7_1).f0).length : Int)) = true := decide_eq_true c5
              have c5b1 : decide (60 < ((rd_T27 l0 x7_1).f0).length) = true := decide_eq_true (by omega)
              clear c5
              obtain rfl := Option.some.inj H
              have p119 : 0 ≤ (x7_1 : Int) := of_decide_eq_true (by first | (with_reducible assumption) | assumption)
              have q119 : x7_1 < (l0.length : Int) := of_decide_eq_true (by first | (with_reducible assumption) | assumption)
              obtain ⟨ad119, A119_0, c119_0, e119, hx119_0, hx119_1, hx119_2, hx119_3, hx119_4, hl119_0, hi119_0⟩ := at_T27 HR0.out x7_1 p119 q119
              cases e119
              replace hx119_0 := (HB.out.cell (World.block_lt_of_cell? w _ hx119_0)).trans hx119_0
              replace hx119_1 := (HB.out.cell (World.block_lt_of_cell? w _ hx119_1)).trans hx119_1
              replace hx119_2 := (HB.out.cell (World.block_lt_of_cell? w _ hx119_2)).trans hx119_2
              replace hx119_3 := (HB.out.cell (World.block_lt_of_cell? w _ hx119_3)).trans hx119_3
              replace hx119_4 := (HB.out.cell (World.block_lt_of_cell? w _ hx119_4)).trans hx119_4
              have HR119_0 := Aside0.mk hi119_0
              have HC119_0 := Aside0.mk hl119_0
              clear hi119_0 hl119_0
              replace p119 := eq_true p119
              replace q119 := eq_true q119
              go_wp2_with (first | ((with_reducible refine gate_dst (N := 4) rfl ?_); refine box_event ?hg (N := 4) ?hd (cs := #[.slice none 0 0, .bool false, .int .i64 0, .int .i64 0, .int .i64 0]) (t := 27) ?hr ?_; (case hd => rfl); (case hg => rfl); (case hr => first | (go_simp; done) | (go_simp; rfl)); intro gb120 hg w6 hbox hb; have n0_ := Aside0.mk (below_step (by repeat (first | (with_reducible first | exact HB.out | apply below_alloc | apply pw_below_drewN | apply below_drew1) | exact HB.out)) hb); have n1_ := Aside0.mk (hbox); have n2_ := Aside0.mk ((by rw [hg]; exact (below_size (by repeat (first | (with_reducible first | exact HB.out | apply below_alloc | apply pw_below_drewN | apply below_drew1) | exact HB.out))) : w.heap.size ≤ gb120)); have n3_ := Aside0.mk ((by rw [hg]; exact (below_size (by repeat (first | (with_reducible first | exact HB.out | apply below_alloc | apply pw_below_drewN | apply below_drew1) | exact HB.out))) : w.heap.size ≤ gb120)); clear HB; have HB := n0_; have BK120 := n1_; have GW120 := n2_; have GE120 := n3_; clear n0_ n1_ n2_ n3_; clear hb hbox hg; have hcz7_0 : w6.cell? ⟨gb120, 0, none⟩ = some (.slice none 0 0) := (blk_cell BK120.out 0).trans rfl; have hcz7_1 : w6.cell? ⟨gb120, 1, none⟩ = some (.bool false) := (blk_cell BK120.out 1).trans rfl; have hcz7_2 : w6.cell? ⟨gb120, 2, none⟩ = some (.int .i64 0) := (blk_cell BK120.out 2).trans rfl; have hcz7_3 : w6.cell? ⟨gb120, 3, none⟩ = some (.int .i64 0) := (blk_cell BK120.out 3).trans rfl; have hcz7_4 : w6.cell? ⟨gb120, 4, none⟩ = some (.int .i64 0) := (blk_cell BK120.out 4).trans rfl; have hfz7_0 := blk_frozen BK120.out 0; have hfz7_1 := blk_frozen BK120.out 1; have hfz7_2 := blk_frozen BK120.out 2; have hfz7_3 := blk_frozen BK120.out 3; have hfz7_4 := blk_frozen BK120.out 4))
              go_ret
              exact ⟨by first | rfl | (simp [errW_none, errW_some] <;> rfl) | (simp [*, errW_none, errW_some] <;> rfl), by repeat (first | (with_reducible first | exact HB.out | apply below_alloc | apply pw_below_drewN | apply below_drew1 | refine below_set ?_ GE120.out) | exact HB.out)⟩
            · rw [if_neg c5] at H
              have c5b0 : decide (60 < (((rd_T27 l0 x7_1).f0).length : Int)) = false := decide_eq_false c5
              have c5b1 : decide (60 < ((rd_T27 l0 x7_1).f0).length) = false := decide_eq_false (by omega)
              clear c5
              have H' := Aside0.mk H
              clear H
              have p119 : 0 ≤ (x7_1 : Int) := of_decide_eq_true (by first | (with_reducible assumption) | assumption)
              have q119 : x7_1 < (l0.length : Int) := of_decide_eq_true (by first | (with_reducible assumption) | assumption)
              obtain ⟨ad119, A119_0, c119_0, e119, hx119_0, hx119_1, hx119_2, hx119_3, hx119_4, hl119_0, hi119_0⟩ := at_T27 HR0.out x7_1 p119 q119
              cases e119
              replace hx119_0 := (HB.out.cell (World.block_lt_of_cell? w _ hx119_0)).trans hx119_0
              replace hx119_1 := (HB.out.cell (World.block_lt_of_cell? w _ hx119_1)).trans hx119_1
              replace hx119_2 := (HB.out.cell (World.block_lt_of_cell? w _ hx119_2)).trans hx119_2
              replace hx119_3 := (HB.out.cell (World.block_lt_of_cell? w _ hx119_3)).trans hx119_3
              replace hx119_4 := (HB.out.cell (World.block_lt_of_cell? w _ hx119_4)).trans hx119_4
              have HR119_0 := Aside0.mk hi119_0
              have HC119_0 := Aside0.mk hl119_0
              clear hi119_0 hl119_0
              replace p119 := eq_true p119
              replace q119 := eq_true q119
              go_wp2_with (first | ((with_reducible refine gate_dst (N := 4) rfl ?_); refine box_event ?hg (N := 4) ?hd (cs := #[.slice none 0 0, .bool false, .int .i64 0, .int .i64 0, .int .i64 0]) (t := 27) ?hr ?_; (case hd => rfl); (case hg => rfl); (case hr => first | (go_simp; done) | (go_simp; rfl)); intro gb120 hg w8 hbox hb; have n0_ := Aside0.mk (below_step (by repeat (first | (with_reducible first | exact HB.out | apply below_alloc | apply pw_below_drewN | apply below_drew1) | exact HB.out)) hb); have n1_ := Aside0.mk (hbox); have n2_ := Aside0.mk ((by rw [hg]; exact (below_size (by repeat (first | (with_reducible first | exact HB.out | apply below_alloc | apply pw_below_drewN | apply below_drew1) | exact HB.out))) : w.heap.size ≤ gb120)); have n3_ := Aside0.mk ((by rw [hg]; exact (below_size (by repeat (first | (with_reducible first | exact HB.out | apply below_alloc | apply pw_below_drewN | apply below_drew1) | exact HB.out))) : w.heap.size ≤ gb120)); clear HB; have HB := n0_; have BK120 := n1_; have GW120 := n2_; have GE120 := n3_; clear n0_ n1_ n2_ n3_; clear hb hbox hg; have hcz9_0 : w8.cell? ⟨gb120, 0, none⟩ = some (.slice none 0 0) := (blk_cell BK120.out 0).trans rfl; have hcz9_1 : w8.cell? ⟨gb120, 1, none⟩ = some (.bool false) := (blk_cell BK120.out 1).trans rfl; have hcz9_2 : w8.cell? ⟨gb120, 2, none⟩ = some (.int .i64 0) := (blk_cell BK120.out 2).trans rfl; have hcz9_3 : w8.cell? ⟨gb120, 3, none⟩ = some (.int .i64 0) := (blk_cell BK120.out 3).trans rfl; have hcz9_4 : w8.cell? ⟨gb120, 4, none⟩ = some (.int .i64 0) := (blk_cell BK120.out 4).trans rfl; have hfz9_0 := blk_frozen BK120.out 0; have hfz9_1 := blk_frozen BK120.out 1; have hfz9_2 := blk_frozen BK120.out 2; have hfz9_3 := blk_frozen BK120.out 3; have hfz9_4 := blk_frozen BK120.out 4))
              go_roundg k1
              case measure => have := HK1.out; omega
              case rel => exact ⟨(wrap64 (x7_1 + 1)), (by first | rfl | (simp; done) | (simp [*]; done)), H', ⟨by have := HK1.out; omega⟩, ⟨by repeat (first | (with_reducible first | exact HB.out | apply below_alloc | apply pw_below_drewN | apply below_drew1 | refine below_set ?_ GE120.out) | exact HB.out)⟩⟩
          · rw [if_neg c4] at H
            exact absurd H (by simp)
        · rw [if_neg c3] at H
          exact absurd H (by simp)
      · rw [if_neg c2] at H
        have c2b0 : decide (x7_1 < (l0.length : Int)) = false := decide_eq_false c2
        clear c2
        obtain rfl := Option.some.inj H
        go_wp2
        go_ret
        exact ⟨by first | rfl | (simp [errW_none, errW_some] <;> rfl) | (simp [*, errW_none, errW_some] <;> rfl), by repeat (first | (with_reducible first | exact HB.out | apply below_alloc | apply pw_below_drewN | apply below_drew1) | exact HB.out)⟩
end Go.Proofs.YtfkfpcciacplkaaDoor.T

namespace Go.Proofs.YtfkfpcciacplkaaDoor.T
open Go.RowKit Go.Proofs.YtfkfpcciacplkaaDoorW.PrintWords Go.Proofs.YtfkfpcciacplkaaDoorW.PrintLast Go.Proofs.YtfkfpcciacplkaaDoorW.PrintMore
attribute [local go_sem] max2_int min2_int max_two min_two max_three min_three max_four min_four
set_option linter.unusedVariables false
set_option linter.unusedSimpArgs false
open Go.Proofs.YtfkfpcciacplkaaDoor.F
open Go.Proofs.YtfkfpcciacplkaaDoor.TE
open Go.Proofs.YtfkfpcciacplkaaDoor.TRB
noncomputable def lockstitchref22_Ended.f (l0_0 : List Int) (a0_1 : Bool) (a0_2 : Int) (a0_3 : Int) (a0_4 : Int) : Option (Bool) := if a0_1 = true then (if a0_2 = 0 then (some true) else (some (a0_2 == 9))) else (some false)
mutual
noncomputable def lockstitchref22_Begins.l0 : Nat → List Int → List Int → Int → Option (Bool)
  | 0, _, _, _ => none
  | k + 1, x0, x1, x5 => if x5 < (x0.length : Int) then (lockstitchref22_Begins.j1 k x0 x1 x5 (decide (x5 < (x1.length : Int)))) else (lockstitchref22_Begins.j1 k x0 x1 x5 false)
noncomputable def lockstitchref22_Begins.j1 : Nat → List Int → List Int → Int → Bool → Option (Bool)
  | 0, _, _, _, _ => none
  | k + 1, x0, x1, x5, x15 => if x15 = true then (if 0 ≤ x5 then (if x5 < (x0.length : Int) then (if x5 < (x1.length : Int) then (if (rd x0 x5) = (rd x1 x5) then (lockstitchref22_Begins.l0 k x0 x1 (wrap64 (x5 + 1))) else (some false)) else (none)) else (none)) else (none)) else (some true)
end
noncomputable def lockstitchref22_Begins.f (k : Nat) (l0 : List Int) (l1 : List Int) : Option (Bool) := lockstitchref22_Begins.l0 k l0 l1 0
theorem lockstitchref22_Begins.mono_l : ∀ k, (∀ y0 y1 y2, LeO (lockstitchref22_Begins.l0 k y0 y1 y2) (lockstitchref22_Begins.l0 (k + 1) y0 y1 y2)) ∧ (∀ y0 y1 y2 y3, LeO (lockstitchref22_Begins.j1 k y0 y1 y2 y3) (lockstitchref22_Begins.j1 (k + 1) y0 y1 y2 y3))
  | 0 => ⟨fun _ _ _ r h => by simp [lockstitchref22_Begins.l0] at h, fun _ _ _ _ r h => by simp [lockstitchref22_Begins.j1] at h⟩
  | k + 1 => by
    obtain ⟨ih0, ih1⟩ := lockstitchref22_Begins.mono_l k
    refine ⟨?_, ?_⟩
    · intro y0 y1 y2
      unfold lockstitchref22_Begins.l0
      repeat' first
      | (with_reducible exact ih0 _ _ _)
      | (with_reducible exact ih1 _ _ _ _)
      | (with_reducible exact LeO.refl _)
      | (with_reducible exact LeO.none _)
      | (with_reducible refine LeO.ite ?_ ?_)
      | (with_reducible refine LeO.bind ?_ (fun _ => ?_))
      | exact ih0 _ _ _
      | exact ih1 _ _ _ _
      | exact LeO.none _
      | refine LeO.ite ?_ ?_
      | refine LeO.bind ?_ (fun _ => ?_)
    · intro y0 y1 y2 y3
      unfold lockstitchref22_Begins.j1
      repeat' first
      | (with_reducible exact ih0 _ _ _)
      | (with_reducible exact ih1 _ _ _ _)
      | (with_reducible exact LeO.refl _)
      | (with_reducible exact LeO.none _)
      | (with_reducible refine LeO.ite ?_ ?_)
      | (with_reducible refine LeO.bind ?_ (fun _ => ?_))
      | exact ih0 _ _ _
      | exact ih1 _ _ _ _
      | exact LeO.none _
      | refine LeO.ite ?_ ?_
      | refine LeO.bind ?_ (fun _ => ?_)
theorem lockstitchref22_Begins.mono : ∀ a0 a1 k, LeO (lockstitchref22_Begins.f k a0 a1) (lockstitchref22_Begins.f (k + 1) a0 a1) := by
  intro a0 a1 k
  obtain ⟨ih0, ih1⟩ := lockstitchref22_Begins.mono_l k
  unfold lockstitchref22_Begins.f
  repeat' first
      | (with_reducible exact ih0 _ _ _)
      | (with_reducible exact ih1 _ _ _ _)
      | (with_reducible exact LeO.refl _)
      | (with_reducible exact LeO.none _)
      | (with_reducible refine LeO.ite ?_ ?_)
      | (with_reducible refine LeO.bind ?_ (fun _ => ?_))
      | exact ih0 _ _ _
      | exact ih1 _ _ _ _
      | exact LeO.none _
      | refine LeO.ite ?_ ?_
      | refine LeO.bind ?_ (fun _ => ?_)
noncomputable def lockstitchref22_two.j0 : Nat → Bool → List Int → Bool → Int → Int → Int → List Int → Bool → Int → Int → Int → Option (Bool)
  | 0, _, _, _, _, _, _, _, _, _, _, _ => none
  | k + 1, x28, x125000, x125001, x125002, x125003, x125004, x126000, x126001, x126002, x126003, x126004 => if x28 = true then (some false) else ((lockstitchref22_Ended.f x125000 x125001 x125002 x125003 x125004).bind fun t128 => (if t128 = true then ((lockstitchref22_Ended.f x126000 x126001 x126002 x126003 x126004).bind fun t129 => (if t129 = true then (if x125002 = x126002 then (if x125003 = x126003 then (some ((x125000.length : Int) == (x126000.length : Int))) else (some false)) else (some false)) else (some true))) else (some true)))
noncomputable def lockstitchref22_two.f (k : Nat) (l0_0 : List Int) (a0_1 : Bool) (a0_2 : Int) (a0_3 : Int) (a0_4 : Int) (l1_0 : List Int) (a1_1 : Bool) (a1_2 : Int) (a1_3 : Int) (a1_4 : Int) : Option (Bool) := (lockstitchref22_Begins.f k l0_0 l1_0).bind fun t126 => (if t126 = true then ((lockstitchref22_Ended.f l0_0 a0_1 a0_2 a0_3 a0_4).bind fun t127 => (if t127 = true then (if a1_3 > a0_3 then (lockstitchref22_two.j0 k true l0_0 a0_1 a0_2 a0_3 a0_4 l1_0 a1_1 a1_2 a1_3 a1_4) else (lockstitchref22_two.j0 k (decide ((l1_0.length : Int) > (l0_0.length : Int))) l0_0 a0_1 a0_2 a0_3 a0_4 l1_0 a1_1 a1_2 a1_3 a1_4)) else (lockstitchref22_two.j0 k false l0_0 a0_1 a0_2 a0_3 a0_4 l1_0 a1_1 a1_2 a1_3 a1_4))) else (some false))
theorem lockstitchref22_two.mono_l : ∀ k, (∀ y0 y1 y2 y3 y4 y5 y6 y7 y8 y9 y10, LeO (lockstitchref22_two.j0 k y0 y1 y2 y3 y4 y5 y6 y7 y8 y9 y10) (lockstitchref22_two.j0 (k + 1) y0 y1 y2 y3 y4 y5 y6 y7 y8 y9 y10))
  | 0 => fun _ _ _ _ _ _ _ _ _ _ _ r h => by simp [lockstitchref22_two.j0] at h
  | k + 1 => by
    have ih0 := lockstitchref22_two.mono_l k
    · intro y0 y1 y2 y3 y4 y5 y6 y7 y8 y9 y10
      unfold lockstitchref22_two.j0
      repeat' first
      | (with_reducible exact ih0 _ _ _ _ _ _ _ _ _ _ _)
      | (with_reducible exact lockstitchref22_Begins.mono _ _ _)
      | (with_reducible exact LeO.refl _)
      | (with_reducible exact LeO.none _)
      | (with_reducible refine LeO.ite ?_ ?_)
      | (with_reducible refine LeO.bind ?_ (fun _ => ?_))
      | exact ih0 _ _ _ _ _ _ _ _ _ _ _
      | exact lockstitchref22_Begins.mono _ _ _
      | exact LeO.none _
      | refine LeO.ite ?_ ?_
      | refine LeO.bind ?_ (fun _ => ?_)
theorem lockstitchref22_two.mono : ∀ a0 a1 a2 a3 a4 a5 a6 a7 a8 a9 k, LeO (lockstitchref22_two.f k a0 a1 a2 a3 a4 a5 a6 a7 a8 a9) (lockstitchref22_two.f (k + 1) a0 a1 a2 a3 a4 a5 a6 a7 a8 a9) := by
  intro a0 a1 a2 a3 a4 a5 a6 a7 a8 a9 k
  have ih0 := lockstitchref22_two.mono_l k
  unfold lockstitchref22_two.f
  repeat' first
      | (with_reducible exact ih0 _ _ _ _ _ _ _ _ _ _ _)
      | (with_reducible exact lockstitchref22_Begins.mono _ _ _)
      | (with_reducible exact LeO.refl _)
      | (with_reducible exact LeO.none _)
      | (with_reducible refine LeO.ite ?_ ?_)
      | (with_reducible refine LeO.bind ?_ (fun _ => ?_))
      | exact ih0 _ _ _ _ _ _ _ _ _ _ _
      | exact lockstitchref22_Begins.mono _ _ _
      | exact LeO.none _
      | refine LeO.ite ?_ ?_
      | refine LeO.bind ?_ (fun _ => ?_)
end Go.Proofs.YtfkfpcciacplkaaDoor.T

namespace Go.Proofs.YtfkfpcciacplkaaDoor.T
open Go.RowKit Go.Proofs.YtfkfpcciacplkaaDoorW.PrintWords Go.Proofs.YtfkfpcciacplkaaDoorW.PrintLast Go.Proofs.YtfkfpcciacplkaaDoorW.PrintMore
attribute [local go_sem] max2_int min2_int max_two min_two max_three min_three max_four min_four
set_option linter.unusedVariables false
set_option linter.unusedSimpArgs false
open Go.Proofs.YtfkfpcciacplkaaDoor.F
open Go.Proofs.YtfkfpcciacplkaaDoor.TE
open Go.Proofs.YtfkfpcciacplkaaDoor.TRB
mutual
noncomputable def lockstitchref22_Agree.l0 : Nat → List (S27) → Int → Option (Bool)
  | 0, _, _ => none
  | k + 1, x0, x3 => if x3 < (x0.length : Int) then (lockstitchref22_Agree.l1 k x0 x3 0) else (some true)
noncomputable def lockstitchref22_Agree.l1 : Nat → List (S27) → Int → Int → Option (Bool)
  | 0, _, _, _ => none
  | k + 1, x0, x3, x4 => if x4 < (x0.length : Int) then (if x3 = x4 then (lockstitchref22_Agree.l1 k x0 x3 (wrap64 (x4 + 1))) else (if 0 ≤ x3 then (if x3 < (x0.length : Int) then (if 0 ≤ x4 then ((lockstitchref22_two.f k ((rd_T27 x0 x3).f0) ((rd_T27 x0 x3).f1) ((rd_T27 x0 x3).f2) ((rd_T27 x0 x3).f3) ((rd_T27 x0 x3).f4) ((rd_T27 x0 x4).f0) ((rd_T27 x0 x4).f1) ((rd_T27 x0 x4).f2) ((rd_T27 x0 x4).f3) ((rd_T27 x0 x4).f4)).bind fun t132 => (if t132 = true then (lockstitchref22_Agree.l1 k x0 x3 (wrap64 (x4 + 1))) else (some false))) else (none)) else (none)) else (none))) else (lockstitchref22_Agree.l0 k x0 (wrap64 (x3 + 1)))
end
noncomputable def lockstitchref22_Agree.f (k : Nat) (l0 : List (S27)) : Option (Bool) := lockstitchref22_Agree.l0 k l0 0
noncomputable def lockstitchref22_Agree.T7 : Bool × List (List Nat × List Nat) := (true, [([], []), ([], []), ([0, 1], [0, 1]), ([2], [2]), ([3], [3]), ([3], [3]), ([4, 5, 3], [3, 4, 5]), ([6, 3], [3, 6]), ([3], [3]), ([3], [3]), ([8, 9, 3], [3, 8, 9]), ([10, 3], [3, 10]), ([7, 11, 3, 3], [3, 7, 11]), ([12, 3], [3, 12]), ([3, 13], [3, 13])])
noncomputable def lockstitchref22_Agree.B7 : List Nat := [0, 0, 3, 7, 15, 15, 63, 127, 15, 15, 783, 1807, 4095, 8191, 16383]
noncomputable def lockstitchref22_Longest.l0 : Nat → List (S27) → Int → Int → Option (Int)
  | 0, _, _, _ => none
  | k + 1, x0, x3, x4 => if x4 < (x0.length : Int) then (if x3 < 0 then (lockstitchref22_Longest.l0 k x0 x4 (wrap64 (x4 + 1))) else (if 0 ≤ x4 then (if 0 ≤ x3 then (if x3 < (x0.length : Int) then (if ((rd_T27 x0 x4).f3) > ((rd_T27 x0 x3).f3) then (lockstitchref22_Longest.l0 k x0 x4 (wrap64 (x4 + 1))) else (lockstitchref22_Longest.l0 k x0 x3 (wrap64 (x4 + 1)))) else (none)) else (none)) else (none))) else (some x3)
noncomputable def lockstitchref22_Longest.f (k : Nat) (l0 : List (S27)) : Option (Int) := lockstitchref22_Longest.l0 k l0 (-1) 0
end Go.Proofs.YtfkfpcciacplkaaDoor.T

namespace Go.Proofs.YtfkfpcciacplkaaDoor.T
open Go.RowKit Go.Proofs.YtfkfpcciacplkaaDoorW.PrintWords Go.Proofs.YtfkfpcciacplkaaDoorW.PrintLast Go.Proofs.YtfkfpcciacplkaaDoorW.PrintMore
attribute [local go_sem] max2_int min2_int max_two min_two max_three min_three max_four min_four
set_option linter.unusedVariables false
set_option linter.unusedSimpArgs false
open Go.Proofs.YtfkfpcciacplkaaDoor.F
open Go.Proofs.YtfkfpcciacplkaaDoor.TE
open Go.Proofs.YtfkfpcciacplkaaDoor.TRB
end Go.Proofs.YtfkfpcciacplkaaDoor.T

namespace Go.Proofs.YtfkfpcciacplkaaDoor.TRP
open Go.RowKit Go.Proofs.YtfkfpcciacplkaaDoorW.PrintWords Go.Proofs.YtfkfpcciacplkaaDoor.Scan Go.Proofs.YtfkfpcciacplkaaDoor.F Go.Proofs.YtfkfpcciacplkaaDoor.T Go.Proofs.YtfkfpcciacplkaaDoor.TRB Go.Proofs.YtfkfpcciacplkaaDoor.TRL Go.Proofs.YtfkfpcciacplkaaDoor.TRA
set_option linter.unusedVariables false
set_option linter.unusedSimpArgs false
abbrev Rs := S31
abbrev Rr := S27
noncomputable abbrev rdS := rd_T31
noncomputable abbrev rdR := rd_T27
def fin (o : Bool) (e : Int) : Bool := o && (e == 0 || e == 9)
theorem ended_val (l : List Int) (o : Bool) (e s c : Int) : trace_Ended.f l o e s c = some (fin o e) := by
  unfold trace_Ended.f fin
  cases o
  · rfl
  · by_cases h : e = 0
    · subst h
      rfl
    · simp [h]
def agB (x y : Rs) : Bool := beg x.f0 y.f0 && (if fin x.f1 x.f2 = true ∧ fin y.f1 y.f2 = true then decide (x.f0.length = y.f0.length ∧ x.f2 = y.f2 ∧ x.f3 = y.f3) else if fin x.f1 x.f2 = true then decide (y.f3 ≤ x.f3 ∧ y.f0.length ≤ x.f0.length) else if fin y.f1 y.f2 = true then decide (x.f3 ≤ y.f3 ∧ x.f0.length ≤ y.f0.length) else true)
theorem beg_symm (a b : List Int) : beg a b = beg b a := by
  unfold beg
  rw [decide_eq_decide]
  exact ⟨Eq.symm, Eq.symm⟩
theorem agB_symm (x y : Rs) : agB x y = agB y x := by
  unfold agB
  rw [beg_symm]
  congr 1
  cases fin x.f1 x.f2 <;> cases fin y.f1 y.f2 <;> simp only [Bool.false_eq_true, false_and, and_false, if_false, and_self, if_true]
  rw [decide_eq_decide]
  exact ⟨fun h => ⟨h.1.symm, h.2.1.symm, h.2.2.symm⟩, fun h => ⟨h.1.symm, h.2.1.symm, h.2.2.symm⟩⟩
theorem agree_one (x y : Rs) (h : fin x.f1 x.f2 = true) : Ev (fun k => trace_agree.f k x.f0 x.f1 x.f2 x.f3 x.f4 y.f0 y.f1 y.f2 y.f3 y.f4) (agB x y) := by
  unfold agB
  cases hb : beg x.f0 y.f0 with
  | false => exact ev_some fun k => by rw [trace_agree.f.eq_2]; simp [trace_Begins.f, hb]
  | true =>
    refine ev_step (f := fun k => trace_agree.j0 k (fin y.f1 y.f2) x.f0 x.f1 x.f2 x.f3 x.f4 y.f0 y.f1 y.f2 y.f3 y.f4) (fun k => by rw [trace_agree.f.eq_2]; simp [trace_Begins.f, hb, ended_val, h]) (ev_some fun k => ?_)
    rw [trace_agree.j0.eq_2]
    cases hy : fin y.f1 y.f2 with
    | true =>
      rw [if_pos rfl, if_pos (⟨h, rfl⟩ : _ ∧ _), Bool.true_and]
      by_cases hh : x.f0.length = y.f0.length ∧ x.f2 = y.f2 ∧ x.f3 = y.f3
      · rw [decide_eq_true hh, if_pos (by omega), if_pos hh.2.1, hh.2.2, beq_self_eq_true]
      · rw [decide_eq_false hh]
        split
        · split
          · rename_i a b
            congr 1
            exact beq_eq_false_iff_ne.2 fun e => hh ⟨by omega, b, e⟩
          · rfl
        · rfl
    | false =>
      by_cases h1 : y.f3 ≤ x.f3 <;> simp [h, h1, ended_val]
theorem agree_ev (x y : Rs) : Ev (fun k => trace_agree.f k x.f0 x.f1 x.f2 x.f3 x.f4 y.f0 y.f1 y.f2 y.f3 y.f4) (agB x y) := by
  cases hx : fin x.f1 x.f2 with
  | true => exact agree_one x y hx
  | false =>
    cases hb : beg x.f0 y.f0 with
    | false =>
      have : agB x y = false := by simp [agB, hb]
      rw [this]
      exact ev_some fun k => by rw [trace_agree.f.eq_2]; simp [trace_Begins.f, hb]
    | true =>
      refine ev_step (f := fun k => trace_agree.j0 k false x.f0 x.f1 x.f2 x.f3 x.f4 y.f0 y.f1 y.f2 y.f3 y.f4) (fun k => by rw [trace_agree.f.eq_2]; simp [trace_Begins.f, hb, ended_val, hx]) ?_
      cases hy : fin y.f1 y.f2 with
      | true =>
        rw [agB_symm]
        refine ev_step (f := fun k => (trace_agree.f k y.f0 y.f1 y.f2 y.f3 y.f4 x.f0 x.f1 x.f2 x.f3 x.f4).bind fun t => some t) (fun k => by rw [trace_agree.j0.eq_2]; simp [ended_val, hx, hy]) (ev_bind (agree_one y x hy) ev_const)
      | false =>
        have : agB x y = true := by simp [agB, hb, hx, hy]
        rw [this]
        exact ev_some fun k => by rw [trace_agree.j0.eq_2]; simp [ended_val, hx, hy]
def Ag (L : List Rs) : Prop := ∀ i j : Nat, i < L.length → j < i → agB (rdS L i) (rdS L j) = true
open Classical in
noncomputable def ag (L : List Rs) : Bool := decide (Ag L)
theorem rd_take (L : List Rs) (i j : Nat) (h : j < i) : rdS (L.take i) j = rdS L j := by
  unfold rdS rd_T31
  rw [Int.toNat_natCast, List.getD_eq_getElem?_getD, List.getD_eq_getElem?_getD, List.getElem?_take, if_pos h]
theorem w1 {i : Int} (h0 : 0 ≤ i) (h : i < 9223372036854775807) : wrap64 (i + 1) = i + 1 := by unfold wrap64; omega
theorem Agree_ev (L : List Rs) (hl : (L.length : Int) ≤ 9223372036854775807) : Ev (fun k => trace_Agree.f k L) (ag L) := by
  classical
  let ok : Int → Prop := fun i => ∀ j : Nat, (j : Int) < i → agB (rdS L i) (rdS L j) = true
  have L1 : ∀ (i : Nat), i < L.length → ∀ q : Bool, ((ok i → Ev (fun k => trace_Agree.l0 k L L L.length (i + 1 : Int)) q) ∧ (¬ ok i → q = false)) → Ev (fun k => trace_Agree.l1 k L L L.length i (L.take i) i 0 (rdS L i).f0 (rdS L i).f1 (rdS L i).f2 (rdS L i).f3 (rdS L i).f4) q := by
    intro i hi q hq
    have S1 : ∀ j q, 0 ≤ j → j < (i : Int) → agB (rdS L i) (rdS L j) = true → Ev (fun k => trace_Agree.l1 k L L L.length i (L.take i) i (j + 1) (rdS L i).f0 (rdS L i).f1 (rdS L i).f2 (rdS L i).f3 (rdS L i).f4) q → Ev (fun k => trace_Agree.l1 k L L L.length i (L.take i) i j (rdS L i).f0 (rdS L i).f1 (rdS L i).f2 (rdS L i).f3 (rdS L i).f4) q := by
      intro j q j0 j1 h he
      obtain ⟨n, rfl⟩ := Int.eq_ofNat_of_zero_le j0
      have hln : (L.take i).length = i := by rw [List.length_take]; omega
      refine ev_step (f := fun k => (trace_agree.f k (rdS L i).f0 (rdS L i).f1 (rdS L i).f2 (rdS L i).f3 (rdS L i).f4 (rdS (L.take i) n).f0 (rdS (L.take i) n).f1 (rdS (L.take i) n).f2 (rdS (L.take i) n).f3 (rdS (L.take i) n).f4).bind fun t => if t = true then trace_Agree.l1 k L L L.length i (L.take i) i (n + 1) (rdS L i).f0 (rdS L i).f1 (rdS L i).f2 (rdS L i).f3 (rdS L i).f4 else some false) (fun k => ?_) (ev_bind (agree_ev (rdS L i) (rdS (L.take i) n)) ?_)
      · show trace_Agree.l1 (k + 1) _ _ _ _ _ _ _ _ _ _ _ _ = _
        rw [trace_Agree.l1.eq_2, if_pos j1, if_pos j0, if_pos (by rw [hln]; exact j1), w1 j0 (by omega)]
      · rw [rd_take L i n (by omega), h]
        exact Ev.congr (fun k => if_pos rfl) he
    have S2 : ∀ j, 0 ≤ j → j < (i : Int) → ¬ agB (rdS L i) (rdS L j) = true → Ev (fun k => trace_Agree.l1 k L L L.length i (L.take i) i j (rdS L i).f0 (rdS L i).f1 (rdS L i).f2 (rdS L i).f3 (rdS L i).f4) false := by
      intro j j0 j1 h
      obtain ⟨n, rfl⟩ := Int.eq_ofNat_of_zero_le j0
      have hln : (L.take i).length = i := by rw [List.length_take]; omega
      refine ev_step (f := fun k => (trace_agree.f k (rdS L i).f0 (rdS L i).f1 (rdS L i).f2 (rdS L i).f3 (rdS L i).f4 (rdS (L.take i) n).f0 (rdS (L.take i) n).f1 (rdS (L.take i) n).f2 (rdS (L.take i) n).f3 (rdS (L.take i) n).f4).bind fun t => if t = true then trace_Agree.l1 k L L L.length i (L.take i) i (n + 1) (rdS L i).f0 (rdS L i).f1 (rdS L i).f2 (rdS L i).f3 (rdS L i).f4 else some false) (fun k => ?_) (ev_bind (agree_ev (rdS L i) (rdS (L.take i) n)) ?_)
      · show trace_Agree.l1 (k + 1) _ _ _ _ _ _ _ _ _ _ _ _ = _
        rw [trace_Agree.l1.eq_2, if_pos j1, if_pos j0, if_pos (by rw [hln]; exact j1), w1 j0 (by omega)]
      · rw [rd_take L i n (by omega)]
        exact Ev.congr (fun k => if_neg h) ev_const
    by_cases hk : ok i
    · refine scan0_good (fun k j => trace_Agree.l1 k L L L.length i (L.take i) i j (rdS L i).f0 (rdS L i).f1 (rdS L i).f2 (rdS L i).f3 (rdS L i).f4) i q (fun j => agB (rdS L i) (rdS L j) = true) (by omega) S1 (ev_step (fun k => ?_) (hq.1 hk)) (fun j j0 j1 => ?_)
      · show trace_Agree.l1 (k + 1) _ _ _ _ _ _ _ _ _ _ _ _ = _
        rw [trace_Agree.l1.eq_2, if_neg (by omega), w1 (by omega) (by omega)]
      · obtain ⟨n, rfl⟩ := Int.eq_ofNat_of_zero_le j0
        exact hk n j1
    · rw [hq.2 hk]
      refine scan0_bad (fun k j => trace_Agree.l1 k L L L.length i (L.take i) i j (rdS L i).f0 (rdS L i).f1 (rdS L i).f2 (rdS L i).f3 (rdS L i).f4) i false (fun j => agB (rdS L i) (rdS L j) = true) (by omega) S1 S2 (fun h => hk fun j hj => h j (by omega) hj)
  have L0 : ∀ i : Nat, i < L.length → ∀ q, Ev (fun k => trace_Agree.l1 k L L L.length i (L.take i) i 0 (rdS L i).f0 (rdS L i).f1 (rdS L i).f2 (rdS L i).f3 (rdS L i).f4) q → Ev (fun k => trace_Agree.l0 k L L L.length i) q := by
    intro i hi q he
    refine ev_step (fun k => ?_) he
    have hln : (L.take i).length = i := by rw [List.length_take]; omega
    show trace_Agree.l0 (k + 1) _ _ _ _ = _
    rw [trace_Agree.l0.eq_2, if_pos (by omega), if_pos (by omega), if_pos (by omega), if_pos (by omega), Option.bind_some, Int.toNat_natCast, hln]
  have H1 : ∀ i q, 0 ≤ i → i < (L.length : Int) → ok i → Ev (fun k => trace_Agree.l0 k L L L.length (i + 1)) q → Ev (fun k => trace_Agree.l0 k L L L.length i) q := by
    intro i q i0 i1 hk he
    obtain ⟨n, rfl⟩ := Int.eq_ofNat_of_zero_le i0
    exact L0 n (by omega) q (L1 n (by omega) q ⟨fun _ => he, fun h => absurd hk h⟩)
  have H2 : ∀ i, 0 ≤ i → i < (L.length : Int) → ¬ ok i → Ev (fun k => trace_Agree.l0 k L L L.length i) false := by
    intro i i0 i1 hk
    obtain ⟨n, rfl⟩ := Int.eq_ofNat_of_zero_le i0
    exact L0 n (by omega) false (L1 n (by omega) false ⟨fun h => absurd h hk, fun _ => rfl⟩)
  by_cases h : Ag L
  · rw [show ag L = true from decide_eq_true h]
    refine scan0_good (fun k i => trace_Agree.l0 k L L L.length i) L.length true ok (by omega) H1 (ev_some fun k => ?_) (fun i i0 i1 j hj => ?_)
    · rw [trace_Agree.l0.eq_2, if_neg (by omega)]
    · obtain ⟨n, rfl⟩ := Int.eq_ofNat_of_zero_le i0
      exact h n j (by omega) (by omega)
  · rw [show ag L = false from decide_eq_false h]
    refine scan0_bad (fun k i => trace_Agree.l0 k L L L.length i) L.length false ok (by omega) H1 H2 (fun hh => h fun i j hi hj => hh i (by omega) (by omega) j (by omega))
theorem Agree_c (w : World) (A0 : Option Addr) (c0 : Nat) (L : List Rs) (h0 : Kd.C k31 w A0 L.length L) (hc0 : L.length ≤ c0) :
    Calls Tryd.prog 17 #[.slice A0 L.length c0] w fun e w' => e = .returned (.bool (ag L)) ∧ Below w.heap.size w w' := by
  obtain ⟨k, hk⟩ := ev_at (Agree_ev L (by have := Kd.C_max h0; omega))
  exact trace_Agree.calls k A0 c0 L _ w h0 hc0 hk
end Go.Proofs.YtfkfpcciacplkaaDoor.TRP

namespace Go.Proofs.YtfkfpcciacplkaaDoor.TRP
open Go.RowKit Go.Proofs.YtfkfpcciacplkaaDoorW.PrintWords Go.Proofs.YtfkfpcciacplkaaDoor.Scan Go.Proofs.YtfkfpcciacplkaaDoor.F Go.Proofs.YtfkfpcciacplkaaDoor.T Go.Proofs.YtfkfpcciacplkaaDoor.TRB Go.Proofs.YtfkfpcciacplkaaDoor.TRL Go.Proofs.YtfkfpcciacplkaaDoor.TRA
set_option linter.unusedVariables false
set_option linter.unusedSimpArgs false
def twB (x y : Rs) : Bool := beg x.f0 y.f0 && (if fin x.f1 x.f2 = true then (if x.f3 < y.f3 ∨ x.f0.length < y.f0.length then false else if fin y.f1 y.f2 = true then decide (x.f2 = y.f2 ∧ x.f3 = y.f3 ∧ x.f0.length = y.f0.length) else true) else true)
def Few22 (L : List Rr) : Prop := (∀ i : Int, 0 ≤ i → i < L.length → ((rdR L i).f0.length : Int) ≤ 60) ∧ L.length ≤ 8
open Classical in
theorem few22_ev (L : List Rr) (hl : (L.length : Int) ≤ 9223372036854775807) : Ev (fun k => lockstitchlaw22_few.f k L) (decide (Few22 L)) := by
  have H1 : ∀ i q, 0 ≤ i → i < (L.length : Int) → ((rdR L i).f0.length : Int) ≤ 60 → Ev (fun k => lockstitchlaw22_few.l0 k L L L.length (i + 1)) q → Ev (fun k => lockstitchlaw22_few.l0 k L L L.length i) q := by
    intro i q i0 i1 h he
    refine ev_step (fun k => ?_) he
    show lockstitchlaw22_few.l0 (k + 1) _ _ _ _ = _
    rw [lockstitchlaw22_few.l0, if_pos i1, if_pos i0, if_pos i1, if_neg (by show ¬ ((rdR L i).f0.length : Int) > 60; omega), w1 i0 (by omega)]
  have H2 : ∀ i, 0 ≤ i → i < (L.length : Int) → ¬ ((rdR L i).f0.length : Int) ≤ 60 → Ev (fun k => lockstitchlaw22_few.l0 k L L L.length i) false := by
    intro i i0 i1 h
    refine ev_some fun k => ?_
    rw [lockstitchlaw22_few.l0, if_pos i1, if_pos i0, if_pos i1, if_pos (by show ((rdR L i).f0.length : Int) > 60; omega)]
  by_cases h : ∀ i : Int, 0 ≤ i → i < L.length → ((rdR L i).f0.length : Int) ≤ 60
  · rw [show decide (Few22 L) = decide ((L.length : Int) ≤ 8) by rw [decide_eq_decide]; exact ⟨fun q => by have := q.2; omega, fun q => ⟨h, by omega⟩⟩]
    refine scan0_good (fun k i => lockstitchlaw22_few.l0 k L L L.length i) L.length _ _ (by omega) H1 (ev_some fun k => ?_) h
    rw [lockstitchlaw22_few.l0, if_neg (by omega)]
  · rw [decide_eq_false (fun q : Few22 L => h q.1)]
    exact scan0_bad (fun k i => lockstitchlaw22_few.l0 k L L L.length i) L.length false _ (by omega) H1 H2 h
end Go.Proofs.YtfkfpcciacplkaaDoor.TRP

namespace Go.Proofs.YtfkfpcciacplkaaDoor.TRC
open Go.RowKit Go.Proofs.YtfkfpcciacplkaaDoorW.PrintWords Go.Proofs.YtfkfpcciacplkaaDoor.Scan Go.Proofs.YtfkfpcciacplkaaDoor.F Go.Proofs.YtfkfpcciacplkaaDoor.T Go.Proofs.YtfkfpcciacplkaaDoor.ST0 Go.Proofs.YtfkfpcciacplkaaDoor.TRB Go.Proofs.YtfkfpcciacplkaaDoor.TRL Go.Proofs.YtfkfpcciacplkaaDoor.TRA Go.Proofs.YtfkfpcciacplkaaDoor.TRP
set_option linter.unusedVariables false
set_option linter.unusedSimpArgs false
set_option linter.unusedSectionVars false
theorem C_row {α : Type} (d : Kd α) {W : World} {g : Nat} {t : TypeId} {inner : List Value} {ps : List α} (hg : W.heap[g]? = some (.cells inner.toArray t (0, 0))) (hr : Reps (d.K W) d.sz ps inner) (hm : ps.length ≤ 9223372036854775807) : d.C W (some ⟨g, 0, none⟩) ps.length ps := by
  refine ⟨rfl, hm, fun _ => ⟨⟨g, 0, none⟩, rfl, fun j p hj => ⟨(inner.drop (j * d.sz)).take d.sz, ?_, hr.2 j p hj, fun i u hu => ?_⟩⟩⟩
  · have hl := (List.getElem?_eq_some_iff.1 hj).1
    have : j * d.sz + d.sz ≤ ps.length * d.sz := by rw [← Nat.succ_mul]; exact Nat.mul_le_mul_right _ hl
    rw [List.length_take, List.length_drop, hr.1]
    omega
  · have e : (⟨g, 0, none⟩ : Addr).add (j * d.sz + i) = ⟨g, j * d.sz + i, none⟩ := by
      unfold Addr.add
      split
      · rename_i h
        rw [h]
      · simp
    rw [List.getElem?_take] at hu
    split at hu
    · rw [List.getElem?_drop] at hu
      rw [e, cell_of_row _ _ _ _ _ _ hg]
      simpa using hu
    · cases hu
theorem C_ints {k : IntKind} {W : World} {g : Nat} {t : TypeId} (l : List Int) (hm : l.length ≤ 9223372036854775807) (hg : W.heap[g]? = some (.cells (encs (Value.int k) l).toArray t (0, 0))) : Kd.C (Kd.int k) W (some ⟨g, 0, none⟩) l.length l := C_row (Kd.int k) hg (Kd.reps_scalar l) hm
def ra : Rs := ⟨[1], false, 0, 3, 0⟩
def rb : Rs := ⟨[1, 2], true, 0, 5, 0⟩
def rc : Rs := ⟨[2], false, 0, 3, 0⟩
theorem ag2_ : Ag [ra, rb] := by
  intro i j hi hj
  obtain ⟨rfl, rfl⟩ : i = 1 ∧ j = 0 := by have : [ra, rb].length = 2 := rfl; omega
  show agB rb ra = true
  decide
theorem ag3_ : ¬ Ag [ra, rb, rc] := by
  intro hh
  have := hh 2 0 (by decide) (by decide)
  have : agB rc ra = true := this
  exact absurd this (by decide)
section
variable (W : World) (g h i : Nat) (t : TypeId) (hg : W.heap[g]? = some (.cells #[.int .i64 1] t (0, 0))) (hh : W.heap[h]? = some (.cells #[.int .i64 1, .int .i64 2] t (0, 0))) (hi : W.heap[i]? = some (.cells #[.int .i64 2] t (0, 0)))
include hg hh
abbrev cA (g : Nat) : List Value := [.slice (some ⟨g, 0, none⟩) 1 1, .bool false, .int .i64 0, .int .i64 3, .int .i64 0]
abbrev cB (g : Nat) : List Value := [.slice (some ⟨g, 0, none⟩) 2 2, .bool true, .int .i64 0, .int .i64 5, .int .i64 0]
theorem KA : k31.K W ra (cA g) := k31_mk W ra (Nat.le_refl _) (C_ints [1] (by decide) hg)
theorem KB : k31.K W rb (cB h) := k31_mk W rb (Nat.le_refl _) (C_ints [1, 2] (by decide) hh)
theorem reps2 (R : Rs → List Value → Prop) (x y : Rs) (cx cy : List Value) (hx : R x cx) (hy : R y cy) (lx : cx.length = 5) (ly : cy.length = 5) : Reps R 5 [x, y] (cx ++ cy) := ((Reps.none R 5).snoc hx lx).snoc hy ly
theorem row2 (A : World) (hA : A = W.alloc (.cells (cA g ++ cB h).toArray 31)) : Kd.C k31 A (some ⟨W.heap.size, 0, none⟩) 2 [ra, rb] := by
  subst hA
  have hb : Below W.heap.size W (W.alloc (.cells (cA g ++ cB h).toArray 31)) := below_alloc (Below.refl _ _) _
  exact C_row k31 (heap_alloc_new W _) (reps2 W g h t hg hh _ ra rb _ _ (KA _ g h t ((hb.block g (blk_lt hg)).trans hg) ((hb.block h (blk_lt hh)).trans hh)) (KB _ g h t ((hb.block g (blk_lt hg)).trans hg) ((hb.block h (blk_lt hh)).trans hh)) rfl rfl) (by decide)
theorem ag2_c : Calls Tryd.prog 17 #[.slice (some ⟨W.heap.size, 0, none⟩) 2 2] (W.alloc (.cells #[.slice (some ⟨g, 0, none⟩) 1 1, .bool false, .int .i64 0, .int .i64 3, .int .i64 0, .slice (some ⟨h, 0, none⟩) 2 2, .bool true, .int .i64 0, .int .i64 5, .int .i64 0] 31)) fun e w' => e = .returned (.bool true) ∧ Below W.heap.size W w' := by
  refine (Agree_c _ _ 2 [ra, rb] (row2 W g h t hg hh _ rfl) (Nat.le_refl _)).mono fun e w' q => ⟨?_, below_step (below_alloc (Below.refl _ _) _) q.2⟩
  rw [q.1, show ag [ra, rb] = true from by classical exact decide_eq_true (ag2_)]
theorem lng2_c : Calls Tryd.prog 22 #[.slice (some ⟨W.heap.size, 0, none⟩) 2 2] (W.alloc (.cells #[.slice (some ⟨g, 0, none⟩) 1 1, .bool false, .int .i64 0, .int .i64 3, .int .i64 0, .slice (some ⟨h, 0, none⟩) 2 2, .bool true, .int .i64 0, .int .i64 5, .int .i64 0] 31)) fun e w' => e = .returned (.int .i64 1) ∧ Below W.heap.size W w' := by
  refine (longest_c _ _ 2 [ra, rb] (row2 W g h t hg hh _ rfl) (Nat.le_refl _)).mono fun e w' q => ⟨?_, below_step (below_alloc (Below.refl _ _) _) q.2⟩
  have h1 : lng [ra, rb] 1 = 0 := if_pos (.inl (by decide))
  have h2 : lng [ra, rb] 2 = 1 := if_pos (.inr (by rw [h1]; show (5 : Int) > 3; decide))
  rw [q.1]
  show Ending.returned (.int .i64 (lng [ra, rb] 2)) = _
  rw [h2]
include hi
theorem ag3_c : Calls Tryd.prog 17 #[.slice (some ⟨W.heap.size, 0, none⟩) 3 3] (W.alloc (.cells #[.slice (some ⟨g, 0, none⟩) 1 1, .bool false, .int .i64 0, .int .i64 3, .int .i64 0, .slice (some ⟨h, 0, none⟩) 2 2, .bool true, .int .i64 0, .int .i64 5, .int .i64 0, .slice (some ⟨i, 0, none⟩) 1 1, .bool false, .int .i64 0, .int .i64 3, .int .i64 0] 31)) fun e w' => e = .returned (.bool false) ∧ Below W.heap.size W w' := by
  have hb : Below W.heap.size W (W.alloc (.cells (cA g ++ cB h ++ cA i).toArray 31)) := below_alloc (Below.refl _ _) _
  have g' := (hb.block g (blk_lt hg)).trans hg
  have h' := (hb.block h (blk_lt hh)).trans hh
  have i' := (hb.block i (blk_lt hi)).trans hi
  have kc : k31.K (W.alloc (.cells (cA g ++ cB h ++ cA i).toArray 31)) rc (cA i) := k31_mk _ rc (Nat.le_refl _) (C_ints [2] (by decide) i')
  have hC : Kd.C k31 (W.alloc (.cells (cA g ++ cB h ++ cA i).toArray 31)) (some ⟨W.heap.size, 0, none⟩) 3 [ra, rb, rc] := C_row k31 (heap_alloc_new W _) ((reps2 W g h t hg hh _ ra rb _ _ (KA _ g h t g' h') (KB _ g h t g' h') rfl rfl).snoc kc rfl) (by decide)
  refine (Agree_c _ _ 3 [ra, rb, rc] hC (Nat.le_refl _)).mono fun e w' q => ⟨?_, below_step (below_alloc (Below.refl _ _) _) q.2⟩
  rw [q.1, show ag [ra, rb, rc] = false from by classical exact decide_eq_false ag3_]
end
theorem lng0_c (w : World) : Calls Tryd.prog 22 #[.slice none 0 0] w fun e w' => e = .returned (.int .i64 (-1)) ∧ Below w.heap.size w w' :=
  (longest_c w none 0 [] ⟨rfl, by decide, fun h => absurd h (by decide)⟩ (Nat.le_refl _)).mono fun e w' q => ⟨q.1, q.2⟩
theorem beg0_c (W : World) (i : Nat) (t : TypeId) (hi : W.heap[i]? = some (.cells #[.int .i64 2] t (0, 0))) : Calls Tryd.prog 20 #[.slice none 0 0, .slice (some ⟨i, 0, none⟩) 1 1] W fun e w' => e = .returned (.bool true) ∧ Below W.heap.size W w' := by
  refine (begins_c W none 0 [] (some ⟨i, 0, none⟩) 1 [2] ⟨rfl, by decide, fun h => absurd h (by decide)⟩ (Nat.le_refl _) (C_ints [2] (by decide) hi) (Nat.le_refl _)).mono fun e w' q => ⟨?_, (Drawn0.mk q.2).below⟩
  rw [q.1]
  rfl
theorem ended_c (w : World) (A : Option Addr) (c : Nat) (l : List Int) (o : Bool) (e s y : Int) (h : Kd.C (Kd.int .i64) w A l.length l) (hc : l.length ≤ c) : Calls Tryd.prog 14 #[.agg #[.slice A l.length c, .bool o, .int .i64 e, .int .i64 s, .int .i64 y]] w fun x w' => x = .returned (.bool (fin o e)) ∧ Below w.heap.size w w' :=
  trace_Ended.calls A c l o e s y _ w h hc (ended_val l o e s y)
end Go.Proofs.YtfkfpcciacplkaaDoor.TRC

namespace Go.Proofs.YtfkfpcciacplkaaDoor.DO1
open Go.RowKit Go.Proofs.YtfkfpcciacplkaaDoorW.PrintWords Go.Proofs.YtfkfpcciacplkaaDoorW.PrintLast Go.Proofs.YtfkfpcciacplkaaDoorW.PrintMore Go.Proofs.YtfkfpcciacplkaaDoor.F Go.Proofs.YtfkfpcciacplkaaDoor.KP Go.Proofs.YtfkfpcciacplkaaDoor.CR Go.Proofs.YtfkfpcciacplkaaDoor.SH Go.Proofs.YtfkfpcciacplkaaDoor.FM Go.Proofs.YtfkfpcciacplkaaDoor.ST0 Go.Proofs.YtfkfpcciacplkaaDoor.PL Go.Proofs.YtfkfpcciacplkaaDoor.TRC Go.Proofs.YtfkfpcciacplkaaDoor.TRB Go.Proofs.YtfkfpcciacplkaaDoor.T Go.Proofs.YtfkfpcciacplkaaDoor.TRP
set_option linter.unusedVariables false
set_option linter.unusedSectionVars false
set_option linter.unusedSimpArgs false
def iP : S68 := ⟨14, 0, 0, 0, 0⟩
def pP (g h : Nat) : Pg := ⟨some ⟨g, 0, none⟩, 1, [⟨#[105]⟩], ByteArray.empty, ByteArray.empty, some ⟨h, 0, none⟩, 1, [iP]⟩
theorem pP_on (w : World) (g h : Nat) (s t : TypeId) (hg : w.heap[g]? = some (.cells #[.string ⟨#[105]⟩] s (0, 0))) (hh : w.heap[h]? = some (.cells #[.int .u8 14, .int .u8 0, .int .u8 0, .int .u8 0, .int .i64 0] t (0, 0))) (hot : OT w) : (pP g h).On w where
  hT := C_row Kd.string hg (Kd.reps_scalar (enc := Value.string) [⟨#[105]⟩]) (by show (1 : Nat) ≤ 9223372036854775807; decide)
  hc0 := Nat.le_refl _
  hC := C_row k68 hh ((Reps.none (k68.K w) 5).snoc (k68_mk w iP) rfl) (by show (1 : Nat) ≤ 9223372036854775807; decide)
  hc3 := Nat.le_refl _
  hs := fun s hs => by
    obtain rfl : s = ⟨#[105]⟩ := by simpa [pP] using hs
    decide
  hla := Nat.zero_le _
  hgl := Nat.zero_le _
  hw := fun x hx => by
    obtain rfl : x = iP := by simpa [pP] using hx
    exact ⟨by decide, by decide, by decide, by decide, by decide⟩
  ot := hot
theorem refs_nil (s : ByteArray) (hs : s = ⟨#[105]⟩) : refs [s] ByteArray.empty = true := by
  subst hs
  rw [refs_iff]
  refine ⟨⟨fun i h0 h1 => ?_, by decide, by decide⟩, fun j h0 h1 => ?_⟩
  · obtain rfl : i = 0 := by
      have : (([⟨#[105]⟩] : List ByteArray).length : Int) = 1 := rfl
      omega
    refine ⟨by decide, by decide, fun j j0 j1 => ?_⟩
    obtain rfl : j = 0 := by
      have : ((rdOf ByteArray.empty [(⟨#[105]⟩ : ByteArray)] 0).size : Int) = 1 := rfl
      omega
    exact .inl rfl
  · have : ((ByteArray.empty).size : Int) = 0 := rfl
    omega
theorem pP_sp (g h : Nat) : SpP (pP g h) where
  refs := ⟨refs_nil _ rfl, refs_nil _ rfl⟩
  locals := Nat.zero_le _
  globals := Nat.zero_le _
  len := ⟨Nat.le_refl 1, by show (1 : Nat) ≤ 200; decide⟩
  all := fun j hj => by
    obtain rfl : j = 0 := by
      have : (pP g h).code.length = 1 := rfl
      omega
    refine ⟨14, rfl, by decide, by show rightB 14 0 0 0 0 = true; decide, fun h => by omega, by show intsB 14 0 0 0 = true; decide, ?_⟩
    unfold KindsP
    refine ⟨fun h => ?_, fun h => ?_, fun h => ?_, fun h => ?_, fun h => ?_, fun h => ?_, fun h => ?_, fun h => ?_, fun h => ?_⟩ <;> omega
theorem pP_check (w : World) (g h : Nat) (hp : (pP g h).On w) : Calls Tryd.prog 41 #[(pP g h).v] w fun e w' => e = .returned (.tuple #[.int .i64 (-1), .int .i64 0]) ∧ Below w.heap.size w w' := by
  refine (pCheck_c (pP g h) w hp).mono ?_
  rintro e w' ⟨r, er, rfl, h1, h2, h3⟩
  obtain rfl := h1.2 (pP_sp g h)
  obtain rfl := h2 rfl
  exact ⟨rfl, h3⟩
set_option maxHeartbeats 4000000 in
set_option maxRecDepth 100000 in
theorem run1_c (w : World) (g h : Nat) (s t : TypeId) (hg : w.heap[g]? = some (.cells #[.string ⟨#[105]⟩] s (0, 0))) (hh : w.heap[h]? = some (.cells #[.int .u8 14, .int .u8 0, .int .u8 0, .int .u8 0, .int .i64 0] t (0, 0))) (hot : OT w) :
    Calls Tryd.prog 37 #[.agg #[.slice (some ⟨g, 0, none⟩) 1 1, .string ByteArray.empty, .string ByteArray.empty, .slice (some ⟨h, 0, none⟩) 1 1], .int .i64 1] w fun e w' => ∃ A c, e = .returned (.tuple #[.slice A 1 c, .int .i64 0]) ∧ 1 ≤ c ∧ Kd.C (Kd.int .i64) w' A 1 [0] ∧ Below w.heap.size w w' := by
  have CH := Aside0.mk (show ∀ W, Below w.heap.size w W → Calls Tryd.prog 41 #[.agg #[.slice (some ⟨g, 0, none⟩) 1 1, .string ByteArray.empty, .string ByteArray.empty, .slice (some ⟨h, 0, none⟩) 1 1]] W fun e w' => e = .returned (.tuple #[.int .i64 (-1), .int .i64 0]) ∧ Below W.heap.size W w' from fun W hW => pP_check W g h ((pP_on w g h s t hg hh hot).below hW))
  have HH := Aside0.mk hh
  have hw := blk_lt hh
  clear hg hh hot
  have HW := Aside0.mk (Below.refl w.heap.size w)
  go_enter Tryd.func37, Tryd.ntmps37
  go_wp2_with (go_at_call 41; (with_reducible refine (CH.out _ ?side1).mono ?_); (case side1 => exact below_alloc HW.out _); rintro e w1 ⟨rfl, hb1⟩; have R0 := (hb1.block w.heap.size (by simp)).trans (heap_alloc_new w _); have kR := fun j => cell_of_row w1 w.heap.size j _ _ _ R0; have HW := Aside0.mk (below_step (below_alloc HW.out _) hb1); clear hb1)
  obtain ⟨B, hB⟩ : ∃ B, B = w1.heap.size := ⟨_, rfl⟩
  obtain ⟨W0, hW0⟩ : ∃ W0 : World, W0 = w1.alloc (.cells (stR (.slice none 0 0) 0 0) 88) := ⟨_, rfl⟩
  have HRB := Aside0.mk (show W0.heap[B]? = some (.cells (stR (.slice none 0 0) 0 0) 88 (0, 0)) by rw [hW0, hB]; exact heap_alloc_new _ _)
  have HRP := Aside0.mk (show W0.heap[w.heap.size]? = some (.cells #[.slice (some ⟨g, 0, none⟩) 1 1, .string ByteArray.empty, .string ByteArray.empty, .slice (some ⟨h, 0, none⟩) 1 1] 46 (0, 0)) by rw [hW0]; exact row_old _ _ _ (blk_lt R0) R0)
  have HBW := Aside0.mk (show w.heap.size < B by rw [hB]; exact blk_lt R0)
  have HW := Aside0.mk (show Below w.heap.size w W0 by rw [hW0]; exact below_alloc HW.out _)
  have HHB := Aside0.mk (show h < B by rw [hB]; exact Nat.lt_trans hw (blk_lt R0))
  rw [← hB, ← hW0]
  clear hW0 kR R0 CH hB
  go_loopw [1] (fun f wr => (f = .int .i64 1 ∧ Aside0 (wr.heap[B]? = some (.cells (stR (.slice none 0 0) 0 0) 88 (0, 0))) ∧ Aside0 (wr.heap[w.heap.size]? = some (.cells #[.slice (some ⟨g, 0, none⟩) 1 1, .string ByteArray.empty, .string ByteArray.empty, .slice (some ⟨h, 0, none⟩) 1 1] 46 (0, 0))) ∧ Aside0 (Below w.heap.size w wr)) ∨ (f = .int .i64 0 ∧ ∃ A c, Aside0 (1 ≤ c) ∧ Aside0 (wr.heap[B]? = some (.cells (stR (.slice A 1 c) 1 1) 88 (0, 0))) ∧ Aside0 (Kd.C (Kd.int .i64) wr A 1 [0]) ∧ Aside0 (wr.heap[w.heap.size]? = some (.cells #[.slice (some ⟨g, 0, none⟩) 1 1, .string ByteArray.empty, .string ByteArray.empty, .slice (some ⟨h, 0, none⟩) 1 1] 46 (0, 0))) ∧ Aside0 (Below w.heap.size w wr))) (fun f _ => (intOf f).toNat)
  case atStart => exact .inl ⟨rfl, HRB, HRP, HW⟩
  case round =>
    clear HRB HRP HW
    rcases hrel with ⟨rfl, HRB, HRP, HW⟩ | ⟨rfl, A, c, HC, HRB, HK, HRP, HW⟩
    · obtain ⟨wo, rfl⟩ : ∃ wo : World, wo = wr := ⟨_, rfl⟩
      have kB := fun j => cell_of_row wo B j _ _ _ HRB.out
      have kP := fun j => cell_of_row wo w.heap.size j _ _ _ HRP.out
      have RH := (HW.out.block h hw).trans HH.out
      have kH := fun j => cell_of_row wo h j _ _ _ RH
      have HRH := Aside0.mk RH
      clear RH
      have p0 : wo.cell? ⟨w.heap.size, 0, none⟩ = some (.slice (some ⟨g, 0, none⟩) 1 1) := (kP 0).trans rfl
      have p1 : wo.cell? ⟨w.heap.size, 1, none⟩ = some (.string ByteArray.empty) := (kP 1).trans rfl
      have p2 : wo.cell? ⟨w.heap.size, 2, none⟩ = some (.string ByteArray.empty) := (kP 2).trans rfl
      have p3 : wo.cell? ⟨w.heap.size, 3, none⟩ = some (.slice (some ⟨h, 0, none⟩) 1 1) := (kP 3).trans rfl
      have b22 : wo.cell? ⟨B, 22, none⟩ = some (.int .i64 0) := (kB 22).trans rfl
      have i0 : wo.cell? ⟨h, 0, none⟩ = some (.int .u8 14) := (kH 0).trans rfl
      have i1 : wo.cell? ⟨h, 1, none⟩ = some (.int .u8 0) := (kH 1).trans rfl
      have i2 : wo.cell? ⟨h, 2, none⟩ = some (.int .u8 0) := (kH 2).trans rfl
      have i3 : wo.cell? ⟨h, 3, none⟩ = some (.int .u8 0) := (kH 3).trans rfl
      have i4 : wo.cell? ⟨h, 4, none⟩ = some (.int .i64 0) := (kH 4).trans rfl
      go_wp2
      clear kB kP kH
      go_still_tail 7, (by kernel_rfl)
      go_wp2_with (go_at_call 49; ((with_reducible refine (do_print _ B _ _ _ _ _ _ _ _ ?side1).mono ?_); (case side1 => exact HRB.out); rintro e w2 ⟨rfl, A, c, hc, hrow, hk, hb⟩; have HC := Aside0.mk hc; have HRB := Aside0.mk hrow; have HK := Aside0.mk hk; have HB := Aside0.mk hb; have kB := fun j => cell_of_row w2 B j _ _ _ hrow; clear hc hrow hk hb))
      refine ⟨.inr ⟨rfl, A, c, HC, HRB, HK, ⟨(HB.out.block w.heap.size HBW.out).trans HRP.out⟩, ⟨(below_drew1 HW.out).trans (HB.out.mono (Nat.le_of_lt HBW.out))⟩⟩, ?_⟩
      simp [intOf]
    · obtain ⟨wo, rfl⟩ : ∃ wo : World, wo = wr := ⟨_, rfl⟩
      have kB := fun j => cell_of_row wo B j _ _ _ HRB.out
      have kP := fun j => cell_of_row wo w.heap.size j _ _ _ HRP.out
      go_wp2
      go_ret2
      exact ⟨A, c, rfl, HC.out, HK.out, HW.out⟩
theorem equal_n (w : World) (A0 : Option Addr) (n0 c0 : Nat) (l0 : List Int) (A1 : Option Addr) (n1 c1 : Nat) (l1 : List Int) (b : Bool) (hb : decide (l0 = l1) = b) (e0 : l0.length = n0) (e1 : l1.length = n1) (h0 : Kd.C (Kd.int .i64) w A0 n0 l0) (hc0 : n0 ≤ c0) (h1 : Kd.C (Kd.int .i64) w A1 n1 l1) (hc1 : n1 ≤ c1) :
    Calls Tryd.prog 36 #[.slice A0 n0 c0, .slice A1 n1 c1] w fun e w' => e = .returned (.bool b) ∧ ∃ n, w' = w.drewN n := by
  subst e0 e1
  exact equal_c w A0 c0 l0 A1 c1 l1 b hb h0 hc0 h1 hc1
theorem ended_n (w : World) (A : Option Addr) (n c : Nat) (l : List Int) (o : Bool) (e s y : Int) (b : Bool) (hb : fin o e = b) (el : l.length = n) (h : Kd.C (Kd.int .i64) w A n l) (hc : n ≤ c) : Calls Tryd.prog 14 #[.agg #[.slice A n c, .bool o, .int .i64 e, .int .i64 s, .int .i64 y]] w fun x w' => x = .returned (.bool b) ∧ Below w.heap.size w w' := by
  subst el hb
  exact ended_c w A c l o e s y h hc
set_option maxHeartbeats 4000000 in
set_option maxRecDepth 100000 in
theorem model1_c (w : World) (g h i : Nat) (s t u : TypeId) (hg : w.heap[g]? = some (.cells #[.string ⟨#[105]⟩] s (0, 0))) (hh : w.heap[h]? = some (.cells #[.int .u8 14, .int .u8 0, .int .u8 0, .int .u8 0, .int .i64 0] t (0, 0))) (hi : w.heap[i]? = some (.cells #[.int .i64 0] u (0, 0))) (hot : OT w) :
    Calls Tryd.prog 25 #[.agg #[.slice (some ⟨g, 0, none⟩) 1 1, .string ByteArray.empty, .string ByteArray.empty, .slice (some ⟨h, 0, none⟩) 1 1], .agg #[.slice (some ⟨i, 0, none⟩) 1 1, .bool true, .int .i64 0, .int .i64 1, .int .i64 0]] w fun e w' => e = .returned (.bool true) ∧ Below w.heap.size w w' := by
  have RN := Aside0.mk (show ∀ W, Below w.heap.size w W → Calls Tryd.prog 37 #[.agg #[.slice (some ⟨g, 0, none⟩) 1 1, .string ByteArray.empty, .string ByteArray.empty, .slice (some ⟨h, 0, none⟩) 1 1], .int .i64 1] W fun e w' => ∃ A c, e = .returned (.tuple #[.slice A 1 c, .int .i64 0]) ∧ 1 ≤ c ∧ Kd.C (Kd.int .i64) w' A 1 [0] ∧ Below W.heap.size W w' from fun W hW => run1_c W g h s t ((hW.block g (blk_lt hg)).trans hg) ((hW.block h (blk_lt hh)).trans hh) (OT_below hot hW))
  have HI := Aside0.mk hi
  have hiw := blk_lt hi
  clear hi
  clear hg hh hot
  have HW := Aside0.mk (Below.refl w.heap.size w)
  go_enter Tryd.func25, Tryd.ntmps25
  go_wp2_with (first
    | (go_at_call 37; (with_reducible refine (RN.out _ ?side1).mono ?_); (case side1 => exact below_alloc (below_alloc HW.out _) _); rintro e w1 ⟨A, c, rfl, hc, hk, hb1⟩; have R0 := (hb1.block (w.heap.size + 1) (by simp)).trans (row_new _ _ _ (by simp)); have kR := fun j => cell_of_row w1 (w.heap.size + 1) j _ _ _ R0; have HR0 := Aside0.mk R0; have HK := Aside0.mk hk; have HC := Aside0.mk hc; have HW := Aside0.mk (below_step (below_alloc (below_alloc HW.out _) _) hb1); clear hb1 R0 hk hc)
    | (go_at_call 36; ((with_reducible refine (equal_n _ _ 1 _ [0] _ 1 1 [0] true (by decide) rfl rfl HK.out HC.out ?side2 (Nat.le_refl _)).mono ?_); (case side2 => exact C_ints [0] (by decide) ((HW.out.block i hiw).trans HI.out))); rintro e w2 ⟨rfl, n, rfl⟩; have HW := Aside0.mk (pw_below_drewN HW.out n); have kR := fun j => cell_of_row (w1.drewN n) (w.heap.size + 1) j _ _ _ HR0.out)
    | (go_at_call 14; ((with_reducible refine (ended_n _ _ 1 1 [0] _ _ _ _ true rfl rfl ?side3 (Nat.le_refl _)).mono ?_); (case side3 => exact C_ints [0] (by decide) ((HW.out.block i hiw).trans HI.out))); rintro e w3 ⟨rfl, hb3⟩; have HR0 := Aside0.mk ((hb3.block (w.heap.size + 1) (blk_lt (row_drewN (n := n) HR0.out))).trans (row_drewN HR0.out)); have kR := fun j => cell_of_row w3 (w.heap.size + 1) j _ _ _ HR0.out; have HW := Aside0.mk (below_step HW.out hb3); clear hb3))
  go_ret
  exact ⟨rfl, HW.out⟩
set_option maxHeartbeats 4000000 in
set_option maxRecDepth 100000 in
theorem model2_c (w : World) (g h : Nat) (s t : TypeId) (hg : w.heap[g]? = some (.cells #[.string ⟨#[105]⟩] s (0, 0))) (hh : w.heap[h]? = some (.cells #[.int .u8 14, .int .u8 0, .int .u8 0, .int .u8 0, .int .i64 0] t (0, 0))) (hot : OT w) :
    Calls Tryd.prog 25 #[.agg #[.slice (some ⟨g, 0, none⟩) 1 1, .string ByteArray.empty, .string ByteArray.empty, .slice (some ⟨h, 0, none⟩) 1 1], .agg #[.slice none 0 0, .bool false, .int .i64 0, .int .i64 1, .int .i64 0]] w fun e w' => e = .returned (.bool false) ∧ Below w.heap.size w w' := by
  have RN := Aside0.mk (show ∀ W, Below w.heap.size w W → Calls Tryd.prog 37 #[.agg #[.slice (some ⟨g, 0, none⟩) 1 1, .string ByteArray.empty, .string ByteArray.empty, .slice (some ⟨h, 0, none⟩) 1 1], .int .i64 1] W fun e w' => ∃ A c, e = .returned (.tuple #[.slice A 1 c, .int .i64 0]) ∧ 1 ≤ c ∧ Kd.C (Kd.int .i64) w' A 1 [0] ∧ Below W.heap.size W w' from fun W hW => run1_c W g h s t ((hW.block g (blk_lt hg)).trans hg) ((hW.block h (blk_lt hh)).trans hh) (OT_below hot hW))
  clear hg hh hot
  have HW := Aside0.mk (Below.refl w.heap.size w)
  go_enter Tryd.func25, Tryd.ntmps25
  go_wp2_with (first
    | (go_at_call 37; (with_reducible refine (RN.out _ ?side1).mono ?_); (case side1 => exact below_alloc (below_alloc HW.out _) _); rintro e w1 ⟨A, c, rfl, hc, hk, hb1⟩; have R0 := (hb1.block (w.heap.size + 1) (by simp)).trans (row_new _ _ _ (by simp)); have kR := fun j => cell_of_row w1 (w.heap.size + 1) j _ _ _ R0; have HR0 := Aside0.mk R0; have HK := Aside0.mk hk; have HC := Aside0.mk hc; have HW := Aside0.mk (below_step (below_alloc (below_alloc HW.out _) _) hb1); clear hb1 R0 hk hc)
    | (go_at_call 36; ((with_reducible refine (equal_n _ _ 1 _ [0] _ 0 0 [] false (by decide) rfl rfl HK.out HC.out ?side2 (Nat.le_refl _)).mono ?_); (case side2 => exact ⟨rfl, by decide, fun h => absurd h (by decide)⟩)); rintro e w2 ⟨rfl, n, rfl⟩; have HW := Aside0.mk (pw_below_drewN HW.out n); have kR := fun j => cell_of_row (w1.drewN n) (w.heap.size + 1) j _ _ _ HR0.out))
  go_ret
  exact ⟨rfl, HW.out⟩
end Go.Proofs.YtfkfpcciacplkaaDoor.DO1

namespace Go.Proofs.YtfkfpcciacplkaaDoor.TAL
open Go.RowKit Go.Proofs.YtfkfpcciacplkaaDoorW.PrintWords Go.Proofs.YtfkfpcciacplkaaDoorW.PrintLast Go.Proofs.YtfkfpcciacplkaaDoorW.PrintMore Go.Proofs.YtfkfpcciacplkaaDoor.F Go.Proofs.YtfkfpcciacplkaaDoor.KP Go.Proofs.YtfkfpcciacplkaaDoor.CR Go.Proofs.YtfkfpcciacplkaaDoor.ST0 Go.Proofs.YtfkfpcciacplkaaDoor.TRC Go.Proofs.YtfkfpcciacplkaaDoor.TRB Go.Proofs.YtfkfpcciacplkaaDoor.T Go.Proofs.YtfkfpcciacplkaaDoor.TRP Go.Proofs.YtfkfpcciacplkaaDoor.DO1
set_option linter.unusedVariables false
set_option linter.unusedSectionVars false
set_option linter.unusedSimpArgs false
set_option maxHeartbeats 8000000 in
set_option maxRecDepth 100000 in
theorem alive_c (w : World) (hot : OT w) : Calls Tryd.prog 12 #[] w fun e w' => e = .returned (.bool true) ∧ Below w.heap.size w w' := by
  have HOT := Aside0.mk hot
  clear hot
  go_enter Tryd.func12, Tryd.ntmps12
  go_upto_region 4 with (fail)
  obtain ⟨W0, hW0⟩ : ∃ W0 : World, W0 = (((((((((w.alloc (.cells #[.int .i64 1] 2)).alloc (.cells #[.int .i64 1, .int .i64 2] 2)).alloc (.cells #[.slice (some ⟨w.heap.size, 0, none⟩) 1 1, .bool false, .int .i64 0, .int .i64 3, .int .i64 0] 31)).alloc (.cells #[.slice (some ⟨w.heap.size + 1, 0, none⟩) 2 2, .bool true, .int .i64 0, .int .i64 5, .int .i64 0] 31)).alloc (.cells #[.int .i64 2] 2)).alloc (.cells #[.slice (some ⟨w.heap.size + 1 + 1 + 1 + 1, 0, none⟩) 1 1, .bool false, .int .i64 0, .int .i64 3, .int .i64 0] 31)).alloc (.cells #[.string ⟨#[105]⟩] 9)).alloc (.cells #[.int .u8 14, .int .u8 0, .int .u8 0, .int .u8 0, .int .i64 0] 68)).alloc (.cells #[.slice (some ⟨w.heap.size + 1 + 1 + 1 + 1 + 1 + 1, 0, none⟩) 1 1, .string ⟨#[]⟩, .string ⟨#[]⟩, .slice (some ⟨w.heap.size + 1 + 1 + 1 + 1 + 1 + 1 + 1, 0, none⟩) 1 1] 46)) := ⟨_, rfl⟩
  have r0 : W0.heap[w.heap.size]? = some (.cells #[.int .i64 1] 2 (0, 0)) := by rw [hW0]; exact rowT
  have r1 : W0.heap[w.heap.size + 1]? = some (.cells #[.int .i64 1, .int .i64 2] 2 (0, 0)) := by rw [hW0]; exact rowT
  have r2 : W0.heap[w.heap.size + 1 + 1]? = some (.cells #[.slice (some ⟨w.heap.size, 0, none⟩) 1 1, .bool false, .int .i64 0, .int .i64 3, .int .i64 0] 31 (0, 0)) := by rw [hW0]; exact rowT
  have r3 : W0.heap[w.heap.size + 1 + 1 + 1]? = some (.cells #[.slice (some ⟨w.heap.size + 1, 0, none⟩) 2 2, .bool true, .int .i64 0, .int .i64 5, .int .i64 0] 31 (0, 0)) := by rw [hW0]; exact rowT
  have r4 : W0.heap[w.heap.size + 1 + 1 + 1 + 1]? = some (.cells #[.int .i64 2] 2 (0, 0)) := by rw [hW0]; exact rowT
  have r5 : W0.heap[w.heap.size + 1 + 1 + 1 + 1 + 1]? = some (.cells #[.slice (some ⟨w.heap.size + 1 + 1 + 1 + 1, 0, none⟩) 1 1, .bool false, .int .i64 0, .int .i64 3, .int .i64 0] 31 (0, 0)) := by rw [hW0]; exact rowT
  have r6 : W0.heap[w.heap.size + 1 + 1 + 1 + 1 + 1 + 1]? = some (.cells #[.string ⟨#[105]⟩] 9 (0, 0)) := by rw [hW0]; exact rowT
  have r7 : W0.heap[w.heap.size + 1 + 1 + 1 + 1 + 1 + 1 + 1]? = some (.cells #[.int .u8 14, .int .u8 0, .int .u8 0, .int .u8 0, .int .i64 0] 68 (0, 0)) := by rw [hW0]; exact rowT
  have r8 : W0.heap[w.heap.size + 1 + 1 + 1 + 1 + 1 + 1 + 1 + 1]? = some (.cells #[.slice (some ⟨w.heap.size + 1 + 1 + 1 + 1 + 1 + 1, 0, none⟩) 1 1, .string ⟨#[]⟩, .string ⟨#[]⟩, .slice (some ⟨w.heap.size + 1 + 1 + 1 + 1 + 1 + 1 + 1, 0, none⟩) 1 1] 46 (0, 0)) := by rw [hW0]; exact rowT
  have HW := Aside0.mk (show Below w.heap.size w W0 by rw [hW0]; repeat (first | exact Below.refl _ _ | refine below_alloc ?_ _))
  rw [← hW0]
  clear hW0
  have Q0 := Aside0.mk r0
  have Q1 := Aside0.mk r1
  have Q2 := Aside0.mk r2
  have Q3 := Aside0.mk r3
  have Q4 := Aside0.mk r4
  have Q5 := Aside0.mk r5
  have Q6 := Aside0.mk r6
  have Q7 := Aside0.mk r7
  have Q8 := Aside0.mk r8
  have AG2 := Aside0.mk (show ∀ W, Below W0.heap.size W0 W → Calls Tryd.prog 17 #[.slice (some ⟨W.heap.size, 0, none⟩) 2 2] (W.alloc (.cells #[.slice (some ⟨w.heap.size, 0, none⟩) 1 1, .bool false, .int .i64 0, .int .i64 3, .int .i64 0, .slice (some ⟨w.heap.size + 1, 0, none⟩) 2 2, .bool true, .int .i64 0, .int .i64 5, .int .i64 0] 31)) fun e w' => e = .returned (.bool true) ∧ Below W.heap.size W w' from fun W hW => ag2_c W _ _ 2 ((hW.block _ (blk_lt Q0.out)).trans Q0.out) ((hW.block _ (blk_lt Q1.out)).trans Q1.out))
  have AG3 := Aside0.mk (show ∀ W, Below W0.heap.size W0 W → Calls Tryd.prog 17 #[.slice (some ⟨W.heap.size, 0, none⟩) 3 3] (W.alloc (.cells #[.slice (some ⟨w.heap.size, 0, none⟩) 1 1, .bool false, .int .i64 0, .int .i64 3, .int .i64 0, .slice (some ⟨w.heap.size + 1, 0, none⟩) 2 2, .bool true, .int .i64 0, .int .i64 5, .int .i64 0, .slice (some ⟨w.heap.size + 1 + 1 + 1 + 1, 0, none⟩) 1 1, .bool false, .int .i64 0, .int .i64 3, .int .i64 0] 31)) fun e w' => e = .returned (.bool false) ∧ Below W.heap.size W w' from fun W hW => ag3_c W _ _ _ 2 ((hW.block _ (blk_lt Q0.out)).trans Q0.out) ((hW.block _ (blk_lt Q1.out)).trans Q1.out) ((hW.block _ (blk_lt Q4.out)).trans Q4.out))
  have LN2 := Aside0.mk (show ∀ W, Below W0.heap.size W0 W → Calls Tryd.prog 22 #[.slice (some ⟨W.heap.size, 0, none⟩) 2 2] (W.alloc (.cells #[.slice (some ⟨w.heap.size, 0, none⟩) 1 1, .bool false, .int .i64 0, .int .i64 3, .int .i64 0, .slice (some ⟨w.heap.size + 1, 0, none⟩) 2 2, .bool true, .int .i64 0, .int .i64 5, .int .i64 0] 31)) fun e w' => e = .returned (.int .i64 1) ∧ Below W.heap.size W w' from fun W hW => lng2_c W _ _ 2 ((hW.block _ (blk_lt Q0.out)).trans Q0.out) ((hW.block _ (blk_lt Q1.out)).trans Q1.out))
  have LN0 := Aside0.mk (show ∀ W, Below W0.heap.size W0 W → Calls Tryd.prog 22 #[.slice none 0 0] W fun e w' => e = .returned (.int .i64 (-1)) ∧ Below W.heap.size W w' from fun W hW => lng0_c W)
  have BEG := Aside0.mk (show ∀ W, Below W0.heap.size W0 W → Calls Tryd.prog 20 #[.slice none 0 0, .slice (some ⟨w.heap.size + 1 + 1 + 1 + 1, 0, none⟩) 1 1] W fun e w' => e = .returned (.bool true) ∧ Below W.heap.size W w' from fun W hW => beg0_c W _ 2 ((hW.block _ (blk_lt Q4.out)).trans Q4.out))
  have ENB := Aside0.mk (show ∀ W, Below W0.heap.size W0 W → Calls Tryd.prog 14 #[.agg #[.slice (some ⟨w.heap.size + 1, 0, none⟩) 2 2, .bool true, .int .i64 0, .int .i64 5, .int .i64 0]] W fun e w' => e = .returned (.bool true) ∧ Below W.heap.size W w' from fun W hW => ended_n W _ 2 2 [1, 2] _ _ _ _ true rfl rfl (C_ints [1, 2] (by decide) ((hW.block _ (blk_lt Q1.out)).trans Q1.out)) (Nat.le_refl _))
  have ENA := Aside0.mk (show ∀ W, Below W0.heap.size W0 W → Calls Tryd.prog 14 #[.agg #[.slice (some ⟨w.heap.size, 0, none⟩) 1 1, .bool false, .int .i64 0, .int .i64 3, .int .i64 0]] W fun e w' => e = .returned (.bool false) ∧ Below W.heap.size W w' from fun W hW => ended_n W _ 1 1 [1] _ _ _ _ false rfl rfl (C_ints [1] (by decide) ((hW.block _ (blk_lt Q0.out)).trans Q0.out)) (Nat.le_refl _))
  have HOT := Aside0.mk (OT_below HOT.out HW.out)
  have MD1 := Aside0.mk (show ∀ W, Below W0.heap.size W0 W → Calls Tryd.prog 25 #[.agg #[.slice (some ⟨w.heap.size + 1 + 1 + 1 + 1 + 1 + 1, 0, none⟩) 1 1, .string ⟨#[]⟩, .string ⟨#[]⟩, .slice (some ⟨w.heap.size + 1 + 1 + 1 + 1 + 1 + 1 + 1, 0, none⟩) 1 1], .agg #[.slice (some ⟨W.heap.size, 0, none⟩) 1 1, .bool true, .int .i64 0, .int .i64 1, .int .i64 0]] (W.alloc (.cells #[.int .i64 0] 2)) fun e w' => e = .returned (.bool true) ∧ Below W.heap.size W w' from fun W hW => (model1_c (W.alloc (.cells #[.int .i64 0] 2)) _ _ W.heap.size _ _ 2 (row_old W _ _ (blk_lt ((hW.block _ (blk_lt Q6.out)).trans Q6.out)) ((hW.block _ (blk_lt Q6.out)).trans Q6.out)) (row_old W _ _ (blk_lt ((hW.block _ (blk_lt Q7.out)).trans Q7.out)) ((hW.block _ (blk_lt Q7.out)).trans Q7.out)) (heap_alloc_new W _) (OT_below (OT_below HOT.out hW) (below_alloc (Below.refl _ _) _))).mono fun e w' q => ⟨q.1, below_step (below_alloc (Below.refl _ _) _) q.2⟩)
  have MD2 := Aside0.mk (show ∀ W, Below W0.heap.size W0 W → Calls Tryd.prog 25 #[.agg #[.slice (some ⟨w.heap.size + 1 + 1 + 1 + 1 + 1 + 1, 0, none⟩) 1 1, .string ⟨#[]⟩, .string ⟨#[]⟩, .slice (some ⟨w.heap.size + 1 + 1 + 1 + 1 + 1 + 1 + 1, 0, none⟩) 1 1], .agg #[.slice none 0 0, .bool false, .int .i64 0, .int .i64 1, .int .i64 0]] W fun e w' => e = .returned (.bool false) ∧ Below W.heap.size W w' from fun W hW => model2_c W _ _ _ _ ((hW.block _ (blk_lt Q6.out)).trans Q6.out) ((hW.block _ (blk_lt Q7.out)).trans Q7.out) (OT_below HOT.out hW))
  have HV := Aside0.mk (Below.refl W0.heap.size W0)
  have k2 := fun j => cell_of_row W0 (w.heap.size + 1 + 1) j _ _ _ r2
  have k3 := fun j => cell_of_row W0 (w.heap.size + 1 + 1 + 1) j _ _ _ r3
  have k5 := fun j => cell_of_row W0 (w.heap.size + 1 + 1 + 1 + 1 + 1) j _ _ _ r5
  have k8 := fun j => cell_of_row W0 (w.heap.size + 1 + 1 + 1 + 1 + 1 + 1 + 1 + 1) j _ _ _ r8
  clear r0 r1 r2 r3 r4 r5 r6 r7 r8
  go_wp2_with (first
    | (go_at_call 17; (with_reducible refine (AG2.out _ HV.out).mono ?_); rintro e w1 ⟨rfl, hb1⟩; have HV := Aside0.mk (below_step HV.out hb1); have k2 := fun j => cell_of_row w1 (w.heap.size + 1 + 1) j _ _ _ ((HV.out.block _ (blk_lt Q2.out)).trans Q2.out); have k3 := fun j => cell_of_row w1 (w.heap.size + 1 + 1 + 1) j _ _ _ ((HV.out.block _ (blk_lt Q3.out)).trans Q3.out); have k5 := fun j => cell_of_row w1 (w.heap.size + 1 + 1 + 1 + 1 + 1) j _ _ _ ((HV.out.block _ (blk_lt Q5.out)).trans Q5.out); have k8 := fun j => cell_of_row w1 (w.heap.size + 1 + 1 + 1 + 1 + 1 + 1 + 1 + 1) j _ _ _ ((HV.out.block _ (blk_lt Q8.out)).trans Q8.out); clear hb1)
    | (go_at_call 17; (with_reducible refine (AG3.out _ HV.out).mono ?_); rintro e w1 ⟨rfl, hb1⟩; have HV := Aside0.mk (below_step HV.out hb1); have k2 := fun j => cell_of_row w1 (w.heap.size + 1 + 1) j _ _ _ ((HV.out.block _ (blk_lt Q2.out)).trans Q2.out); have k3 := fun j => cell_of_row w1 (w.heap.size + 1 + 1 + 1) j _ _ _ ((HV.out.block _ (blk_lt Q3.out)).trans Q3.out); have k5 := fun j => cell_of_row w1 (w.heap.size + 1 + 1 + 1 + 1 + 1) j _ _ _ ((HV.out.block _ (blk_lt Q5.out)).trans Q5.out); have k8 := fun j => cell_of_row w1 (w.heap.size + 1 + 1 + 1 + 1 + 1 + 1 + 1 + 1) j _ _ _ ((HV.out.block _ (blk_lt Q8.out)).trans Q8.out); clear hb1)
    | (go_at_call 22; (with_reducible refine (LN2.out _ HV.out).mono ?_); rintro e w1 ⟨rfl, hb1⟩; have HV := Aside0.mk (below_step HV.out hb1); have k2 := fun j => cell_of_row w1 (w.heap.size + 1 + 1) j _ _ _ ((HV.out.block _ (blk_lt Q2.out)).trans Q2.out); have k3 := fun j => cell_of_row w1 (w.heap.size + 1 + 1 + 1) j _ _ _ ((HV.out.block _ (blk_lt Q3.out)).trans Q3.out); have k5 := fun j => cell_of_row w1 (w.heap.size + 1 + 1 + 1 + 1 + 1) j _ _ _ ((HV.out.block _ (blk_lt Q5.out)).trans Q5.out); have k8 := fun j => cell_of_row w1 (w.heap.size + 1 + 1 + 1 + 1 + 1 + 1 + 1 + 1) j _ _ _ ((HV.out.block _ (blk_lt Q8.out)).trans Q8.out); clear hb1)
    | (go_at_call 22; (with_reducible refine (LN0.out _ HV.out).mono ?_); rintro e w1 ⟨rfl, hb1⟩; have HV := Aside0.mk (below_step HV.out hb1); have k2 := fun j => cell_of_row w1 (w.heap.size + 1 + 1) j _ _ _ ((HV.out.block _ (blk_lt Q2.out)).trans Q2.out); have k3 := fun j => cell_of_row w1 (w.heap.size + 1 + 1 + 1) j _ _ _ ((HV.out.block _ (blk_lt Q3.out)).trans Q3.out); have k5 := fun j => cell_of_row w1 (w.heap.size + 1 + 1 + 1 + 1 + 1) j _ _ _ ((HV.out.block _ (blk_lt Q5.out)).trans Q5.out); have k8 := fun j => cell_of_row w1 (w.heap.size + 1 + 1 + 1 + 1 + 1 + 1 + 1 + 1) j _ _ _ ((HV.out.block _ (blk_lt Q8.out)).trans Q8.out); clear hb1)
    | (go_at_call 20; (with_reducible refine (BEG.out _ HV.out).mono ?_); rintro e w1 ⟨rfl, hb1⟩; have HV := Aside0.mk (below_step HV.out hb1); have k2 := fun j => cell_of_row w1 (w.heap.size + 1 + 1) j _ _ _ ((HV.out.block _ (blk_lt Q2.out)).trans Q2.out); have k3 := fun j => cell_of_row w1 (w.heap.size + 1 + 1 + 1) j _ _ _ ((HV.out.block _ (blk_lt Q3.out)).trans Q3.out); have k5 := fun j => cell_of_row w1 (w.heap.size + 1 + 1 + 1 + 1 + 1) j _ _ _ ((HV.out.block _ (blk_lt Q5.out)).trans Q5.out); have k8 := fun j => cell_of_row w1 (w.heap.size + 1 + 1 + 1 + 1 + 1 + 1 + 1 + 1) j _ _ _ ((HV.out.block _ (blk_lt Q8.out)).trans Q8.out); clear hb1)
    | (go_at_call 14; (with_reducible refine (ENB.out _ HV.out).mono ?_); rintro e w1 ⟨rfl, hb1⟩; have HV := Aside0.mk (below_step HV.out hb1); have k2 := fun j => cell_of_row w1 (w.heap.size + 1 + 1) j _ _ _ ((HV.out.block _ (blk_lt Q2.out)).trans Q2.out); have k3 := fun j => cell_of_row w1 (w.heap.size + 1 + 1 + 1) j _ _ _ ((HV.out.block _ (blk_lt Q3.out)).trans Q3.out); have k5 := fun j => cell_of_row w1 (w.heap.size + 1 + 1 + 1 + 1 + 1) j _ _ _ ((HV.out.block _ (blk_lt Q5.out)).trans Q5.out); have k8 := fun j => cell_of_row w1 (w.heap.size + 1 + 1 + 1 + 1 + 1 + 1 + 1 + 1) j _ _ _ ((HV.out.block _ (blk_lt Q8.out)).trans Q8.out); clear hb1)
    | (go_at_call 14; (with_reducible refine (ENA.out _ HV.out).mono ?_); rintro e w1 ⟨rfl, hb1⟩; have HV := Aside0.mk (below_step HV.out hb1); have k2 := fun j => cell_of_row w1 (w.heap.size + 1 + 1) j _ _ _ ((HV.out.block _ (blk_lt Q2.out)).trans Q2.out); have k3 := fun j => cell_of_row w1 (w.heap.size + 1 + 1 + 1) j _ _ _ ((HV.out.block _ (blk_lt Q3.out)).trans Q3.out); have k5 := fun j => cell_of_row w1 (w.heap.size + 1 + 1 + 1 + 1 + 1) j _ _ _ ((HV.out.block _ (blk_lt Q5.out)).trans Q5.out); have k8 := fun j => cell_of_row w1 (w.heap.size + 1 + 1 + 1 + 1 + 1 + 1 + 1 + 1) j _ _ _ ((HV.out.block _ (blk_lt Q8.out)).trans Q8.out); clear hb1)
    | (go_at_call 25; (with_reducible refine (MD1.out _ HV.out).mono ?_); rintro e w1 ⟨rfl, hb1⟩; have HV := Aside0.mk (below_step HV.out hb1); have k2 := fun j => cell_of_row w1 (w.heap.size + 1 + 1) j _ _ _ ((HV.out.block _ (blk_lt Q2.out)).trans Q2.out); have k3 := fun j => cell_of_row w1 (w.heap.size + 1 + 1 + 1) j _ _ _ ((HV.out.block _ (blk_lt Q3.out)).trans Q3.out); have k5 := fun j => cell_of_row w1 (w.heap.size + 1 + 1 + 1 + 1 + 1) j _ _ _ ((HV.out.block _ (blk_lt Q5.out)).trans Q5.out); have k8 := fun j => cell_of_row w1 (w.heap.size + 1 + 1 + 1 + 1 + 1 + 1 + 1 + 1) j _ _ _ ((HV.out.block _ (blk_lt Q8.out)).trans Q8.out); clear hb1)
    | (go_at_call 25; (with_reducible refine (MD2.out _ HV.out).mono ?_); rintro e w1 ⟨rfl, hb1⟩; have HV := Aside0.mk (below_step HV.out hb1); have k2 := fun j => cell_of_row w1 (w.heap.size + 1 + 1) j _ _ _ ((HV.out.block _ (blk_lt Q2.out)).trans Q2.out); have k3 := fun j => cell_of_row w1 (w.heap.size + 1 + 1 + 1) j _ _ _ ((HV.out.block _ (blk_lt Q3.out)).trans Q3.out); have k5 := fun j => cell_of_row w1 (w.heap.size + 1 + 1 + 1 + 1 + 1) j _ _ _ ((HV.out.block _ (blk_lt Q5.out)).trans Q5.out); have k8 := fun j => cell_of_row w1 (w.heap.size + 1 + 1 + 1 + 1 + 1 + 1 + 1 + 1) j _ _ _ ((HV.out.block _ (blk_lt Q8.out)).trans Q8.out); clear hb1))
  go_ret
  exact ⟨rfl, HW.out.trans (HV.out.mono HW.out.size)⟩
end Go.Proofs.YtfkfpcciacplkaaDoor.TAL

namespace Go.Proofs.YtfkfpcciacplkaaDoor.TRW
open Go.RowKit Go.Proofs.YtfkfpcciacplkaaDoorW.PrintWords Go.Proofs.YtfkfpcciacplkaaDoorW.PrintLast Go.Proofs.YtfkfpcciacplkaaDoorW.PrintMore Go.Proofs.YtfkfpcciacplkaaDoor.Scan Go.Proofs.YtfkfpcciacplkaaDoor.F Go.Proofs.YtfkfpcciacplkaaDoor.T Go.Proofs.YtfkfpcciacplkaaDoor.ST0 Go.Proofs.YtfkfpcciacplkaaDoor.TRB Go.Proofs.YtfkfpcciacplkaaDoor.TRL Go.Proofs.YtfkfpcciacplkaaDoor.TRA Go.Proofs.YtfkfpcciacplkaaDoor.TRP Go.Proofs.YtfkfpcciacplkaaDoor.TRC Go.Proofs.YtfkfpcciacplkaaDoor.CR
set_option linter.unusedVariables false
set_option linter.unusedSimpArgs false
theorem few_c (w : World) (A : Option Addr) (c : Nat) (L : List Rr) (h : Kd.C k27 w A L.length L) (hc : L.length ≤ c) (b : Bool) (hb : b = true ↔ Few22 L) : Calls Tryd.prog 13 #[.slice A L.length c] w fun e w' => e = .returned (.bool b) ∧ Below w.heap.size w w' := by
  classical
  obtain ⟨k, hk⟩ := ev_at (few22_ev L (by have := Kd.C_max h; omega))
  rw [show decide (Few22 L) = b by rw [Bool.eq_iff_iff, decide_eq_true_iff, hb]] at hk
  exact lockstitchlaw22_few.calls k A c L _ w h hc hk
theorem Agree_n (w : World) (A : Option Addr) (n c : Nat) (M : List Rs) (hn : M.length = n) (h : Kd.C k31 w A n M) (hc : n ≤ c) : Calls Tryd.prog 17 #[.slice A n c] w fun e w' => e = .returned (.bool (ag M)) ∧ Below w.heap.size w w' := by
  subst hn
  exact Agree_c w A c M h hc
end Go.Proofs.YtfkfpcciacplkaaDoor.TRW

namespace Go.Proofs.YtfkfpcciacplkaaDoor.TRW
open Go.RowKit Go.Proofs.YtfkfpcciacplkaaDoorW.PrintWords Go.Proofs.YtfkfpcciacplkaaDoorW.PrintLast Go.Proofs.YtfkfpcciacplkaaDoorW.PrintMore Go.Proofs.YtfkfpcciacplkaaDoor.Scan Go.Proofs.YtfkfpcciacplkaaDoor.F Go.Proofs.YtfkfpcciacplkaaDoor.T Go.Proofs.YtfkfpcciacplkaaDoor.ST0 Go.Proofs.YtfkfpcciacplkaaDoor.TRB Go.Proofs.YtfkfpcciacplkaaDoor.TRL Go.Proofs.YtfkfpcciacplkaaDoor.TRA Go.Proofs.YtfkfpcciacplkaaDoor.TRP Go.Proofs.YtfkfpcciacplkaaDoor.TRC Go.Proofs.YtfkfpcciacplkaaDoor.CR Go.Proofs.YtfkfpcciacplkaaDoor.TAL Go.Proofs.YtfkfpcciacplkaaDoor.DO1
set_option linter.unusedVariables false
set_option linter.unusedSimpArgs false
def kfix (w : World) : Kd Rr where
  sz := 5
  E := []
  K := fun _ x cs => k27.K w x cs
  M := fun _ _ _ x cs => k27.K w x cs
  K_len := fun h => k27.K_len h
  K_one := fun h => k27.K_one h
  K_below := fun _ h => h
  K_of_M := fun h => h
  M_mono := fun _ h => h
  M_bound := fun h => h
  M_move := fun _ h => h
  M_lower := fun _ h => h
theorem infRr : (Tryd.prog.info? 27).map (fun i => (i.zero, i.size, i.bytes)) = some (some (.agg #[(.slice none 0 0), (.bool false), (.int .i64 0), (.int .i64 0), (.int .i64 0)]), 5, 56) := by kernel_rfl
theorem agB_refl (x : Rs) : agB x x = true := by
  unfold agB beg
  cases fin x.f1 x.f2 <;> simp
theorem Ag_mem (M : List Rs) : Ag M ↔ ∀ x ∈ M, ∀ y ∈ M, agB x y = true := by
  have hr : ∀ (i : Nat) (h : i < M.length), rdS M i = M[i] := fun i h => by
    unfold rdS rd_T31
    rw [Int.toNat_natCast, List.getD_eq_getElem?_getD, List.getElem?_eq_getElem h]
    rfl
  constructor
  · intro h x hx y hy
    obtain ⟨i, hi, rfl⟩ := List.mem_iff_getElem.1 hx
    obtain ⟨j, hj, rfl⟩ := List.mem_iff_getElem.1 hy
    rcases Nat.lt_trichotomy i j with hlt | rfl | hlt
    · have := h j i hj hlt
      rw [hr j hj, hr i hi, agB_symm] at this
      exact this
    · exact agB_refl _
    · have := h i j hi hlt
      rw [hr j hj, hr i hi] at this
      exact this
  · intro h i j hi hj
    rw [hr i hi, hr j (by omega)]
    exact h _ (List.getElem_mem _) _ (List.getElem_mem _)
theorem ag_same {M M' : List Rs} (h : ∀ x, x ∈ M ↔ x ∈ M') : ag M = ag M' := by
  unfold ag
  rw [decide_eq_decide, Ag_mem, Ag_mem]
  exact ⟨fun q x hx y hy => q x ((h x).2 hx) y ((h y).2 hy), fun q x hx y hy => q x ((h x).1 hx) y ((h y).1 hy)⟩
theorem ag_less {M M' : List Rs} (h : ∀ x, x ∈ M' → x ∈ M) (hb : ag M = true) : ag M' = true := by
  classical
  unfold ag at *
  rw [decide_eq_true_iff, Ag_mem] at *
  exact fun x hx y hy => hb x (h x hx) y (h y hy)
theorem cut_hi (t e : TypeId) {i : TypeInfo} (ht : Tryd.prog.underlying t = some (.slice e)) (hi : Tryd.prog.info? e = some i) (A : Option Addr) (n c k : Nat) (hk : k ≤ c) : ∀ W : World, (Instr.slice t (.slice A n c) none (some (.int .i64 (k : Int))) none).run Tryd.prog W = .ok (.slice A k c) W := by
  intro W
  have hel : Tryd.prog.elem t = e := by simp [Program.elem, ht]
  have hu : Tryd.prog.underlying t = some (.slice (Tryd.prog.elem t)) := by rw [hel]; exact ht
  rw [run_slice_h W t A n c hu .i64 k (Int.natCast_nonneg _) (by omega), hel]
  simp [sizeOf, typeInfo, hi, sliced, Result.andThen]
  rcases A with _ | a <;> simp [Addr.add]
theorem cut_lo (t e : TypeId) {i : TypeInfo} (ht : Tryd.prog.underlying t = some (.slice e)) (hi : Tryd.prog.info? e = some i) (size : Nat) (hsz : i.size = size) (A : Option Addr) (n c k : Nat) (hk : k ≤ n) : ∀ W : World, (Instr.slice t (.slice A n c) (some (.int .i64 (k : Int))) none none).run Tryd.prog W = .ok (.slice (if c = k then A else A.map (·.add (k * size))) (n - k) (c - k)) W := by
  intro W
  have hel : Tryd.prog.elem t = e := by simp [Program.elem, ht]
  have hu : Tryd.prog.underlying t = some (.slice (Tryd.prog.elem t)) := by rw [hel]; exact ht
  rw [run_slice_l W t A n c hu .i64 k (Int.natCast_nonneg _) (by omega), hel]
  simp [sizeOf, typeInfo, hi, hsz, sliced, Result.andThen]
theorem wpList_wanted {P : Program} {ops : Array Oper} {rest : List Oper} {o : Oper} {a : Act} {w : World} {Q : Exit → Act → World → Prop} (hw : Region.wanted o (yielded ops a.tmps) = true)
    (h : if Region.wanted o (yielded ops a.tmps) = true then Oper.wp P o a w (wpList P ops Q rest) Q else wpList P ops Q rest (a.put o.dst undef) w) : wpList P ops Q (o :: rest) a w := by
  unfold wpList
  rw [if_pos hw] at h ⊢
  exact .inl h
def IsT (b : Bool) : Prop := b = true
theorem IsT.mk : IsT true := rfl
theorem made_C {w W : World} {base : Nat} {ok : Nat → Prop} {v : Value} {ps : List Rr} (h : (kfix w).R 27 W base ok v ps) (hw : Below w.heap.size w W) : ∃ A c, v = .slice A ps.length c ∧ ps.length ≤ c ∧ Kd.C k27 W A ps.length ps := by
  obtain ⟨A, c, hv, hl, hr⟩ := OwnRow.reads h.2
  exact ⟨A, c, hv, hl, ReadsRow.imp_ hr (Below.refl _ _) (fun _ _ hp => k27.K_below hw hp)⟩
theorem all_n (w : World) (A : Option Addr) (n c : Nat) (L : List Rr) (hn : L.length = n) (h : Kd.C k27 w A n L) (hc : n ≤ c) (hL : n ≤ 100) :
    Calls Tryd.prog 18 #[.slice A n c] w fun e w' => ∃ A' c', e = .returned (.slice A' n c') ∧ n ≤ c' ∧ Kd.C k31 w' A' n (L.map th) ∧ Below w.heap.size w w' := by
  subst hn
  exact all_c w A c L h hc hL
set_option maxHeartbeats 16000000 in
set_option maxRecDepth 100000 in
theorem Fewer_walk (w : World) (A0 : Option Addr) (c0 : Nat) (L : List Rr) (h0 : Kd.C k27 w A0 L.length L) (hc0 : L.length ≤ c0) (dr : Int) (d0 : 0 ≤ dr) (d1 : dr ≤ 255) (hot : OT w) :
    Calls Tryd.prog 4 #[.slice A0 L.length c0, .int .u8 dr] w fun e w' => e = .returned (.bool true) ∧ Below w.heap.size w w' := by
  have hl : (L.length : Int) ≤ 9223372036854775807 := by have := Kd.C_max h0; omega
  have HL := Aside0.mk h0
  have ALV := Aside0.mk (fun W (hW : Below w.heap.size w W) => alive_c W (OT_below hot hW))
  have ALL := Aside0.mk (fun W (hW : Below w.heap.size w W) (h : L.length ≤ 100) => all_c W A0 c0 L (Kd.C_below h0 hW) hc0 h)
  have HW := Aside0.mk (Below.refl w.heap.size w)
  obtain ⟨bf, hbf⟩ : ∃ bf : Bool, bf = true ↔ Few22 L := by classical exact ⟨decide (Few22 L), decide_eq_true_iff⟩
  have FEW := Aside0.mk (fun W (hW : Below w.heap.size w W) => few_c W A0 c0 L (Kd.C_below h0 hW) hc0 bf hbf)
  clear hot
  by_cases hg : bf = true ∧ ((L.length : Int) == 0) = false
  · obtain ⟨rfl, hz⟩ := hg
    have hle : L.length ≤ 8 := (hbf.1 rfl).2
    have hp : (0 : Int) < (L.length : Int) := by
      rw [beq_eq_false_iff_ne] at hz
      omega
    have hlm : (L.map th).length = L.length := List.length_map _
    obtain ⟨bs, hbs⟩ : ∃ bs, ag (L.map th) = bs := ⟨_, rfl⟩
    have AGR := Aside0.mk (show ∀ W A c, Kd.C k31 W A L.length (L.map th) → L.length ≤ c → Calls Tryd.prog 17 #[.slice A L.length c] W fun e w' => e = .returned (.bool bs) ∧ Below W.heap.size W w' from fun W A c h hc => by
      have := Agree_n W A L.length c (L.map th) hlm h hc
      rw [hbs] at this
      exact this)
    obtain ⟨k, hk⟩ := Int.eq_ofNat_of_zero_le (Int.emod_nonneg dr (show (L.length : Int) ≠ 0 by omega))
    have hkl : (k : Int) < (L.length : Int) := by rw [← hk]; exact Int.emod_lt_of_pos dr hp
    have hk' : dr.tmod (L.length : Int) = k := by rw [Int.tmod_eq_emod_of_nonneg d0]; exact hk
    have k0 : (0 : Int) ≤ k := by omega
    have kw : (k : Int) + 1 ≤ 9223372036854775807 := by omega
    obtain ⟨i0, hi0, _, hz1, _⟩ := info_parts infRr
    have s1 := cut_lo 22 27 Tryd.underlying22 hi0 5 hz1 A0 L.length c0 k (by omega)
    have s2 := cut_hi 22 27 Tryd.underlying22 hi0 A0 L.length c0 k (by omega)
    have s3 := cut_lo 22 27 Tryd.underlying22 hi0 5 hz1 A0 L.length c0 (k + 1) (by omega)
    have t1 := Kd.C_drop (m := k) h0 (by omega) hc0
    have t2 := Kd.C_take (m := k) h0 (by omega)
    have t3 := Kd.C_drop (m := k + 1) h0 (by omega) hc0
    rw [List.length_drop] at t1 t3
    rw [List.length_take, Nat.min_eq_left (by omega)] at t2
    rw [show k27.sz = 5 from rfl] at t1 t3
    obtain ⟨AK, eAK⟩ : ∃ AK, (if c0 = k then A0 else A0.map (·.add (k * 5))) = AK := ⟨_, rfl⟩
    obtain ⟨AJ, eAJ⟩ : ∃ AJ, (if c0 = k + 1 then A0 else A0.map (·.add ((k + 1) * 5))) = AJ := ⟨_, rfl⟩
    rw [eAK] at s1 t1
    rw [eAJ] at s3 t3
    obtain ⟨nk, ek⟩ : ∃ nk, L.length - k = nk := ⟨_, rfl⟩
    obtain ⟨ck, eck⟩ : ∃ ck, c0 - k = ck := ⟨_, rfl⟩
    obtain ⟨nj, ej⟩ : ∃ nj, L.length - (k + 1) = nj := ⟨_, rfl⟩
    obtain ⟨cj, ecj⟩ : ∃ cj, c0 - (k + 1) = cj := ⟨_, rfl⟩
    rw [ek] at s1 t1
    rw [eck] at s1
    rw [ej] at s3 t3
    rw [ecj] at s3
    rw [show ((k + 1 : Nat) : Int) = (k : Int) + 1 from rfl] at s3
    have T1 := Aside0.mk t1
    have T2 := Aside0.mk t2
    have T3 := Aside0.mk t3
    have HLE := Aside0.mk (show L.length ≤ 8 ∧ k < L.length ∧ nk = L.length - k ∧ nj = L.length - (k + 1) from ⟨hle, by omega, ek.symm, ej.symm⟩)
    obtain ⟨ad, B0, b0, rfl, x0, x1, x2, x3, x4, xl, xc⟩ := at_T27 h0 (k : Int) k0 hkl
    rw [Int.toNat_natCast] at x0 x1 x2 x3 x4
    have X := Aside0.mk (And.intro x0 (And.intro x1 (And.intro x2 (And.intro x3 x4))))
    have XK := Aside0.mk (k27_mk w (rd_T27 L k) xl xc)
    have QT := Aside0.mk (show ag ((([] ++ L.drop k) ++ L.take k).map th) = ag (L.map th) from ag_same fun x => by
      rw [List.nil_append, List.mem_map, List.mem_map]
      refine ⟨fun ⟨y, hy, e⟩ => ⟨y, ?_, e⟩, fun ⟨y, hy, e⟩ => ⟨y, ?_, e⟩⟩
      · rcases List.mem_append.1 hy with hy | hy
        · exact List.mem_of_mem_drop hy
        · exact List.mem_of_mem_take hy
      · rw [← List.take_append_drop k L] at hy
        rcases List.mem_append.1 hy with hy | hy
        · exact List.mem_append_right _ hy
        · exact List.mem_append_left _ hy)
    have QL := Aside0.mk (show ag (L.map th) = true → ag ((([] ++ L.take k) ++ L.drop (k + 1)).map th) = true from ag_less fun x hx => by
      rw [List.nil_append, List.mem_map] at hx
      obtain ⟨y, hy, e⟩ := hx
      refine List.mem_map.2 ⟨y, ?_, e⟩
      rcases List.mem_append.1 hy with hy | hy
      · exact List.mem_of_mem_take hy
      · exact List.mem_of_mem_drop hy)
    have QD := Aside0.mk (show ag ((([] ++ L.drop k) ++ L.take k ++ [rd_T27 L k]).map th) = ag (L.map th) from by
      rw [← QT.out]
      refine ag_same fun x => ?_
      rw [List.map_append, List.mem_append]
      refine ⟨fun h => ?_, .inl⟩
      rcases h with h | h
      · exact h
      · obtain rfl : x = th (rd_T27 L k) := by simpa using h
        refine List.mem_map_of_mem ?_
        have hr : rd_T27 L k = L[k]'(by omega) := by
          unfold rd_T27
          rw [Int.toNat_natCast, List.getD_eq_getElem?_getD, List.getElem?_eq_getElem (by omega)]
          rfl
        rw [hr, List.nil_append]
        refine List.mem_append_left _ ?_
        rw [List.mem_drop_iff_getElem]
        exact ⟨0, by omega, by simp⟩)
    rw [hbs] at QT QL QD
    clear hbs
    clear x0 x1 x2 x3 x4 xl xc t1 t2 t3 h0 eAK eAJ ek eck ej ecj hlm hbf hi0 hz1
    go_enter Tryd.func4, Tryd.ntmps4
    go_upto_region 7 with (first
      | (go_at_call 12; (with_reducible refine (ALV.out _ HW.out).mono ?_); rintro e w1 ⟨rfl, hb1⟩; have HW := Aside0.mk (below_step HW.out hb1); clear hb1)
      | (go_at_call 13; (with_reducible refine (FEW.out _ HW.out).mono ?_); rintro e w1 ⟨rfl, hb1⟩; have HW := Aside0.mk (below_step HW.out hb1); clear hb1)
      | (go_at_call 18; (with_reducible refine (ALL.out _ HW.out (by omega)).mono ?_); rintro e w1 ⟨A, c, rfl, hc, hC, hb1⟩; have HW := Aside0.mk (below_step HW.out hb1); have HC := Aside0.mk hC; have HCC := Aside0.mk hc; clear hb1 hC hc)
      | (go_at_call 17; (with_reducible refine (AGR.out _ _ _ HC.out HCC.out).mono ?_); rintro e w1 ⟨rfl, hb1⟩; have HW := Aside0.mk (below_step HW.out hb1); clear hb1))
    obtain ⟨W7, hW7⟩ : ∃ W7 : World, W7 = w1 := ⟨_, rfl⟩
    rw [← hW7] at HW ⊢
    clear hW7
    have HBW7 := Aside0.mk (Below.refl W7.heap.size W7)
    have HS7 := Aside0.mk HW.out.size
    clear hk hk' hl hle hp hz kw
    have hkc : (k : Int) ≤ (c0 : Int) := by omega
    have hkl' : (k : Int) ≤ (L.length : Int) := by omega
    have hlc : (L.length : Int) ≤ (c0 : Int) := by omega
    go_region_held3 (fun _ => True) (trivial)
      ((first
        | (refine Kd.R_append_rows_step (kfix w) (Rr := k27.K w) (w0 := W7) W7.heap.size (by rfl) (.const (.slice none 0 0)) (.tmp 29) 22 27 (.agg #[(.slice none 0 0), (.bool false), (.int .i64 0), (.int .i64 0), (.int .i64 0)]) 56 rfl Tryd.underlying22 infRr rfl (by show 0 < 5; decide) (by decide) (.slice none 0 0) ([]) (L.drop k) AK nk ck (fun _ => True) (fun _ => False) (by rfl) (by rfl) (Kd.R_nil _ _ _ _ _) (ReadsRow.imp_ T1.out ?c1 (fun _ _ h => h)) (fun _ _ h => h) (fun _ h => h.elim) (fun _ _ => trivial) ?c2 ?c3 ?c4 ?_; (case c1 => exact HW.out.trans ((by repeat (first | exact HBW7.out | apply below_drew1 | apply pw_below_drewN) : Below W7.heap.size W7 _).mono HW.out.size)); (case c2 => repeat (first | exact HBW7.out | apply below_drew1 | apply pw_below_drewN)); (case c3 => exact below_size (by repeat (first | exact HBW7.out | apply below_drew1 | apply pw_below_drewN))); (case c4 => have := HLE.out; (simp only [List.length_append, List.length_nil, List.length_drop, List.length_take]); omega); intro v30 w1 hr1 hb1 hg1 hat1; have HR_v30 := Aside0.mk hr1; have HBW7 := Aside0.mk hb1; clear hr1 hb1 hg1 hat1)
        | (refine Kd.R_append_rows_step (kfix w) (Rr := k27.K w) (w0 := W7) W7.heap.size (by rfl) (.tmp 30) (.tmp 33) 22 27 (.agg #[(.slice none 0 0), (.bool false), (.int .i64 0), (.int .i64 0), (.int .i64 0)]) 56 rfl Tryd.underlying22 infRr rfl (by show 0 < 5; decide) (by decide) v30 ([] ++ L.drop k) (L.take k) (some ad) k c0 (fun _ => True) (fun _ => False) (by rfl) (by rfl) HR_v30.out (ReadsRow.imp_ T2.out ?c1 (fun _ _ h => h)) (fun _ _ h => h) (fun _ h => h.elim) (fun _ _ => trivial) ?c2 ?c3 ?c4 ?_; (case c1 => exact HW.out.trans ((by repeat (first | exact HBW7.out | apply below_drew1 | apply pw_below_drewN) : Below W7.heap.size W7 _).mono HW.out.size)); (case c2 => repeat (first | exact HBW7.out | apply below_drew1 | apply pw_below_drewN)); (case c3 => exact below_size (by repeat (first | exact HBW7.out | apply below_drew1 | apply pw_below_drewN))); (case c4 => have := HLE.out; (simp only [List.length_append, List.length_nil, List.length_drop, List.length_take]); omega); intro v34 w1 hr1 hb1 hg1 hat1; have HR_v34 := Aside0.mk hr1; have HBW7 := Aside0.mk hb1; clear hr1 hb1 hg1 hat1)))
    have HW := Aside0.mk (HW.out.trans (HBW7.out.mono HW.out.size))
    have el : ([] ++ L.drop k ++ L.take k).length = L.length := by
      rw [List.nil_append, List.length_append, List.length_drop, List.length_take]
      omega
    have HO34 := Aside0.mk HR_v34.out.2
    obtain ⟨At, ct, hv, hlt, hCt⟩ := made_C HR_v34.out HW.out
    rw [el] at hv hlt hCt
    obtain ⟨tu, etu⟩ : ∃ tu, [] ++ L.drop k ++ L.take k = tu := ⟨_, rfl⟩
    have HET := Aside0.mk el
    rw [etu] at hCt HET QT QD
    have HOT := Aside0.mk (show OwnRow (fun x cs => k27.K w x cs) 27 5 w1 W7.heap.size (.slice At L.length ct) tu by rw [← hv, ← etu]; exact HO34.out)
    subst hv
    have HCt := Aside0.mk hCt
    have HLt := Aside0.mk hlt
    clear HR_v34 HO34 hCt hlt el etu
    obtain ⟨W8, hW8⟩ : ∃ W8 : World, W8 = w1 := ⟨_, rfl⟩
    rw [← hW8] at HW HOT HCt ⊢
    have HS8 := Aside0.mk (show W7.heap.size ≤ W8.heap.size by rw [hW8]; exact HBW7.out.size)
    clear hW8 HBW7
    have HBW8 := Aside0.mk (Below.refl W8.heap.size W8)
    have kw1 : IntKind.i64.wrap ((k : Int) + 1) = (k : Int) + 1 := by
      have := HLE.out
      exact IntWalk.i64_in _ (by omega)
    have kw2 : (0 : Int) ≤ (k : Int) + 1 := by omega
    have kw3 : (k : Int) + 1 ≤ (L.length : Int) := by omega
    have kw4 : ((k : Int) + 1).toNat = k + 1 := by omega
    go_wp2
    go_region_held3 (fun _ => True) (trivial)
      ((first
        | (refine Kd.R_append_rows_step (kfix w) (Rr := k27.K w) (w0 := W8) W8.heap.size (by rfl) (.const (.slice none 0 0)) (.tmp 37) 22 27 (.agg #[(.slice none 0 0), (.bool false), (.int .i64 0), (.int .i64 0), (.int .i64 0)]) 56 rfl Tryd.underlying22 infRr rfl (by show 0 < 5; decide) (by decide) (.slice none 0 0) ([]) (L.take k) (some ad) k c0 (fun _ => True) (fun _ => False) (by rfl) (by rfl) (Kd.R_nil _ _ _ _ _) (ReadsRow.imp_ T2.out ?c1 (fun _ _ h => h)) (fun _ _ h => h) (fun _ h => h.elim) (fun _ _ => trivial) ?c2 ?c3 ?c4 ?_; (case c1 => exact HW.out.trans ((by repeat (first | exact HBW8.out | apply below_drew1 | apply pw_below_drewN) : Below W8.heap.size W8 _).mono HW.out.size)); (case c2 => repeat (first | exact HBW8.out | apply below_drew1 | apply pw_below_drewN)); (case c3 => exact below_size (by repeat (first | exact HBW8.out | apply below_drew1 | apply pw_below_drewN))); (case c4 => have := HLE.out; (simp only [List.length_append, List.length_nil, List.length_drop, List.length_take]); omega); intro v38 w1 hr1 hb1 hg1 hat1; have HR_v38 := Aside0.mk hr1; have HBW8 := Aside0.mk hb1; clear hr1 hb1 hg1 hat1)
        | (refine Kd.R_append_rows_step (kfix w) (Rr := k27.K w) (w0 := W8) W8.heap.size (by rfl) (.tmp 38) (.tmp 42) 22 27 (.agg #[(.slice none 0 0), (.bool false), (.int .i64 0), (.int .i64 0), (.int .i64 0)]) 56 rfl Tryd.underlying22 infRr rfl (by show 0 < 5; decide) (by decide) v38 ([] ++ L.take k) (L.drop (k + 1)) AJ nj cj (fun _ => True) (fun _ => False) (by rfl) (by rfl) HR_v38.out (ReadsRow.imp_ T3.out ?c1 (fun _ _ h => h)) (fun _ _ h => h) (fun _ h => h.elim) (fun _ _ => trivial) ?c2 ?c3 ?c4 ?_; (case c1 => exact HW.out.trans ((by repeat (first | exact HBW8.out | apply below_drew1 | apply pw_below_drewN) : Below W8.heap.size W8 _).mono HW.out.size)); (case c2 => repeat (first | exact HBW8.out | apply below_drew1 | apply pw_below_drewN)); (case c3 => exact below_size (by repeat (first | exact HBW8.out | apply below_drew1 | apply pw_below_drewN))); (case c4 => have := HLE.out; (simp only [List.length_append, List.length_nil, List.length_drop, List.length_take]); omega); intro v43 w1 hr1 hb1 hg1 hat1; have HR_v43 := Aside0.mk hr1; have HBW8 := Aside0.mk hb1; clear hr1 hb1 hg1 hat1)))
    clear kw1 kw2 kw3 kw4
    have HW := Aside0.mk (HW.out.trans (HBW8.out.mono HW.out.size))
    obtain ⟨nl, el⟩ : ∃ nl, ([] ++ L.take k ++ L.drop (k + 1)).length = nl := ⟨_, rfl⟩
    have HNL := Aside0.mk (show nl ≤ 8 by
      have := HLE.out
      rw [← el, List.nil_append, List.length_append, List.length_drop, List.length_take]
      omega)
    obtain ⟨Al, cl, hv, hll, hCl⟩ := made_C HR_v43.out HW.out
    rw [el] at hv hll hCl
    obtain ⟨le_, ele⟩ : ∃ le_, [] ++ L.take k ++ L.drop (k + 1) = le_ := ⟨_, rfl⟩
    have HEL := Aside0.mk el
    rw [ele] at hCl HEL QL
    subst hv
    have HCl := Aside0.mk hCl
    have HLl := Aside0.mk hll
    clear HR_v43 hCl hll el ele
    have HOT := Aside0.mk (HOT.out.below HBW8.out)
    have HCt := Aside0.mk (Kd.C_below HCt.out HBW8.out)
    obtain ⟨W9, hW9⟩ : ∃ W9 : World, W9 = w1 := ⟨_, rfl⟩
    rw [← hW9] at HW HOT HCt HCl ⊢
    have HS9 := Aside0.mk (show W7.heap.size ≤ W9.heap.size by rw [hW9]; exact Nat.le_trans HS8.out HBW8.out.size)
    clear hW9 HBW8
    have ALT := Aside0.mk (fun W (hW : Below W9.heap.size W9 W) (h : L.length ≤ 100) => all_n W At L.length ct tu HET.out (Kd.C_below HCt.out hW) HLt.out h)
    have ALL_ := Aside0.mk (fun W (hW : Below W9.heap.size W9 W) => all_n W Al nl cl le_ HEL.out (Kd.C_below HCl.out hW) HLl.out (by have := HNL.out; omega))
    have AGT := Aside0.mk (show ∀ W A c, Kd.C k31 W A L.length (tu.map th) → L.length ≤ c → Calls Tryd.prog 17 #[.slice A L.length c] W fun e w' => e = .returned (.bool bs) ∧ Below W.heap.size W w' from fun W A c h hc => by
      have := Agree_n W A L.length c (tu.map th) (by rw [List.length_map]; exact HET.out) h hc
      rw [QT.out] at this
      exact this)
    have AGL := Aside0.mk (show IsT bs → ∀ W A c, Kd.C k31 W A nl (le_.map th) → nl ≤ c → Calls Tryd.prog 17 #[.slice A nl c] W fun e w' => e = .returned (.bool true) ∧ Below W.heap.size W w' from fun hb W A c h hc => by
      have := Agree_n W A nl c (le_.map th) (by rw [List.length_map]; exact HEL.out) h hc
      rw [QL.out hb] at this
      exact this)
    have AGD := Aside0.mk (show ∀ W A c, Kd.C k31 W A (L.length + 1) ((tu ++ [(rd_T27 L k)]).map th) → L.length + 1 ≤ c → Calls Tryd.prog 17 #[.slice A (L.length + 1) c] W fun e w' => e = .returned (.bool bs) ∧ Below W.heap.size W w' from fun W A c h hc => by
      have := Agree_n W A (L.length + 1) c ((tu ++ [(rd_T27 L k)]).map th) (by rw [List.length_map, List.length_append, HET.out]; rfl) h hc
      rw [QD.out] at this
      exact this)
    have HV := Aside0.mk (Below.refl W9.heap.size W9)
    have x0 := (HW.out.cell (World.block_lt_of_cell? w _ X.out.1)).trans X.out.1
    have x1 := (HW.out.cell (World.block_lt_of_cell? w _ X.out.2.1)).trans X.out.2.1
    have x2 := (HW.out.cell (World.block_lt_of_cell? w _ X.out.2.2.1)).trans X.out.2.2.1
    have x3 := (HW.out.cell (World.block_lt_of_cell? w _ X.out.2.2.2.1)).trans X.out.2.2.2.1
    have x4 := (HW.out.cell (World.block_lt_of_cell? w _ X.out.2.2.2.2)).trans X.out.2.2.2.2
    have hlk : (k : Int) < (L.length : Int) := by have := HLE.out; omega
    have HL8 := Aside0.mk (show L.length ≤ 100 by have := HLE.out; omega)
    clear s1 s2 s3 hkl hkc hkl' hlc
    cases bs
    all_goals
      go_wp2_with (first
        | (go_at_call 18; (with_reducible refine (ALT.out _ HV.out HL8.out).mono ?_); rintro e w1 ⟨A, c, rfl, hc, hC, hb1⟩; have HC1 := Aside0.mk hC; have HD1 := Aside0.mk hc; clear hC hc; have HW := Aside0.mk (below_step HW.out hb1); have HV := Aside0.mk (below_step HV.out hb1); have x0 := (HW.out.cell (World.block_lt_of_cell? w _ X.out.1)).trans X.out.1; have x1 := (HW.out.cell (World.block_lt_of_cell? w _ X.out.2.1)).trans X.out.2.1; have x2 := (HW.out.cell (World.block_lt_of_cell? w _ X.out.2.2.1)).trans X.out.2.2.1; have x3 := (HW.out.cell (World.block_lt_of_cell? w _ X.out.2.2.2.1)).trans X.out.2.2.2.1; have x4 := (HW.out.cell (World.block_lt_of_cell? w _ X.out.2.2.2.2)).trans X.out.2.2.2.2; clear hb1)
        | (go_at_call 18; (with_reducible refine (ALL_.out _ HV.out).mono ?_); rintro e w1 ⟨A, c, rfl, hc, hC, hb1⟩; have HC2 := Aside0.mk hC; have HD2 := Aside0.mk hc; clear hC hc; have HW := Aside0.mk (below_step HW.out hb1); have HV := Aside0.mk (below_step HV.out hb1); have x0 := (HW.out.cell (World.block_lt_of_cell? w _ X.out.1)).trans X.out.1; have x1 := (HW.out.cell (World.block_lt_of_cell? w _ X.out.2.1)).trans X.out.2.1; have x2 := (HW.out.cell (World.block_lt_of_cell? w _ X.out.2.2.1)).trans X.out.2.2.1; have x3 := (HW.out.cell (World.block_lt_of_cell? w _ X.out.2.2.2.1)).trans X.out.2.2.2.1; have x4 := (HW.out.cell (World.block_lt_of_cell? w _ X.out.2.2.2.2)).trans X.out.2.2.2.2; clear hb1)
        | (go_at_call 18; (with_reducible refine (ALD.out).mono ?_); rintro e w1 ⟨A, c, rfl, hc, hC, hb1⟩; have HC3 := Aside0.mk hC; have HD3 := Aside0.mk hc; clear hC hc; have HW := Aside0.mk (below_step HW.out hb1); clear hb1)
        | (go_at_call 17; (with_reducible refine (AGT.out _ _ _ HC1.out HD1.out).mono ?_); rintro e w1 ⟨rfl, hb1⟩; have HW := Aside0.mk (below_step HW.out hb1); have HV := Aside0.mk (below_step HV.out hb1); have x0 := (HW.out.cell (World.block_lt_of_cell? w _ X.out.1)).trans X.out.1; have x1 := (HW.out.cell (World.block_lt_of_cell? w _ X.out.2.1)).trans X.out.2.1; have x2 := (HW.out.cell (World.block_lt_of_cell? w _ X.out.2.2.1)).trans X.out.2.2.1; have x3 := (HW.out.cell (World.block_lt_of_cell? w _ X.out.2.2.2.1)).trans X.out.2.2.2.1; have x4 := (HW.out.cell (World.block_lt_of_cell? w _ X.out.2.2.2.2)).trans X.out.2.2.2.2; clear hb1)
        | (go_at_call 17; (with_reducible refine (AGL.out IsT.mk _ _ _ HC2.out HD2.out).mono ?_); rintro e w1 ⟨rfl, hb1⟩; have HW := Aside0.mk (below_step HW.out hb1); have HV := Aside0.mk (below_step HV.out hb1); have x0 := (HW.out.cell (World.block_lt_of_cell? w _ X.out.1)).trans X.out.1; have x1 := (HW.out.cell (World.block_lt_of_cell? w _ X.out.2.1)).trans X.out.2.1; have x2 := (HW.out.cell (World.block_lt_of_cell? w _ X.out.2.2.1)).trans X.out.2.2.1; have x3 := (HW.out.cell (World.block_lt_of_cell? w _ X.out.2.2.2.1)).trans X.out.2.2.2.1; have x4 := (HW.out.cell (World.block_lt_of_cell? w _ X.out.2.2.2.2)).trans X.out.2.2.2.2; clear hb1)
        | (go_at_call 17; (with_reducible refine (AGD.out _ _ _ HC3.out HD3.out).mono ?_); rintro e w1 ⟨rfl, hb1⟩; have HW := Aside0.mk (below_step HW.out hb1); clear hb1)
        | (at_builtin; refine wpList_wanted (by rfl) ?_; refine OwnRow.append_step (R := fun x cs => k27.K w x cs) (w0 := w) w.heap.size (by rfl) _ _ 22 27 (.agg #[(.slice none 0 0), (.bool false), (.int .i64 0), (.int .i64 0), (.int .i64 0)]) 5 56 rfl Tryd.underlying22 infRr rfl (by decide) (by decide) (.slice At L.length ct) tu (rd_T27 L k) [.slice B0 (rd_T27 L k).f0.length b0, .bool (rd_T27 L k).f1, .int .i64 (rd_T27 L k).f2, .int .i64 (rd_T27 L k).f3, .int .i64 (rd_T27 L k).f4] (by rfl) (by rfl) XK.out rfl (k27.K_one XK.out) ((HOT.out.below HV.out).lower ?d1) HW.out (below_size HW.out) (by have := HL8.out; rw [HET.out]; omega) ?_; (case d1 => exact HS7.out); intro v1 w2 hown hb2 hg2 _; obtain ⟨Ad, cd, hv, hld, hrd⟩ := OwnRow.reads hown; have HC0 := Aside0.mk (show Kd.C k27 w2 Ad (L.length + 1) (tu ++ [(rd_T27 L k)]) by (rw [List.length_append, HET.out] at hrd; exact ReadsRow.imp_ hrd (Below.refl _ _) (fun _ _ hp => k27.K_below hb2 hp))); have HD0 := Aside0.mk (show L.length + 1 ≤ cd by (rw [List.length_append, HET.out] at hld; exact hld)); rw [List.length_append, HET.out] at hv; replace hv : v1 = .slice Ad (L.length + 1) cd := hv; subst hv; have ALD := Aside0.mk (all_n w2 Ad (L.length + 1) cd (tu ++ [(rd_T27 L k)]) (by rw [List.length_append, HET.out]; rfl) HC0.out HD0.out (by have := HLE.out; omega)); have HW := Aside0.mk hb2; clear hown hb2 hg2 hld hrd))
      go_ret
      exact ⟨rfl, HW.out⟩
  · obtain rfl | ⟨rfl, hz⟩ : bf = false ∨ (bf = true ∧ ((L.length : Int) == 0) = true) := by
      cases bf
      · exact .inl rfl
      · refine .inr ⟨rfl, ?_⟩
        simpa using hg
    all_goals
      clear hg hbf h0
      go_enter Tryd.func4, Tryd.ntmps4
      go_wp2_with (first
        | (go_at_call 12; (with_reducible refine (ALV.out _ HW.out).mono ?_); rintro e w1 ⟨rfl, hb1⟩; have HW := Aside0.mk (below_step HW.out hb1); clear hb1)
        | (go_at_call 13; (with_reducible refine (FEW.out _ HW.out).mono ?_); rintro e w1 ⟨rfl, hb1⟩; have HW := Aside0.mk (below_step HW.out hb1); clear hb1))
      go_ret
      exact ⟨rfl, HW.out⟩
end Go.Proofs.YtfkfpcciacplkaaDoor.TRW

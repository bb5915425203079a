/- Texts of this claim, pruned to what it needs and laid together by prune.py. -/
import Derived.Test.YtkmkfiidlbhcgaaDoorMA25
import Derived.Test.YtkmkfiidlbhcgaaDoorMA26
namespace Go.Proofs.YtkmkfiidlbhcgaaDoor.F
open Go.RowKit Go.Proofs.YtkmkfiidlbhcgaaDoorW.PrintWords Go.Proofs.YtkmkfiidlbhcgaaDoorW.PrintLast Go.Proofs.YtkmkfiidlbhcgaaDoorW.PrintMore
attribute [local go_sem] max2_int min2_int max_two min_two max_three min_three max_four min_four
set_option linter.unusedVariables false
set_option linter.unusedSimpArgs false
def lockstitchref05_ints.j0 : Nat → Int → Bool → Int → Int → Int → Int → Int → Option (Bool)
  | 0, _, _, _, _, _, _, _ => none
  | k + 1, x4, x5, x161000, x161001, x161002, x161003, x161004 => if x5 = true then (some (decide (x161001 < 8))) else (if x4 = 2 then (if x161001 < 8 then (if x161002 < 8 then (some (decide (x161003 < 8))) else (some false)) else (some false)) else (if x4 = 9 then (some (decide (x161002 < 8))) else (some true)))
def lockstitchref05_ints.f (k : Nat) (a0_0 : Int) (a0_1 : Int) (a0_2 : Int) (a0_3 : Int) (a0_4 : Int) : Option (Bool) := if a0_0 = 1 then (lockstitchref05_ints.j0 k a0_0 (a0_0 == 1) a0_0 a0_1 a0_2 a0_3 a0_4) else (if a0_0 = 4 then (lockstitchref05_ints.j0 k a0_0 (a0_0 == 4) a0_0 a0_1 a0_2 a0_3 a0_4) else (if a0_0 = 8 then (lockstitchref05_ints.j0 k a0_0 (a0_0 == 8) a0_0 a0_1 a0_2 a0_3 a0_4) else (if a0_0 = 14 then (lockstitchref05_ints.j0 k a0_0 (a0_0 == 14) a0_0 a0_1 a0_2 a0_3 a0_4) else (lockstitchref05_ints.j0 k a0_0 (a0_0 == 15) a0_0 a0_1 a0_2 a0_3 a0_4))))
theorem lockstitchref05_ints.mono_l : ∀ k, (∀ y0 y1 y2 y3 y4 y5 y6, LeO (lockstitchref05_ints.j0 k y0 y1 y2 y3 y4 y5 y6) (lockstitchref05_ints.j0 (k + 1) y0 y1 y2 y3 y4 y5 y6))
  | 0 => fun _ _ _ _ _ _ _ r h => by simp [lockstitchref05_ints.j0] at h
  | k + 1 => by
    have ih0 := lockstitchref05_ints.mono_l k
    · intro y0 y1 y2 y3 y4 y5 y6
      unfold lockstitchref05_ints.j0
      repeat' first
      | (with_reducible exact ih0 _ _ _ _ _ _ _)
      | (with_reducible exact LeO.refl _)
      | (with_reducible exact LeO.none _)
      | (with_reducible refine LeO.ite ?_ ?_)
      | (with_reducible refine LeO.bind ?_ (fun _ => ?_))
      | exact ih0 _ _ _ _ _ _ _
      | exact LeO.none _
      | refine LeO.ite ?_ ?_
      | refine LeO.bind ?_ (fun _ => ?_)
theorem lockstitchref05_ints.mono : ∀ a0 a1 a2 a3 a4 k, LeO (lockstitchref05_ints.f k a0 a1 a2 a3 a4) (lockstitchref05_ints.f (k + 1) a0 a1 a2 a3 a4) := by
  intro a0 a1 a2 a3 a4 k
  have ih0 := lockstitchref05_ints.mono_l k
  unfold lockstitchref05_ints.f
  repeat' first
      | (with_reducible exact ih0 _ _ _ _ _ _ _)
      | (with_reducible exact LeO.refl _)
      | (with_reducible exact LeO.none _)
      | (with_reducible refine LeO.ite ?_ ?_)
      | (with_reducible refine LeO.bind ?_ (fun _ => ?_))
      | exact ih0 _ _ _ _ _ _ _
      | exact LeO.none _
      | refine LeO.ite ?_ ?_
      | refine LeO.bind ?_ (fun _ => ?_)
set_option maxHeartbeats 8000000 in
set_option maxRecDepth 100000 in
theorem lockstitchref05_ints.calls (k : Nat) (a0_0 : Int) (a0_1 : Int) (a0_2 : Int) (a0_3 : Int) (a0_4 : Int) (r : Bool) (w : World) (h : lockstitchref05_ints.f k a0_0 a0_1 a0_2 a0_3 a0_4 = some r) :
    Calls Tryd.prog 50 #[.agg #[.int .u8 a0_0, .int .u8 a0_1, .int .u8 a0_2, .int .u8 a0_3, .int .i64 a0_4]] w fun e w' => e = .returned (.bool r) ∧ Below w.heap.size w w' := by
  have hu36 := Tryd.underlying36
  have HB := Aside0.mk (Below.refl w.heap.size w)
  have H : (if a0_0 = 1 then (lockstitchref05_ints.j0 k a0_0 (a0_0 == 1) a0_0 a0_1 a0_2 a0_3 a0_4) else (if a0_0 = 4 then (lockstitchref05_ints.j0 k a0_0 (a0_0 == 4) a0_0 a0_1 a0_2 a0_3 a0_4) else (if a0_0 = 8 then (lockstitchref05_ints.j0 k a0_0 (a0_0 == 8) a0_0 a0_1 a0_2 a0_3 a0_4) else (if a0_0 = 14 then (lockstitchref05_ints.j0 k a0_0 (a0_0 == 14) a0_0 a0_1 a0_2 a0_3 a0_4) else (lockstitchref05_ints.j0 k a0_0 (a0_0 == 15) a0_0 a0_1 a0_2 a0_3 a0_4))))) = some r := h
  clear h
  have HC2 := Aside0.mk H
  clear H
  go_enter Tryd.func50, Tryd.ntmps50
  go_upto_if 5 with (first | ((with_reducible refine gate_dst (N := 1) rfl ?_); refine box_event ?hg (N := 1) ?hd (cs := #[.int .u8 a0_0, .int .u8 a0_1, .int .u8 a0_2, .int .u8 a0_3, .int .i64 a0_4]) (t := 36) ?hr ?_; (case hd => rfl); (case hg => rfl); (case hr => first | (go_simp; done) | (go_simp; rfl)); intro gb160 hg w3 hbox hb; have n0_ := Aside0.mk (below_step (by repeat (first | (with_reducible first | exact HB.out | apply below_alloc | apply pw_below_drewN | apply below_drew1) | exact HB.out)) hb); have n1_ := Aside0.mk (hbox); have n2_ := Aside0.mk ((by rw [hg]; exact (below_size (by repeat (first | (with_reducible first | exact HB.out | apply below_alloc | apply pw_below_drewN | apply below_drew1) | exact HB.out))) : w.heap.size ≤ gb160)); have n3_ := Aside0.mk ((by rw [hg]; exact (below_size (by repeat (first | (with_reducible first | exact HB.out | apply below_alloc | apply pw_below_drewN | apply below_drew1) | exact HB.out))) : w.heap.size ≤ gb160)); clear HB; have HB := n0_; have BK160 := n1_; have GW160 := n2_; have GE160 := n3_; clear n0_ n1_ n2_ n3_; clear hb hbox hg; have hcz4_0 : w3.cell? ⟨gb160, 0, none⟩ = some (.int .u8 a0_0) := (blk_cell BK160.out 0).trans rfl; have hcz4_1 : w3.cell? ⟨gb160, 1, none⟩ = some (.int .u8 a0_1) := (blk_cell BK160.out 1).trans rfl; have hcz4_2 : w3.cell? ⟨gb160, 2, none⟩ = some (.int .u8 a0_2) := (blk_cell BK160.out 2).trans rfl; have hcz4_3 : w3.cell? ⟨gb160, 3, none⟩ = some (.int .u8 a0_3) := (blk_cell BK160.out 3).trans rfl; have hcz4_4 : w3.cell? ⟨gb160, 4, none⟩ = some (.int .i64 a0_4) := (blk_cell BK160.out 4).trans rfl; have hfz4_0 := blk_frozen BK160.out 0; have hfz4_1 := blk_frozen BK160.out 1; have hfz4_2 := blk_frozen BK160.out 2; have hfz4_3 := blk_frozen BK160.out 3; have hfz4_4 := blk_frozen BK160.out 4))
  (try simp only [Act.put, List.setIfInBounds_toArray, List.set_cons_zero, List.set_cons_succ])
  go_cut [5] (fun v5 wc => ∃ (kq : Nat) (x5_1 : Bool), v5 = .bool x5_1 ∧ Aside0 (lockstitchref05_ints.j0 kq a0_0 x5_1 a0_0 a0_1 a0_2 a0_3 a0_4 = some r) ∧ Aside0 (kq ≤ k) ∧ Aside0 (wc.heap[gb160]? = some (.cells #[.int .u8 a0_0, .int .u8 a0_1, .int .u8 a0_2, .int .u8 a0_3, .int .i64 a0_4] 36 (0, 0))) ∧ Aside0 (Below w.heap.size w wc))
  case first =>
    have H := HC2.out
    clear HC2
    by_cases c5 : a0_0 = 1
    · rw [if_pos c5] at H
      have c5b0 : (a0_0 == 1) = true := beq_iff_eq.mpr c5
      have c5b1 : (a0_0 != 1) = false := bne_eq_false_iff_eq.mpr c5
      clear c5
      (first | rw [c5b0] | (simp only [i64_w, i32_w]; rw [c5b0]) | skip)
      have H' := Aside0.mk H
      clear H
      go_wp2
      go_meet
      case rel => exact ⟨_, ((a0_0 == 1)), (by first | rfl | (simp; done) | (simp [*]; done)), H', ⟨by first | omega | exact Nat.le_refl _⟩, ⟨by (with_reducible repeat (first | refine blk_drewN ?_ _ | refine blk_drew ?_ | refine blk_alloc ?_ _)); exact BK160.out⟩, ⟨by repeat (first | (with_reducible first | exact HB.out | apply below_alloc | apply pw_below_drewN | apply below_drew1 | refine below_set ?_ GE160.out) | exact HB.out)⟩⟩
    · rw [if_neg c5] at H
      have c5b0 : (a0_0 == 1) = false := beq_eq_false_iff_ne.mpr c5
      have c5b1 : (a0_0 != 1) = true := bne_iff_ne.mpr c5
      (first | rw [c5b0] | (simp only [i64_w, i32_w]; rw [c5b0]) | skip)
      by_cases c6 : a0_0 = 4
      · rw [if_pos c6] at H
        have c6b0 : (a0_0 == 4) = true := beq_iff_eq.mpr c6
        have c6b1 : (a0_0 != 4) = false := bne_eq_false_iff_eq.mpr c6
        clear c6
        have H' := Aside0.mk H
        clear H
        go_wp2
        go_meet
        case rel => exact ⟨_, ((a0_0 == 4)), (by first | rfl | (simp; done) | (simp [*]; done)), H', ⟨by first | omega | exact Nat.le_refl _⟩, ⟨by (with_reducible repeat (first | refine blk_drewN ?_ _ | refine blk_drew ?_ | refine blk_alloc ?_ _)); exact BK160.out⟩, ⟨by repeat (first | (with_reducible first | exact HB.out | apply below_alloc | apply pw_below_drewN | apply below_drew1 | refine below_set ?_ GE160.out) | exact HB.out)⟩⟩
      · rw [if_neg c6] at H
        have c6b0 : (a0_0 == 4) = false := beq_eq_false_iff_ne.mpr c6
        have c6b1 : (a0_0 != 4) = true := bne_iff_ne.mpr c6
        by_cases c7 : a0_0 = 8
        · rw [if_pos c7] at H
          have c7b0 : (a0_0 == 8) = true := beq_iff_eq.mpr c7
          have c7b1 : (a0_0 != 8) = false := bne_eq_false_iff_eq.mpr c7
          clear c7
          have H' := Aside0.mk H
          clear H
          go_wp2
          go_meet
          case rel => exact ⟨_, ((a0_0 == 8)), (by first | rfl | (simp; done) | (simp [*]; done)), H', ⟨by first | omega | exact Nat.le_refl _⟩, ⟨by (with_reducible repeat (first | refine blk_drewN ?_ _ | refine blk_drew ?_ | refine blk_alloc ?_ _)); exact BK160.out⟩, ⟨by repeat (first | (with_reducible first | exact HB.out | apply below_alloc | apply pw_below_drewN | apply below_drew1 | refine below_set ?_ GE160.out) | exact HB.out)⟩⟩
        · rw [if_neg c7] at H
          have c7b0 : (a0_0 == 8) = false := beq_eq_false_iff_ne.mpr c7
          have c7b1 : (a0_0 != 8) = true := bne_iff_ne.mpr c7
          by_cases c8 : a0_0 = 14
          · rw [if_pos c8] at H
            have c8b0 : (a0_0 == 14) = true := beq_iff_eq.mpr c8
            have c8b1 : (a0_0 != 14) = false := bne_eq_false_iff_eq.mpr c8
            clear c8
            have H' := Aside0.mk H
            clear H
            go_wp2
            go_meet
            case rel => exact ⟨_, ((a0_0 == 14)), (by first | rfl | (simp; done) | (simp [*]; done)), H', ⟨by first | omega | exact Nat.le_refl _⟩, ⟨by (with_reducible repeat (first | refine blk_drewN ?_ _ | refine blk_drew ?_ | refine blk_alloc ?_ _)); exact BK160.out⟩, ⟨by repeat (first | (with_reducible first | exact HB.out | apply below_alloc | apply pw_below_drewN | apply below_drew1 | refine below_set ?_ GE160.out) | exact HB.out)⟩⟩
          · rw [if_neg c8] at H
            have c8b0 : (a0_0 == 14) = false := beq_eq_false_iff_ne.mpr c8
            have c8b1 : (a0_0 != 14) = true := bne_iff_ne.mpr c8
            have H' := Aside0.mk H
            clear H
            go_wp2
            go_meet
            case rel => exact ⟨_, ((a0_0 == 15)), (by first | rfl | (simp; done) | (simp [*]; done)), H', ⟨by first | omega | exact Nat.le_refl _⟩, ⟨by (with_reducible repeat (first | refine blk_drewN ?_ _ | refine blk_drew ?_ | refine blk_alloc ?_ _)); exact BK160.out⟩, ⟨by repeat (first | (with_reducible first | exact HB.out | apply below_alloc | apply pw_below_drewN | apply below_drew1 | refine below_set ?_ GE160.out) | exact HB.out)⟩⟩
  case rest =>
    clear HC2
    try clear p2
    try clear c5
    try clear c5b0
    try clear c5b1
    try clear c6
    try clear c6b0
    try clear c6b1
    try clear c7
    try clear c7b0
    try clear c7b1
    try clear c8
    try clear c8b0
    try clear c8b1
    try clear hcz4_0
    try clear hcz4_1
    try clear hcz4_2
    try clear hcz4_3
    try clear hcz4_4
    try clear hfz4_0
    try clear hfz4_1
    try clear hfz4_2
    try clear hfz4_3
    try clear hfz4_4
    obtain ⟨kq, x5_1, rfl, HA, HJ1, BK160, HB⟩ := hcut
    cases kq with
    | zero => exact absurd HA.out (by simp [lockstitchref05_ints.j0])
    | succ kj1 =>
      have H := HA.out
      clear HA
      simp only [lockstitchref05_ints.j0] at H
      by_cases c9 : x5_1 = true
      · subst c9
        have H1 : (some (decide (a0_1 < 8))) = some r := by rw [if_pos rfl] at H; exact H
        clear H
        have H := H1
        clear H1
        obtain rfl := Option.some.inj H
        have hcz10_0 : wc.cell? ⟨gb160, 0, none⟩ = some (.int .u8 a0_0) := (blk_cell BK160.out 0).trans rfl
        have hcz10_1 : wc.cell? ⟨gb160, 1, none⟩ = some (.int .u8 a0_1) := (blk_cell BK160.out 1).trans rfl
        have hcz10_2 : wc.cell? ⟨gb160, 2, none⟩ = some (.int .u8 a0_2) := (blk_cell BK160.out 2).trans rfl
        have hcz10_3 : wc.cell? ⟨gb160, 3, none⟩ = some (.int .u8 a0_3) := (blk_cell BK160.out 3).trans rfl
        have hcz10_4 : wc.cell? ⟨gb160, 4, none⟩ = some (.int .i64 a0_4) := (blk_cell BK160.out 4).trans rfl
        have hfz10_0 := blk_frozen BK160.out 0
        have hfz10_1 := blk_frozen BK160.out 1
        have hfz10_2 := blk_frozen BK160.out 2
        have hfz10_3 := blk_frozen BK160.out 3
        have hfz10_4 := blk_frozen BK160.out 4
        go_wp2
        go_ret
        exact ⟨by first | rfl | (simp [errW_none, errW_some] <;> rfl) | (simp [*, errW_none, errW_some] <;> rfl), by repeat (first | (with_reducible first | exact HB.out | apply below_alloc | apply pw_below_drewN | apply below_drew1 | refine below_set ?_ GE160.out) | exact HB.out)⟩
      · replace c9 := Bool.eq_false_iff.mpr c9
        subst c9
        have H1 : (if a0_0 = 2 then (if a0_1 < 8 then (if a0_2 < 8 then (some (decide (a0_3 < 8))) else (some false)) else (some false)) else (if a0_0 = 9 then (some (decide (a0_2 < 8))) else (some true))) = some r := by rw [if_neg (show ¬ (false = true) by decide)] at H; exact H
        clear H
        have H := H1
        clear H1
        by_cases c11 : a0_0 = 2
        · rw [if_pos c11] at H
          have c11b0 : (a0_0 == 2) = true := beq_iff_eq.mpr c11
          have c11b1 : (a0_0 != 2) = false := bne_eq_false_iff_eq.mpr c11
          clear c11
          by_cases c12 : a0_1 < 8
          · rw [if_pos c12] at H
            have c12b0 : decide (a0_1 < 8) = true := decide_eq_true c12
            clear c12
            by_cases c13 : a0_2 < 8
            · rw [if_pos c13] at H
              have c13b0 : decide (a0_2 < 8) = true := decide_eq_true c13
              clear c13
              obtain rfl := Option.some.inj H
              have hcz14_0 : wc.cell? ⟨gb160, 0, none⟩ = some (.int .u8 a0_0) := (blk_cell BK160.out 0).trans rfl
              have hcz14_1 : wc.cell? ⟨gb160, 1, none⟩ = some (.int .u8 a0_1) := (blk_cell BK160.out 1).trans rfl
              have hcz14_2 : wc.cell? ⟨gb160, 2, none⟩ = some (.int .u8 a0_2) := (blk_cell BK160.out 2).trans rfl
              have hcz14_3 : wc.cell? ⟨gb160, 3, none⟩ = some (.int .u8 a0_3) := (blk_cell BK160.out 3).trans rfl
              have hcz14_4 : wc.cell? ⟨gb160, 4, none⟩ = some (.int .i64 a0_4) := (blk_cell BK160.out 4).trans rfl
              have hfz14_0 := blk_frozen BK160.out 0
              have hfz14_1 := blk_frozen BK160.out 1
              have hfz14_2 := blk_frozen BK160.out 2
              have hfz14_3 := blk_frozen BK160.out 3
              have hfz14_4 := blk_frozen BK160.out 4
              go_wp2
              go_ret
              exact ⟨by first | rfl | (simp [errW_none, errW_some] <;> rfl) | (simp [*, errW_none, errW_some] <;> rfl), by repeat (first | (with_reducible first | exact HB.out | apply below_alloc | apply pw_below_drewN | apply below_drew1 | refine below_set ?_ GE160.out) | exact HB.out)⟩
            · rw [if_neg c13] at H
              have c13b0 : decide (a0_2 < 8) = false := decide_eq_false c13
              clear c13
              obtain rfl := Option.some.inj H
              have hcz15_0 : wc.cell? ⟨gb160, 0, none⟩ = some (.int .u8 a0_0) := (blk_cell BK160.out 0).trans rfl
              have hcz15_1 : wc.cell? ⟨gb160, 1, none⟩ = some (.int .u8 a0_1) := (blk_cell BK160.out 1).trans rfl
              have hcz15_2 : wc.cell? ⟨gb160, 2, none⟩ = some (.int .u8 a0_2) := (blk_cell BK160.out 2).trans rfl
              have hcz15_3 : wc.cell? ⟨gb160, 3, none⟩ = some (.int .u8 a0_3) := (blk_cell BK160.out 3).trans rfl
              have hcz15_4 : wc.cell? ⟨gb160, 4, none⟩ = some (.int .i64 a0_4) := (blk_cell BK160.out 4).trans rfl
              have hfz15_0 := blk_frozen BK160.out 0
              have hfz15_1 := blk_frozen BK160.out 1
              have hfz15_2 := blk_frozen BK160.out 2
              have hfz15_3 := blk_frozen BK160.out 3
              have hfz15_4 := blk_frozen BK160.out 4
              go_wp2
              go_ret
              exact ⟨by first | rfl | (simp [errW_none, errW_some] <;> rfl) | (simp [*, errW_none, errW_some] <;> rfl), by repeat (first | (with_reducible first | exact HB.out | apply below_alloc | apply pw_below_drewN | apply below_drew1 | refine below_set ?_ GE160.out) | exact HB.out)⟩
          · rw [if_neg c12] at H
            have c12b0 : decide (a0_1 < 8) = false := decide_eq_false c12
            clear c12
            obtain rfl := Option.some.inj H
            have hcz16_0 : wc.cell? ⟨gb160, 0, none⟩ = some (.int .u8 a0_0) := (blk_cell BK160.out 0).trans rfl
            have hcz16_1 : wc.cell? ⟨gb160, 1, none⟩ = some (.int .u8 a0_1) := (blk_cell BK160.out 1).trans rfl
            have hcz16_2 : wc.cell? ⟨gb160, 2, none⟩ = some (.int .u8 a0_2) := (blk_cell BK160.out 2).trans rfl
            have hcz16_3 : wc.cell? ⟨gb160, 3, none⟩ = some (.int .u8 a0_3) := (blk_cell BK160.out 3).trans rfl
            have hcz16_4 : wc.cell? ⟨gb160, 4, none⟩ = some (.int .i64 a0_4) := (blk_cell BK160.out 4).trans rfl
            have hfz16_0 := blk_frozen BK160.out 0
            have hfz16_1 := blk_frozen BK160.out 1
            have hfz16_2 := blk_frozen BK160.out 2
            have hfz16_3 := blk_frozen BK160.out 3
            have hfz16_4 := blk_frozen BK160.out 4
            go_wp2
            go_ret
            exact ⟨by first | rfl | (simp [errW_none, errW_some] <;> rfl) | (simp [*, errW_none, errW_some] <;> rfl), by repeat (first | (with_reducible first | exact HB.out | apply below_alloc | apply pw_below_drewN | apply below_drew1 | refine below_set ?_ GE160.out) | exact HB.out)⟩
        · rw [if_neg c11] at H
          have c11b0 : (a0_0 == 2) = false := beq_eq_false_iff_ne.mpr c11
          have c11b1 : (a0_0 != 2) = true := bne_iff_ne.mpr c11
          by_cases c17 : a0_0 = 9
          · rw [if_pos c17] at H
            have c17b0 : (a0_0 == 9) = true := beq_iff_eq.mpr c17
            have c17b1 : (a0_0 != 9) = false := bne_eq_false_iff_eq.mpr c17
            clear c17
            obtain rfl := Option.some.inj H
            have hcz18_0 : wc.cell? ⟨gb160, 0, none⟩ = some (.int .u8 a0_0) := (blk_cell BK160.out 0).trans rfl
            have hcz18_1 : wc.cell? ⟨gb160, 1, none⟩ = some (.int .u8 a0_1) := (blk_cell BK160.out 1).trans rfl
            have hcz18_2 : wc.cell? ⟨gb160, 2, none⟩ = some (.int .u8 a0_2) := (blk_cell BK160.out 2).trans rfl
            have hcz18_3 : wc.cell? ⟨gb160, 3, none⟩ = some (.int .u8 a0_3) := (blk_cell BK160.out 3).trans rfl
            have hcz18_4 : wc.cell? ⟨gb160, 4, none⟩ = some (.int .i64 a0_4) := (blk_cell BK160.out 4).trans rfl
            have hfz18_0 := blk_frozen BK160.out 0
            have hfz18_1 := blk_frozen BK160.out 1
            have hfz18_2 := blk_frozen BK160.out 2
            have hfz18_3 := blk_frozen BK160.out 3
            have hfz18_4 := blk_frozen BK160.out 4
            go_wp2
            go_ret
            exact ⟨by first | rfl | (simp [errW_none, errW_some] <;> rfl) | (simp [*, errW_none, errW_some] <;> rfl), by repeat (first | (with_reducible first | exact HB.out | apply below_alloc | apply pw_below_drewN | apply below_drew1 | refine below_set ?_ GE160.out) | exact HB.out)⟩
          · rw [if_neg c17] at H
            have c17b0 : (a0_0 == 9) = false := beq_eq_false_iff_ne.mpr c17
            have c17b1 : (a0_0 != 9) = true := bne_iff_ne.mpr c17
            obtain rfl := Option.some.inj H
            go_wp2
            go_ret
            exact ⟨by first | rfl | (simp [errW_none, errW_some] <;> rfl) | (simp [*, errW_none, errW_some] <;> rfl), by repeat (first | (with_reducible first | exact HB.out | apply below_alloc | apply pw_below_drewN | apply below_drew1 | refine below_set ?_ GE160.out) | exact HB.out)⟩
def lockstitchlaw04_Few.l0 : Nat → Int → List ByteArray → Int → Int → List ByteArray → ByteArray → ByteArray → List (S36) → Option (Bool)
  | 0, _, _, _, _, _, _, _, _ => none
  | k + 1, x3, x14, x15, x16, x162000, x162001, x162002, x162003 => if x16 < x15 then (if 0 ≤ x16 then (if x16 < (x14.length : Int) then (lockstitchlaw04_Few.l0 k (wrap64 (x3 + (wrap64 (((rdOf ByteArray.empty x14 x16).size : Int) + 1)))) x14 x15 (wrap64 (x16 + 1)) x162000 x162001 x162002 x162003) else (none)) else (none)) else (if x3 ≤ 500 then (some (decide ((x162003.length : Int) ≤ 210))) else (some false))
def lockstitchlaw04_Few.f (k : Nat) (l0_0 : List ByteArray) (a0_1 : ByteArray) (a0_2 : ByteArray) (l0_3 : List (S36)) : Option (Bool) := lockstitchlaw04_Few.l0 k (wrap64 ((a0_1.size : Int) + (a0_2.size : Int))) l0_0 (l0_0.length : Int) 0 l0_0 a0_1 a0_2 l0_3
set_option maxHeartbeats 8000000 in
set_option maxRecDepth 100000 in
theorem lockstitchlaw04_Few.calls (k : Nat) (A0_0 : Option Addr) (c0_0 : Nat) (l0_0 : List ByteArray) (a0_1 : ByteArray) (a0_2 : ByteArray) (A0_3 : Option Addr) (c0_3 : Nat) (l0_3 : List (S36)) (r : Bool) (w : World) (hr0_0 : Kd.C Kd.string w A0_0 l0_0.length l0_0) (hc0_0 : l0_0.length ≤ c0_0) (hr0_3 : Kd.C k36 w A0_3 l0_3.length l0_3) (hc0_3 : l0_3.length ≤ c0_3) (h : lockstitchlaw04_Few.f k l0_0 a0_1 a0_2 l0_3 = some r) :
    Calls Tryd.prog 42 #[.agg #[.slice A0_0 l0_0.length c0_0, .string a0_1, .string a0_2, .slice A0_3 l0_3.length c0_3]] w fun e w' => e = .returned (.bool r) ∧ Below w.heap.size w w' := by
  have hu25 := Tryd.underlying25
  have HR0_0 := Aside0.mk hr0_0
  have HC0_0 := Aside0.mk hc0_0
  clear hr0_0 hc0_0
  have HR0_3 := Aside0.mk hr0_3
  have HC0_3 := Aside0.mk hc0_3
  clear hr0_3 hc0_3
  have HB := Aside0.mk (Below.refl w.heap.size w)
  have H : (lockstitchlaw04_Few.l0 k (wrap64 ((a0_1.size : Int) + (a0_2.size : Int))) l0_0 (l0_0.length : Int) 0 l0_0 a0_1 a0_2 l0_3) = some r := h
  clear h
  have H' := Aside0.mk H
  clear H
  go_enter Tryd.func42, Tryd.ntmps42
  go_wp2_with (first | ((with_reducible refine gate_dst (N := 1) rfl ?_); (try (refine gate_guard (by rfl) ?_; dsimp only)); refine box_event ?hg (N := 1) ?hd (cs := #[.slice A0_0 l0_0.length c0_0, .string a0_1, .string a0_2, .slice A0_3 l0_3.length c0_3]) (t := 25) ?hr ?_; (case hd => rfl); (case hg => rfl); (case hr => first | (go_simp; done) | (go_simp; rfl)); intro gb161 hg w2 hbox hb; have n0_ := Aside0.mk (below_step (by repeat (first | (with_reducible first | exact HB.out | apply below_alloc | apply pw_below_drewN | apply below_drew1) | exact HB.out)) hb); have n1_ := Aside0.mk (hbox); have n2_ := Aside0.mk ((by rw [hg]; exact (below_size (by repeat (first | (with_reducible first | exact HB.out | apply below_alloc | apply pw_below_drewN | apply below_drew1) | exact HB.out))) : w.heap.size ≤ gb161)); have n3_ := Aside0.mk ((by rw [hg]; exact (below_size (by repeat (first | (with_reducible first | exact HB.out | apply below_alloc | apply pw_below_drewN | apply below_drew1) | exact HB.out))) : w.heap.size ≤ gb161)); clear HB; have HB := n0_; have BK161 := n1_; have GW161 := n2_; have GE161 := n3_; clear n0_ n1_ n2_ n3_; clear hb hbox hg; have hcz3_0 : w2.cell? ⟨gb161, 0, none⟩ = some (.slice A0_0 l0_0.length c0_0) := (blk_cell BK161.out 0).trans rfl; have hcz3_1 : w2.cell? ⟨gb161, 1, none⟩ = some (.string a0_1) := (blk_cell BK161.out 1).trans rfl; have hcz3_2 : w2.cell? ⟨gb161, 2, none⟩ = some (.string a0_2) := (blk_cell BK161.out 2).trans rfl; have hcz3_3 : w2.cell? ⟨gb161, 3, none⟩ = some (.slice A0_3 l0_3.length c0_3) := (blk_cell BK161.out 3).trans rfl; have hfz3_0 := blk_frozen BK161.out 0; have hfz3_1 := blk_frozen BK161.out 1; have hfz3_2 := blk_frozen BK161.out 2; have hfz3_3 := blk_frozen BK161.out 3))
  go_loopg [3, 16] k (fun kq v3 v16 w' => ∃ (x3_1 : Int) (x16_1 : Int), v3 = .int .i64 x3_1 ∧ v16 = .int .i64 x16_1 ∧ Aside0 (lockstitchlaw04_Few.l0 kq x3_1 l0_0 (l0_0.length : Int) x16_1 l0_0 a0_1 a0_2 l0_3 = some r) ∧ Aside0 (kq ≤ k) ∧ Aside0 (w'.heap[gb161]? = some (.cells #[(.slice A0_0 l0_0.length c0_0), .string a0_1, .string a0_2, (.slice A0_3 l0_3.length c0_3)] 25 (0, 0))) ∧ Aside0 (Below w.heap.size w w'))
  case atStart => exact ⟨(wrap64 ((a0_1.size : Int) + (a0_2.size : Int))), (0), (by first | rfl | (simp; done) | (simp [*]; done)), (by first | rfl | (simp; done) | (simp [*]; done)), H', ⟨Nat.le_refl _⟩, ⟨by (with_reducible repeat (first | refine blk_drewN ?_ _ | refine blk_drew ?_ | refine blk_alloc ?_ _)); exact BK161.out⟩, ⟨by repeat (first | (with_reducible first | exact HB.out | apply below_alloc | apply pw_below_drewN | apply below_drew1 | refine below_set ?_ GE161.out) | exact HB.out)⟩⟩
  case round =>
    clear H'
    try clear p2
    try clear hcz3_0
    try clear hcz3_1
    try clear hcz3_2
    try clear hcz3_3
    try clear hfz3_0
    try clear hfz3_1
    try clear hfz3_2
    try clear hfz3_3
    obtain ⟨x3_1, x16_1, rfl, rfl, HA, HK1, BK161, HB⟩ := hrel
    cases gk with
    | zero => exact absurd HA.out (by simp [lockstitchlaw04_Few.l0])
    | succ k1 =>
      have H := HA.out
      clear HA
      simp only [lockstitchlaw04_Few.l0] at H
      by_cases c4 : x16_1 < (l0_0.length : Int)
      · rw [if_pos c4] at H
        have c4b0 : decide (x16_1 < (l0_0.length : Int)) = true := decide_eq_true c4
        clear c4
        by_cases c5 : 0 ≤ x16_1
        · rw [if_pos c5] at H
          have c5b0 : decide (0 ≤ x16_1) = true := decide_eq_true c5
          clear c5
          by_cases c6 : x16_1 < (l0_0.length : Int)
          · rw [if_pos c6] at H
            have c6b0 : decide (x16_1 < (l0_0.length : Int)) = true := decide_eq_true c6
            clear c6
            have H' := Aside0.mk H
            clear H
            have p162 : 0 ≤ (x16_1 : Int) := of_decide_eq_true (by first | (with_reducible assumption) | assumption)
            have q162 : x16_1 < (l0_0.length : Int) := of_decide_eq_true (by first | (with_reducible assumption) | assumption)
            obtain ⟨ad162, e162, hx162_0⟩ := Kd.at_string HR0_0.out x16_1 p162 q162
            cases e162
            replace hx162_0 := (HB.out.cell (World.block_lt_of_cell? w _ hx162_0)).trans hx162_0
            replace p162 := eq_true p162
            replace q162 := eq_true q162
            go_wp2
            go_roundg k1
            case measure => have := HK1.out; omega
            case rel => exact ⟨(wrap64 (x3_1 + (wrap64 (((rdOf ByteArray.empty l0_0 x16_1).size : Int) + 1)))), (wrap64 (x16_1 + 1)), (by first | rfl | (simp; done) | (simp [*]; done)), (by first | rfl | (simp; done) | (simp [*]; done)), H', ⟨by have := HK1.out; omega⟩, ⟨by (with_reducible repeat (first | refine blk_drewN ?_ _ | refine blk_drew ?_ | refine blk_alloc ?_ _)); exact BK161.out⟩, ⟨by repeat (first | (with_reducible first | exact HB.out | apply below_alloc | apply pw_below_drewN | apply below_drew1 | refine below_set ?_ GE161.out) | exact HB.out)⟩⟩
          · rw [if_neg c6] at H
            exact absurd H (by simp)
        · rw [if_neg c5] at H
          exact absurd H (by simp)
      · rw [if_neg c4] at H
        have c4b0 : decide (x16_1 < (l0_0.length : Int)) = false := decide_eq_false c4
        clear c4
        by_cases c7 : x3_1 ≤ 500
        · rw [if_pos c7] at H
          have c7b0 : decide (x3_1 ≤ 500) = true := decide_eq_true c7
          clear c7
          obtain rfl := Option.some.inj H
          have hcz8_0 : wr.cell? ⟨gb161, 0, none⟩ = some (.slice A0_0 l0_0.length c0_0) := (blk_cell BK161.out 0).trans rfl
          have hcz8_1 : wr.cell? ⟨gb161, 1, none⟩ = some (.string a0_1) := (blk_cell BK161.out 1).trans rfl
          have hcz8_2 : wr.cell? ⟨gb161, 2, none⟩ = some (.string a0_2) := (blk_cell BK161.out 2).trans rfl
          have hcz8_3 : wr.cell? ⟨gb161, 3, none⟩ = some (.slice A0_3 l0_3.length c0_3) := (blk_cell BK161.out 3).trans rfl
          have hfz8_0 := blk_frozen BK161.out 0
          have hfz8_1 := blk_frozen BK161.out 1
          have hfz8_2 := blk_frozen BK161.out 2
          have hfz8_3 := blk_frozen BK161.out 3
          go_wp2
          go_ret
          exact ⟨by first | rfl | (simp [errW_none, errW_some] <;> rfl) | (simp [*, errW_none, errW_some] <;> rfl), by repeat (first | (with_reducible first | exact HB.out | apply below_alloc | apply pw_below_drewN | apply below_drew1 | refine below_set ?_ GE161.out) | exact HB.out)⟩
        · rw [if_neg c7] at H
          have c7b0 : decide (x3_1 ≤ 500) = false := decide_eq_false c7
          clear c7
          obtain rfl := Option.some.inj H
          go_wp2
          go_ret
          exact ⟨by first | rfl | (simp [errW_none, errW_some] <;> rfl) | (simp [*, errW_none, errW_some] <;> rfl), by repeat (first | (with_reducible first | exact HB.out | apply below_alloc | apply pw_below_drewN | apply below_drew1 | refine below_set ?_ GE161.out) | exact HB.out)⟩
def lockstitchlaw07_same.l0 : Nat → List Int → List Int → Int → Int → Option (Bool)
  | 0, _, _, _, _ => none
  | k + 1, x0, x1, x12, x13 => if x13 < x12 then (if 0 ≤ x13 then (if x13 < (x0.length : Int) then (if x13 < (x1.length : Int) then (if (rd x0 x13) = (rd x1 x13) then (lockstitchlaw07_same.l0 k x0 x1 x12 (wrap64 (x13 + 1))) else (some false)) else (none)) else (none)) else (none)) else (some true)
def lockstitchlaw07_same.f (k : Nat) (l0 : List Int) (l1 : List Int) : Option (Bool) := if (l0.length : Int) = (l1.length : Int) then (lockstitchlaw07_same.l0 k l0 l1 (l0.length : Int) 0) else (some false)
end Go.Proofs.YtkmkfiidlbhcgaaDoor.F

namespace Go.Proofs.YtkmkfiidlbhcgaaDoor.F
open Go.RowKit Go.Proofs.YtkmkfiidlbhcgaaDoorW.PrintWords Go.Proofs.YtkmkfiidlbhcgaaDoorW.PrintLast Go.Proofs.YtkmkfiidlbhcgaaDoorW.PrintMore
attribute [local go_sem] max2_int min2_int max_two min_two max_three min_three max_four min_four
set_option linter.unusedVariables false
set_option linter.unusedSimpArgs false
mutual
def lockstitchref07_Next.j0 : Nat → Int → Bool → List ByteArray → ByteArray → ByteArray → List (S36) → Option (List Int)
  | 0, _, _, _, _, _, _ => none
  | k + 1, x1, x15, x166000, x166001, x166002, x166003 => if x15 = true then (some ([] : List Int)) else (if 0 ≤ x1 then (if x1 < (x166003.length : Int) then (if ((rd_T36 x166003 x1).f0) = 3 then (some (([(rd_T36 x166003 x1).f4] : List Int))) else (if ((rd_T36 x166003 x1).f0) = 4 then (lockstitchref07_Next.j1 k x1 ((rd_T36 x166003 x1).f4) (decide (((rd_T36 x166003 x1).f4) < (wrap64 (x1 + 1)))) ((rd_T36 x166003 x1).f0) ((rd_T36 x166003 x1).f1) ((rd_T36 x166003 x1).f2) ((rd_T36 x166003 x1).f3) ((rd_T36 x166003 x1).f4)) else (lockstitchref07_Next.j1 k x1 ((rd_T36 x166003 x1).f4) false ((rd_T36 x166003 x1).f0) ((rd_T36 x166003 x1).f1) ((rd_T36 x166003 x1).f2) ((rd_T36 x166003 x1).f3) ((rd_T36 x166003 x1).f4)))) else (none)) else (none))
def lockstitchref07_Next.j1 : Nat → Int → Int → Bool → Int → Int → Int → Int → Int → Option (List Int)
  | 0, _, _, _, _, _, _, _, _ => none
  | k + 1, x1, x6, x29, x168000, x168001, x168002, x168003, x168004 => if x29 = true then (some (([x6, wrap64 (x1 + 1)] : List Int))) else (if x168000 = 4 then (if x6 > (wrap64 (x1 + 1)) then (some (([wrap64 (x1 + 1), x6] : List Int))) else (some (([wrap64 (x1 + 1)] : List Int)))) else (some (([wrap64 (x1 + 1)] : List Int))))
end
def lockstitchref07_Next.f (k : Nat) (l0_0 : List ByteArray) (a0_1 : ByteArray) (a0_2 : ByteArray) (l0_3 : List (S36)) (a1 : Int) : Option (List Int) := if a1 < 0 then (lockstitchref07_Next.j0 k a1 true l0_0 a0_1 a0_2 l0_3) else (lockstitchref07_Next.j0 k a1 (decide (a1 ≥ (l0_3.length : Int))) l0_0 a0_1 a0_2 l0_3)
theorem lockstitchref07_Next.mono_l : ∀ k, (∀ y0 y1 y2 y3 y4 y5, LeO (lockstitchref07_Next.j0 k y0 y1 y2 y3 y4 y5) (lockstitchref07_Next.j0 (k + 1) y0 y1 y2 y3 y4 y5)) ∧ (∀ y0 y1 y2 y3 y4 y5 y6 y7, LeO (lockstitchref07_Next.j1 k y0 y1 y2 y3 y4 y5 y6 y7) (lockstitchref07_Next.j1 (k + 1) y0 y1 y2 y3 y4 y5 y6 y7))
  | 0 => ⟨fun _ _ _ _ _ _ r h => by simp [lockstitchref07_Next.j0] at h, fun _ _ _ _ _ _ _ _ r h => by simp [lockstitchref07_Next.j1] at h⟩
  | k + 1 => by
    obtain ⟨ih0, ih1⟩ := lockstitchref07_Next.mono_l k
    refine ⟨?_, ?_⟩
    · intro y0 y1 y2 y3 y4 y5
      unfold lockstitchref07_Next.j0
      repeat' first
      | (with_reducible exact ih0 _ _ _ _ _ _)
      | (with_reducible exact ih1 _ _ _ _ _ _ _ _)
      | (with_reducible exact LeO.refl _)
      | (with_reducible exact LeO.none _)
      | (with_reducible refine LeO.ite ?_ ?_)
      | (with_reducible refine LeO.bind ?_ (fun _ => ?_))
      | exact ih0 _ _ _ _ _ _
      | exact ih1 _ _ _ _ _ _ _ _
      | exact LeO.none _
      | refine LeO.ite ?_ ?_
      | refine LeO.bind ?_ (fun _ => ?_)
    · intro y0 y1 y2 y3 y4 y5 y6 y7
      unfold lockstitchref07_Next.j1
      repeat' first
      | (with_reducible exact ih0 _ _ _ _ _ _)
      | (with_reducible exact ih1 _ _ _ _ _ _ _ _)
      | (with_reducible exact LeO.refl _)
      | (with_reducible exact LeO.none _)
      | (with_reducible refine LeO.ite ?_ ?_)
      | (with_reducible refine LeO.bind ?_ (fun _ => ?_))
      | exact ih0 _ _ _ _ _ _
      | exact ih1 _ _ _ _ _ _ _ _
      | exact LeO.none _
      | refine LeO.ite ?_ ?_
      | refine LeO.bind ?_ (fun _ => ?_)
theorem lockstitchref07_Next.mono : ∀ a0 a1 a2 a3 a4 k, LeO (lockstitchref07_Next.f k a0 a1 a2 a3 a4) (lockstitchref07_Next.f (k + 1) a0 a1 a2 a3 a4) := by
  intro a0 a1 a2 a3 a4 k
  obtain ⟨ih0, ih1⟩ := lockstitchref07_Next.mono_l k
  unfold lockstitchref07_Next.f
  repeat' first
      | (with_reducible exact ih0 _ _ _ _ _ _)
      | (with_reducible exact ih1 _ _ _ _ _ _ _ _)
      | (with_reducible exact LeO.refl _)
      | (with_reducible exact LeO.none _)
      | (with_reducible refine LeO.ite ?_ ?_)
      | (with_reducible refine LeO.bind ?_ (fun _ => ?_))
      | exact ih0 _ _ _ _ _ _
      | exact ih1 _ _ _ _ _ _ _ _
      | exact LeO.none _
      | refine LeO.ite ?_ ?_
      | refine LeO.bind ?_ (fun _ => ?_)
end Go.Proofs.YtkmkfiidlbhcgaaDoor.F

namespace Go.Proofs.YtkmkfiidlbhcgaaDoor.F
open Go.RowKit Go.Proofs.YtkmkfiidlbhcgaaDoorW.PrintWords Go.Proofs.YtkmkfiidlbhcgaaDoorW.PrintLast Go.Proofs.YtkmkfiidlbhcgaaDoorW.PrintMore
attribute [local go_sem] max2_int min2_int max_two min_two max_three min_three max_four min_four
set_option linter.unusedVariables false
set_option linter.unusedSimpArgs false
mutual
def lockstitchref07_Reach.j0 : Nat → Int → Bool → List ByteArray → ByteArray → ByteArray → List (S36) → Option (List Bool)
  | 0, _, _, _, _, _, _ => none
  | k + 1, x1, x19, x184000, x184001, x184002, x184003 => if x19 = true then (some ([] : List Bool)) else (if 0 ≤ (wrap64 ((x184003.length : Int) + 1)) then (if (wrap64 ((x184003.length : Int) + 1) : Int).toNat ≤ 281474976710656 then (lockstitchref07_Reach.l0 k x1 (List.replicate (wrap64 ((x184003.length : Int) + 1) : Int).toNat false) 0 x184000 x184001 x184002 x184003) else (none)) else (none))
def lockstitchref07_Reach.l0 : Nat → Int → List Bool → Int → List ByteArray → ByteArray → ByteArray → List (S36) → Option (List Bool)
  | 0, _, _, _, _, _, _, _ => none
  | k + 1, x1, x5, x6, x184000, x184001, x184002, x184003 => if x6 ≤ (x184003.length : Int) then (lockstitchref07_Reach.l1 k x1 x5 x6 0 x184000 x184001 x184002 x184003) else (some x5)
def lockstitchref07_Reach.l1 : Nat → Int → List Bool → Int → Int → List ByteArray → ByteArray → ByteArray → List (S36) → Option (List Bool)
  | 0, _, _, _, _, _, _, _, _ => none
  | k + 1, x1, x5, x6, x7, x184000, x184001, x184002, x184003 => if x7 ≤ (x184003.length : Int) then ((lockstitchref07_Next.f k x184000 x184001 x184002 x184003 x7).bind fun t187 => (lockstitchref07_Reach.l2 k x1 x5 x6 x7 t187 0 x184000 x184001 x184002 x184003)) else (lockstitchref07_Reach.l0 k x1 x5 (wrap64 (x6 + 1)) x184000 x184001 x184002 x184003)
def lockstitchref07_Reach.l2 : Nat → Int → List Bool → Int → Int → List Int → Int → List ByteArray → ByteArray → ByteArray → List (S36) → Option (List Bool)
  | 0, _, _, _, _, _, _, _, _, _, _ => none
  | k + 1, x1, x5, x6, x7, x8, x9, x184000, x184001, x184002, x184003 => if x9 < (x8.length : Int) then (if x7 = x1 then (if 0 ≤ x9 then (if 0 ≤ (rd x8 x9) then (if (rd x8 x9) < (x5.length : Int) then (lockstitchref07_Reach.l2 k x1 (x5.set ((rd x8 x9) : Int).toNat true) x6 x7 x8 (wrap64 (x9 + 1)) x184000 x184001 x184002 x184003) else (none)) else (none)) else (none)) else (if 0 ≤ x7 then (if x7 < (x5.length : Int) then (if rdOf false x5 x7 = true then (if 0 ≤ x9 then (if 0 ≤ (rd x8 x9) then (if (rd x8 x9) < (x5.length : Int) then (lockstitchref07_Reach.l2 k x1 (x5.set ((rd x8 x9) : Int).toNat true) x6 x7 x8 (wrap64 (x9 + 1)) x184000 x184001 x184002 x184003) else (none)) else (none)) else (none)) else (lockstitchref07_Reach.l2 k x1 x5 x6 x7 x8 (wrap64 (x9 + 1)) x184000 x184001 x184002 x184003)) else (none)) else (none))) else (lockstitchref07_Reach.l1 k x1 x5 x6 (wrap64 (x7 + 1)) x184000 x184001 x184002 x184003)
end
def lockstitchref07_Reach.f (k : Nat) (l0_0 : List ByteArray) (a0_1 : ByteArray) (a0_2 : ByteArray) (l0_3 : List (S36)) (a1 : Int) : Option (List Bool) := if a1 < 0 then (lockstitchref07_Reach.j0 k a1 true l0_0 a0_1 a0_2 l0_3) else (lockstitchref07_Reach.j0 k a1 (decide (a1 > (l0_3.length : Int))) l0_0 a0_1 a0_2 l0_3)
def lockstitchref07_Loops.f (k : Nat) (l0_0 : List ByteArray) (a0_1 : ByteArray) (a0_2 : ByteArray) (l0_3 : List (S36)) (a1 : Int) : Option (Bool) := (lockstitchref07_Reach.f k l0_0 a0_1 a0_2 l0_3 a1).bind fun t196 => (if a1 ≥ 0 then (if a1 < (t196.length : Int) then (if 0 ≤ a1 then (some (rdOf false t196 a1)) else (none)) else (some false)) else (some false))
def lockstitchref07_Safe.f (l0_0 : List ByteArray) (a0_1 : ByteArray) (a0_2 : ByteArray) (l0_3 : List (S36)) (a1 : Int) : Option (Bool) := if a1 < 0 then (some false) else (if a1 ≥ (l0_3.length : Int) then (some false) else (if 0 ≤ a1 then (if a1 < (l0_3.length : Int) then (if ((rd_T36 l0_3 a1).f0) = 5 then (some true) else (if ((rd_T36 l0_3 a1).f0) = 3 then (some (decide (((rd_T36 l0_3 a1).f4) ≤ a1))) else (if ((rd_T36 l0_3 a1).f0) = 4 then (some (decide (((rd_T36 l0_3 a1).f4) ≤ a1))) else (some false)))) else (none)) else (none)))
end Go.Proofs.YtkmkfiidlbhcgaaDoor.F

namespace Go.Proofs.YtkmkfiidlbhcgaaDoor.F
open Go.RowKit Go.Proofs.YtkmkfiidlbhcgaaDoorW.PrintWords Go.Proofs.YtkmkfiidlbhcgaaDoorW.PrintLast Go.Proofs.YtkmkfiidlbhcgaaDoorW.PrintMore
attribute [local go_sem] max2_int min2_int max_two min_two max_three min_three max_four min_four
set_option linter.unusedVariables false
set_option linter.unusedSimpArgs false
def flow_Safe.j0 : Nat → Int → Bool → List ByteArray → ByteArray → ByteArray → List (S36) → Option (Bool)
  | 0, _, _, _, _, _, _ => none
  | k + 1, x1, x14, x204000, x204001, x204002, x204003 => if x14 = true then (some false) else (if 0 ≤ x1 then (if x1 < (x204003.length : Int) then (if ((rd_T36 x204003 x1).f0) = 5 then (some true) else (if ((rd_T36 x204003 x1).f0) = 3 then (some (decide (((rd_T36 x204003 x1).f4) ≤ x1))) else (if ((rd_T36 x204003 x1).f0) = 4 then (some (decide (((rd_T36 x204003 x1).f4) ≤ x1))) else (some false)))) else (none)) else (none))
def flow_Safe.f (k : Nat) (l0_0 : List ByteArray) (a0_1 : ByteArray) (a0_2 : ByteArray) (l0_3 : List (S36)) (a1 : Int) : Option (Bool) := if a1 < 0 then (flow_Safe.j0 k a1 true l0_0 a0_1 a0_2 l0_3) else (flow_Safe.j0 k a1 (decide (a1 ≥ (l0_3.length : Int))) l0_0 a0_1 a0_2 l0_3)
theorem flow_Safe.mono_l : ∀ k, (∀ y0 y1 y2 y3 y4 y5, LeO (flow_Safe.j0 k y0 y1 y2 y3 y4 y5) (flow_Safe.j0 (k + 1) y0 y1 y2 y3 y4 y5))
  | 0 => fun _ _ _ _ _ _ r h => by simp [flow_Safe.j0] at h
  | k + 1 => by
    have ih0 := flow_Safe.mono_l k
    · intro y0 y1 y2 y3 y4 y5
      unfold flow_Safe.j0
      repeat' first
      | (with_reducible exact ih0 _ _ _ _ _ _)
      | (with_reducible exact LeO.refl _)
      | (with_reducible exact LeO.none _)
      | (with_reducible refine LeO.ite ?_ ?_)
      | (with_reducible refine LeO.bind ?_ (fun _ => ?_))
      | exact ih0 _ _ _ _ _ _
      | exact LeO.none _
      | refine LeO.ite ?_ ?_
      | refine LeO.bind ?_ (fun _ => ?_)
theorem flow_Safe.mono : ∀ a0 a1 a2 a3 a4 k, LeO (flow_Safe.f k a0 a1 a2 a3 a4) (flow_Safe.f (k + 1) a0 a1 a2 a3 a4) := by
  intro a0 a1 a2 a3 a4 k
  have ih0 := flow_Safe.mono_l k
  unfold flow_Safe.f
  repeat' first
      | (with_reducible exact ih0 _ _ _ _ _ _)
      | (with_reducible exact LeO.refl _)
      | (with_reducible exact LeO.none _)
      | (with_reducible refine LeO.ite ?_ ?_)
      | (with_reducible refine LeO.bind ?_ (fun _ => ?_))
      | exact ih0 _ _ _ _ _ _
      | exact LeO.none _
      | refine LeO.ite ?_ ?_
      | refine LeO.bind ?_ (fun _ => ?_)
set_option maxHeartbeats 8000000 in
set_option maxRecDepth 100000 in
theorem flow_Safe.calls (k : Nat) (A0_0 : Option Addr) (c0_0 : Nat) (l0_0 : List ByteArray) (a0_1 : ByteArray) (a0_2 : ByteArray) (A0_3 : Option Addr) (c0_3 : Nat) (l0_3 : List (S36)) (a1 : Int) (r : Bool) (w : World) (hr0_0 : Kd.C Kd.string w A0_0 l0_0.length l0_0) (hc0_0 : l0_0.length ≤ c0_0) (hr0_3 : Kd.C k36 w A0_3 l0_3.length l0_3) (hc0_3 : l0_3.length ≤ c0_3) (h : flow_Safe.f k l0_0 a0_1 a0_2 l0_3 a1 = some r) :
    Calls Tryd.prog 25 #[.agg #[.slice A0_0 l0_0.length c0_0, .string a0_1, .string a0_2, .slice A0_3 l0_3.length c0_3], .int .i64 a1] w fun e w' => e = .returned (.bool r) ∧ Below w.heap.size w w' := by
  have hu25 := Tryd.underlying25
  have hu36 := Tryd.underlying36
  have HR0_0 := Aside0.mk hr0_0
  have HC0_0 := Aside0.mk hc0_0
  clear hr0_0 hc0_0
  have HR0_3 := Aside0.mk hr0_3
  have HC0_3 := Aside0.mk hc0_3
  clear hr0_3 hc0_3
  have HB := Aside0.mk (Below.refl w.heap.size w)
  have H : (if a1 < 0 then (flow_Safe.j0 k a1 true l0_0 a0_1 a0_2 l0_3) else (flow_Safe.j0 k a1 (decide (a1 ≥ (l0_3.length : Int))) l0_0 a0_1 a0_2 l0_3)) = some r := h
  clear h
  have HC3 := Aside0.mk H
  clear H
  go_enter Tryd.func25, Tryd.ntmps25
  go_upto_region 1 with (first | ((with_reducible refine gate_dst (N := 2) rfl ?_); (try (refine gate_guard (by rfl) ?_; dsimp only)); refine box_event ?hg (N := 2) ?hd (cs := #[.slice A0_0 l0_0.length c0_0, .string a0_1, .string a0_2, .slice A0_3 l0_3.length c0_3]) (t := 25) ?hr ?_; (case hd => rfl); (case hg => rfl); (case hr => first | (go_simp; done) | (go_simp; rfl)); intro gb203 hg w4 hbox hb; have n0_ := Aside0.mk (below_step (by repeat (first | (with_reducible first | exact HB.out | apply below_alloc | apply pw_below_drewN | apply below_drew1) | exact HB.out)) hb); have n1_ := Aside0.mk (hbox); have n2_ := Aside0.mk ((by rw [hg]; exact (below_size (by repeat (first | (with_reducible first | exact HB.out | apply below_alloc | apply pw_below_drewN | apply below_drew1) | exact HB.out))) : w.heap.size ≤ gb203)); have n3_ := Aside0.mk ((by rw [hg]; exact (below_size (by repeat (first | (with_reducible first | exact HB.out | apply below_alloc | apply pw_below_drewN | apply below_drew1) | exact HB.out))) : w.heap.size ≤ gb203)); clear HB; have HB := n0_; have BK203 := n1_; have GW203 := n2_; have GE203 := n3_; clear n0_ n1_ n2_ n3_; clear hb hbox hg))
  (try simp only [Act.put, List.setIfInBounds_toArray, List.set_cons_zero, List.set_cons_succ])
  go_cut [14] (fun v14 wc => ∃ (kq : Nat) (x14_2 : Bool), v14 = .bool x14_2 ∧ Aside0 (flow_Safe.j0 kq a1 x14_2 l0_0 a0_1 a0_2 l0_3 = some r) ∧ Aside0 (kq ≤ k) ∧ Aside0 (wc.heap[gb203]? = some (.cells #[(.slice A0_0 l0_0.length c0_0), .string a0_1, .string a0_2, (.slice A0_3 l0_3.length c0_3)] 25 (0, 0))) ∧ Aside0 (Below w.heap.size w wc))
  case first =>
    have H := HC3.out
    clear HC3
    by_cases c5 : a1 < 0
    · rw [if_pos c5] at H
      have c5b0 : decide (a1 < 0) = true := decide_eq_true c5
      clear c5
      (first | rw [c5b0] | (simp only [i64_w, i32_w]; rw [c5b0]) | skip)
      have H' := Aside0.mk H
      clear H
      go_wp2
      go_meet
      case rel => exact ⟨_, (true), (by first | rfl | (simp; done) | (simp [*]; done)), H', ⟨by first | omega | exact Nat.le_refl _⟩, ⟨by (with_reducible repeat (first | refine blk_drewN ?_ _ | refine blk_drew ?_ | refine blk_alloc ?_ _)); exact BK203.out⟩, ⟨by repeat (first | (with_reducible first | exact HB.out | apply below_alloc | apply pw_below_drewN | apply below_drew1 | refine below_set ?_ GE203.out) | exact HB.out)⟩⟩
    · rw [if_neg c5] at H
      have c5b0 : decide (a1 < 0) = false := decide_eq_false c5
      clear c5
      (first | rw [c5b0] | (simp only [i64_w, i32_w]; rw [c5b0]) | skip)
      have H' := Aside0.mk H
      clear H
      have hcz6_0 : w4.cell? ⟨gb203, 0, none⟩ = some (.slice A0_0 l0_0.length c0_0) := (blk_cell BK203.out 0).trans rfl
      have hcz6_1 : w4.cell? ⟨gb203, 1, none⟩ = some (.string a0_1) := (blk_cell BK203.out 1).trans rfl
      have hcz6_2 : w4.cell? ⟨gb203, 2, none⟩ = some (.string a0_2) := (blk_cell BK203.out 2).trans rfl
      have hcz6_3 : w4.cell? ⟨gb203, 3, none⟩ = some (.slice A0_3 l0_3.length c0_3) := (blk_cell BK203.out 3).trans rfl
      have hfz6_0 := blk_frozen BK203.out 0
      have hfz6_1 := blk_frozen BK203.out 1
      have hfz6_2 := blk_frozen BK203.out 2
      have hfz6_3 := blk_frozen BK203.out 3
      go_wp2
      go_meet
      case rel => exact ⟨_, (decide (a1 ≥ (l0_3.length : Int))), (by first | rfl | (simp; done) | (simp [*]; done)), H', ⟨by first | omega | exact Nat.le_refl _⟩, ⟨by (with_reducible repeat (first | refine blk_drewN ?_ _ | refine blk_drew ?_ | refine blk_alloc ?_ _)); exact BK203.out⟩, ⟨by repeat (first | (with_reducible first | exact HB.out | apply below_alloc | apply pw_below_drewN | apply below_drew1 | refine below_set ?_ GE203.out) | exact HB.out)⟩⟩
  case rest =>
    clear HC3
    try clear c2
    try clear p2
    try clear c5
    try clear c5b0
    try clear hcz6_0
    try clear hcz6_1
    try clear hcz6_2
    try clear hcz6_3
    try clear hfz6_0
    try clear hfz6_1
    try clear hfz6_2
    try clear hfz6_3
    obtain ⟨kq, x14_2, rfl, HA, HJ2, BK203, HB⟩ := hcut
    cases kq with
    | zero => exact absurd HA.out (by simp [flow_Safe.j0])
    | succ kj2 =>
      have H := HA.out
      clear HA
      simp only [flow_Safe.j0] at H
      by_cases c7 : x14_2 = true
      · subst c7
        have H1 : (some false) = some r := by rw [if_pos rfl] at H; exact H
        clear H
        have H := H1
        clear H1
        obtain rfl := Option.some.inj H
        go_wp2
        go_ret
        exact ⟨by first | rfl | (simp [errW_none, errW_some] <;> rfl) | (simp [*, errW_none, errW_some] <;> rfl), by repeat (first | (with_reducible first | exact HB.out | apply below_alloc | apply pw_below_drewN | apply below_drew1 | refine below_set ?_ GE203.out) | exact HB.out)⟩
      · replace c7 := Bool.eq_false_iff.mpr c7
        subst c7
        have H1 : (if 0 ≤ a1 then (if a1 < (l0_3.length : Int) then (if ((rd_T36 l0_3 a1).f0) = 5 then (some true) else (if ((rd_T36 l0_3 a1).f0) = 3 then (some (decide (((rd_T36 l0_3 a1).f4) ≤ a1))) else (if ((rd_T36 l0_3 a1).f0) = 4 then (some (decide (((rd_T36 l0_3 a1).f4) ≤ a1))) else (some false)))) else (none)) else (none)) = some r := by rw [if_neg (show ¬ (false = true) by decide)] at H; exact H
        clear H
        have H := H1
        clear H1
        by_cases c8 : 0 ≤ a1
        · rw [if_pos c8] at H
          have c8b0 : decide (0 ≤ a1) = true := decide_eq_true c8
          clear c8
          by_cases c9 : a1 < (l0_3.length : Int)
          · rw [if_pos c9] at H
            have c9b0 : decide (a1 < (l0_3.length : Int)) = true := decide_eq_true c9
            clear c9
            by_cases c10 : ((rd_T36 l0_3 a1).f0) = 5
            · rw [if_pos c10] at H
              have c10b0 : (((rd_T36 l0_3 a1).f0) == 5) = true := beq_iff_eq.mpr c10
              have c10b1 : (((rd_T36 l0_3 a1).f0) != 5) = false := bne_eq_false_iff_eq.mpr c10
              clear c10
              obtain rfl := Option.some.inj H
              have hcz11_0 : wc.cell? ⟨gb203, 0, none⟩ = some (.slice A0_0 l0_0.length c0_0) := (blk_cell BK203.out 0).trans rfl
              have hcz11_1 : wc.cell? ⟨gb203, 1, none⟩ = some (.string a0_1) := (blk_cell BK203.out 1).trans rfl
              have hcz11_2 : wc.cell? ⟨gb203, 2, none⟩ = some (.string a0_2) := (blk_cell BK203.out 2).trans rfl
              have hcz11_3 : wc.cell? ⟨gb203, 3, none⟩ = some (.slice A0_3 l0_3.length c0_3) := (blk_cell BK203.out 3).trans rfl
              have hfz11_0 := blk_frozen BK203.out 0
              have hfz11_1 := blk_frozen BK203.out 1
              have hfz11_2 := blk_frozen BK203.out 2
              have hfz11_3 := blk_frozen BK203.out 3
              have p204 : 0 ≤ (a1 : Int) := of_decide_eq_true (by first | (with_reducible assumption) | assumption)
              have q204 : a1 < (l0_3.length : Int) := of_decide_eq_true (by first | (with_reducible assumption) | assumption)
              obtain ⟨ad204, e204, hx204_0, hx204_1, hx204_2, hx204_3, hx204_4⟩ := at_T36 HR0_3.out a1 p204 q204
              cases e204
              replace hx204_0 := (HB.out.cell (World.block_lt_of_cell? w _ hx204_0)).trans hx204_0
              replace hx204_1 := (HB.out.cell (World.block_lt_of_cell? w _ hx204_1)).trans hx204_1
              replace hx204_2 := (HB.out.cell (World.block_lt_of_cell? w _ hx204_2)).trans hx204_2
              replace hx204_3 := (HB.out.cell (World.block_lt_of_cell? w _ hx204_3)).trans hx204_3
              replace hx204_4 := (HB.out.cell (World.block_lt_of_cell? w _ hx204_4)).trans hx204_4
              replace p204 := eq_true p204
              replace q204 := eq_true q204
              go_wp2_with (first | ((with_reducible refine gate_dst (N := 5) rfl ?_); (try (refine gate_guard (by rfl) ?_; dsimp only)); refine box_event ?hg (N := 5) ?hd (cs := #[.int .u8 0, .int .u8 0, .int .u8 0, .int .u8 0, .int .i64 0]) (t := 36) ?hr ?_; (case hd => rfl); (case hg => rfl); (case hr => first | (go_simp; done) | (go_simp; rfl)); intro gb205 hg w12 hbox hb; have n0_ := Aside0.mk (blk_below (g := gb203) (o := .cells #[.slice A0_0 l0_0.length c0_0, .string a0_1, .string a0_2, .slice (some ad204) l0_3.length c0_3] 25 (0, 0)) (by (with_reducible repeat (first | refine blk_drewN ?_ _ | refine blk_drew ?_ | refine blk_alloc ?_ _)); exact BK203.out) hb); have n1_ := Aside0.mk (below_step (by repeat (first | (with_reducible first | exact HB.out | apply below_alloc | apply pw_below_drewN | apply below_drew1 | refine below_set ?_ GE203.out) | exact HB.out)) hb); have n2_ := Aside0.mk (hbox); have n3_ := Aside0.mk ((by rw [hg]; exact (below_size (by repeat (first | (with_reducible first | exact HB.out | apply below_alloc | apply pw_below_drewN | apply below_drew1 | refine below_set ?_ GE203.out) | exact HB.out))) : w.heap.size ≤ gb205)); have n4_ := Aside0.mk ((by rw [hg]; exact (below_size (by repeat (first | (with_reducible first | exact HB.out | apply below_alloc | apply pw_below_drewN | apply below_drew1 | refine below_set ?_ GE203.out) | exact HB.out))) : w.heap.size ≤ gb205)); have n5_ := Aside0.mk ((by rw [hg]; exact Nat.ne_of_lt (blk_lt (g := gb203) (o := .cells #[.slice A0_0 l0_0.length c0_0, .string a0_1, .string a0_2, .slice (some ad204) l0_3.length c0_3] 25 (0, 0)) (by (with_reducible repeat (first | refine blk_drewN ?_ _ | refine blk_drew ?_ | refine blk_alloc ?_ _)); exact BK203.out)) : gb203 ≠ gb205)); have n6_ := Aside0.mk ((by rw [hg]; exact Nat.ne_of_gt (blk_lt (g := gb203) (o := .cells #[.slice A0_0 l0_0.length c0_0, .string a0_1, .string a0_2, .slice (some ad204) l0_3.length c0_3] 25 (0, 0)) (by (with_reducible repeat (first | refine blk_drewN ?_ _ | refine blk_drew ?_ | refine blk_alloc ?_ _)); exact BK203.out)) : gb205 ≠ gb203)); clear BK203; clear HB; have BK203 := n0_; have HB := n1_; have BK205 := n2_; have GW205 := n3_; have GE205 := n4_; have NB203_205 := n5_; have NB205_203 := n6_; clear n0_ n1_ n2_ n3_ n4_ n5_ n6_; clear hb hbox hg; have hnb13 := NB205_203.out; have hnc13 := NB203_205.out; have hcz14_0 : w12.cell? ⟨gb205, 0, none⟩ = some (.int .u8 0) := (blk_cell BK205.out 0).trans rfl; have hcz14_1 : w12.cell? ⟨gb205, 1, none⟩ = some (.int .u8 0) := (blk_cell BK205.out 1).trans rfl; have hcz14_2 : w12.cell? ⟨gb205, 2, none⟩ = some (.int .u8 0) := (blk_cell BK205.out 2).trans rfl; have hcz14_3 : w12.cell? ⟨gb205, 3, none⟩ = some (.int .u8 0) := (blk_cell BK205.out 3).trans rfl; have hcz14_4 : w12.cell? ⟨gb205, 4, none⟩ = some (.int .i64 0) := (blk_cell BK205.out 4).trans rfl; have hfz14_0 := blk_frozen BK205.out 0; have hfz14_1 := blk_frozen BK205.out 1; have hfz14_2 := blk_frozen BK205.out 2; have hfz14_3 := blk_frozen BK205.out 3; have hfz14_4 := blk_frozen BK205.out 4))
              go_ret
              exact ⟨by first | rfl | (simp [errW_none, errW_some] <;> rfl) | (simp [*, errW_none, errW_some] <;> rfl), by repeat (first | (with_reducible first | exact HB.out | apply below_alloc | apply pw_below_drewN | apply below_drew1 | refine below_set ?_ GE203.out | refine below_set ?_ GE205.out) | exact HB.out)⟩
            · rw [if_neg c10] at H
              have c10b0 : (((rd_T36 l0_3 a1).f0) == 5) = false := beq_eq_false_iff_ne.mpr c10
              have c10b1 : (((rd_T36 l0_3 a1).f0) != 5) = true := bne_iff_ne.mpr c10
              by_cases c15 : ((rd_T36 l0_3 a1).f0) = 3
              · rw [if_pos c15] at H
                have c15b0 : (((rd_T36 l0_3 a1).f0) == 3) = true := beq_iff_eq.mpr c15
                have c15b1 : (((rd_T36 l0_3 a1).f0) != 3) = false := bne_eq_false_iff_eq.mpr c15
                clear c15
                obtain rfl := Option.some.inj H
                have hcz16_0 : wc.cell? ⟨gb203, 0, none⟩ = some (.slice A0_0 l0_0.length c0_0) := (blk_cell BK203.out 0).trans rfl
                have hcz16_1 : wc.cell? ⟨gb203, 1, none⟩ = some (.string a0_1) := (blk_cell BK203.out 1).trans rfl
                have hcz16_2 : wc.cell? ⟨gb203, 2, none⟩ = some (.string a0_2) := (blk_cell BK203.out 2).trans rfl
                have hcz16_3 : wc.cell? ⟨gb203, 3, none⟩ = some (.slice A0_3 l0_3.length c0_3) := (blk_cell BK203.out 3).trans rfl
                have hfz16_0 := blk_frozen BK203.out 0
                have hfz16_1 := blk_frozen BK203.out 1
                have hfz16_2 := blk_frozen BK203.out 2
                have hfz16_3 := blk_frozen BK203.out 3
                have p204 : 0 ≤ (a1 : Int) := of_decide_eq_true (by first | (with_reducible assumption) | assumption)
                have q204 : a1 < (l0_3.length : Int) := of_decide_eq_true (by first | (with_reducible assumption) | assumption)
                obtain ⟨ad204, e204, hx204_0, hx204_1, hx204_2, hx204_3, hx204_4⟩ := at_T36 HR0_3.out a1 p204 q204
                cases e204
                replace hx204_0 := (HB.out.cell (World.block_lt_of_cell? w _ hx204_0)).trans hx204_0
                replace hx204_1 := (HB.out.cell (World.block_lt_of_cell? w _ hx204_1)).trans hx204_1
                replace hx204_2 := (HB.out.cell (World.block_lt_of_cell? w _ hx204_2)).trans hx204_2
                replace hx204_3 := (HB.out.cell (World.block_lt_of_cell? w _ hx204_3)).trans hx204_3
                replace hx204_4 := (HB.out.cell (World.block_lt_of_cell? w _ hx204_4)).trans hx204_4
                replace p204 := eq_true p204
                replace q204 := eq_true q204
                go_wp2_with (first | ((with_reducible refine gate_dst (N := 5) rfl ?_); (try (refine gate_guard (by rfl) ?_; dsimp only)); refine box_event ?hg (N := 5) ?hd (cs := #[.int .u8 0, .int .u8 0, .int .u8 0, .int .u8 0, .int .i64 0]) (t := 36) ?hr ?_; (case hd => rfl); (case hg => rfl); (case hr => first | (go_simp; done) | (go_simp; rfl)); intro gb205 hg w17 hbox hb; have n0_ := Aside0.mk (blk_below (g := gb203) (o := .cells #[.slice A0_0 l0_0.length c0_0, .string a0_1, .string a0_2, .slice (some ad204) l0_3.length c0_3] 25 (0, 0)) (by (with_reducible repeat (first | refine blk_drewN ?_ _ | refine blk_drew ?_ | refine blk_alloc ?_ _)); exact BK203.out) hb); have n1_ := Aside0.mk (below_step (by repeat (first | (with_reducible first | exact HB.out | apply below_alloc | apply pw_below_drewN | apply below_drew1 | refine below_set ?_ GE203.out) | exact HB.out)) hb); have n2_ := Aside0.mk (hbox); have n3_ := Aside0.mk ((by rw [hg]; exact (below_size (by repeat (first | (with_reducible first | exact HB.out | apply below_alloc | apply pw_below_drewN | apply below_drew1 | refine below_set ?_ GE203.out) | exact HB.out))) : w.heap.size ≤ gb205)); have n4_ := Aside0.mk ((by rw [hg]; exact (below_size (by repeat (first | (with_reducible first | exact HB.out | apply below_alloc | apply pw_below_drewN | apply below_drew1 | refine below_set ?_ GE203.out) | exact HB.out))) : w.heap.size ≤ gb205)); have n5_ := Aside0.mk ((by rw [hg]; exact Nat.ne_of_lt (blk_lt (g := gb203) (o := .cells #[.slice A0_0 l0_0.length c0_0, .string a0_1, .string a0_2, .slice (some ad204) l0_3.length c0_3] 25 (0, 0)) (by (with_reducible repeat (first | refine blk_drewN ?_ _ | refine blk_drew ?_ | refine blk_alloc ?_ _)); exact BK203.out)) : gb203 ≠ gb205)); have n6_ := Aside0.mk ((by rw [hg]; exact Nat.ne_of_gt (blk_lt (g := gb203) (o := .cells #[.slice A0_0 l0_0.length c0_0, .string a0_1, .string a0_2, .slice (some ad204) l0_3.length c0_3] 25 (0, 0)) (by (with_reducible repeat (first | refine blk_drewN ?_ _ | refine blk_drew ?_ | refine blk_alloc ?_ _)); exact BK203.out)) : gb205 ≠ gb203)); clear BK203; clear HB; have BK203 := n0_; have HB := n1_; have BK205 := n2_; have GW205 := n3_; have GE205 := n4_; have NB203_205 := n5_; have NB205_203 := n6_; clear n0_ n1_ n2_ n3_ n4_ n5_ n6_; clear hb hbox hg; have hnb18 := NB205_203.out; have hnc18 := NB203_205.out; have hcz19_0 : w17.cell? ⟨gb205, 0, none⟩ = some (.int .u8 0) := (blk_cell BK205.out 0).trans rfl; have hcz19_1 : w17.cell? ⟨gb205, 1, none⟩ = some (.int .u8 0) := (blk_cell BK205.out 1).trans rfl; have hcz19_2 : w17.cell? ⟨gb205, 2, none⟩ = some (.int .u8 0) := (blk_cell BK205.out 2).trans rfl; have hcz19_3 : w17.cell? ⟨gb205, 3, none⟩ = some (.int .u8 0) := (blk_cell BK205.out 3).trans rfl; have hcz19_4 : w17.cell? ⟨gb205, 4, none⟩ = some (.int .i64 0) := (blk_cell BK205.out 4).trans rfl; have hfz19_0 := blk_frozen BK205.out 0; have hfz19_1 := blk_frozen BK205.out 1; have hfz19_2 := blk_frozen BK205.out 2; have hfz19_3 := blk_frozen BK205.out 3; have hfz19_4 := blk_frozen BK205.out 4))
                go_ret
                exact ⟨by first | rfl | (simp [errW_none, errW_some] <;> rfl) | (simp [*, errW_none, errW_some] <;> rfl), by repeat (first | (with_reducible first | exact HB.out | apply below_alloc | apply pw_below_drewN | apply below_drew1 | refine below_set ?_ GE203.out | refine below_set ?_ GE205.out) | exact HB.out)⟩
              · rw [if_neg c15] at H
                have c15b0 : (((rd_T36 l0_3 a1).f0) == 3) = false := beq_eq_false_iff_ne.mpr c15
                have c15b1 : (((rd_T36 l0_3 a1).f0) != 3) = true := bne_iff_ne.mpr c15
                by_cases c20 : ((rd_T36 l0_3 a1).f0) = 4
                · rw [if_pos c20] at H
                  have c20b0 : (((rd_T36 l0_3 a1).f0) == 4) = true := beq_iff_eq.mpr c20
                  have c20b1 : (((rd_T36 l0_3 a1).f0) != 4) = false := bne_eq_false_iff_eq.mpr c20
                  clear c20
                  obtain rfl := Option.some.inj H
                  have hcz21_0 : wc.cell? ⟨gb203, 0, none⟩ = some (.slice A0_0 l0_0.length c0_0) := (blk_cell BK203.out 0).trans rfl
                  have hcz21_1 : wc.cell? ⟨gb203, 1, none⟩ = some (.string a0_1) := (blk_cell BK203.out 1).trans rfl
                  have hcz21_2 : wc.cell? ⟨gb203, 2, none⟩ = some (.string a0_2) := (blk_cell BK203.out 2).trans rfl
                  have hcz21_3 : wc.cell? ⟨gb203, 3, none⟩ = some (.slice A0_3 l0_3.length c0_3) := (blk_cell BK203.out 3).trans rfl
                  have hfz21_0 := blk_frozen BK203.out 0
                  have hfz21_1 := blk_frozen BK203.out 1
                  have hfz21_2 := blk_frozen BK203.out 2
                  have hfz21_3 := blk_frozen BK203.out 3
                  have p204 : 0 ≤ (a1 : Int) := of_decide_eq_true (by first | (with_reducible assumption) | assumption)
                  have q204 : a1 < (l0_3.length : Int) := of_decide_eq_true (by first | (with_reducible assumption) | assumption)
                  obtain ⟨ad204, e204, hx204_0, hx204_1, hx204_2, hx204_3, hx204_4⟩ := at_T36 HR0_3.out a1 p204 q204
                  cases e204
                  replace hx204_0 := (HB.out.cell (World.block_lt_of_cell? w _ hx204_0)).trans hx204_0
                  replace hx204_1 := (HB.out.cell (World.block_lt_of_cell? w _ hx204_1)).trans hx204_1
                  replace hx204_2 := (HB.out.cell (World.block_lt_of_cell? w _ hx204_2)).trans hx204_2
                  replace hx204_3 := (HB.out.cell (World.block_lt_of_cell? w _ hx204_3)).trans hx204_3
                  replace hx204_4 := (HB.out.cell (World.block_lt_of_cell? w _ hx204_4)).trans hx204_4
                  replace p204 := eq_true p204
                  replace q204 := eq_true q204
                  go_wp2_with (first | ((with_reducible refine gate_dst (N := 5) rfl ?_); (try (refine gate_guard (by rfl) ?_; dsimp only)); refine box_event ?hg (N := 5) ?hd (cs := #[.int .u8 0, .int .u8 0, .int .u8 0, .int .u8 0, .int .i64 0]) (t := 36) ?hr ?_; (case hd => rfl); (case hg => rfl); (case hr => first | (go_simp; done) | (go_simp; rfl)); intro gb205 hg w22 hbox hb; have n0_ := Aside0.mk (blk_below (g := gb203) (o := .cells #[.slice A0_0 l0_0.length c0_0, .string a0_1, .string a0_2, .slice (some ad204) l0_3.length c0_3] 25 (0, 0)) (by (with_reducible repeat (first | refine blk_drewN ?_ _ | refine blk_drew ?_ | refine blk_alloc ?_ _)); exact BK203.out) hb); have n1_ := Aside0.mk (below_step (by repeat (first | (with_reducible first | exact HB.out | apply below_alloc | apply pw_below_drewN | apply below_drew1 | refine below_set ?_ GE203.out) | exact HB.out)) hb); have n2_ := Aside0.mk (hbox); have n3_ := Aside0.mk ((by rw [hg]; exact (below_size (by repeat (first | (with_reducible first | exact HB.out | apply below_alloc | apply pw_below_drewN | apply below_drew1 | refine below_set ?_ GE203.out) | exact HB.out))) : w.heap.size ≤ gb205)); have n4_ := Aside0.mk ((by rw [hg]; exact (below_size (by repeat (first | (with_reducible first | exact HB.out | apply below_alloc | apply pw_below_drewN | apply below_drew1 | refine below_set ?_ GE203.out) | exact HB.out))) : w.heap.size ≤ gb205)); have n5_ := Aside0.mk ((by rw [hg]; exact Nat.ne_of_lt (blk_lt (g := gb203) (o := .cells #[.slice A0_0 l0_0.length c0_0, .string a0_1, .string a0_2, .slice (some ad204) l0_3.length c0_3] 25 (0, 0)) (by (with_reducible repeat (first | refine blk_drewN ?_ _ | refine blk_drew ?_ | refine blk_alloc ?_ _)); exact BK203.out)) : gb203 ≠ gb205)); have n6_ := Aside0.mk ((by rw [hg]; exact Nat.ne_of_gt (blk_lt (g := gb203) (o := .cells #[.slice A0_0 l0_0.length c0_0, .string a0_1, .string a0_2, .slice (some ad204) l0_3.length c0_3] 25 (0, 0)) (by (with_reducible repeat (first | refine blk_drewN ?_ _ | refine blk_drew ?_ | refine blk_alloc ?_ _)); exact BK203.out)) : gb205 ≠ gb203)); clear BK203; clear HB; have BK203 := n0_; have HB := n1_; have BK205 := n2_; have GW205 := n3_; have GE205 := n4_; have NB203_205 := n5_; have NB205_203 := n6_; clear n0_ n1_ n2_ n3_ n4_ n5_ n6_; clear hb hbox hg; have hnb23 := NB205_203.out; have hnc23 := NB203_205.out; have hcz24_0 : w22.cell? ⟨gb205, 0, none⟩ = some (.int .u8 0) := (blk_cell BK205.out 0).trans rfl; have hcz24_1 : w22.cell? ⟨gb205, 1, none⟩ = some (.int .u8 0) := (blk_cell BK205.out 1).trans rfl; have hcz24_2 : w22.cell? ⟨gb205, 2, none⟩ = some (.int .u8 0) := (blk_cell BK205.out 2).trans rfl; have hcz24_3 : w22.cell? ⟨gb205, 3, none⟩ = some (.int .u8 0) := (blk_cell BK205.out 3).trans rfl; have hcz24_4 : w22.cell? ⟨gb205, 4, none⟩ = some (.int .i64 0) := (blk_cell BK205.out 4).trans rfl; have hfz24_0 := blk_frozen BK205.out 0; have hfz24_1 := blk_frozen BK205.out 1; have hfz24_2 := blk_frozen BK205.out 2; have hfz24_3 := blk_frozen BK205.out 3; have hfz24_4 := blk_frozen BK205.out 4))
                  go_ret
                  exact ⟨by first | rfl | (simp [errW_none, errW_some] <;> rfl) | (simp [*, errW_none, errW_some] <;> rfl), by repeat (first | (with_reducible first | exact HB.out | apply below_alloc | apply pw_below_drewN | apply below_drew1 | refine below_set ?_ GE203.out | refine below_set ?_ GE205.out) | exact HB.out)⟩
                · rw [if_neg c20] at H
                  have c20b0 : (((rd_T36 l0_3 a1).f0) == 4) = false := beq_eq_false_iff_ne.mpr c20
                  have c20b1 : (((rd_T36 l0_3 a1).f0) != 4) = true := bne_iff_ne.mpr c20
                  obtain rfl := Option.some.inj H
                  have hcz25_0 : wc.cell? ⟨gb203, 0, none⟩ = some (.slice A0_0 l0_0.length c0_0) := (blk_cell BK203.out 0).trans rfl
                  have hcz25_1 : wc.cell? ⟨gb203, 1, none⟩ = some (.string a0_1) := (blk_cell BK203.out 1).trans rfl
                  have hcz25_2 : wc.cell? ⟨gb203, 2, none⟩ = some (.string a0_2) := (blk_cell BK203.out 2).trans rfl
                  have hcz25_3 : wc.cell? ⟨gb203, 3, none⟩ = some (.slice A0_3 l0_3.length c0_3) := (blk_cell BK203.out 3).trans rfl
                  have hfz25_0 := blk_frozen BK203.out 0
                  have hfz25_1 := blk_frozen BK203.out 1
                  have hfz25_2 := blk_frozen BK203.out 2
                  have hfz25_3 := blk_frozen BK203.out 3
                  have p204 : 0 ≤ (a1 : Int) := of_decide_eq_true (by first | (with_reducible assumption) | assumption)
                  have q204 : a1 < (l0_3.length : Int) := of_decide_eq_true (by first | (with_reducible assumption) | assumption)
                  obtain ⟨ad204, e204, hx204_0, hx204_1, hx204_2, hx204_3, hx204_4⟩ := at_T36 HR0_3.out a1 p204 q204
                  cases e204
                  replace hx204_0 := (HB.out.cell (World.block_lt_of_cell? w _ hx204_0)).trans hx204_0
                  replace hx204_1 := (HB.out.cell (World.block_lt_of_cell? w _ hx204_1)).trans hx204_1
                  replace hx204_2 := (HB.out.cell (World.block_lt_of_cell? w _ hx204_2)).trans hx204_2
                  replace hx204_3 := (HB.out.cell (World.block_lt_of_cell? w _ hx204_3)).trans hx204_3
                  replace hx204_4 := (HB.out.cell (World.block_lt_of_cell? w _ hx204_4)).trans hx204_4
                  replace p204 := eq_true p204
                  replace q204 := eq_true q204
                  go_wp2_with (first | ((with_reducible refine gate_dst (N := 5) rfl ?_); (try (refine gate_guard (by rfl) ?_; dsimp only)); refine box_event ?hg (N := 5) ?hd (cs := #[.int .u8 0, .int .u8 0, .int .u8 0, .int .u8 0, .int .i64 0]) (t := 36) ?hr ?_; (case hd => rfl); (case hg => rfl); (case hr => first | (go_simp; done) | (go_simp; rfl)); intro gb205 hg w26 hbox hb; have n0_ := Aside0.mk (blk_below (g := gb203) (o := .cells #[.slice A0_0 l0_0.length c0_0, .string a0_1, .string a0_2, .slice (some ad204) l0_3.length c0_3] 25 (0, 0)) (by (with_reducible repeat (first | refine blk_drewN ?_ _ | refine blk_drew ?_ | refine blk_alloc ?_ _)); exact BK203.out) hb); have n1_ := Aside0.mk (below_step (by repeat (first | (with_reducible first | exact HB.out | apply below_alloc | apply pw_below_drewN | apply below_drew1 | refine below_set ?_ GE203.out) | exact HB.out)) hb); have n2_ := Aside0.mk (hbox); have n3_ := Aside0.mk ((by rw [hg]; exact (below_size (by repeat (first | (with_reducible first | exact HB.out | apply below_alloc | apply pw_below_drewN | apply below_drew1 | refine below_set ?_ GE203.out) | exact HB.out))) : w.heap.size ≤ gb205)); have n4_ := Aside0.mk ((by rw [hg]; exact (below_size (by repeat (first | (with_reducible first | exact HB.out | apply below_alloc | apply pw_below_drewN | apply below_drew1 | refine below_set ?_ GE203.out) | exact HB.out))) : w.heap.size ≤ gb205)); have n5_ := Aside0.mk ((by rw [hg]; exact Nat.ne_of_lt (blk_lt (g := gb203) (o := .cells #[.slice A0_0 l0_0.length c0_0, .string a0_1, .string a0_2, .slice (some ad204) l0_3.length c0_3] 25 (0, 0)) (by (with_reducible repeat (first | refine blk_drewN ?_ _ | refine blk_drew ?_ | refine blk_alloc ?_ _)); exact BK203.out)) : gb203 ≠ gb205)); have n6_ := Aside0.mk ((by rw [hg]; exact Nat.ne_of_gt (blk_lt (g := gb203) (o := .cells #[.slice A0_0 l0_0.length c0_0, .string a0_1, .string a0_2, .slice (some ad204) l0_3.length c0_3] 25 (0, 0)) (by (with_reducible repeat (first | refine blk_drewN ?_ _ | refine blk_drew ?_ | refine blk_alloc ?_ _)); exact BK203.out)) : gb205 ≠ gb203)); clear BK203; clear HB; have BK203 := n0_; have HB := n1_; have BK205 := n2_; have GW205 := n3_; have GE205 := n4_; have NB203_205 := n5_; have NB205_203 := n6_; clear n0_ n1_ n2_ n3_ n4_ n5_ n6_; clear hb hbox hg; have hnb27 := NB205_203.out; have hnc27 := NB203_205.out; have hcz28_0 : w26.cell? ⟨gb205, 0, none⟩ = some (.int .u8 0) := (blk_cell BK205.out 0).trans rfl; have hcz28_1 : w26.cell? ⟨gb205, 1, none⟩ = some (.int .u8 0) := (blk_cell BK205.out 1).trans rfl; have hcz28_2 : w26.cell? ⟨gb205, 2, none⟩ = some (.int .u8 0) := (blk_cell BK205.out 2).trans rfl; have hcz28_3 : w26.cell? ⟨gb205, 3, none⟩ = some (.int .u8 0) := (blk_cell BK205.out 3).trans rfl; have hcz28_4 : w26.cell? ⟨gb205, 4, none⟩ = some (.int .i64 0) := (blk_cell BK205.out 4).trans rfl; have hfz28_0 := blk_frozen BK205.out 0; have hfz28_1 := blk_frozen BK205.out 1; have hfz28_2 := blk_frozen BK205.out 2; have hfz28_3 := blk_frozen BK205.out 3; have hfz28_4 := blk_frozen BK205.out 4))
                  go_ret
                  exact ⟨by first | rfl | (simp [errW_none, errW_some] <;> rfl) | (simp [*, errW_none, errW_some] <;> rfl), by repeat (first | (with_reducible first | exact HB.out | apply below_alloc | apply pw_below_drewN | apply below_drew1 | refine below_set ?_ GE203.out | refine below_set ?_ GE205.out) | exact HB.out)⟩
          · rw [if_neg c9] at H
            exact absurd H (by simp)
        · rw [if_neg c8] at H
          exact absurd H (by simp)
def live_bits.l0 : Nat → Int → List Int → Int → Int → Option (Int)
  | 0, _, _, _, _ => none
  | k + 1, x3, x6, x7, x8 => if x8 < x7 then (if 0 ≤ x8 then (if x8 < (x6.length : Int) then (if 0 ≤ (rd x6 x8) then (live_bits.l0 k (Go.bits .or .u8 x3 (shl .u8 1 (rd x6 x8))) x6 x7 (wrap64 (x8 + 1))) else (none)) else (none)) else (none)) else (some x3)
def live_bits.f (k : Nat) (l0 : List Int) : Option (Int) := live_bits.l0 k 0 l0 (l0.length : Int) 0
theorem live_bits.mono_l : ∀ k, (∀ y0 y1 y2 y3, LeO (live_bits.l0 k y0 y1 y2 y3) (live_bits.l0 (k + 1) y0 y1 y2 y3))
  | 0 => fun _ _ _ _ r h => by simp [live_bits.l0] at h
  | k + 1 => by
    have ih0 := live_bits.mono_l k
    · intro y0 y1 y2 y3
      unfold live_bits.l0
      repeat' first
      | (with_reducible exact ih0 _ _ _ _)
      | (with_reducible exact LeO.refl _)
      | (with_reducible exact LeO.none _)
      | (with_reducible refine LeO.ite ?_ ?_)
      | (with_reducible refine LeO.bind ?_ (fun _ => ?_))
      | exact ih0 _ _ _ _
      | exact LeO.none _
      | refine LeO.ite ?_ ?_
      | refine LeO.bind ?_ (fun _ => ?_)
theorem live_bits.mono : ∀ a0 k, LeO (live_bits.f k a0) (live_bits.f (k + 1) a0) := by
  intro a0 k
  have ih0 := live_bits.mono_l k
  unfold live_bits.f
  repeat' first
      | (with_reducible exact ih0 _ _ _ _)
      | (with_reducible exact LeO.refl _)
      | (with_reducible exact LeO.none _)
      | (with_reducible refine LeO.ite ?_ ?_)
      | (with_reducible refine LeO.bind ?_ (fun _ => ?_))
      | exact ih0 _ _ _ _
      | exact LeO.none _
      | refine LeO.ite ?_ ?_
      | refine LeO.bind ?_ (fun _ => ?_)
def live_Uses.j0 : Nat → Int → Bool → Int → Int → Int → Int → Int → Option (Int)
  | 0, _, _, _, _, _, _, _ => none
  | k + 1, x4, x5, x208000, x208001, x208002, x208003, x208004 => if x5 = true then ((live_bits.f k (([x208002] : List Int))).bind fun t211 => (some t211)) else (if x4 = 9 then ((live_bits.f k (([x208001] : List Int))).bind fun t215 => (some t215)) else (if x4 = 11 then ((live_bits.f k (([x208001, x208002] : List Int))).bind fun t219 => (some t219)) else (if x4 = 15 then ((live_bits.f k (([x208002, x208003] : List Int))).bind fun t223 => (some t223)) else (some 0))))
def live_Uses.f (k : Nat) (a0_0 : Int) (a0_1 : Int) (a0_2 : Int) (a0_3 : Int) (a0_4 : Int) : Option (Int) := if a0_0 = 7 then (live_Uses.j0 k a0_0 (a0_0 == 7) a0_0 a0_1 a0_2 a0_3 a0_4) else (if a0_0 = 8 then (live_Uses.j0 k a0_0 (a0_0 == 8) a0_0 a0_1 a0_2 a0_3 a0_4) else (if a0_0 = 10 then (live_Uses.j0 k a0_0 (a0_0 == 10) a0_0 a0_1 a0_2 a0_3 a0_4) else (live_Uses.j0 k a0_0 (a0_0 == 13) a0_0 a0_1 a0_2 a0_3 a0_4)))
def live_Sets.f (k : Nat) (a0_0 : Int) (a0_1 : Int) (a0_2 : Int) (a0_3 : Int) (a0_4 : Int) : Option (Int) := if a0_0 = 5 then ((live_bits.f k (([a0_1] : List Int))).bind fun t228 => (some t228)) else (if a0_0 = 6 then ((live_bits.f k (([a0_1] : List Int))).bind fun t232 => (some t232)) else (if a0_0 = 7 then ((live_bits.f k (([a0_1] : List Int))).bind fun t236 => (some t236)) else (if a0_0 = 10 then ((live_bits.f k (([a0_1] : List Int))).bind fun t240 => (some t240)) else (if a0_0 = 12 then ((live_bits.f k (([a0_1] : List Int))).bind fun t244 => (some t244)) else (some 0)))))
def lockstitchref08_bit.l0 : Nat → Int → Int → Int → Option (Int)
  | 0, _, _, _ => none
  | k + 1, x0, x3, x4 => if x4 < x0 then (lockstitchref08_bit.l0 k x0 ((x3 * 2) % 256) ((x4 + 1) % 256)) else (some x3)
def lockstitchref08_bit.f (k : Nat) (a0 : Int) : Option (Int) := if a0 > 7 then (some 0) else (lockstitchref08_bit.l0 k a0 1 0)
theorem lockstitchref08_bit.mono_l : ∀ k, (∀ y0 y1 y2, LeO (lockstitchref08_bit.l0 k y0 y1 y2) (lockstitchref08_bit.l0 (k + 1) y0 y1 y2))
  | 0 => fun _ _ _ r h => by simp [lockstitchref08_bit.l0] at h
  | k + 1 => by
    have ih0 := lockstitchref08_bit.mono_l k
    · intro y0 y1 y2
      unfold lockstitchref08_bit.l0
      repeat' first
      | (with_reducible exact ih0 _ _ _)
      | (with_reducible exact LeO.refl _)
      | (with_reducible exact LeO.none _)
      | (with_reducible refine LeO.ite ?_ ?_)
      | (with_reducible refine LeO.bind ?_ (fun _ => ?_))
      | exact ih0 _ _ _
      | exact LeO.none _
      | refine LeO.ite ?_ ?_
      | refine LeO.bind ?_ (fun _ => ?_)
theorem lockstitchref08_bit.mono : ∀ a0 k, LeO (lockstitchref08_bit.f k a0) (lockstitchref08_bit.f (k + 1) a0) := by
  intro a0 k
  have ih0 := lockstitchref08_bit.mono_l k
  unfold lockstitchref08_bit.f
  repeat' first
      | (with_reducible exact ih0 _ _ _)
      | (with_reducible exact LeO.refl _)
      | (with_reducible exact LeO.none _)
      | (with_reducible refine LeO.ite ?_ ?_)
      | (with_reducible refine LeO.bind ?_ (fun _ => ?_))
      | exact ih0 _ _ _
      | exact LeO.none _
      | refine LeO.ite ?_ ?_
      | refine LeO.bind ?_ (fun _ => ?_)
end Go.Proofs.YtkmkfiidlbhcgaaDoor.F

namespace Go.Proofs.YtkmkfiidlbhcgaaDoor.F
open Go.RowKit Go.Proofs.YtkmkfiidlbhcgaaDoorW.PrintWords Go.Proofs.YtkmkfiidlbhcgaaDoorW.PrintLast Go.Proofs.YtkmkfiidlbhcgaaDoorW.PrintMore
attribute [local go_sem] max2_int min2_int max_two min_two max_three min_three max_four min_four
set_option linter.unusedVariables false
set_option linter.unusedSimpArgs false
def lockstitchref08_Uses.j0 : Nat → Int → Bool → Int → Int → Int → Int → Int → Option (Int)
  | 0, _, _, _, _, _, _, _ => none
  | k + 1, x4, x5, x246000, x246001, x246002, x246003, x246004 => if x5 = true then ((lockstitchref08_bit.f k x246002).bind fun t246 => (some t246)) else (if x4 = 9 then ((lockstitchref08_bit.f k x246001).bind fun t247 => (some t247)) else (if x4 = 11 then ((lockstitchref08_bit.f k x246001).bind fun t248 => ((lockstitchref08_bit.f k x246002).bind fun t249 => (some (Go.bits .or .u8 t248 t249)))) else (if x4 = 15 then ((lockstitchref08_bit.f k x246002).bind fun t250 => ((lockstitchref08_bit.f k x246003).bind fun t251 => (some (Go.bits .or .u8 t250 t251)))) else (some 0))))
def lockstitchref08_Uses.f (k : Nat) (a0_0 : Int) (a0_1 : Int) (a0_2 : Int) (a0_3 : Int) (a0_4 : Int) : Option (Int) := if a0_0 = 7 then (lockstitchref08_Uses.j0 k a0_0 (a0_0 == 7) a0_0 a0_1 a0_2 a0_3 a0_4) else (if a0_0 = 8 then (lockstitchref08_Uses.j0 k a0_0 (a0_0 == 8) a0_0 a0_1 a0_2 a0_3 a0_4) else (if a0_0 = 10 then (lockstitchref08_Uses.j0 k a0_0 (a0_0 == 10) a0_0 a0_1 a0_2 a0_3 a0_4) else (lockstitchref08_Uses.j0 k a0_0 (a0_0 == 13) a0_0 a0_1 a0_2 a0_3 a0_4)))
theorem lockstitchref08_Uses.mono_l : ∀ k, (∀ y0 y1 y2 y3 y4 y5 y6, LeO (lockstitchref08_Uses.j0 k y0 y1 y2 y3 y4 y5 y6) (lockstitchref08_Uses.j0 (k + 1) y0 y1 y2 y3 y4 y5 y6))
  | 0 => fun _ _ _ _ _ _ _ r h => by simp [lockstitchref08_Uses.j0] at h
  | k + 1 => by
    have ih0 := lockstitchref08_Uses.mono_l k
    · intro y0 y1 y2 y3 y4 y5 y6
      unfold lockstitchref08_Uses.j0
      repeat' first
      | (with_reducible exact ih0 _ _ _ _ _ _ _)
      | (with_reducible exact lockstitchref08_bit.mono _ _)
      | (with_reducible exact LeO.refl _)
      | (with_reducible exact LeO.none _)
      | (with_reducible refine LeO.ite ?_ ?_)
      | (with_reducible refine LeO.bind ?_ (fun _ => ?_))
      | exact ih0 _ _ _ _ _ _ _
      | exact lockstitchref08_bit.mono _ _
      | exact LeO.none _
      | refine LeO.ite ?_ ?_
      | refine LeO.bind ?_ (fun _ => ?_)
theorem lockstitchref08_Uses.mono : ∀ a0 a1 a2 a3 a4 k, LeO (lockstitchref08_Uses.f k a0 a1 a2 a3 a4) (lockstitchref08_Uses.f (k + 1) a0 a1 a2 a3 a4) := by
  intro a0 a1 a2 a3 a4 k
  have ih0 := lockstitchref08_Uses.mono_l k
  unfold lockstitchref08_Uses.f
  repeat' first
      | (with_reducible exact ih0 _ _ _ _ _ _ _)
      | (with_reducible exact lockstitchref08_bit.mono _ _)
      | (with_reducible exact LeO.refl _)
      | (with_reducible exact LeO.none _)
      | (with_reducible refine LeO.ite ?_ ?_)
      | (with_reducible refine LeO.bind ?_ (fun _ => ?_))
      | exact ih0 _ _ _ _ _ _ _
      | exact lockstitchref08_bit.mono _ _
      | exact LeO.none _
      | refine LeO.ite ?_ ?_
      | refine LeO.bind ?_ (fun _ => ?_)
def lockstitchref08_Sets.f (k : Nat) (a0_0 : Int) (a0_1 : Int) (a0_2 : Int) (a0_3 : Int) (a0_4 : Int) : Option (Int) := if a0_0 = 5 then ((lockstitchref08_bit.f k a0_1).bind fun t253 => (some t253)) else (if a0_0 = 6 then ((lockstitchref08_bit.f k a0_1).bind fun t254 => (some t254)) else (if a0_0 = 7 then ((lockstitchref08_bit.f k a0_1).bind fun t255 => (some t255)) else (if a0_0 = 10 then ((lockstitchref08_bit.f k a0_1).bind fun t256 => (some t256)) else (if a0_0 = 12 then ((lockstitchref08_bit.f k a0_1).bind fun t257 => (some t257)) else (some 0)))))
theorem lockstitchref08_Sets.mono : ∀ a0 a1 a2 a3 a4 k, LeO (lockstitchref08_Sets.f k a0 a1 a2 a3 a4) (lockstitchref08_Sets.f (k + 1) a0 a1 a2 a3 a4) := by
  intro a0 a1 a2 a3 a4 k
  unfold lockstitchref08_Sets.f
  repeat' first
      | (with_reducible exact lockstitchref08_bit.mono _ _)
      | (with_reducible exact LeO.refl _)
      | (with_reducible exact LeO.none _)
      | (with_reducible refine LeO.ite ?_ ?_)
      | (with_reducible refine LeO.bind ?_ (fun _ => ?_))
      | exact lockstitchref08_bit.mono _ _
      | exact LeO.none _
      | refine LeO.ite ?_ ?_
      | refine LeO.bind ?_ (fun _ => ?_)
end Go.Proofs.YtkmkfiidlbhcgaaDoor.F

namespace Go.Proofs.YtkmkfiidlbhcgaaDoor.F
open Go.RowKit Go.Proofs.YtkmkfiidlbhcgaaDoorW.PrintWords Go.Proofs.YtkmkfiidlbhcgaaDoorW.PrintLast Go.Proofs.YtkmkfiidlbhcgaaDoorW.PrintMore
attribute [local go_sem] max2_int min2_int max_two min_two max_three min_three max_four min_four
set_option linter.unusedVariables false
set_option linter.unusedSimpArgs false
mutual
def lockstitchref08_In.l0 : Nat → List Int → Int → List ByteArray → ByteArray → ByteArray → List (S36) → Option (List Int)
  | 0, _, _, _, _, _, _ => none
  | k + 1, x3, x4, x259000, x259001, x259002, x259003 => if x4 ≤ (wrap64 (8 * (x259003.length : Int))) then (lockstitchref08_In.l1 k x3 x4 (wrap64 ((x259003.length : Int) - 1)) x259000 x259001 x259002 x259003) else (some x3)
def lockstitchref08_In.l1 : Nat → List Int → Int → Int → List ByteArray → ByteArray → ByteArray → List (S36) → Option (List Int)
  | 0, _, _, _, _, _, _, _ => none
  | k + 1, x3, x4, x5, x259000, x259001, x259002, x259003 => if x5 ≥ 0 then ((lockstitchref07_Next.f k x259000 x259001 x259002 x259003 x5).bind fun t262 => (lockstitchref08_In.l2 k x3 x4 x5 0 t262 0 x259000 x259001 x259002 x259003)) else (lockstitchref08_In.l0 k x3 (wrap64 (x4 + 1)) x259000 x259001 x259002 x259003)
def lockstitchref08_In.l2 : Nat → List Int → Int → Int → Int → List Int → Int → List ByteArray → ByteArray → ByteArray → List (S36) → Option (List Int)
  | 0, _, _, _, _, _, _, _, _, _, _ => none
  | k + 1, x3, x4, x5, x6, x7, x8, x259000, x259001, x259002, x259003 => if x8 < (x7.length : Int) then (if 0 ≤ x8 then (if 0 ≤ (rd x7 x8) then (if (rd x7 x8) < (x3.length : Int) then (lockstitchref08_In.l2 k x3 x4 x5 (Go.bits .or .u8 x6 (rd x3 (rd x7 x8))) x7 (wrap64 (x8 + 1)) x259000 x259001 x259002 x259003) else (none)) else (none)) else (none)) else (if 0 ≤ x5 then (if x5 < (x259003.length : Int) then ((lockstitchref08_Sets.f k ((rd_T36 x259003 x5).f0) ((rd_T36 x259003 x5).f1) ((rd_T36 x259003 x5).f2) ((rd_T36 x259003 x5).f3) ((rd_T36 x259003 x5).f4)).bind fun t268 => ((lockstitchref08_Uses.f k ((rd_T36 x259003 x5).f0) ((rd_T36 x259003 x5).f1) ((rd_T36 x259003 x5).f2) ((rd_T36 x259003 x5).f3) ((rd_T36 x259003 x5).f4)).bind fun t270 => (if x5 < (x3.length : Int) then (lockstitchref08_In.l1 k (x3.set (x5 : Int).toNat (Go.bits .or .u8 (Go.bits .andNot .u8 x6 t268) t270)) x4 (wrap64 (x5 - 1)) x259000 x259001 x259002 x259003) else (none)))) else (none)) else (none))
end
def lockstitchref08_In.f (k : Nat) (l0_0 : List ByteArray) (a0_1 : ByteArray) (a0_2 : ByteArray) (l0_3 : List (S36)) : Option (List Int) := if 0 ≤ (wrap64 ((l0_3.length : Int) + 1)) then (if (wrap64 ((l0_3.length : Int) + 1) : Int).toNat ≤ 281474976710656 then (lockstitchref08_In.l0 k (List.replicate (wrap64 ((l0_3.length : Int) + 1) : Int).toNat 0) 0 l0_0 a0_1 a0_2 l0_3) else (none)) else (none)
def lockstitchref08_In.T15 : Bool × List (List Nat × List Nat) := (true, [([], []), ([], []), ([], []), ([], []), ([3], [3]), ([], []), ([4, 5], [4, 5]), ([6], [6]), ([7], [7]), ([2, 8], [2, 8]), ([], []), ([10], [10]), ([], []), ([11, 12], [11, 12]), ([13], [13]), ([14, 8], [14]), ([9, 15], [9, 15]), ([0, 1, 0, 1, 2, 3, 4, 5, 6, 7, 8, 9, 10, 11, 12, 13, 14, 15, 16], [0, 1]), ([17, 16, 15, 0, 1, 2, 3, 4, 5, 6, 7, 8, 9, 10, 11, 12, 13, 14, 15, 16], [16, 17])])
def lockstitchref08_In.B15 : List Nat := [0, 0, 0, 0, 8, 0, 56, 120, 248, 508, 0, 1024, 0, 7168, 15360, 32248, 65532, 131071, 262143]
end Go.Proofs.YtkmkfiidlbhcgaaDoor.F

namespace Go.Proofs.YtkmkfiidlbhcgaaDoor.F
open Go.RowKit Go.Proofs.YtkmkfiidlbhcgaaDoorW.PrintWords Go.Proofs.YtkmkfiidlbhcgaaDoorW.PrintLast Go.Proofs.YtkmkfiidlbhcgaaDoorW.PrintMore
attribute [local go_sem] max2_int min2_int max_two min_two max_three min_three max_four min_four
set_option linter.unusedVariables false
set_option linter.unusedSimpArgs false
mutual
def fresh_Out.j0 : Nat → Int → Int → Bool → List ByteArray → ByteArray → ByteArray → List (S36) → Option (Int)
  | 0, _, _, _, _, _, _, _ => none
  | k + 1, x1, x2, x17, x273000, x273001, x273002, x273003 => if x17 = true then (some x2) else ((flow_Safe.f k x273000 x273001 x273002 x273003 x1).bind fun t273 => (if t273 = true then (fresh_Out.j1 k x1 0 x273000 x273001 x273002 x273003) else (fresh_Out.j1 k x1 x2 x273000 x273001 x273002 x273003)))
def fresh_Out.j1 : Nat → Int → Int → List ByteArray → ByteArray → ByteArray → List (S36) → Option (Int)
  | 0, _, _, _, _, _, _ => none
  | k + 1, x1, x2, x273000, x273001, x273002, x273003 => if 0 ≤ x1 then (if x1 < (x273003.length : Int) then (if 0 ≤ ((rd_T36 x273003 x1).f1) then (if ((rd_T36 x273003 x1).f0) = 5 then (fresh_Out.j2 k x2 (shl .u8 1 ((rd_T36 x273003 x1).f1)) true ((rd_T36 x273003 x1).f0) ((rd_T36 x273003 x1).f1) ((rd_T36 x273003 x1).f2) ((rd_T36 x273003 x1).f3) ((rd_T36 x273003 x1).f4)) else (if ((rd_T36 x273003 x1).f0) = 6 then (fresh_Out.j2 k x2 (shl .u8 1 ((rd_T36 x273003 x1).f1)) true ((rd_T36 x273003 x1).f0) ((rd_T36 x273003 x1).f1) ((rd_T36 x273003 x1).f2) ((rd_T36 x273003 x1).f3) ((rd_T36 x273003 x1).f4)) else (if ((rd_T36 x273003 x1).f0) = 7 then (if 0 ≤ ((rd_T36 x273003 x1).f2) then (fresh_Out.j2 k x2 (shl .u8 1 ((rd_T36 x273003 x1).f1)) ((Go.bits .and .u8 (shr .u8 x2 ((rd_T36 x273003 x1).f2)) 1) == 1) ((rd_T36 x273003 x1).f0) ((rd_T36 x273003 x1).f1) ((rd_T36 x273003 x1).f2) ((rd_T36 x273003 x1).f3) ((rd_T36 x273003 x1).f4)) else (none)) else (fresh_Out.j2 k x2 (shl .u8 1 ((rd_T36 x273003 x1).f1)) false ((rd_T36 x273003 x1).f0) ((rd_T36 x273003 x1).f1) ((rd_T36 x273003 x1).f2) ((rd_T36 x273003 x1).f3) ((rd_T36 x273003 x1).f4))))) else (none)) else (none)) else (none)
def fresh_Out.j2 : Nat → Int → Int → Bool → Int → Int → Int → Int → Int → Option (Int)
  | 0, _, _, _, _, _, _, _, _ => none
  | k + 1, x2, x8, x30, x276000, x276001, x276002, x276003, x276004 => if x30 = true then (some (Go.bits .or .u8 x2 x8)) else (if x276000 = 7 then (some (Go.bits .andNot .u8 x2 x8)) else (if x276000 = 10 then (some (Go.bits .andNot .u8 x2 x8)) else (if x276000 = 12 then (some (Go.bits .andNot .u8 x2 x8)) else (some x2))))
end
def fresh_Out.f (k : Nat) (l0_0 : List ByteArray) (a0_1 : ByteArray) (a0_2 : ByteArray) (l0_3 : List (S36)) (a1 : Int) (a2 : Int) : Option (Int) := if a1 < 0 then (fresh_Out.j0 k a1 a2 true l0_0 a0_1 a0_2 l0_3) else (fresh_Out.j0 k a1 a2 (decide (a1 ≥ (l0_3.length : Int))) l0_0 a0_1 a0_2 l0_3)
theorem fresh_Out.mono_l : ∀ k, (∀ y0 y1 y2 y3 y4 y5 y6, LeO (fresh_Out.j0 k y0 y1 y2 y3 y4 y5 y6) (fresh_Out.j0 (k + 1) y0 y1 y2 y3 y4 y5 y6)) ∧ (∀ y0 y1 y2 y3 y4 y5, LeO (fresh_Out.j1 k y0 y1 y2 y3 y4 y5) (fresh_Out.j1 (k + 1) y0 y1 y2 y3 y4 y5)) ∧ (∀ y0 y1 y2 y3 y4 y5 y6 y7, LeO (fresh_Out.j2 k y0 y1 y2 y3 y4 y5 y6 y7) (fresh_Out.j2 (k + 1) y0 y1 y2 y3 y4 y5 y6 y7))
  | 0 => ⟨fun _ _ _ _ _ _ _ r h => by simp [fresh_Out.j0] at h, fun _ _ _ _ _ _ r h => by simp [fresh_Out.j1] at h, fun _ _ _ _ _ _ _ _ r h => by simp [fresh_Out.j2] at h⟩
  | k + 1 => by
    obtain ⟨ih0, ih1, ih2⟩ := fresh_Out.mono_l k
    refine ⟨?_, ?_, ?_⟩
    · intro y0 y1 y2 y3 y4 y5 y6
      unfold fresh_Out.j0
      repeat' first
      | (with_reducible exact ih0 _ _ _ _ _ _ _)
      | (with_reducible exact ih1 _ _ _ _ _ _)
      | (with_reducible exact ih2 _ _ _ _ _ _ _ _)
      | (with_reducible exact flow_Safe.mono _ _ _ _ _ _)
      | (with_reducible exact LeO.refl _)
      | (with_reducible exact LeO.none _)
      | (with_reducible refine LeO.ite ?_ ?_)
      | (with_reducible refine LeO.bind ?_ (fun _ => ?_))
      | exact ih0 _ _ _ _ _ _ _
      | exact ih1 _ _ _ _ _ _
      | exact ih2 _ _ _ _ _ _ _ _
      | exact flow_Safe.mono _ _ _ _ _ _
      | exact LeO.none _
      | refine LeO.ite ?_ ?_
      | refine LeO.bind ?_ (fun _ => ?_)
    · intro y0 y1 y2 y3 y4 y5
      unfold fresh_Out.j1
      repeat' first
      | (with_reducible exact ih0 _ _ _ _ _ _ _)
      | (with_reducible exact ih1 _ _ _ _ _ _)
      | (with_reducible exact ih2 _ _ _ _ _ _ _ _)
      | (with_reducible exact flow_Safe.mono _ _ _ _ _ _)
      | (with_reducible exact LeO.refl _)
      | (with_reducible exact LeO.none _)
      | (with_reducible refine LeO.ite ?_ ?_)
      | (with_reducible refine LeO.bind ?_ (fun _ => ?_))
      | exact ih0 _ _ _ _ _ _ _
      | exact ih1 _ _ _ _ _ _
      | exact ih2 _ _ _ _ _ _ _ _
      | exact flow_Safe.mono _ _ _ _ _ _
      | exact LeO.none _
      | refine LeO.ite ?_ ?_
      | refine LeO.bind ?_ (fun _ => ?_)
    · intro y0 y1 y2 y3 y4 y5 y6 y7
      unfold fresh_Out.j2
      repeat' first
      | (with_reducible exact ih0 _ _ _ _ _ _ _)
      | (with_reducible exact ih1 _ _ _ _ _ _)
      | (with_reducible exact ih2 _ _ _ _ _ _ _ _)
      | (with_reducible exact flow_Safe.mono _ _ _ _ _ _)
      | (with_reducible exact LeO.refl _)
      | (with_reducible exact LeO.none _)
      | (with_reducible refine LeO.ite ?_ ?_)
      | (with_reducible refine LeO.bind ?_ (fun _ => ?_))
      | exact ih0 _ _ _ _ _ _ _
      | exact ih1 _ _ _ _ _ _
      | exact ih2 _ _ _ _ _ _ _ _
      | exact flow_Safe.mono _ _ _ _ _ _
      | exact LeO.none _
      | refine LeO.ite ?_ ?_
      | refine LeO.bind ?_ (fun _ => ?_)
theorem fresh_Out.mono : ∀ a0 a1 a2 a3 a4 a5 k, LeO (fresh_Out.f k a0 a1 a2 a3 a4 a5) (fresh_Out.f (k + 1) a0 a1 a2 a3 a4 a5) := by
  intro a0 a1 a2 a3 a4 a5 k
  obtain ⟨ih0, ih1, ih2⟩ := fresh_Out.mono_l k
  unfold fresh_Out.f
  repeat' first
      | (with_reducible exact ih0 _ _ _ _ _ _ _)
      | (with_reducible exact ih1 _ _ _ _ _ _)
      | (with_reducible exact ih2 _ _ _ _ _ _ _ _)
      | (with_reducible exact flow_Safe.mono _ _ _ _ _ _)
      | (with_reducible exact LeO.refl _)
      | (with_reducible exact LeO.none _)
      | (with_reducible refine LeO.ite ?_ ?_)
      | (with_reducible refine LeO.bind ?_ (fun _ => ?_))
      | exact ih0 _ _ _ _ _ _ _
      | exact ih1 _ _ _ _ _ _
      | exact ih2 _ _ _ _ _ _ _ _
      | exact flow_Safe.mono _ _ _ _ _ _
      | exact LeO.none _
      | refine LeO.ite ?_ ?_
      | refine LeO.bind ?_ (fun _ => ?_)
end Go.Proofs.YtkmkfiidlbhcgaaDoor.F

namespace Go.Proofs.YtkmkfiidlbhcgaaDoor.F
open Go.RowKit Go.Proofs.YtkmkfiidlbhcgaaDoorW.PrintWords Go.Proofs.YtkmkfiidlbhcgaaDoorW.PrintLast Go.Proofs.YtkmkfiidlbhcgaaDoorW.PrintMore
attribute [local go_sem] max2_int min2_int max_two min_two max_three min_three max_four min_four
set_option linter.unusedVariables false
set_option linter.unusedSimpArgs false
mutual
def lockstitchref09_Out.j0 : Nat → Int → Int → Bool → List ByteArray → ByteArray → ByteArray → List (S36) → Option (Int)
  | 0, _, _, _, _, _, _, _ => none
  | k + 1, x1, x2, x18, x277000, x277001, x277002, x277003 => if x18 = true then (some x2) else (if 0 ≤ x1 then (if x1 < (x277003.length : Int) then ((lockstitchref07_Safe.f x277000 x277001 x277002 x277003 x1).bind fun t279 => (if t279 = true then (lockstitchref09_Out.j1 k 0 ((rd_T36 x277003 x1).f0) ((rd_T36 x277003 x1).f1) ((rd_T36 x277003 x1).f2) ((rd_T36 x277003 x1).f3) ((rd_T36 x277003 x1).f4)) else (lockstitchref09_Out.j1 k x2 ((rd_T36 x277003 x1).f0) ((rd_T36 x277003 x1).f1) ((rd_T36 x277003 x1).f2) ((rd_T36 x277003 x1).f3) ((rd_T36 x277003 x1).f4)))) else (none)) else (none))
def lockstitchref09_Out.j1 : Nat → Int → Int → Int → Int → Int → Int → Option (Int)
  | 0, _, _, _, _, _, _ => none
  | k + 1, x8, x279000, x279001, x279002, x279003, x279004 => (lockstitchref08_Sets.f k x279000 x279001 x279002 x279003 x279004).bind fun t280 => (if x279000 = 5 then (lockstitchref09_Out.j2 k x8 t280 x279000 (x279000 == 5) x279000 x279001 x279002 x279003 x279004) else (lockstitchref09_Out.j2 k x8 t280 x279000 (x279000 == 6) x279000 x279001 x279002 x279003 x279004))
def lockstitchref09_Out.j2 : Nat → Int → Int → Int → Bool → Int → Int → Int → Int → Int → Option (Int)
  | 0, _, _, _, _, _, _, _, _, _ => none
  | k + 1, x8, x9, x32, x33, x279000, x279001, x279002, x279003, x279004 => if x33 = true then (some (Go.bits .or .u8 x8 x9)) else (if x32 = 7 then ((lockstitchref08_Uses.f k x279000 x279001 x279002 x279003 x279004).bind fun t281 => (if (Go.bits .and .u8 x8 t281) = 0 then (some (Go.bits .andNot .u8 x8 x9)) else (some (Go.bits .or .u8 x8 x9)))) else (if x32 = 10 then (some (Go.bits .andNot .u8 x8 x9)) else (if x32 = 12 then (some (Go.bits .andNot .u8 x8 x9)) else (some x8))))
end
def lockstitchref09_Out.f (k : Nat) (l0_0 : List ByteArray) (a0_1 : ByteArray) (a0_2 : ByteArray) (l0_3 : List (S36)) (a1 : Int) (a2 : Int) : Option (Int) := if a1 < 0 then (lockstitchref09_Out.j0 k a1 a2 true l0_0 a0_1 a0_2 l0_3) else (lockstitchref09_Out.j0 k a1 a2 (decide (a1 ≥ (l0_3.length : Int))) l0_0 a0_1 a0_2 l0_3)
end Go.Proofs.YtkmkfiidlbhcgaaDoor.F

namespace Go.Proofs.YtkmkfiidlbhcgaaDoor.F
open Go.RowKit Go.Proofs.YtkmkfiidlbhcgaaDoorW.PrintWords Go.Proofs.YtkmkfiidlbhcgaaDoorW.PrintLast Go.Proofs.YtkmkfiidlbhcgaaDoorW.PrintMore
attribute [local go_sem] max2_int min2_int max_two min_two max_three min_three max_four min_four
set_option linter.unusedVariables false
set_option linter.unusedSimpArgs false
mutual
def lockstitchlaw09_meets.l0 : Nat → List Int → Int → Int → Int → Int → List ByteArray → ByteArray → ByteArray → List (S36) → Option (Int)
  | 0, _, _, _, _, _, _, _, _, _ => none
  | k + 1, x1, x2, x7, x13, x14, x283000, x283001, x283002, x283003 => if x14 < x13 then ((lockstitchref07_Next.f k x283000 x283001 x283002 x283003 x14).bind fun t283 => (lockstitchlaw09_meets.l1 k x1 x2 x7 x14 x13 x14 t283 (t283.length : Int) 0 x283000 x283001 x283002 x283003)) else (some x7)
def lockstitchlaw09_meets.l1 : Nat → List Int → Int → Int → Int → Int → Int → List Int → Int → Int → List ByteArray → ByteArray → ByteArray → List (S36) → Option (Int)
  | 0, _, _, _, _, _, _, _, _, _, _, _, _, _ => none
  | k + 1, x1, x2, x7, x8, x13, x14, x19, x20, x21, x283000, x283001, x283002, x283003 => if x21 < x20 then (if 0 ≤ x21 then (if x21 < (x19.length : Int) then (if (rd x19 x21) = x2 then (if 0 ≤ x8 then (if x8 < (x1.length : Int) then ((fresh_Out.f k x283000 x283001 x283002 x283003 x8 (rd x1 x8)).bind fun t288 => (lockstitchlaw09_meets.l1 k x1 x2 (Go.bits .and .u8 x7 t288) x8 x13 x14 x19 x20 (wrap64 (x21 + 1)) x283000 x283001 x283002 x283003)) else (none)) else (none)) else (lockstitchlaw09_meets.l1 k x1 x2 x7 x8 x13 x14 x19 x20 (wrap64 (x21 + 1)) x283000 x283001 x283002 x283003)) else (none)) else (none)) else (lockstitchlaw09_meets.l0 k x1 x2 x7 x13 (wrap64 (x14 + 1)) x283000 x283001 x283002 x283003)
end
def lockstitchlaw09_meets.f (k : Nat) (l0_0 : List ByteArray) (a0_1 : ByteArray) (a0_2 : ByteArray) (l0_3 : List (S36)) (l1 : List Int) (a2 : Int) : Option (Int) := lockstitchlaw09_meets.l0 k l1 a2 255 (l0_3.length : Int) 0 l0_0 a0_1 a0_2 l0_3
def lockstitchlaw09_meets.T9 : Bool × List (List Nat × List Nat) := (true, [([], []), ([], []), ([], []), ([], []), ([], []), ([3, 4], [3, 4]), ([5], [5]), ([1, 2, 6], [1, 2, 6]), ([0, 7], [0, 7]), ([8, 7, 0, 1, 2, 3, 4, 5, 6, 7, 8], [0, 8])])
def lockstitchlaw09_meets.B9 : List Nat := [0, 0, 0, 0, 0, 24, 56, 126, 255, 511]
end Go.Proofs.YtkmkfiidlbhcgaaDoor.F

namespace Go.Proofs.YtkmkfiidlbhcgaaDoor.F
open Go.RowKit Go.Proofs.YtkmkfiidlbhcgaaDoorW.PrintWords Go.Proofs.YtkmkfiidlbhcgaaDoorW.PrintLast Go.Proofs.YtkmkfiidlbhcgaaDoorW.PrintMore
attribute [local go_sem] max2_int min2_int max_two min_two max_three min_three max_four min_four
set_option linter.unusedVariables false
set_option linter.unusedSimpArgs false
end Go.Proofs.YtkmkfiidlbhcgaaDoor.F

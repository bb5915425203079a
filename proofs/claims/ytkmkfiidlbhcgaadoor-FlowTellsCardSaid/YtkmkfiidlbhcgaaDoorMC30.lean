/- Texts of this claim, pruned to what it needs and laid together by prune.py. -/
import Derived.Test.YtkmkfiidlbhcgaaDoorProg
import Derived.Below
import Derived.Deep.Draws
import Derived.Deep.AppendLies
import Derived.Maps.AppendAt
import Derived.OwnWalk
import Derived.Laws.BytesArg
import Derived.Laws.MakeOwn
import Derived.Laws.OwnMore
import Derived.Deep.OwnRows
import Derived.Tactics
import Derived.Lib.ConvBytes
import Derived.Laws.Slices
import Derived.WalkKit
import Derived.KernelRfl
import Derived.RowKit3
import Derived.Deep.LoopGhost
import Derived.Deep.QuietTactic
import Derived.BigQuiet
import Derived.WideLaws
import Derived.Deep.DeepCutAuto
import Derived.Deep.CutBlock
import Derived.Deep.RegionHeld3
import Derived.Laws.Rows
import Derived.Lib.AppendStr
import Derived.ArgAppend
import Derived.Laws.IdiomCopy
import Derived.OrdersHeld
import Derived.Laws.BitsLemmas
import Derived.RowKit
import Derived.Test.YtkmkfiidlbhcgaaDoorMC24
import Derived.Test.YtkmkfiidlbhcgaaDoorMC2
import Derived.Test.YtkmkfiidlbhcgaaDoorMC1
import Derived.Test.YtkmkfiidlbhcgaaDoorMC3
import Derived.Test.YtkmkfiidlbhcgaaDoorMC4
import Derived.Test.YtkmkfiidlbhcgaaDoorMC5
import Derived.Test.YtkmkfiidlbhcgaaDoorMC6
import Derived.Test.YtkmkfiidlbhcgaaDoorMC7
import Derived.Test.YtkmkfiidlbhcgaaDoorMC8
import Derived.Test.YtkmkfiidlbhcgaaDoorMC9
import Derived.Test.YtkmkfiidlbhcgaaDoorMC10
import Derived.Test.YtkmkfiidlbhcgaaDoorMC11
import Derived.Test.YtkmkfiidlbhcgaaDoorMC12
import Derived.Test.YtkmkfiidlbhcgaaDoorMC13
import Derived.Test.YtkmkfiidlbhcgaaDoorMC14
import Derived.Test.YtkmkfiidlbhcgaaDoorMC15
import Derived.Test.YtkmkfiidlbhcgaaDoorMC16
import Derived.Test.YtkmkfiidlbhcgaaDoorMC17
import Derived.Test.YtkmkfiidlbhcgaaDoorMC18
import Derived.Test.YtkmkfiidlbhcgaaDoorMC19
import Derived.Test.YtkmkfiidlbhcgaaDoorMC20
import Derived.Test.YtkmkfiidlbhcgaaDoorMC21
import Derived.Test.YtkmkfiidlbhcgaaDoorMC22
namespace Go.Proofs.YtkmkfiidlbhcgaaDoor.H
open Go.RowKit Go.Proofs.YtkmkfiidlbhcgaaDoorW.PrintWords Go.Proofs.YtkmkfiidlbhcgaaDoorW.PrintLast Go.Proofs.YtkmkfiidlbhcgaaDoorW.PrintMore
attribute [local go_sem] max2_int min2_int max_two min_two max_three min_three max_four min_four
set_option linter.unusedVariables false
set_option linter.unusedSimpArgs false
open Go.Proofs.YtkmkfiidlbhcgaaDoor.F
open Go.Proofs.YtkmkfiidlbhcgaaDoor.FM
theorem info9 : (Tryd.prog.info? 9).map (fun i => (i.zero, i.size, i.bytes)) = some (some (.string ⟨#[]⟩), 1, 16) := by kernel_rfl
noncomputable def rd_L1 (xs : List (List ByteArray)) (i : Int) : (List ByteArray) := xs.getD i.toNat ([] : List ByteArray)
noncomputable def rd_L5 (xs : List (List S36)) (i : Int) : (List S36) := xs.getD i.toNat ([] : List S36)
end Go.Proofs.YtkmkfiidlbhcgaaDoor.H

namespace Go.Proofs.YtkmkfiidlbhcgaaDoor.H
open Go.RowKit Go.Proofs.YtkmkfiidlbhcgaaDoorW.PrintWords Go.Proofs.YtkmkfiidlbhcgaaDoorW.PrintLast Go.Proofs.YtkmkfiidlbhcgaaDoorW.PrintMore
attribute [local go_sem] max2_int min2_int max_two min_two max_three min_three max_four min_four
set_option linter.unusedVariables false
set_option linter.unusedSimpArgs false
open Go.Proofs.YtkmkfiidlbhcgaaDoor.F
open Go.Proofs.YtkmkfiidlbhcgaaDoor.FM
theorem eqA36 (d : Nat) (w : World) (x0 y0 : Int) (x1 y1 : Int) (x2 y2 : Int) (x3 y3 : Int) (x4 y4 : Int) :
    (Op.equalIn (d + 2) 36 (.agg #[.int .u8 x0, .int .u8 x1, .int .u8 x2, .int .u8 x3, .int .i64 x4]) (.agg #[.int .u8 y0, .int .u8 y1, .int .u8 y2, .int .u8 y3, .int .i64 y4])).run Tryd.prog w = .ok (x0 == y0 && (x1 == y1 && (x2 == y2 && (x3 == y3 && (x4 == y4))))) w := by
  refine eqA_of Tryd.underlying36 (by kernel_rfl) ?_
  refine eqf_cons (by rfl) (by go_simp; rfl) (by go_simp; rfl) (by go_simp) ?_
  refine eqf_cons (by rfl) (by go_simp; rfl) (by go_simp; rfl) (by go_simp) ?_
  refine eqf_cons (by rfl) (by go_simp; rfl) (by go_simp; rfl) (by go_simp) ?_
  refine eqf_cons (by rfl) (by go_simp; rfl) (by go_simp; rfl) (by go_simp) ?_
  exact eqf_last (by rfl) (by go_simp; rfl) (by go_simp; rfl) (by go_simp)
end Go.Proofs.YtkmkfiidlbhcgaaDoor.H

namespace Go.Proofs.YtkmkfiidlbhcgaaDoor.H
open Go.RowKit Go.Proofs.YtkmkfiidlbhcgaaDoorW.PrintWords Go.Proofs.YtkmkfiidlbhcgaaDoorW.PrintLast Go.Proofs.YtkmkfiidlbhcgaaDoorW.PrintMore
attribute [local go_sem] max2_int min2_int max_two min_two max_three min_three max_four min_four
set_option linter.unusedVariables false
set_option linter.unusedSimpArgs false
open Go.Proofs.YtkmkfiidlbhcgaaDoor.F
open Go.Proofs.YtkmkfiidlbhcgaaDoor.FM
attribute [local go_sem high] eqA36
noncomputable def lockstitchref04_line.l0 : Nat → ByteArray → List ByteArray → Int → Int → Int → Int → Int → Int → Option (List ByteArray)
  | 0, _, _, _, _, _, _, _, _ => none
  | k + 1, x4, x5, x6, x102000, x102001, x102002, x102003, x102004 => if x6 < (x4.size : Int) then (if 0 ≤ x6 then ((lockstitchref04_part.f x102000 x102001 x102002 x102003 x102004 (bt x4 x6)).bind fun t107 => ((strconv_FormatInt.f t107 10).bind fun t108 => (if x5.length < 8796093022208 then (lockstitchref04_line.l0 k x4 (x5 ++ [t108]) (wrap64 (x6 + 1)) x102000 x102001 x102002 x102003 x102004) else (none)))) else (none)) else (some x5)
noncomputable def lockstitchref04_line.f (k : Nat) (a0_0 : Int) (a0_1 : Int) (a0_2 : Int) (a0_3 : Int) (a0_4 : Int) : Option (List ByteArray) := (lockstitchref04_shape.f a0_0).bind fun bt102 => (lockstitchref04_line.l0 k bt102.2 (([bt102.1] : List ByteArray)) 0 a0_0 a0_1 a0_2 a0_3 a0_4)
theorem lockstitchref04_line.mono_l : ∀ k, (∀ y0 y1 y2 y3 y4 y5 y6 y7, LeO (lockstitchref04_line.l0 k y0 y1 y2 y3 y4 y5 y6 y7) (lockstitchref04_line.l0 (k + 1) y0 y1 y2 y3 y4 y5 y6 y7))
  | 0 => fun _ _ _ _ _ _ _ _ r h => by simp [lockstitchref04_line.l0] at h
  | k + 1 => by
    have ih0 := lockstitchref04_line.mono_l k
    · intro y0 y1 y2 y3 y4 y5 y6 y7
      unfold lockstitchref04_line.l0
      repeat' first
      | (with_reducible exact ih0 _ _ _ _ _ _ _ _)
      | (with_reducible exact LeO.refl _)
      | (with_reducible exact LeO.none _)
      | (with_reducible refine LeO.ite ?_ ?_)
      | (with_reducible refine LeO.bind ?_ (fun _ => ?_))
      | exact ih0 _ _ _ _ _ _ _ _
      | exact LeO.none _
      | refine LeO.ite ?_ ?_
      | refine LeO.bind ?_ (fun _ => ?_)
theorem lockstitchref04_line.mono : ∀ a0 a1 a2 a3 a4 k, LeO (lockstitchref04_line.f k a0 a1 a2 a3 a4) (lockstitchref04_line.f (k + 1) a0 a1 a2 a3 a4) := by
  intro a0 a1 a2 a3 a4 k
  have ih0 := lockstitchref04_line.mono_l k
  unfold lockstitchref04_line.f
  repeat' first
      | (with_reducible exact ih0 _ _ _ _ _ _ _ _)
      | (with_reducible exact LeO.refl _)
      | (with_reducible exact LeO.none _)
      | (with_reducible refine LeO.ite ?_ ?_)
      | (with_reducible refine LeO.bind ?_ (fun _ => ?_))
      | exact ih0 _ _ _ _ _ _ _ _
      | exact LeO.none _
      | refine LeO.ite ?_ ?_
      | refine LeO.bind ?_ (fun _ => ?_)
noncomputable def lockstitchref04_line.T6 : Bool × List (List Nat × List Nat) := (true, [([], []), ([], []), ([], []), ([], []), ([2, 3], [2, 3]), ([1, 4], [1, 4]), ([5, 5], [5]), ([6], [6]), ([0, 7, 6], [0, 7]), ([8, 8, 0, 1, 2, 3, 4, 5, 6, 7, 8], [0, 8])])
noncomputable def lockstitchref04_line.B6 : List Nat := [0, 0, 0, 0, 12, 30, 62, 126, 255, 511]
theorem lockstitchref04_line.tab6 : rtab .any (opsOf Tryd.f58 6) = lockstitchref04_line.T6 := by kernel_rfl
theorem lockstitchref04_line.bits6 : waitsOk lockstitchref04_line.T6.2 lockstitchref04_line.B6 = true := by kernel_rfl
set_option maxHeartbeats 8000000 in
set_option maxRecDepth 100000 in
theorem lockstitchref04_line.calls (k : Nat) (a0_0 : Int) (a0_1 : Int) (a0_2 : Int) (a0_3 : Int) (a0_4 : Int) (r : List ByteArray) (w : World) (h : lockstitchref04_line.f k a0_0 a0_1 a0_2 a0_3 a0_4 = some r) (htab : TB w) :
    Calls Tryd.prog 58 #[.agg #[.int .u8 a0_0, .int .u8 a0_1, .int .u8 a0_2, .int .u8 a0_3, .int .i64 a0_4]] w fun e w' => ∃ v0_ : Value, e = .returned (v0_) ∧ Kd.R Kd.string 9 w' w.heap.size (fun _ => True) v0_ r ∧ Below w.heap.size w w' := by
  have HTB := Aside0.mk htab
  clear htab
  have hu36 := Tryd.underlying36
  have HB := Aside0.mk (Below.refl w.heap.size w)
  have H : ((lockstitchref04_shape.f a0_0).bind fun bt102 => (lockstitchref04_line.l0 k bt102.2 (([bt102.1] : List ByteArray)) 0 a0_0 a0_1 a0_2 a0_3 a0_4)) = some r := h
  clear h
  replace H := Option.bind_eq_some_iff.mp H
  obtain ⟨⟨t102, t103⟩, A20, H⟩ := H
  replace H : (lockstitchref04_line.l0 k t103 (([t102] : List ByteArray)) 0 a0_0 a0_1 a0_2 a0_3 a0_4) = some r := H
  have A2 := Aside0.mk A20
  clear A20
  obtain ⟨y104, hy104⟩ : ∃ y_ : List ByteArray, y_ = (([t102] : List ByteArray)) := ⟨_, rfl⟩
  replace H : (lockstitchref04_line.l0 k t103 y104 0 a0_0 a0_1 a0_2 a0_3 a0_4) = some r := by first | (rw [hy104]; with_reducible exact H) | (have H2_ := (Option.bind_some _ _).symm.trans H; rw [hy104]; with_reducible exact H2_) | (have H2_ := (Option.bind_some _ _).symm.trans H; with_reducible exact H2_) | with_reducible exact H | (rw [hy104]; exact H) | exact H
  have Ny104 := Aside0.mk hy104
  clear hy104
  have H' := Aside0.mk H
  clear H
  go_enter Tryd.func58, Tryd.ntmps58
  go_wp2_with (first | ((with_reducible refine gate_dst (N := 1) rfl ?_); refine box_event ?hg (N := 1) ?hd (cs := #[.int .u8 a0_0, .int .u8 a0_1, .int .u8 a0_2, .int .u8 a0_3, .int .i64 a0_4]) (t := 36) ?hr ?_; (case hd => rfl); (case hg => rfl); (case hr => first | (go_simp; done) | (go_simp; rfl)); intro gb101 hg w3 hbox hb; have n0_ := Aside0.mk (below_step hB164 hb); have n1_ := Aside0.mk (hbox); have n2_ := Aside0.mk ((by rw [hg]; exact (below_size hB164) : w.heap.size ≤ gb101)); have n3_ := Aside0.mk ((by rw [hg]; exact (below_size hB164) : w.heap.size ≤ gb101)); clear HB; have HB := n0_; have BK101 := n1_; have GW101 := n2_; have GE101 := n3_; clear n0_ n1_ n2_ n3_; clear hb hbox hg; have hcz4_0 : w3.cell? ⟨gb101, 0, none⟩ = some (.int .u8 a0_0) := (blk_cell BK101.out 0).trans rfl; have hcz4_1 : w3.cell? ⟨gb101, 1, none⟩ = some (.int .u8 a0_1) := (blk_cell BK101.out 1).trans rfl; have hcz4_2 : w3.cell? ⟨gb101, 2, none⟩ = some (.int .u8 a0_2) := (blk_cell BK101.out 2).trans rfl; have hcz4_3 : w3.cell? ⟨gb101, 3, none⟩ = some (.int .u8 a0_3) := (blk_cell BK101.out 3).trans rfl; have hcz4_4 : w3.cell? ⟨gb101, 4, none⟩ = some (.int .i64 a0_4) := (blk_cell BK101.out 4).trans rfl; have hfz4_0 := blk_frozen BK101.out 0; have hfz4_1 := blk_frozen BK101.out 1; have hfz4_2 := blk_frozen BK101.out 2; have hfz4_3 := blk_frozen BK101.out 3; have hfz4_4 := blk_frozen BK101.out 4) | ((with_reducible refine gate_callee (f := 56) rfl ?_); refine goesL_ (some 10) rfl rfl Tryd.func56 (by kernel_rfl) rfl #[.int .u8 a0_0] rfl hB3 ?_; (with_reducible refine (lockstitchref04_shape.calls a0_0 t102 t103 _ A2.out).mono ?_); rintro e w' ⟨rfl, ⟨nd, rfl⟩⟩; refine ⟨_, rfl, ?_⟩) | ((with_reducible refine gate_dst (N := 14) rfl ?_); refine Kd.R_lit Kd.string _ 9 ?hg (N := 14) ?hd (xs := ([t102] : List ByteArray)) (inner := [.string t102]) (ok := fun _ => True) (okp := fun _ => True) ?hr ?hp (fun _ hk => hk) trivial (Below.refl _ _) (Nat.le_refl _) (by simp) ?_; (case hd => rfl); (case hg => rfl); (case hr => first | (go_simp; done) | (go_simp; rfl)); (case hp => exact (Reps.one (show Kd.M Kd.string _ _ _ t102 [.string t102] from rfl) (Reps.none _ _))); intro v105 w5 ho6 hb hg_ hnew_; clear hg_ hnew_; (first | rw [← Ny104.out] at ho6 | (simp only [Int.reduceToNat] at ho6; rw [← Ny104.out] at ho6)); have n0_ := Aside0.mk (Kd.R_lower ho6 (below_size hB129)); have n1_ := Aside0.mk (blk_below (g := gb101) (o := .cells #[.int .u8 a0_0, .int .u8 a0_1, .int .u8 a0_2, .int .u8 a0_3, .int .i64 a0_4] 36 (0, 0)) hB79 hb); have n2_ := Aside0.mk (below_step hB129 hb); clear BK101; clear HB; have HO106 := n0_; have BK101 := n1_; have HB := n2_; clear n0_ n1_ n2_; clear hb ho6))
  go_loopg [5, 6] k (fun kq v5 v6 w' => ∃ (x5_1 : List ByteArray) (x6_1 : Int), v6 = .int .i64 x6_1 ∧ Aside0 (lockstitchref04_line.l0 kq t103 x5_1 x6_1 a0_0 a0_1 a0_2 a0_3 a0_4 = some r) ∧ Aside0 (kq ≤ k) ∧ Aside0 (Kd.R Kd.string 9 w' w.heap.size (fun _ => True) v5 x5_1) ∧ Aside0 (w'.heap[gb101]? = some (.cells #[.int .u8 a0_0, .int .u8 a0_1, .int .u8 a0_2, .int .u8 a0_3, .int .i64 a0_4] 36 (0, 0))) ∧ Aside0 (Below w.heap.size w w'))
  case atStart => exact ⟨(y104), (0), hB115, H', ⟨Nat.le_refl _⟩, ⟨hB59⟩, ⟨hB79⟩, ⟨hB129⟩⟩
  case round =>
    clear H'
    try clear p2
    try clear c5
    try clear hcz4_0
    try clear hcz4_1
    try clear hcz4_2
    try clear hcz4_3
    try clear hcz4_4
    try clear hfz4_0
    try clear hfz4_1
    try clear hfz4_2
    try clear hfz4_3
    try clear hfz4_4
    obtain ⟨x5_1, x6_1, rfl, HA, HK1, HO_5, BK101, HB⟩ := hrel
    cases gk with
    | zero => exact absurd HA.out (by simp [lockstitchref04_line.l0])
    | succ k1 =>
      have H := HA.out
      clear HA
      simp only [lockstitchref04_line.l0] at H
      by_cases c7 : x6_1 < (t103.size : Int)
      rotate_left
      · rw [if_neg c7] at H
        have c7b0 : decide (x6_1 < (t103.size : Int)) = false := decide_eq_false c7
        clear c7
        obtain rfl := Option.some.inj H
        go_wp2
        go_ret
        exact ⟨_, by first | rfl | (simp [errW_none, errW_some] <;> rfl) | (simp [*, errW_none, errW_some] <;> rfl), hB70, hB129⟩
      rw [if_pos c7] at H
      have c7b0 : decide (x6_1 < (t103.size : Int)) = true := decide_eq_true c7
      clear c7
      by_cases c8 : 0 ≤ x6_1
      rotate_left
      · rw [if_neg c8] at H
        exact absurd H (by simp)
      rw [if_pos c8] at H
      have c8b0 : decide (0 ≤ x6_1) = true := decide_eq_true c8
      clear c8
      replace H := Option.bind_eq_some_iff.mp H
      obtain ⟨t107, A100, H⟩ := H
      replace H : ((strconv_FormatInt.f t107 10).bind fun t108 => (if x5_1.length < 8796093022208 then (lockstitchref04_line.l0 k1 t103 (x5_1 ++ [t108]) (wrap64 (x6_1 + 1)) a0_0 a0_1 a0_2 a0_3 a0_4) else (none))) = some r := H
      have A10 := Aside0.mk A100
      clear A100
      replace H := Option.bind_eq_some_iff.mp H
      obtain ⟨t108, A110, H⟩ := H
      replace H : (if x5_1.length < 8796093022208 then (lockstitchref04_line.l0 k1 t103 (x5_1 ++ [t108]) (wrap64 (x6_1 + 1)) a0_0 a0_1 a0_2 a0_3 a0_4) else (none)) = some r := H
      have A11 := Aside0.mk A110
      clear A110
      by_cases c12 : x5_1.length < 8796093022208
      rotate_left
      · rw [if_neg c12] at H
        exact absurd H (by simp)
      rw [if_pos c12] at H
      have LMc12 := Aside0.mk c12
      clear c12
      obtain ⟨y109, hy109⟩ : ∃ y_ : List ByteArray, y_ = (x5_1 ++ [t108]) := ⟨_, rfl⟩
      replace H : (lockstitchref04_line.l0 k1 t103 y109 (wrap64 (x6_1 + 1)) a0_0 a0_1 a0_2 a0_3 a0_4) = some r := by first | (rw [hy109]; with_reducible exact H) | (have H2_ := (Option.bind_some _ _).symm.trans H; rw [hy109]; with_reducible exact H2_) | (have H2_ := (Option.bind_some _ _).symm.trans H; with_reducible exact H2_) | with_reducible exact H | (rw [hy109]; exact H) | exact H
      have Ny109 := Aside0.mk hy109
      clear hy109
      have H' := Aside0.mk H
      clear H
      try go_wp2
      have n0_ := Aside0.mk (Kd.R_drew HO_5.out)
      have n1_ := Aside0.mk (blk_drew BK101.out)
      have n2_ := Aside0.mk (below_drew1 HB.out)
      clear HO_5
      clear BK101
      clear HB
      have HO_5 := n0_
      have BK101 := n1_
      have HB := n2_
      clear n0_ n1_ n2_
      have p9 : 0 ≤ (x6_1 : Int) := of_decide_eq_true hB114
      have q9 : x6_1 < (t103.size : Int) := of_decide_eq_true hB114
      have hx9 := bt_at t103 x6_1
      replace p9 := eq_true p9
      replace q9 := eq_true q9
      refine start_ (n := 10) (S := fun w' => w'.cell? ⟨gb101, 0, none⟩ = some (.int .u8 a0_0) ∧ w'.cell? ⟨gb101, 1, none⟩ = some (.int .u8 a0_1) ∧ w'.cell? ⟨gb101, 2, none⟩ = some (.int .u8 a0_2) ∧ w'.cell? ⟨gb101, 3, none⟩ = some (.int .u8 a0_3) ∧ w'.cell? ⟨gb101, 4, none⟩ = some (.int .i64 a0_4)) (ds := []) #[false, false, false, false, false, false, false, false, false, false] (by kernel_rfl) rfl rfl ⟨(blk_cell BK101.out 0).trans rfl, (blk_cell BK101.out 1).trans rfl, (blk_cell BK101.out 2).trans rfl, (blk_cell BK101.out 3).trans rfl, (blk_cell BK101.out 4).trans rfl⟩ (fun hHeld => ?_); refine with_tabW lockstitchref04_line.tab6 lockstitchref04_line.bits6 (fun HT_ HW_ => ?_)
      generalize wr.drew = w13 at HO_5 BK101 HB hHeld ⊢
      refine pure_ (i := 0) (N := some 21) (v := ?_) (a' := ?_) (mk_ 10 1) rfl rfl (any_of HT_.out (by kernel_rfl)) (fun _ _ _ h => h) (Or.inl ⟨by rfl, ?_⟩) ?_ ?_
      rotate_left
      · intro w'
        go_simp
        with_reducible rfl
      rotate_left
      · simp only [Act.put, List.setIfInBounds_toArray, List.set_cons_zero, List.set_cons_succ, i64_w, i32_w]
        rfl
      refine pure_ (i := 2) (N := some 23) (v := ?_) (a' := ?_) (mk_ 10 5) rfl rfl (any_of HT_.out (by kernel_rfl)) (fun _ _ _ h => h) (Or.inl ⟨by rfl, ?_⟩) ?_ ?_
      rotate_left
      · intro w'
        go_simp
        with_reducible rfl
      rotate_left
      · simp only [Act.put, List.setIfInBounds_toArray, List.set_cons_zero, List.set_cons_succ, i64_w, i32_w]
        rfl
      refine pure_ (i := 3) (N := some 24) (v := ?_) (a' := ?_) (mk_ 10 13) rfl rfl (any_of HT_.out (by kernel_rfl)) (fun _ _ _ h => h) (Or.inl ⟨by rfl, ?_⟩) ?_ ?_
      rotate_left
      · intro w'
        go_simp
        with_reducible rfl
      rotate_left
      · simp only [Act.put, List.setIfInBounds_toArray, List.set_cons_zero, List.set_cons_succ, i64_w, i32_w]
        rfl
      refine take_ (i := 1) (N := some 22) (v := ?_) (a' := ?_) (mk_ 10 15) rfl rfl (take_ofW HT_.out HW_.out (by kernel_rfl)) (fun _ _ _ h => h) (Or.inl ⟨by rfl, ?_⟩) hHeld ?_ ?_
      rotate_left
      · rintro w' ⟨s0, s1, s2, s3, s4⟩
        go_simp
        with_reducible rfl
      rotate_left
      · simp only [Act.put, List.setIfInBounds_toArray, List.set_cons_zero, List.set_cons_succ, i64_w, i32_w]
        rfl
      refine take_ (i := 4) (N := some 25) (v := ?_) (a' := ?_) (mk_ 10 31) rfl rfl (take_ofW HT_.out HW_.out (by kernel_rfl)) (fun _ _ _ h => h) (Or.inl ⟨by rfl, ?_⟩) hHeld ?_ ?_
      rotate_left
      · rintro w' ⟨s0, s1, s2, s3, s4⟩
        go_simp
        with_reducible rfl
      rotate_left
      · simp only [Act.put, List.setIfInBounds_toArray, List.set_cons_zero, List.set_cons_succ, i64_w, i32_w]
        rfl
      refine one_ (i := 5) (N := some 26) (mk_ 10 63) rfl rfl (one_of HT_.out (by kernel_rfl)) (by decide) (fun K hK => ?_)
      refine goes_ Tryd.func79 (by kernel_rfl) rfl #[.agg #[.int .u8 a0_0, .int .u8 a0_1, .int .u8 a0_2, .int .u8 a0_3, .int .i64 a0_4], .int .u8 (bt t103 x6_1)] (by rfl) rfl rfl hB3 ?_
      with_reducible refine (lockstitchref04_part.calls a0_0 a0_1 a0_2 a0_3 a0_4 (bt t103 x6_1) t107 _ A10.out).mono ?_
      rintro e w14 ⟨rfl, hb⟩
      refine ⟨_, rfl, ?_⟩
      have n0_ := Aside0.mk (Kd.R_below hB70 hb)
      have n1_ := Aside0.mk (blk_below (g := gb101) (o := .cells #[.int .u8 a0_0, .int .u8 a0_1, .int .u8 a0_2, .int .u8 a0_3, .int .i64 a0_4] 36 (0, 0)) hB79 hb)
      have n2_ := Aside0.mk (below_step hB129 hb)
      clear HO_5
      clear BK101
      clear HB
      have HO_5 := n0_
      have BK101 := n1_
      have HB := n2_
      clear n0_ n1_ n2_
      (try clear hb)
      (try clear hb2)
      (try clear hk)
      (try clear hi)
      refine hK.out _ _ ⟨(blk_cell BK101.out 0).trans rfl, (blk_cell BK101.out 1).trans rfl, (blk_cell BK101.out 2).trans rfl, (blk_cell BK101.out 3).trans rfl, (blk_cell BK101.out 4).trans rfl⟩ (fun hHeld => ?_)
      clear hK K
      refine norm_ (a' := ?_) ?_ ?_
      rotate_left
      · show Act.put _ (some 26) _ = _
        simp only [Act.put, List.setIfInBounds_toArray, List.set_cons_zero, List.set_cons_succ, i64_w, i32_w]
        rfl
      refine one_ (i := 6) (N := some 27) (mk_ 10 127) rfl rfl (one_of HT_.out (by kernel_rfl)) (by decide) (fun K hK => ?_)
      refine goes_ Tryd.func78 (by kernel_rfl) rfl #[.int .i64 t107, .int .i64 10] (by rfl) rfl rfl hB3 ?_
      with_reducible refine (strconv_FormatInt.calls t107 10 t108 _ A11.out (TB_below HTB.out hB129)).mono ?_
      rintro e w15 ⟨rfl, hb⟩
      refine ⟨_, rfl, ?_⟩
      have n0_ := Aside0.mk (Kd.R_below hB70 hb)
      have n1_ := Aside0.mk (blk_below (g := gb101) (o := .cells #[.int .u8 a0_0, .int .u8 a0_1, .int .u8 a0_2, .int .u8 a0_3, .int .i64 a0_4] 36 (0, 0)) hB79 hb)
      have n2_ := Aside0.mk (below_step hB129 hb)
      clear HO_5
      clear BK101
      clear HB
      have HO_5 := n0_
      have BK101 := n1_
      have HB := n2_
      clear n0_ n1_ n2_
      (try clear hb)
      (try clear hb2)
      (try clear hk)
      (try clear hi)
      refine hK.out _ _ ⟨(blk_cell BK101.out 0).trans rfl, (blk_cell BK101.out 1).trans rfl, (blk_cell BK101.out 2).trans rfl, (blk_cell BK101.out 3).trans rfl, (blk_cell BK101.out 4).trans rfl⟩ (fun hHeld => ?_)
      clear hK K
      refine norm_ (a' := ?_) ?_ ?_
      rotate_left
      · show Act.put _ (some 27) _ = _
        simp only [Act.put, List.setIfInBounds_toArray, List.set_cons_zero, List.set_cons_succ, i64_w, i32_w]
        rfl
      refine one_ (i := 7) (N := some 28) (mk_ 10 255) rfl rfl (one_of HT_.out (by kernel_rfl)) (by decide) (fun K hK => ?_)
      refine value_ (w1 := ?_) (v := ?_) (by rfl) rfl ?_ ?_
      rotate_left 2
      · go_simp
        constructor
        · rfl
        · rfl
      refine hK.out _ _ ⟨(blk_cell (blk_alloc BK101.out _) 0).trans rfl, (blk_cell (blk_alloc BK101.out _) 1).trans rfl, (blk_cell (blk_alloc BK101.out _) 2).trans rfl, (blk_cell (blk_alloc BK101.out _) 3).trans rfl, (blk_cell (blk_alloc BK101.out _) 4).trans rfl⟩ (fun hHeld => ?_)
      clear hK K
      refine norm_ (a' := ?_) ?_ ?_
      rotate_left
      · show Act.put _ (some 28) _ = _
        simp only [Act.put, List.setIfInBounds_toArray, List.set_cons_zero, List.set_cons_succ, i64_w, i32_w]
        rfl
      refine one_ (i := 8) (N := some 29) (mk_ 10 511) rfl rfl (one_of HT_.out (by kernel_rfl)) (by decide) (fun K hK => ?_)
      refine Kd.R_append_step Kd.string (w0 := w) w.heap.size (by rfl) (.tmp 21) (.tmp 28) 22 9 (.string ⟨#[]⟩) 16 rfl Tryd.underlying22 info9 rfl (by decide) (by omega) u5 x5_1 t108 [.string t108] (fun _ => True) (fun _ => False) rfl rfl ?aP (fun _ hk => hk.elim) ?aF ?aO ?aB ?aS ?aL ?_
      (case aP => exact rfl)
      (case aB => exact hB129)
      (case aF => exact (fun _ _ => trivial))
      (case aO => exact hB70)
      (case aS => exact (below_size hB129))
      (case aL => have := LMc12.out; omega)
      intro v110 w16 ho hb hg hat
      rw [← Ny109.out] at ho
      have n0_ := Aside0.mk (blk_grown (g := gb101) (o := .cells #[.int .u8 a0_0, .int .u8 a0_1, .int .u8 a0_2, .int .u8 a0_3, .int .i64 a0_4] 36 (0, 0)) hB79 hg (Kd.R_ne HO_5.out BK101.out (by decide)))
      have n1_ := Aside0.mk (hb)
      have n2_ := Aside0.mk (ho)
      clear BK101
      clear HB
      clear HO_5
      have BK101 := n0_
      have HB := n1_
      have HO111 := n2_
      clear n0_ n1_ n2_
      clear ho hb hg hat
      refine hK.out _ _ ⟨(blk_cell BK101.out 0).trans rfl, (blk_cell BK101.out 1).trans rfl, (blk_cell BK101.out 2).trans rfl, (blk_cell BK101.out 3).trans rfl, (blk_cell BK101.out 4).trans rfl⟩ (fun hHeld => ?_)
      clear hK K
      refine norm_ (a' := ?_) ?_ ?_
      rotate_left
      · show Act.put _ (some 29) _ = _
        simp only [Act.put, List.setIfInBounds_toArray, List.set_cons_zero, List.set_cons_succ, i64_w, i32_w]
        rfl
      refine pure_ (i := 9) (N := some 5) (v := ?_) (a' := ?_) (mk_ 10 1023) rfl rfl (any_of HT_.out (by kernel_rfl)) (fun _ _ _ h => h) (Or.inl ⟨by rfl, ?_⟩) ?_ ?_
      rotate_left
      · intro w'
        go_simp
        with_reducible rfl
      rotate_left
      · simp only [Act.put, List.setIfInBounds_toArray, List.set_cons_zero, List.set_cons_succ, i64_w, i32_w]
        rfl
      refine done_ (done_of HT_.out (by kernel_rfl)) ?_
      try go_wp2
      go_roundg k1
      case measure => have := HK1.out; omega
      case rel => exact ⟨(y109), (wrap64 (x6_1 + 1)), hB115, H', ⟨by have := HK1.out; omega⟩, ⟨hB62⟩, ⟨hB79⟩, ⟨hB129⟩⟩
noncomputable def lockstitchref04_Right.f (k : Nat) (a0_0 : Int) (a0_1 : Int) (a0_2 : Int) (a0_3 : Int) (a0_4 : Int) : Option (Bool) := (lockstitchref04_shape.f a0_0).bind fun bt113 => (if bt113.1.toList = ([] : List UInt8) then (some false) else ((lockstitchref04_line.f k a0_0 a0_1 a0_2 a0_3 a0_4).bind fun t115 => ((lockstitchref04_read.f k t115).bind fun bt118 => (if bt118.2.2.2.2.2 = true then (some (bt118.1 == a0_0 && (bt118.2.1 == a0_1 && (bt118.2.2.1 == a0_2 && (bt118.2.2.2.1 == a0_3 && (bt118.2.2.2.2.1 == a0_4)))))) else (some false)))))
theorem lockstitchref04_Right.mono : ∀ a0 a1 a2 a3 a4 k, LeO (lockstitchref04_Right.f k a0 a1 a2 a3 a4) (lockstitchref04_Right.f (k + 1) a0 a1 a2 a3 a4) := by
  intro a0 a1 a2 a3 a4 k
  unfold lockstitchref04_Right.f
  repeat' first
      | (with_reducible exact lockstitchref04_line.mono _ _ _ _ _ _)
      | (with_reducible exact lockstitchref04_read.mono _ _)
      | (with_reducible exact LeO.refl _)
      | (with_reducible exact LeO.none _)
      | (with_reducible refine LeO.ite ?_ ?_)
      | (with_reducible refine LeO.bind ?_ (fun _ => ?_))
      | exact lockstitchref04_line.mono _ _ _ _ _ _
      | exact lockstitchref04_read.mono _ _
      | exact LeO.none _
      | refine LeO.ite ?_ ?_
      | refine LeO.bind ?_ (fun _ => ?_)
set_option maxHeartbeats 8000000 in
set_option maxRecDepth 100000 in
theorem lockstitchref04_Right.calls (k : Nat) (a0_0 : Int) (a0_1 : Int) (a0_2 : Int) (a0_3 : Int) (a0_4 : Int) (r : Bool) (w : World) (h : lockstitchref04_Right.f k a0_0 a0_1 a0_2 a0_3 a0_4 = some r) (htab : TB w) :
    Calls Tryd.prog 49 #[.agg #[.int .u8 a0_0, .int .u8 a0_1, .int .u8 a0_2, .int .u8 a0_3, .int .i64 a0_4]] w fun e w' => e = .returned (.bool r) ∧ Below w.heap.size w w' := by
  have HTB := Aside0.mk htab
  clear htab
  have hu36 := Tryd.underlying36
  have HB := Aside0.mk (Below.refl w.heap.size w)
  have H : ((lockstitchref04_shape.f a0_0).bind fun bt113 => (if bt113.1.toList = ([] : List UInt8) then (some false) else ((lockstitchref04_line.f k a0_0 a0_1 a0_2 a0_3 a0_4).bind fun t115 => ((lockstitchref04_read.f k t115).bind fun bt118 => (if bt118.2.2.2.2.2 = true then (some (bt118.1 == a0_0 && (bt118.2.1 == a0_1 && (bt118.2.2.1 == a0_2 && (bt118.2.2.2.1 == a0_3 && (bt118.2.2.2.2.1 == a0_4)))))) else (some false)))))) = some r := h
  clear h
  replace H := Option.bind_eq_some_iff.mp H
  obtain ⟨⟨t113, t114⟩, A20, H⟩ := H
  replace H : (if t113.toList = ([] : List UInt8) then (some false) else ((lockstitchref04_line.f k a0_0 a0_1 a0_2 a0_3 a0_4).bind fun t115 => ((lockstitchref04_read.f k t115).bind fun bt118 => (if bt118.2.2.2.2.2 = true then (some (bt118.1 == a0_0 && (bt118.2.1 == a0_1 && (bt118.2.2.1 == a0_2 && (bt118.2.2.2.1 == a0_3 && (bt118.2.2.2.2.1 == a0_4)))))) else (some false))))) = some r := H
  have A2 := Aside0.mk A20
  clear A20
  by_cases c3 : t113.toList = ([] : List UInt8)
  · rw [if_pos c3] at H
    have c3b0 : (t113.toList == ([] : List UInt8)) = true := beq_iff_eq.mpr c3
    have c3b1 : (t113.toList != ([] : List UInt8)) = false := bne_eq_false_iff_eq.mpr c3
    clear c3
    obtain rfl := Option.some.inj H
    go_enter Tryd.func49, Tryd.ntmps49
    go_wp2_with (first | ((with_reducible refine gate_dst (N := 1) rfl ?_); refine box_event ?hg (N := 1) ?hd (cs := #[.int .u8 a0_0, .int .u8 a0_1, .int .u8 a0_2, .int .u8 a0_3, .int .i64 a0_4]) (t := 36) ?hr ?_; (case hd => rfl); (case hg => rfl); (case hr => first | (go_simp; done) | (go_simp; rfl)); intro gb112 hg w4 hbox hb; have n0_ := Aside0.mk (below_step hB164 hb); have n1_ := Aside0.mk (hbox); have n2_ := Aside0.mk ((by rw [hg]; exact (below_size hB164) : w.heap.size ≤ gb112)); have n3_ := Aside0.mk ((by rw [hg]; exact (below_size hB164) : w.heap.size ≤ gb112)); clear HB; have HB := n0_; have BK112 := n1_; have GW112 := n2_; have GE112 := n3_; clear n0_ n1_ n2_ n3_; clear hb hbox hg; have hcz5_0 : w4.cell? ⟨gb112, 0, none⟩ = some (.int .u8 a0_0) := (blk_cell BK112.out 0).trans rfl; have hcz5_1 : w4.cell? ⟨gb112, 1, none⟩ = some (.int .u8 a0_1) := (blk_cell BK112.out 1).trans rfl; have hcz5_2 : w4.cell? ⟨gb112, 2, none⟩ = some (.int .u8 a0_2) := (blk_cell BK112.out 2).trans rfl; have hcz5_3 : w4.cell? ⟨gb112, 3, none⟩ = some (.int .u8 a0_3) := (blk_cell BK112.out 3).trans rfl; have hcz5_4 : w4.cell? ⟨gb112, 4, none⟩ = some (.int .i64 a0_4) := (blk_cell BK112.out 4).trans rfl; have hfz5_0 := blk_frozen BK112.out 0; have hfz5_1 := blk_frozen BK112.out 1; have hfz5_2 := blk_frozen BK112.out 2; have hfz5_3 := blk_frozen BK112.out 3; have hfz5_4 := blk_frozen BK112.out 4) | ((with_reducible refine gate_callee (f := 56) rfl ?_); refine goesL_ (some 10) rfl rfl Tryd.func56 (by kernel_rfl) rfl #[.int .u8 a0_0] rfl hB3 ?_; (with_reducible refine (lockstitchref04_shape.calls a0_0 t113 t114 _ A2.out).mono ?_); rintro e w' ⟨rfl, ⟨nd, rfl⟩⟩; refine ⟨_, rfl, ?_⟩))
    go_ret
    exact ⟨by first | rfl | (simp [errW_none, errW_some] <;> rfl) | (simp [*, errW_none, errW_some] <;> rfl), hB136⟩
  rw [if_neg c3] at H
  have c3b0 : (t113.toList == ([] : List UInt8)) = false := beq_eq_false_iff_ne.mpr c3
  have c3b1 : (t113.toList != ([] : List UInt8)) = true := bne_iff_ne.mpr c3
  replace H := Option.bind_eq_some_iff.mp H
  obtain ⟨t115, A60, H⟩ := H
  replace H : ((lockstitchref04_read.f k t115).bind fun bt118 => (if bt118.2.2.2.2.2 = true then (some (bt118.1 == a0_0 && (bt118.2.1 == a0_1 && (bt118.2.2.1 == a0_2 && (bt118.2.2.2.1 == a0_3 && (bt118.2.2.2.2.1 == a0_4)))))) else (some false))) = some r := H
  have A6 := Aside0.mk A60
  clear A60
  replace H := Option.bind_eq_some_iff.mp H
  obtain ⟨⟨t118, t119, t120, t121, t122, t123⟩, A70, H⟩ := H
  replace H : (if t123 = true then (some (t118 == a0_0 && (t119 == a0_1 && (t120 == a0_2 && (t121 == a0_3 && (t122 == a0_4)))))) else (some false)) = some r := H
  have A7 := Aside0.mk A70
  clear A70
  by_cases c8 : t123 = true
  · subst c8
    have H1 : (some (t118 == a0_0 && (t119 == a0_1 && (t120 == a0_2 && (t121 == a0_3 && (t122 == a0_4)))))) = some r := by rw [if_pos rfl] at H; exact H
    clear H
    have H := H1
    clear H1
    obtain rfl := Option.some.inj H
    go_enter Tryd.func49, Tryd.ntmps49
    go_wp2_with (first | ((with_reducible refine gate_dst (N := 1) rfl ?_); refine box_event ?hg (N := 1) ?hd (cs := #[.int .u8 a0_0, .int .u8 a0_1, .int .u8 a0_2, .int .u8 a0_3, .int .i64 a0_4]) (t := 36) ?hr ?_; (case hd => rfl); (case hg => rfl); (case hr => first | (go_simp; done) | (go_simp; rfl)); intro gb112 hg w9 hbox hb; have n0_ := Aside0.mk (below_step hB164 hb); have n1_ := Aside0.mk (hbox); have n2_ := Aside0.mk ((by rw [hg]; exact (below_size hB164) : w.heap.size ≤ gb112)); have n3_ := Aside0.mk ((by rw [hg]; exact (below_size hB164) : w.heap.size ≤ gb112)); clear HB; have HB := n0_; have BK112 := n1_; have GW112 := n2_; have GE112 := n3_; clear n0_ n1_ n2_ n3_; clear hb hbox hg; have hcz10_0 : w9.cell? ⟨gb112, 0, none⟩ = some (.int .u8 a0_0) := (blk_cell BK112.out 0).trans rfl; have hcz10_1 : w9.cell? ⟨gb112, 1, none⟩ = some (.int .u8 a0_1) := (blk_cell BK112.out 1).trans rfl; have hcz10_2 : w9.cell? ⟨gb112, 2, none⟩ = some (.int .u8 a0_2) := (blk_cell BK112.out 2).trans rfl; have hcz10_3 : w9.cell? ⟨gb112, 3, none⟩ = some (.int .u8 a0_3) := (blk_cell BK112.out 3).trans rfl; have hcz10_4 : w9.cell? ⟨gb112, 4, none⟩ = some (.int .i64 a0_4) := (blk_cell BK112.out 4).trans rfl; have hfz10_0 := blk_frozen BK112.out 0; have hfz10_1 := blk_frozen BK112.out 1; have hfz10_2 := blk_frozen BK112.out 2; have hfz10_3 := blk_frozen BK112.out 3; have hfz10_4 := blk_frozen BK112.out 4) | ((with_reducible refine gate_callee (f := 56) rfl ?_); refine goesL_ (some 10) rfl rfl Tryd.func56 (by kernel_rfl) rfl #[.int .u8 a0_0] rfl hB3 ?_; (with_reducible refine (lockstitchref04_shape.calls a0_0 t113 t114 _ A2.out).mono ?_); rintro e w' ⟨rfl, ⟨nd, rfl⟩⟩; refine ⟨_, rfl, ?_⟩; (try (rw [drewN_self w9]; generalize hq_ : World.drewN w9 _ = w9; have n0_ : Aside0 (w9.heap[gb112]? = some (.cells #[.int .u8 a0_0, .int .u8 a0_1, .int .u8 a0_2, .int .u8 a0_3, .int .i64 a0_4] 36 (0, 0))) := ⟨hB165⟩; have n1_ : Aside0 (Below w.heap.size w w9) := ⟨hB168⟩; clear BK112 HB hq_; have BK112 := n0_; have HB := n1_; clear n0_ n1_; have y0_ := (blk_cell BK112.out 0).trans (rfl : _ = some (Value.int .u8 a0_0)); have y1_ := (blk_cell BK112.out 1).trans (rfl : _ = some (Value.int .u8 a0_1)); have y2_ := (blk_cell BK112.out 2).trans (rfl : _ = some (Value.int .u8 a0_2)); have y3_ := (blk_cell BK112.out 3).trans (rfl : _ = some (Value.int .u8 a0_3)); have y4_ := (blk_cell BK112.out 4).trans (rfl : _ = some (Value.int .i64 a0_4))))) | ((with_reducible refine gate_callee (f := 58) rfl ?_); refine goesL_ (some 17) rfl rfl Tryd.func58 (by kernel_rfl) rfl #[.agg #[.int .u8 a0_0, .int .u8 a0_1, .int .u8 a0_2, .int .u8 a0_3, .int .i64 a0_4]] rfl hB3 ?_; (with_reducible refine (lockstitchref04_line.calls k a0_0 a0_1 a0_2 a0_3 a0_4 t115 _ A6.out (TB_below HTB.out hB136)).mono ?_); rintro e w11 ⟨v116, rfl, ho0, hb⟩; refine ⟨_, rfl, ?_⟩; have n0_ := Aside0.mk (Kd.R_lower ho0 (below_size hB136)); have n1_ := Aside0.mk (blk_below (g := gb112) (o := .cells #[.int .u8 a0_0, .int .u8 a0_1, .int .u8 a0_2, .int .u8 a0_3, .int .i64 a0_4] 36 (0, 0)) hB84 hb); have n2_ := Aside0.mk (below_step hB136 hb); clear BK112; clear HB; have HO117 := n0_; have BK112 := n1_; have HB := n2_; clear n0_ n1_ n2_; (try clear hb); (try clear hb2); (try clear hk); (try clear hi); (try clear ho0); obtain ⟨Ao12, co12, eo12⟩ := Kd.R_slice HO117.out; subst eo12) | ((with_reducible refine gate_callee (f := 57) rfl ?_); refine goesL_ (some 18) rfl rfl Tryd.func57 (by kernel_rfl) rfl #[.slice Ao12 t115.length co12] rfl hB3 ?_; (with_reducible refine (lockstitchref04_read.calls k _ _ t115 t118 t119 t120 t121 t122 true _ ?side1 ?side2 A7.out).mono ?_); (case side1 => repeat (first | exact (Kd.R_reads' HO117.out).2.2 | (with_reducible refine Kd.C_alloc ?_ _) | (with_reducible refine Kd.C_drewN ?_ _) | (with_reducible refine Kd.C_drew ?_))); (case side2 => exact (Kd.R_reads' HO117.out).2.1); rintro e w13 ⟨rfl, hb⟩; refine ⟨_, rfl, ?_⟩; have n0_ := Aside0.mk (Kd.R_below hB66 hb); have n1_ := Aside0.mk (blk_below (g := gb112) (o := .cells #[.int .u8 a0_0, .int .u8 a0_1, .int .u8 a0_2, .int .u8 a0_3, .int .i64 a0_4] 36 (0, 0)) hB84 hb); have n2_ := Aside0.mk (below_step hB136 hb); clear HO117; clear BK112; clear HB; have HO117 := n0_; have BK112 := n1_; have HB := n2_; clear n0_ n1_ n2_; (try clear hb); (try clear hb2); (try clear hk); (try clear hi)) | ((with_reducible refine gate_dst (N := 5) rfl ?_); refine box_event ?hg (N := 5) ?hd (cs := #[.int .u8 0, .int .u8 0, .int .u8 0, .int .u8 0, .int .i64 0]) (t := 36) ?hr ?_; (case hd => rfl); (case hg => rfl); (case hr => first | (go_simp; done) | (go_simp; rfl)); intro gb124 hg w14 hbox hb; have n0_ := Aside0.mk (Kd.R_below hB66 hb); have n1_ := Aside0.mk (blk_below (g := gb112) (o := .cells #[.int .u8 a0_0, .int .u8 a0_1, .int .u8 a0_2, .int .u8 a0_3, .int .i64 a0_4] 36 (0, 0)) hB84 hb); have n2_ := Aside0.mk (below_step hB136 hb); have n3_ := Aside0.mk (hbox); have n4_ := Aside0.mk ((by rw [hg]; exact (below_size hB136) : w.heap.size ≤ gb124)); have n5_ := Aside0.mk ((by rw [hg]; exact (below_size hB136) : w.heap.size ≤ gb124)); have n6_ := Aside0.mk ((by rw [hg]; exact Nat.ne_of_lt (blk_lt (g := gb112) (o := .cells #[.int .u8 a0_0, .int .u8 a0_1, .int .u8 a0_2, .int .u8 a0_3, .int .i64 a0_4] 36 (0, 0)) hB84) : gb112 ≠ gb124)); have n7_ := Aside0.mk ((by rw [hg]; exact Nat.ne_of_gt (blk_lt (g := gb112) (o := .cells #[.int .u8 a0_0, .int .u8 a0_1, .int .u8 a0_2, .int .u8 a0_3, .int .i64 a0_4] 36 (0, 0)) hB84) : gb124 ≠ gb112)); clear HO117; clear BK112; clear HB; have HO117 := n0_; have BK112 := n1_; have HB := n2_; have BK124 := n3_; have GW124 := n4_; have GE124 := n5_; have NB112_124 := n6_; have NB124_112 := n7_; clear n0_ n1_ n2_ n3_ n4_ n5_ n6_ n7_; clear hb hbox hg; have hnb15 := NB124_112.out; have hnc15 := NB112_124.out; have hcz16_0 : w14.cell? ⟨gb124, 0, none⟩ = some (.int .u8 0) := (blk_cell BK124.out 0).trans rfl; have hcz16_1 : w14.cell? ⟨gb124, 1, none⟩ = some (.int .u8 0) := (blk_cell BK124.out 1).trans rfl; have hcz16_2 : w14.cell? ⟨gb124, 2, none⟩ = some (.int .u8 0) := (blk_cell BK124.out 2).trans rfl; have hcz16_3 : w14.cell? ⟨gb124, 3, none⟩ = some (.int .u8 0) := (blk_cell BK124.out 3).trans rfl; have hcz16_4 : w14.cell? ⟨gb124, 4, none⟩ = some (.int .i64 0) := (blk_cell BK124.out 4).trans rfl; have hfz16_0 := blk_frozen BK124.out 0; have hfz16_1 := blk_frozen BK124.out 1; have hfz16_2 := blk_frozen BK124.out 2; have hfz16_3 := blk_frozen BK124.out 3; have hfz16_4 := blk_frozen BK124.out 4; have hcz17_0 : w14.cell? ⟨gb112, 0, none⟩ = some (.int .u8 a0_0) := (blk_cell BK112.out 0).trans rfl; have hcz17_1 : w14.cell? ⟨gb112, 1, none⟩ = some (.int .u8 a0_1) := (blk_cell BK112.out 1).trans rfl; have hcz17_2 : w14.cell? ⟨gb112, 2, none⟩ = some (.int .u8 a0_2) := (blk_cell BK112.out 2).trans rfl; have hcz17_3 : w14.cell? ⟨gb112, 3, none⟩ = some (.int .u8 a0_3) := (blk_cell BK112.out 3).trans rfl; have hcz17_4 : w14.cell? ⟨gb112, 4, none⟩ = some (.int .i64 a0_4) := (blk_cell BK112.out 4).trans rfl; have hfz17_0 := blk_frozen BK112.out 0; have hfz17_1 := blk_frozen BK112.out 1; have hfz17_2 := blk_frozen BK112.out 2; have hfz17_3 := blk_frozen BK112.out 3; have hfz17_4 := blk_frozen BK112.out 4))
    go_ret
    exact ⟨by first | rfl | (simp [errW_none, errW_some] <;> rfl) | (simp [*, errW_none, errW_some] <;> rfl), hB135⟩
  replace c8 := Bool.eq_false_iff.mpr c8
  subst c8
  have H1 : (some false) = some r := by rw [if_neg (show ¬ (false = true) by decide)] at H; exact H
  clear H
  have H := H1
  clear H1
  obtain rfl := Option.some.inj H
  go_enter Tryd.func49, Tryd.ntmps49
  go_wp2_with (first | ((with_reducible refine gate_dst (N := 1) rfl ?_); refine box_event ?hg (N := 1) ?hd (cs := #[.int .u8 a0_0, .int .u8 a0_1, .int .u8 a0_2, .int .u8 a0_3, .int .i64 a0_4]) (t := 36) ?hr ?_; (case hd => rfl); (case hg => rfl); (case hr => first | (go_simp; done) | (go_simp; rfl)); intro gb112 hg w18 hbox hb; have n0_ := Aside0.mk (below_step hB164 hb); have n1_ := Aside0.mk (hbox); have n2_ := Aside0.mk ((by rw [hg]; exact (below_size hB164) : w.heap.size ≤ gb112)); have n3_ := Aside0.mk ((by rw [hg]; exact (below_size hB164) : w.heap.size ≤ gb112)); clear HB; have HB := n0_; have BK112 := n1_; have GW112 := n2_; have GE112 := n3_; clear n0_ n1_ n2_ n3_; clear hb hbox hg; have hcz19_0 : w18.cell? ⟨gb112, 0, none⟩ = some (.int .u8 a0_0) := (blk_cell BK112.out 0).trans rfl; have hcz19_1 : w18.cell? ⟨gb112, 1, none⟩ = some (.int .u8 a0_1) := (blk_cell BK112.out 1).trans rfl; have hcz19_2 : w18.cell? ⟨gb112, 2, none⟩ = some (.int .u8 a0_2) := (blk_cell BK112.out 2).trans rfl; have hcz19_3 : w18.cell? ⟨gb112, 3, none⟩ = some (.int .u8 a0_3) := (blk_cell BK112.out 3).trans rfl; have hcz19_4 : w18.cell? ⟨gb112, 4, none⟩ = some (.int .i64 a0_4) := (blk_cell BK112.out 4).trans rfl; have hfz19_0 := blk_frozen BK112.out 0; have hfz19_1 := blk_frozen BK112.out 1; have hfz19_2 := blk_frozen BK112.out 2; have hfz19_3 := blk_frozen BK112.out 3; have hfz19_4 := blk_frozen BK112.out 4) | ((with_reducible refine gate_callee (f := 56) rfl ?_); refine goesL_ (some 10) rfl rfl Tryd.func56 (by kernel_rfl) rfl #[.int .u8 a0_0] rfl hB3 ?_; (with_reducible refine (lockstitchref04_shape.calls a0_0 t113 t114 _ A2.out).mono ?_); rintro e w' ⟨rfl, ⟨nd, rfl⟩⟩; refine ⟨_, rfl, ?_⟩; (try (rw [drewN_self w18]; generalize hq_ : World.drewN w18 _ = w18; have n0_ : Aside0 (w18.heap[gb112]? = some (.cells #[.int .u8 a0_0, .int .u8 a0_1, .int .u8 a0_2, .int .u8 a0_3, .int .i64 a0_4] 36 (0, 0))) := ⟨hB165⟩; have n1_ : Aside0 (Below w.heap.size w w18) := ⟨hB168⟩; clear BK112 HB hq_; have BK112 := n0_; have HB := n1_; clear n0_ n1_; have y0_ := (blk_cell BK112.out 0).trans (rfl : _ = some (Value.int .u8 a0_0)); have y1_ := (blk_cell BK112.out 1).trans (rfl : _ = some (Value.int .u8 a0_1)); have y2_ := (blk_cell BK112.out 2).trans (rfl : _ = some (Value.int .u8 a0_2)); have y3_ := (blk_cell BK112.out 3).trans (rfl : _ = some (Value.int .u8 a0_3)); have y4_ := (blk_cell BK112.out 4).trans (rfl : _ = some (Value.int .i64 a0_4))))) | ((with_reducible refine gate_callee (f := 58) rfl ?_); refine goesL_ (some 17) rfl rfl Tryd.func58 (by kernel_rfl) rfl #[.agg #[.int .u8 a0_0, .int .u8 a0_1, .int .u8 a0_2, .int .u8 a0_3, .int .i64 a0_4]] rfl hB3 ?_; (with_reducible refine (lockstitchref04_line.calls k a0_0 a0_1 a0_2 a0_3 a0_4 t115 _ A6.out (TB_below HTB.out hB136)).mono ?_); rintro e w20 ⟨v116, rfl, ho0, hb⟩; refine ⟨_, rfl, ?_⟩; have n0_ := Aside0.mk (Kd.R_lower ho0 (below_size hB136)); have n1_ := Aside0.mk (blk_below (g := gb112) (o := .cells #[.int .u8 a0_0, .int .u8 a0_1, .int .u8 a0_2, .int .u8 a0_3, .int .i64 a0_4] 36 (0, 0)) hB84 hb); have n2_ := Aside0.mk (below_step hB136 hb); clear BK112; clear HB; have HO117 := n0_; have BK112 := n1_; have HB := n2_; clear n0_ n1_ n2_; (try clear hb); (try clear hb2); (try clear hk); (try clear hi); (try clear ho0); obtain ⟨Ao21, co21, eo21⟩ := Kd.R_slice HO117.out; subst eo21) | ((with_reducible refine gate_callee (f := 57) rfl ?_); refine goesL_ (some 18) rfl rfl Tryd.func57 (by kernel_rfl) rfl #[.slice Ao21 t115.length co21] rfl hB3 ?_; (with_reducible refine (lockstitchref04_read.calls k _ _ t115 t118 t119 t120 t121 t122 false _ ?side1 ?side2 A7.out).mono ?_); (case side1 => repeat (first | exact (Kd.R_reads' HO117.out).2.2 | (with_reducible refine Kd.C_alloc ?_ _) | (with_reducible refine Kd.C_drewN ?_ _) | (with_reducible refine Kd.C_drew ?_))); (case side2 => exact (Kd.R_reads' HO117.out).2.1); rintro e w22 ⟨rfl, hb⟩; refine ⟨_, rfl, ?_⟩; have n0_ := Aside0.mk (Kd.R_below hB66 hb); have n1_ := Aside0.mk (blk_below (g := gb112) (o := .cells #[.int .u8 a0_0, .int .u8 a0_1, .int .u8 a0_2, .int .u8 a0_3, .int .i64 a0_4] 36 (0, 0)) hB84 hb); have n2_ := Aside0.mk (below_step hB136 hb); clear HO117; clear BK112; clear HB; have HO117 := n0_; have BK112 := n1_; have HB := n2_; clear n0_ n1_ n2_; (try clear hb); (try clear hb2); (try clear hk); (try clear hi)) | ((with_reducible refine gate_dst (N := 5) rfl ?_); refine box_event ?hg (N := 5) ?hd (cs := #[.int .u8 0, .int .u8 0, .int .u8 0, .int .u8 0, .int .i64 0]) (t := 36) ?hr ?_; (case hd => rfl); (case hg => rfl); (case hr => first | (go_simp; done) | (go_simp; rfl)); intro gb124 hg w23 hbox hb; have n0_ := Aside0.mk (Kd.R_below hB66 hb); have n1_ := Aside0.mk (blk_below (g := gb112) (o := .cells #[.int .u8 a0_0, .int .u8 a0_1, .int .u8 a0_2, .int .u8 a0_3, .int .i64 a0_4] 36 (0, 0)) hB84 hb); have n2_ := Aside0.mk (below_step hB136 hb); have n3_ := Aside0.mk (hbox); have n4_ := Aside0.mk ((by rw [hg]; exact (below_size hB136) : w.heap.size ≤ gb124)); have n5_ := Aside0.mk ((by rw [hg]; exact (below_size hB136) : w.heap.size ≤ gb124)); have n6_ := Aside0.mk ((by rw [hg]; exact Nat.ne_of_lt (blk_lt (g := gb112) (o := .cells #[.int .u8 a0_0, .int .u8 a0_1, .int .u8 a0_2, .int .u8 a0_3, .int .i64 a0_4] 36 (0, 0)) hB84) : gb112 ≠ gb124)); have n7_ := Aside0.mk ((by rw [hg]; exact Nat.ne_of_gt (blk_lt (g := gb112) (o := .cells #[.int .u8 a0_0, .int .u8 a0_1, .int .u8 a0_2, .int .u8 a0_3, .int .i64 a0_4] 36 (0, 0)) hB84) : gb124 ≠ gb112)); clear HO117; clear BK112; clear HB; have HO117 := n0_; have BK112 := n1_; have HB := n2_; have BK124 := n3_; have GW124 := n4_; have GE124 := n5_; have NB112_124 := n6_; have NB124_112 := n7_; clear n0_ n1_ n2_ n3_ n4_ n5_ n6_ n7_; clear hb hbox hg; have hnb24 := NB124_112.out; have hnc24 := NB112_124.out; have hcz25_0 : w23.cell? ⟨gb124, 0, none⟩ = some (.int .u8 0) := (blk_cell BK124.out 0).trans rfl; have hcz25_1 : w23.cell? ⟨gb124, 1, none⟩ = some (.int .u8 0) := (blk_cell BK124.out 1).trans rfl; have hcz25_2 : w23.cell? ⟨gb124, 2, none⟩ = some (.int .u8 0) := (blk_cell BK124.out 2).trans rfl; have hcz25_3 : w23.cell? ⟨gb124, 3, none⟩ = some (.int .u8 0) := (blk_cell BK124.out 3).trans rfl; have hcz25_4 : w23.cell? ⟨gb124, 4, none⟩ = some (.int .i64 0) := (blk_cell BK124.out 4).trans rfl; have hfz25_0 := blk_frozen BK124.out 0; have hfz25_1 := blk_frozen BK124.out 1; have hfz25_2 := blk_frozen BK124.out 2; have hfz25_3 := blk_frozen BK124.out 3; have hfz25_4 := blk_frozen BK124.out 4))
  go_ret
  exact ⟨by first | rfl | (simp [errW_none, errW_some] <;> rfl) | (simp [*, errW_none, errW_some] <;> rfl), hB135⟩
end Go.Proofs.YtkmkfiidlbhcgaaDoor.H

namespace Go.Proofs.YtkmkfiidlbhcgaaDoor.H
open Go.RowKit Go.Proofs.YtkmkfiidlbhcgaaDoorW.PrintWords Go.Proofs.YtkmkfiidlbhcgaaDoorW.PrintLast Go.Proofs.YtkmkfiidlbhcgaaDoorW.PrintMore
attribute [local go_sem] max2_int min2_int max_two min_two max_three min_three max_four min_four
set_option linter.unusedVariables false
set_option linter.unusedSimpArgs false
open Go.Proofs.YtkmkfiidlbhcgaaDoor.F
open Go.Proofs.YtkmkfiidlbhcgaaDoor.FM
mutual
noncomputable def lockstitchref05_Check.j0 : Nat → Bool → List ByteArray → ByteArray → ByteArray → List (S36) → Option (Int × Int)
  | 0, _, _, _, _, _ => none
  | k + 1, x32, x126000, x126001, x126002, x126003 => if x32 = true then (some ((-1), 5)) else (if (x126003.length : Int) < 1 then (lockstitchref05_Check.j1 k true x126000 x126001 x126002 x126003) else (lockstitchref05_Check.j1 k (decide ((x126003.length : Int) > 200)) x126000 x126001 x126002 x126003))
noncomputable def lockstitchref05_Check.j1 : Nat → Bool → List ByteArray → ByteArray → ByteArray → List (S36) → Option (Int × Int)
  | 0, _, _, _, _, _ => none
  | k + 1, x42, x126000, x126001, x126002, x126003 => if x42 = true then (some ((-1), 3)) else (lockstitchref05_Check.l0 k 0 x126000 x126001 x126002 x126003)
noncomputable def lockstitchref05_Check.l0 : Nat → Int → List ByteArray → ByteArray → ByteArray → List (S36) → Option (Int × Int)
  | 0, _, _, _, _, _ => none
  | k + 1, x4, x126000, x126001, x126002, x126003 => if x4 < (x126003.length : Int) then (if 0 ≤ x4 then (if ((rd_T36 x126003 x4).f0) = 3 then (lockstitchref05_Check.j3 k x4 true x126000 x126001 x126002 x126003 ((rd_T36 x126003 x4).f0) ((rd_T36 x126003 x4).f1) ((rd_T36 x126003 x4).f2) ((rd_T36 x126003 x4).f3) ((rd_T36 x126003 x4).f4)) else (lockstitchref05_Check.j3 k x4 (((rd_T36 x126003 x4).f0) == 4) x126000 x126001 x126002 x126003 ((rd_T36 x126003 x4).f0) ((rd_T36 x126003 x4).f1) ((rd_T36 x126003 x4).f2) ((rd_T36 x126003 x4).f3) ((rd_T36 x126003 x4).f4))) else (none)) else (some ((-1), 0))
noncomputable def lockstitchref05_Check.j3 : Nat → Int → Bool → List ByteArray → ByteArray → ByteArray → List (S36) → Int → Int → Int → Int → Int → Option (Int × Int)
  | 0, _, _, _, _, _, _, _, _, _, _, _ => none
  | k + 1, x4, x6, x126000, x126001, x126002, x126003, x130000, x130001, x130002, x130003, x130004 => (lockstitchref04_Right.f k x130000 x130001 x130002 x130003 x130004).bind fun t130 => (if t130 = true then (if x6 = true then (if x130004 < 0 then (lockstitchref05_Check.j4 k x4 true x126000 x126001 x126002 x126003 x130000 x130001 x130002 x130003 x130004) else (lockstitchref05_Check.j4 k x4 (decide (x130004 > (x126003.length : Int))) x126000 x126001 x126002 x126003 x130000 x130001 x130002 x130003 x130004)) else (lockstitchref05_Check.j4 k x4 false x126000 x126001 x126002 x126003 x130000 x130001 x130002 x130003 x130004)) else (some (x4, 4)))
noncomputable def lockstitchref05_Check.j4 : Nat → Int → Bool → List ByteArray → ByteArray → ByteArray → List (S36) → Int → Int → Int → Int → Int → Option (Int × Int)
  | 0, _, _, _, _, _, _, _, _, _, _, _ => none
  | k + 1, x4, x68, x126000, x126001, x126002, x126003, x130000, x130001, x130002, x130003, x130004 => if x68 = true then (some (x4, 12)) else ((lockstitchref05_ints.f k x130000 x130001 x130002 x130003 x130004).bind fun t131 => (if t131 = true then ((lockstitchref05_kinds.f k x126000 x126001 x126002 x126003 x130000 x130001 x130002 x130003 x130004).bind fun t132 => (if t132 = true then (lockstitchref05_Check.l0 k (wrap64 (x4 + 1)) x126000 x126001 x126002 x126003) else (some (x4, 5)))) else (some (x4, 5))))
end
noncomputable def lockstitchref05_Check.f (k : Nat) (l0_0 : List ByteArray) (a0_1 : ByteArray) (a0_2 : ByteArray) (l0_3 : List (S36)) : Option (Int × Int) := (lockstitchref03_Refs.f k l0_0 a0_1).bind fun t126 => (if t126 = true then ((lockstitchref03_Refs.f k l0_0 a0_2).bind fun t127 => (if t127 = true then (if (a0_1.size : Int) > 8 then (lockstitchref05_Check.j0 k true l0_0 a0_1 a0_2 l0_3) else (lockstitchref05_Check.j0 k (decide ((a0_2.size : Int) > 4)) l0_0 a0_1 a0_2 l0_3)) else (lockstitchref05_Check.j0 k true l0_0 a0_1 a0_2 l0_3))) else (lockstitchref05_Check.j0 k true l0_0 a0_1 a0_2 l0_3))
set_option maxHeartbeats 8000000 in
set_option maxRecDepth 100000 in
theorem lockstitchref05_Check.calls (k : Nat) (A0_0 : Option Addr) (c0_0 : Nat) (l0_0 : List ByteArray) (a0_1 : ByteArray) (a0_2 : ByteArray) (A0_3 : Option Addr) (c0_3 : Nat) (l0_3 : List (S36)) (r1 : Int) (r2 : Int) (w : World) (hr0_0 : Kd.C Kd.string w A0_0 l0_0.length l0_0) (hc0_0 : l0_0.length ≤ c0_0) (hr0_3 : Kd.C k36 w A0_3 l0_3.length l0_3) (hc0_3 : l0_3.length ≤ c0_3) (h : lockstitchref05_Check.f k l0_0 a0_1 a0_2 l0_3 = some (r1, r2)) (htab : TB w) :
    Calls Tryd.prog 43 #[.agg #[.slice A0_0 l0_0.length c0_0, .string a0_1, .string a0_2, .slice A0_3 l0_3.length c0_3]] w fun e w' => e = .returned (.tuple #[.int .i64 r1, .int .i64 r2]) ∧ Below w.heap.size w w' := by
  have HTB := Aside0.mk htab
  clear htab
  have hu25 := Tryd.underlying25
  have hu36 := Tryd.underlying36
  have HR0_0 := Aside0.mk hr0_0
  have HC0_0 := Aside0.mk hc0_0
  clear hr0_0 hc0_0
  have HR0_3 := Aside0.mk hr0_3
  have HC0_3 := Aside0.mk hc0_3
  clear hr0_3 hc0_3
  have HB := Aside0.mk (Below.refl w.heap.size w)
  have H : ((lockstitchref03_Refs.f k l0_0 a0_1).bind fun t126 => (if t126 = true then ((lockstitchref03_Refs.f k l0_0 a0_2).bind fun t127 => (if t127 = true then (if (a0_1.size : Int) > 8 then (lockstitchref05_Check.j0 k true l0_0 a0_1 a0_2 l0_3) else (lockstitchref05_Check.j0 k (decide ((a0_2.size : Int) > 4)) l0_0 a0_1 a0_2 l0_3)) else (lockstitchref05_Check.j0 k true l0_0 a0_1 a0_2 l0_3))) else (lockstitchref05_Check.j0 k true l0_0 a0_1 a0_2 l0_3))) = some (r1, r2) := h
  clear h
  have HC2 := Aside0.mk H
  clear H
  go_enter Tryd.func43, Tryd.ntmps43
  go_upto_region 1 with (first | ((with_reducible refine gate_dst (N := 1) rfl ?_); (try (refine gate_guard (by rfl) ?_; dsimp only)); refine box_event ?hg (N := 1) ?hd (cs := #[.slice A0_0 l0_0.length c0_0, .string a0_1, .string a0_2, .slice A0_3 l0_3.length c0_3]) (t := 25) ?hr ?_; (case hd => rfl); (case hg => rfl); (case hr => first | (go_simp; done) | (go_simp; rfl)); intro gb125 hg w3 hbox hb; have n0_ := Aside0.mk (below_step hB164 hb); have n1_ := Aside0.mk (hbox); have n2_ := Aside0.mk ((by rw [hg]; exact (below_size hB164) : w.heap.size ≤ gb125)); have n3_ := Aside0.mk ((by rw [hg]; exact (below_size hB164) : w.heap.size ≤ gb125)); clear HB; have HB := n0_; have BK125 := n1_; have GW125 := n2_; have GE125 := n3_; clear n0_ n1_ n2_ n3_; clear hb hbox hg))
  (try simp only [Act.put, List.setIfInBounds_toArray, List.set_cons_zero, List.set_cons_succ])
  go_cut [32] (fun v32 wc => ∃ (kq : Nat) (x32_1 : Bool), v32 = .bool x32_1 ∧ Aside0 (lockstitchref05_Check.j0 kq x32_1 l0_0 a0_1 a0_2 l0_3 = some (r1, r2)) ∧ Aside0 (kq ≤ k) ∧ Aside0 (wc.heap[gb125]? = some (.cells #[(.slice A0_0 l0_0.length c0_0), .string a0_1, .string a0_2, (.slice A0_3 l0_3.length c0_3)] 25 (0, 0))) ∧ Aside0 (Below w.heap.size w wc))
  case first =>
    have H := HC2.out
    clear HC2
    replace H := Option.bind_eq_some_iff.mp H
    obtain ⟨t126, A40, H⟩ := H
    replace H : (if t126 = true then ((lockstitchref03_Refs.f k l0_0 a0_2).bind fun t127 => (if t127 = true then (if (a0_1.size : Int) > 8 then (lockstitchref05_Check.j0 k true l0_0 a0_1 a0_2 l0_3) else (lockstitchref05_Check.j0 k (decide ((a0_2.size : Int) > 4)) l0_0 a0_1 a0_2 l0_3)) else (lockstitchref05_Check.j0 k true l0_0 a0_1 a0_2 l0_3))) else (lockstitchref05_Check.j0 k true l0_0 a0_1 a0_2 l0_3)) = some (r1, r2) := H
    have A4 := Aside0.mk A40
    clear A40
    by_cases c5 : t126 = true
    rotate_left
    · replace c5 := Bool.eq_false_iff.mpr c5
      subst c5
      have H1 : (lockstitchref05_Check.j0 k true l0_0 a0_1 a0_2 l0_3) = some (r1, r2) := by rw [if_neg (show ¬ (false = true) by decide)] at H; exact H
      clear H
      have H := H1
      clear H1
      have H' := Aside0.mk H
      clear H
      have hcz12_0 : w3.cell? ⟨gb125, 0, none⟩ = some (.slice A0_0 l0_0.length c0_0) := (blk_cell BK125.out 0).trans rfl
      have hcz12_1 : w3.cell? ⟨gb125, 1, none⟩ = some (.string a0_1) := (blk_cell BK125.out 1).trans rfl
      have hcz12_2 : w3.cell? ⟨gb125, 2, none⟩ = some (.string a0_2) := (blk_cell BK125.out 2).trans rfl
      have hcz12_3 : w3.cell? ⟨gb125, 3, none⟩ = some (.slice A0_3 l0_3.length c0_3) := (blk_cell BK125.out 3).trans rfl
      have hfz12_0 := blk_frozen BK125.out 0
      have hfz12_1 := blk_frozen BK125.out 1
      have hfz12_2 := blk_frozen BK125.out 2
      have hfz12_3 := blk_frozen BK125.out 3
      go_wp2_with (first | ((with_reducible refine gate_callee (f := 48) rfl ?_); refine goesL_ (some 11) rfl rfl Tryd.func48 (by kernel_rfl) rfl #[.slice A0_0 l0_0.length c0_0, .string a0_1] rfl hB3 ?_; (with_reducible refine (lockstitchref03_Refs.calls k _ _ l0_0 a0_1 false _ ?side1 ?side2 A4.out).mono ?_); (case side1 => repeat (first | exact (Kd.C_below HR0_0.out HB.out) | (with_reducible refine Kd.C_alloc ?_ _) | (with_reducible refine Kd.C_drewN ?_ _) | (with_reducible refine Kd.C_drew ?_))); (case side2 => exact HC0_0.out); rintro e w' ⟨rfl, ⟨nd, rfl⟩⟩; refine ⟨_, rfl, ?_⟩))
      go_meet
      case rel => exact ⟨_, (true), hB115, H', ⟨by first | omega | exact Nat.le_refl _⟩, ⟨hB90⟩, ⟨hB145⟩⟩
    subst c5
    have H1 : ((lockstitchref03_Refs.f k l0_0 a0_2).bind fun t127 => (if t127 = true then (if (a0_1.size : Int) > 8 then (lockstitchref05_Check.j0 k true l0_0 a0_1 a0_2 l0_3) else (lockstitchref05_Check.j0 k (decide ((a0_2.size : Int) > 4)) l0_0 a0_1 a0_2 l0_3)) else (lockstitchref05_Check.j0 k true l0_0 a0_1 a0_2 l0_3))) = some (r1, r2) := by rw [if_pos rfl] at H; exact H
    clear H
    have H := H1
    clear H1
    replace H := Option.bind_eq_some_iff.mp H
    obtain ⟨t127, A60, H⟩ := H
    replace H : (if t127 = true then (if (a0_1.size : Int) > 8 then (lockstitchref05_Check.j0 k true l0_0 a0_1 a0_2 l0_3) else (lockstitchref05_Check.j0 k (decide ((a0_2.size : Int) > 4)) l0_0 a0_1 a0_2 l0_3)) else (lockstitchref05_Check.j0 k true l0_0 a0_1 a0_2 l0_3)) = some (r1, r2) := H
    have A6 := Aside0.mk A60
    clear A60
    by_cases c7 : t127 = true
    rotate_left
    · replace c7 := Bool.eq_false_iff.mpr c7
      subst c7
      have H1 : (lockstitchref05_Check.j0 k true l0_0 a0_1 a0_2 l0_3) = some (r1, r2) := by rw [if_neg (show ¬ (false = true) by decide)] at H; exact H
      clear H
      have H := H1
      clear H1
      have H' := Aside0.mk H
      clear H
      have hcz11_0 : w3.cell? ⟨gb125, 0, none⟩ = some (.slice A0_0 l0_0.length c0_0) := (blk_cell BK125.out 0).trans rfl
      have hcz11_1 : w3.cell? ⟨gb125, 1, none⟩ = some (.string a0_1) := (blk_cell BK125.out 1).trans rfl
      have hcz11_2 : w3.cell? ⟨gb125, 2, none⟩ = some (.string a0_2) := (blk_cell BK125.out 2).trans rfl
      have hcz11_3 : w3.cell? ⟨gb125, 3, none⟩ = some (.slice A0_3 l0_3.length c0_3) := (blk_cell BK125.out 3).trans rfl
      have hfz11_0 := blk_frozen BK125.out 0
      have hfz11_1 := blk_frozen BK125.out 1
      have hfz11_2 := blk_frozen BK125.out 2
      have hfz11_3 := blk_frozen BK125.out 3
      go_wp2_with (first | ((with_reducible refine gate_callee (f := 48) rfl ?_); refine goesL_ (some 11) rfl rfl Tryd.func48 (by kernel_rfl) rfl #[.slice A0_0 l0_0.length c0_0, .string a0_1] rfl hB3 ?_; (with_reducible refine (lockstitchref03_Refs.calls k _ _ l0_0 a0_1 true _ ?side1 ?side2 A4.out).mono ?_); (case side1 => repeat (first | exact (Kd.C_below HR0_0.out HB.out) | (with_reducible refine Kd.C_alloc ?_ _) | (with_reducible refine Kd.C_drewN ?_ _) | (with_reducible refine Kd.C_drew ?_))); (case side2 => exact HC0_0.out); rintro e w' ⟨rfl, ⟨nd, rfl⟩⟩; refine ⟨_, rfl, ?_⟩) | (go_at_call 48; (with_reducible refine (lockstitchref03_Refs.calls k _ _ l0_0 a0_2 false _ ?side1 ?side2 A6.out).mono ?_); (case side1 => repeat (first | exact (Kd.C_below HR0_0.out hB145) | (with_reducible refine Kd.C_alloc ?_ _) | (with_reducible refine Kd.C_drewN ?_ _) | (with_reducible refine Kd.C_drew ?_))); (case side2 => exact HC0_0.out); rintro e w' ⟨rfl, ⟨nd, rfl⟩⟩))
      go_meet
      case rel => exact ⟨_, (true), hB115, H', ⟨by first | omega | exact Nat.le_refl _⟩, ⟨hB90⟩, ⟨hB145⟩⟩
    subst c7
    have H1 : (if (a0_1.size : Int) > 8 then (lockstitchref05_Check.j0 k true l0_0 a0_1 a0_2 l0_3) else (lockstitchref05_Check.j0 k (decide ((a0_2.size : Int) > 4)) l0_0 a0_1 a0_2 l0_3)) = some (r1, r2) := by rw [if_pos rfl] at H; exact H
    clear H
    have H := H1
    clear H1
    by_cases c8 : (a0_1.size : Int) > 8
    rotate_left
    · rw [if_neg c8] at H
      have c8b0 : decide (8 < (a0_1.size : Int)) = false := decide_eq_false c8
      have c8b1 : decide (8 < a0_1.size) = false := decide_eq_false (by omega)
      clear c8
      (first | rw [c8b0] | (simp only [i64_w, i32_w]; rw [c8b0]) | skip)
      have H' := Aside0.mk H
      clear H
      have hcz10_0 : w3.cell? ⟨gb125, 0, none⟩ = some (.slice A0_0 l0_0.length c0_0) := (blk_cell BK125.out 0).trans rfl
      have hcz10_1 : w3.cell? ⟨gb125, 1, none⟩ = some (.string a0_1) := (blk_cell BK125.out 1).trans rfl
      have hcz10_2 : w3.cell? ⟨gb125, 2, none⟩ = some (.string a0_2) := (blk_cell BK125.out 2).trans rfl
      have hcz10_3 : w3.cell? ⟨gb125, 3, none⟩ = some (.slice A0_3 l0_3.length c0_3) := (blk_cell BK125.out 3).trans rfl
      have hfz10_0 := blk_frozen BK125.out 0
      have hfz10_1 := blk_frozen BK125.out 1
      have hfz10_2 := blk_frozen BK125.out 2
      have hfz10_3 := blk_frozen BK125.out 3
      go_wp2_with (first | ((with_reducible refine gate_callee (f := 48) rfl ?_); refine goesL_ (some 11) rfl rfl Tryd.func48 (by kernel_rfl) rfl #[.slice A0_0 l0_0.length c0_0, .string a0_1] rfl hB3 ?_; (with_reducible refine (lockstitchref03_Refs.calls k _ _ l0_0 a0_1 true _ ?side1 ?side2 A4.out).mono ?_); (case side1 => repeat (first | exact (Kd.C_below HR0_0.out HB.out) | (with_reducible refine Kd.C_alloc ?_ _) | (with_reducible refine Kd.C_drewN ?_ _) | (with_reducible refine Kd.C_drew ?_))); (case side2 => exact HC0_0.out); rintro e w' ⟨rfl, ⟨nd, rfl⟩⟩; refine ⟨_, rfl, ?_⟩) | (go_at_call 48; (with_reducible refine (lockstitchref03_Refs.calls k _ _ l0_0 a0_2 true _ ?side1 ?side2 A6.out).mono ?_); (case side1 => repeat (first | exact (Kd.C_below HR0_0.out hB145) | (with_reducible refine Kd.C_alloc ?_ _) | (with_reducible refine Kd.C_drewN ?_ _) | (with_reducible refine Kd.C_drew ?_))); (case side2 => exact HC0_0.out); rintro e w' ⟨rfl, ⟨nd, rfl⟩⟩))
      go_meet
      case rel => exact ⟨_, (decide ((a0_2.size : Int) > 4)), hB115, H', ⟨by first | omega | exact Nat.le_refl _⟩, ⟨hB90⟩, ⟨hB145⟩⟩
    rw [if_pos c8] at H
    have c8b0 : decide (8 < (a0_1.size : Int)) = true := decide_eq_true c8
    have c8b1 : decide (8 < a0_1.size) = true := decide_eq_true (by omega)
    clear c8
    (first | rw [c8b0] | (simp only [i64_w, i32_w]; rw [c8b0]) | skip)
    have H' := Aside0.mk H
    clear H
    have hcz9_0 : w3.cell? ⟨gb125, 0, none⟩ = some (.slice A0_0 l0_0.length c0_0) := (blk_cell BK125.out 0).trans rfl
    have hcz9_1 : w3.cell? ⟨gb125, 1, none⟩ = some (.string a0_1) := (blk_cell BK125.out 1).trans rfl
    have hcz9_2 : w3.cell? ⟨gb125, 2, none⟩ = some (.string a0_2) := (blk_cell BK125.out 2).trans rfl
    have hcz9_3 : w3.cell? ⟨gb125, 3, none⟩ = some (.slice A0_3 l0_3.length c0_3) := (blk_cell BK125.out 3).trans rfl
    have hfz9_0 := blk_frozen BK125.out 0
    have hfz9_1 := blk_frozen BK125.out 1
    have hfz9_2 := blk_frozen BK125.out 2
    have hfz9_3 := blk_frozen BK125.out 3
    go_wp2_with (first | ((with_reducible refine gate_callee (f := 48) rfl ?_); refine goesL_ (some 11) rfl rfl Tryd.func48 (by kernel_rfl) rfl #[.slice A0_0 l0_0.length c0_0, .string a0_1] rfl hB3 ?_; (with_reducible refine (lockstitchref03_Refs.calls k _ _ l0_0 a0_1 true _ ?side1 ?side2 A4.out).mono ?_); (case side1 => repeat (first | exact (Kd.C_below HR0_0.out HB.out) | (with_reducible refine Kd.C_alloc ?_ _) | (with_reducible refine Kd.C_drewN ?_ _) | (with_reducible refine Kd.C_drew ?_))); (case side2 => exact HC0_0.out); rintro e w' ⟨rfl, ⟨nd, rfl⟩⟩; refine ⟨_, rfl, ?_⟩) | (go_at_call 48; (with_reducible refine (lockstitchref03_Refs.calls k _ _ l0_0 a0_2 true _ ?side1 ?side2 A6.out).mono ?_); (case side1 => repeat (first | exact (Kd.C_below HR0_0.out hB145) | (with_reducible refine Kd.C_alloc ?_ _) | (with_reducible refine Kd.C_drewN ?_ _) | (with_reducible refine Kd.C_drew ?_))); (case side2 => exact HC0_0.out); rintro e w' ⟨rfl, ⟨nd, rfl⟩⟩))
    go_meet
    case rel => exact ⟨_, (true), hB115, H', ⟨by first | omega | exact Nat.le_refl _⟩, ⟨hB90⟩, ⟨hB145⟩⟩
  case rest =>
    clear HC2
    try clear p2
    try clear c4
    try clear c5
    try clear c7
    try clear c8
    try clear c8b0
    try clear c8b1
    try clear hcz10_0
    try clear hcz10_1
    try clear hcz10_2
    try clear hcz10_3
    try clear hcz11_0
    try clear hcz11_1
    try clear hcz11_2
    try clear hcz11_3
    try clear hcz12_0
    try clear hcz12_1
    try clear hcz12_2
    try clear hcz12_3
    try clear hcz9_0
    try clear hcz9_1
    try clear hcz9_2
    try clear hcz9_3
    try clear hfz10_0
    try clear hfz10_1
    try clear hfz10_2
    try clear hfz10_3
    try clear hfz11_0
    try clear hfz11_1
    try clear hfz11_2
    try clear hfz11_3
    try clear hfz12_0
    try clear hfz12_1
    try clear hfz12_2
    try clear hfz12_3
    try clear hfz9_0
    try clear hfz9_1
    try clear hfz9_2
    try clear hfz9_3
    obtain ⟨kq, x32_1, rfl, HA, HJ1, BK125, HB⟩ := hcut
    cases kq with
    | zero => exact absurd HA.out (by simp [lockstitchref05_Check.j0])
    | succ kj1 =>
      have H := HA.out
      clear HA
      simp only [lockstitchref05_Check.j0] at H
      by_cases c13 : x32_1 = true
      · subst c13
        have H1 : (some ((-1), 5)) = some (r1, r2) := by rw [if_pos rfl] at H; exact H
        clear H
        have H := H1
        clear H1
        simp only [Option.some.injEq, Prod.mk.injEq] at H
        obtain ⟨rfl, rfl⟩ := H
        go_wp2
        go_ret2
        exact ⟨by first | rfl | (simp [errW_none, errW_some] <;> rfl) | (simp [*, errW_none, errW_some] <;> rfl), hB145⟩
      replace c13 := Bool.eq_false_iff.mpr c13
      subst c13
      have H1 : (if (l0_3.length : Int) < 1 then (lockstitchref05_Check.j1 kj1 true l0_0 a0_1 a0_2 l0_3) else (lockstitchref05_Check.j1 kj1 (decide ((l0_3.length : Int) > 200)) l0_0 a0_1 a0_2 l0_3)) = some (r1, r2) := by rw [if_neg (show ¬ (false = true) by decide)] at H; exact H
      clear H
      have H := H1
      clear H1
      have HC14 := Aside0.mk H
      clear H
      go_upto_region 3 with (fail)
      go_cut [42] (fun v42 wc => ∃ (kq : Nat) (x42_13 : Bool), v42 = .bool x42_13 ∧ Aside0 (lockstitchref05_Check.j1 kq x42_13 l0_0 a0_1 a0_2 l0_3 = some (r1, r2)) ∧ Aside0 (kq ≤ kj1) ∧ Aside0 (wc.heap[gb125]? = some (.cells #[(.slice A0_0 l0_0.length c0_0), .string a0_1, .string a0_2, (.slice A0_3 l0_3.length c0_3)] 25 (0, 0))) ∧ Aside0 (Below w.heap.size w wc))
      case first =>
        have H := HC14.out
        clear HC14
        by_cases c15 : (l0_3.length : Int) < 1
        rotate_left
        · rw [if_neg c15] at H
          have c15b0 : decide ((l0_3.length : Int) < 1) = false := decide_eq_false c15
          have c15b1 : decide (l0_3.length < 1) = false := decide_eq_false (by omega)
          clear c15
          (first | rw [c15b0] | (simp only [i64_w, i32_w]; rw [c15b0]) | skip)
          have H' := Aside0.mk H
          clear H
          have hcz17_0 : wc.cell? ⟨gb125, 0, none⟩ = some (.slice A0_0 l0_0.length c0_0) := (blk_cell BK125.out 0).trans rfl
          have hcz17_1 : wc.cell? ⟨gb125, 1, none⟩ = some (.string a0_1) := (blk_cell BK125.out 1).trans rfl
          have hcz17_2 : wc.cell? ⟨gb125, 2, none⟩ = some (.string a0_2) := (blk_cell BK125.out 2).trans rfl
          have hcz17_3 : wc.cell? ⟨gb125, 3, none⟩ = some (.slice A0_3 l0_3.length c0_3) := (blk_cell BK125.out 3).trans rfl
          have hfz17_0 := blk_frozen BK125.out 0
          have hfz17_1 := blk_frozen BK125.out 1
          have hfz17_2 := blk_frozen BK125.out 2
          have hfz17_3 := blk_frozen BK125.out 3
          go_wp2
          go_meet
          case rel => exact ⟨_, (decide ((l0_3.length : Int) > 200)), hB115, H', ⟨hB117⟩, ⟨hB90⟩, ⟨hB145⟩⟩
        rw [if_pos c15] at H
        have c15b0 : decide ((l0_3.length : Int) < 1) = true := decide_eq_true c15
        have c15b1 : decide (l0_3.length < 1) = true := decide_eq_true (by omega)
        clear c15
        (first | rw [c15b0] | (simp only [i64_w, i32_w]; rw [c15b0]) | skip)
        have H' := Aside0.mk H
        clear H
        have hcz16_0 : wc.cell? ⟨gb125, 0, none⟩ = some (.slice A0_0 l0_0.length c0_0) := (blk_cell BK125.out 0).trans rfl
        have hcz16_1 : wc.cell? ⟨gb125, 1, none⟩ = some (.string a0_1) := (blk_cell BK125.out 1).trans rfl
        have hcz16_2 : wc.cell? ⟨gb125, 2, none⟩ = some (.string a0_2) := (blk_cell BK125.out 2).trans rfl
        have hcz16_3 : wc.cell? ⟨gb125, 3, none⟩ = some (.slice A0_3 l0_3.length c0_3) := (blk_cell BK125.out 3).trans rfl
        have hfz16_0 := blk_frozen BK125.out 0
        have hfz16_1 := blk_frozen BK125.out 1
        have hfz16_2 := blk_frozen BK125.out 2
        have hfz16_3 := blk_frozen BK125.out 3
        go_wp2
        go_meet
        case rel => exact ⟨_, (true), hB115, H', ⟨hB117⟩, ⟨hB90⟩, ⟨hB145⟩⟩
      case rest =>
        clear HC14
        try clear c1
        try clear p2
        try clear c4
        try clear c5
        try clear c7
        try clear c8
        try clear c8b0
        try clear c8b1
        try clear c13
        try clear c15
        try clear c15b0
        try clear c15b1
        try clear hcz10_0
        try clear hcz10_1
        try clear hcz10_2
        try clear hcz10_3
        try clear hcz11_0
        try clear hcz11_1
        try clear hcz11_2
        try clear hcz11_3
        try clear hcz12_0
        try clear hcz12_1
        try clear hcz12_2
        try clear hcz12_3
        try clear hcz16_0
        try clear hcz16_1
        try clear hcz16_2
        try clear hcz16_3
        try clear hcz17_0
        try clear hcz17_1
        try clear hcz17_2
        try clear hcz17_3
        try clear hcz9_0
        try clear hcz9_1
        try clear hcz9_2
        try clear hcz9_3
        try clear hfz10_0
        try clear hfz10_1
        try clear hfz10_2
        try clear hfz10_3
        try clear hfz11_0
        try clear hfz11_1
        try clear hfz11_2
        try clear hfz11_3
        try clear hfz12_0
        try clear hfz12_1
        try clear hfz12_2
        try clear hfz12_3
        try clear hfz16_0
        try clear hfz16_1
        try clear hfz16_2
        try clear hfz16_3
        try clear hfz17_0
        try clear hfz17_1
        try clear hfz17_2
        try clear hfz17_3
        try clear hfz9_0
        try clear hfz9_1
        try clear hfz9_2
        try clear hfz9_3
        try clear p2
        obtain ⟨kq, x42_13, rfl, HA, HJ13, BK125, HB⟩ := hcut
        cases kq with
        | zero => exact absurd HA.out (by simp [lockstitchref05_Check.j1])
        | succ kj13 =>
          have H := HA.out
          clear HA
          simp only [lockstitchref05_Check.j1] at H
          by_cases c18 : x42_13 = true
          · subst c18
            have H1 : (some ((-1), 3)) = some (r1, r2) := by rw [if_pos rfl] at H; exact H
            clear H
            have H := H1
            clear H1
            simp only [Option.some.injEq, Prod.mk.injEq] at H
            obtain ⟨rfl, rfl⟩ := H
            go_wp2
            go_ret2
            exact ⟨by first | rfl | (simp [errW_none, errW_some] <;> rfl) | (simp [*, errW_none, errW_some] <;> rfl), hB145⟩
          replace c18 := Bool.eq_false_iff.mpr c18
          subst c18
          have H1 : (lockstitchref05_Check.l0 kj13 0 l0_0 a0_1 a0_2 l0_3) = some (r1, r2) := by rw [if_neg (show ¬ (false = true) by decide)] at H; exact H
          clear H
          have H := H1
          clear H1
          have H' := Aside0.mk H
          clear H
          go_wp2
          go_loopg [4] kj13 (fun kq v4 w' => ∃ (x4_3 : Int), v4 = .int .i64 x4_3 ∧ Aside0 (lockstitchref05_Check.l0 kq x4_3 l0_0 a0_1 a0_2 l0_3 = some (r1, r2)) ∧ Aside0 (kq ≤ kj13) ∧ Aside0 (w'.heap[gb125]? = some (.cells #[(.slice A0_0 l0_0.length c0_0), .string a0_1, .string a0_2, (.slice A0_3 l0_3.length c0_3)] 25 (0, 0))) ∧ Aside0 (Below w.heap.size w w'))
          case atStart => exact ⟨(0), hB115, H', ⟨Nat.le_refl _⟩, ⟨hB90⟩, ⟨hB145⟩⟩
          case round =>
            clear H'
            try clear c1
            try clear p2
            try clear c4
            try clear c5
            try clear c7
            try clear c8
            try clear c8b0
            try clear c8b1
            try clear c13
            try clear c15
            try clear c15b0
            try clear c15b1
            try clear c18
            try clear hcz10_0
            try clear hcz10_1
            try clear hcz10_2
            try clear hcz10_3
            try clear hcz11_0
            try clear hcz11_1
            try clear hcz11_2
            try clear hcz11_3
            try clear hcz12_0
            try clear hcz12_1
            try clear hcz12_2
            try clear hcz12_3
            try clear hcz16_0
            try clear hcz16_1
            try clear hcz16_2
            try clear hcz16_3
            try clear hcz17_0
            try clear hcz17_1
            try clear hcz17_2
            try clear hcz17_3
            try clear hcz9_0
            try clear hcz9_1
            try clear hcz9_2
            try clear hcz9_3
            try clear hfz10_0
            try clear hfz10_1
            try clear hfz10_2
            try clear hfz10_3
            try clear hfz11_0
            try clear hfz11_1
            try clear hfz11_2
            try clear hfz11_3
            try clear hfz12_0
            try clear hfz12_1
            try clear hfz12_2
            try clear hfz12_3
            try clear hfz16_0
            try clear hfz16_1
            try clear hfz16_2
            try clear hfz16_3
            try clear hfz17_0
            try clear hfz17_1
            try clear hfz17_2
            try clear hfz17_3
            try clear hfz9_0
            try clear hfz9_1
            try clear hfz9_2
            try clear hfz9_3
            try clear p2
            obtain ⟨x4_3, rfl, HA, HK3, BK125, HB⟩ := hrel
            cases gk with
            | zero => exact absurd HA.out (by simp [lockstitchref05_Check.l0])
            | succ k3 =>
              have H := HA.out
              clear HA
              simp only [lockstitchref05_Check.l0] at H
              by_cases c19 : x4_3 < (l0_3.length : Int)
              rotate_left
              · rw [if_neg c19] at H
                have c19b0 : decide (x4_3 < (l0_3.length : Int)) = false := decide_eq_false c19
                clear c19
                simp only [Option.some.injEq, Prod.mk.injEq] at H
                obtain ⟨rfl, rfl⟩ := H
                have hcz67_0 : wr.cell? ⟨gb125, 0, none⟩ = some (.slice A0_0 l0_0.length c0_0) := (blk_cell BK125.out 0).trans rfl
                have hcz67_1 : wr.cell? ⟨gb125, 1, none⟩ = some (.string a0_1) := (blk_cell BK125.out 1).trans rfl
                have hcz67_2 : wr.cell? ⟨gb125, 2, none⟩ = some (.string a0_2) := (blk_cell BK125.out 2).trans rfl
                have hcz67_3 : wr.cell? ⟨gb125, 3, none⟩ = some (.slice A0_3 l0_3.length c0_3) := (blk_cell BK125.out 3).trans rfl
                have hfz67_0 := blk_frozen BK125.out 0
                have hfz67_1 := blk_frozen BK125.out 1
                have hfz67_2 := blk_frozen BK125.out 2
                have hfz67_3 := blk_frozen BK125.out 3
                go_wp2
                go_ret2
                exact ⟨by first | rfl | (simp [errW_none, errW_some] <;> rfl) | (simp [*, errW_none, errW_some] <;> rfl), hB145⟩
              rw [if_pos c19] at H
              have c19b0 : decide (x4_3 < (l0_3.length : Int)) = true := decide_eq_true c19
              clear c19
              by_cases c20 : 0 ≤ x4_3
              rotate_left
              · rw [if_neg c20] at H
                exact absurd H (by simp)
              rw [if_pos c20] at H
              have c20b0 : decide (0 ≤ x4_3) = true := decide_eq_true c20
              clear c20
              have HC21 := Aside0.mk H
              clear H
              have hcz22_0 : wr.cell? ⟨gb125, 0, none⟩ = some (.slice A0_0 l0_0.length c0_0) := (blk_cell BK125.out 0).trans rfl
              have hcz22_1 : wr.cell? ⟨gb125, 1, none⟩ = some (.string a0_1) := (blk_cell BK125.out 1).trans rfl
              have hcz22_2 : wr.cell? ⟨gb125, 2, none⟩ = some (.string a0_2) := (blk_cell BK125.out 2).trans rfl
              have hcz22_3 : wr.cell? ⟨gb125, 3, none⟩ = some (.slice A0_3 l0_3.length c0_3) := (blk_cell BK125.out 3).trans rfl
              have hfz22_0 := blk_frozen BK125.out 0
              have hfz22_1 := blk_frozen BK125.out 1
              have hfz22_2 := blk_frozen BK125.out 2
              have hfz22_3 := blk_frozen BK125.out 3
              have p128 : 0 ≤ (x4_3 : Int) := of_decide_eq_true hB114
              have q128 : x4_3 < (l0_3.length : Int) := of_decide_eq_true hB114
              obtain ⟨ad128, e128, hx128_0, hx128_1, hx128_2, hx128_3, hx128_4⟩ := at_T36 HR0_3.out x4_3 p128 q128
              cases e128
              replace hx128_0 := (HB.out.cell (World.block_lt_of_cell? w _ hx128_0)).trans hx128_0
              replace hx128_1 := (HB.out.cell (World.block_lt_of_cell? w _ hx128_1)).trans hx128_1
              replace hx128_2 := (HB.out.cell (World.block_lt_of_cell? w _ hx128_2)).trans hx128_2
              replace hx128_3 := (HB.out.cell (World.block_lt_of_cell? w _ hx128_3)).trans hx128_3
              replace hx128_4 := (HB.out.cell (World.block_lt_of_cell? w _ hx128_4)).trans hx128_4
              replace p128 := eq_true p128
              replace q128 := eq_true q128
              go_upto_region 9 with (first | ((with_reducible refine gate_dst (N := 5) rfl ?_); (try (refine gate_guard (by rfl) ?_; dsimp only)); refine box_event ?hg (N := 5) ?hd (cs := #[.int .u8 0, .int .u8 0, .int .u8 0, .int .u8 0, .int .i64 0]) (t := 36) ?hr ?_; (case hd => rfl); (case hg => rfl); (case hr => first | (go_simp; done) | (go_simp; rfl)); intro gb129 hg w23 hbox hb; have n0_ := Aside0.mk (blk_below (g := gb125) (o := .cells #[.slice A0_0 l0_0.length c0_0, .string a0_1, .string a0_2, .slice (some ad128) l0_3.length c0_3] 25 (0, 0)) hB90 hb); have n1_ := Aside0.mk (below_step hB145 hb); have n2_ := Aside0.mk (hbox); have n3_ := Aside0.mk ((by rw [hg]; exact (below_size hB145) : w.heap.size ≤ gb129)); have n4_ := Aside0.mk ((by rw [hg]; exact (below_size hB145) : w.heap.size ≤ gb129)); have n5_ := Aside0.mk ((by rw [hg]; exact Nat.ne_of_lt (blk_lt (g := gb125) (o := .cells #[.slice A0_0 l0_0.length c0_0, .string a0_1, .string a0_2, .slice (some ad128) l0_3.length c0_3] 25 (0, 0)) hB90) : gb125 ≠ gb129)); have n6_ := Aside0.mk ((by rw [hg]; exact Nat.ne_of_gt (blk_lt (g := gb125) (o := .cells #[.slice A0_0 l0_0.length c0_0, .string a0_1, .string a0_2, .slice (some ad128) l0_3.length c0_3] 25 (0, 0)) hB90) : gb129 ≠ gb125)); clear BK125; clear HB; have BK125 := n0_; have HB := n1_; have BK129 := n2_; have GW129 := n3_; have GE129 := n4_; have NB125_129 := n5_; have NB129_125 := n6_; clear n0_ n1_ n2_ n3_ n4_ n5_ n6_; clear hb hbox hg; have hnb24 := NB129_125.out; have hnc24 := NB125_129.out; have hcz25_0 : w23.cell? ⟨gb129, 0, none⟩ = some (.int .u8 0) := (blk_cell BK129.out 0).trans rfl; have hcz25_1 : w23.cell? ⟨gb129, 1, none⟩ = some (.int .u8 0) := (blk_cell BK129.out 1).trans rfl; have hcz25_2 : w23.cell? ⟨gb129, 2, none⟩ = some (.int .u8 0) := (blk_cell BK129.out 2).trans rfl; have hcz25_3 : w23.cell? ⟨gb129, 3, none⟩ = some (.int .u8 0) := (blk_cell BK129.out 3).trans rfl; have hcz25_4 : w23.cell? ⟨gb129, 4, none⟩ = some (.int .i64 0) := (blk_cell BK129.out 4).trans rfl; have hfz25_0 := blk_frozen BK129.out 0; have hfz25_1 := blk_frozen BK129.out 1; have hfz25_2 := blk_frozen BK129.out 2; have hfz25_3 := blk_frozen BK129.out 3; have hfz25_4 := blk_frozen BK129.out 4))
              (try simp only [Act.put, List.setIfInBounds_toArray, List.set_cons_zero, List.set_cons_succ])
              go_cut [6] (fun v6 wc => ∃ (kq : Nat) (x6_20 : Bool), v6 = .bool x6_20 ∧ Aside0 (lockstitchref05_Check.j3 kq x4_3 x6_20 l0_0 a0_1 a0_2 l0_3 ((rd_T36 l0_3 x4_3).f0) ((rd_T36 l0_3 x4_3).f1) ((rd_T36 l0_3 x4_3).f2) ((rd_T36 l0_3 x4_3).f3) ((rd_T36 l0_3 x4_3).f4) = some (r1, r2)) ∧ Aside0 (kq ≤ k3) ∧ Aside0 (wc.heap[gb125]? = some (.cells #[(.slice A0_0 l0_0.length c0_0), .string a0_1, .string a0_2, (.slice (some ad128) l0_3.length c0_3)] 25 (0, 0))) ∧ Aside0 (wc.heap[gb129]? = some (.cells #[.int .u8 ((rd_T36 l0_3 x4_3).f0), .int .u8 ((rd_T36 l0_3 x4_3).f1), .int .u8 ((rd_T36 l0_3 x4_3).f2), .int .u8 ((rd_T36 l0_3 x4_3).f3), .int .i64 ((rd_T36 l0_3 x4_3).f4)] 36 (0, 0))) ∧ Aside0 (Below w.heap.size w wc))
              case first =>
                have H := HC21.out
                clear HC21
                by_cases c26 : ((rd_T36 l0_3 x4_3).f0) = 3
                rotate_left
                · rw [if_neg c26] at H
                  have c26b0 : (((rd_T36 l0_3 x4_3).f0) == 3) = false := beq_eq_false_iff_ne.mpr c26
                  have c26b1 : (((rd_T36 l0_3 x4_3).f0) != 3) = true := bne_iff_ne.mpr c26
                  (first | rw [c26b0] | (simp only [i64_w, i32_w]; rw [c26b0]) | skip)
                  have H' := Aside0.mk H
                  clear H
                  have hnb29 := NB129_125.out
                  have hnc29 := NB125_129.out
                  have hcz30_0 : w23.cell? ⟨gb129, 0, none⟩ = some (.int .u8 0) := (blk_cell BK129.out 0).trans rfl
                  have hcz30_1 : w23.cell? ⟨gb129, 1, none⟩ = some (.int .u8 0) := (blk_cell BK129.out 1).trans rfl
                  have hcz30_2 : w23.cell? ⟨gb129, 2, none⟩ = some (.int .u8 0) := (blk_cell BK129.out 2).trans rfl
                  have hcz30_3 : w23.cell? ⟨gb129, 3, none⟩ = some (.int .u8 0) := (blk_cell BK129.out 3).trans rfl
                  have hcz30_4 : w23.cell? ⟨gb129, 4, none⟩ = some (.int .i64 0) := (blk_cell BK129.out 4).trans rfl
                  have hfz30_0 := blk_frozen BK129.out 0
                  have hfz30_1 := blk_frozen BK129.out 1
                  have hfz30_2 := blk_frozen BK129.out 2
                  have hfz30_3 := blk_frozen BK129.out 3
                  have hfz30_4 := blk_frozen BK129.out 4
                  go_wp2
                  go_meet
                  case rel => exact ⟨_, ((((rd_T36 l0_3 x4_3).f0) == 4)), hB115, H', ⟨by have := HJ1.out; have := HJ13.out; have := HK3.out; first | omega | exact Nat.le_refl _⟩, ⟨hB108⟩, ⟨hB113⟩, ⟨hB144⟩⟩
                rw [if_pos c26] at H
                have c26b0 : (((rd_T36 l0_3 x4_3).f0) == 3) = true := beq_iff_eq.mpr c26
                have c26b1 : (((rd_T36 l0_3 x4_3).f0) != 3) = false := bne_eq_false_iff_eq.mpr c26
                clear c26
                (first | rw [c26b0] | (simp only [i64_w, i32_w]; rw [c26b0]) | skip)
                have H' := Aside0.mk H
                clear H
                have hnb27 := NB129_125.out
                have hnc27 := NB125_129.out
                have hcz28_0 : w23.cell? ⟨gb129, 0, none⟩ = some (.int .u8 0) := (blk_cell BK129.out 0).trans rfl
                have hcz28_1 : w23.cell? ⟨gb129, 1, none⟩ = some (.int .u8 0) := (blk_cell BK129.out 1).trans rfl
                have hcz28_2 : w23.cell? ⟨gb129, 2, none⟩ = some (.int .u8 0) := (blk_cell BK129.out 2).trans rfl
                have hcz28_3 : w23.cell? ⟨gb129, 3, none⟩ = some (.int .u8 0) := (blk_cell BK129.out 3).trans rfl
                have hcz28_4 : w23.cell? ⟨gb129, 4, none⟩ = some (.int .i64 0) := (blk_cell BK129.out 4).trans rfl
                have hfz28_0 := blk_frozen BK129.out 0
                have hfz28_1 := blk_frozen BK129.out 1
                have hfz28_2 := blk_frozen BK129.out 2
                have hfz28_3 := blk_frozen BK129.out 3
                have hfz28_4 := blk_frozen BK129.out 4
                go_wp2
                go_meet
                case rel => exact ⟨_, (true), hB115, H', ⟨by have := HJ1.out; have := HJ13.out; have := HK3.out; first | omega | exact Nat.le_refl _⟩, ⟨hB108⟩, ⟨hB113⟩, ⟨hB144⟩⟩
              case rest =>
                clear HC21
                try clear c1
                try clear p1
                try clear q1
                try clear hx1
                try clear c2
                try clear p2
                try clear c4
                try clear c5
                try clear c7
                try clear c8
                try clear c8b0
                try clear c8b1
                try clear p12
                try clear q12
                try clear hx12
                try clear c13
                try clear c15
                try clear c15b0
                try clear c15b1
                try clear c18
                try clear c19
                try clear c19b0
                try clear c20
                try clear c20b0
                try clear c24
                try clear c26
                try clear c26b0
                try clear c26b1
                try clear c27
                try clear c29
                try clear hcz10_0
                try clear hcz10_1
                try clear hcz10_2
                try clear hcz10_3
                try clear hcz11_0
                try clear hcz11_1
                try clear hcz11_2
                try clear hcz11_3
                try clear hcz12_0
                try clear hcz12_1
                try clear hcz12_2
                try clear hcz12_3
                try clear hcz16_0
                try clear hcz16_1
                try clear hcz16_2
                try clear hcz16_3
                try clear hcz17_0
                try clear hcz17_1
                try clear hcz17_2
                try clear hcz17_3
                try clear hcz22_0
                try clear hcz22_1
                try clear hcz22_2
                try clear hcz22_3
                try clear hcz25_0
                try clear hcz25_1
                try clear hcz25_2
                try clear hcz25_3
                try clear hcz25_4
                try clear hcz28_0
                try clear hcz28_1
                try clear hcz28_2
                try clear hcz28_3
                try clear hcz28_4
                try clear hcz30_0
                try clear hcz30_1
                try clear hcz30_2
                try clear hcz30_3
                try clear hcz30_4
                try clear hcz9_0
                try clear hcz9_1
                try clear hcz9_2
                try clear hcz9_3
                try clear hfz10_0
                try clear hfz10_1
                try clear hfz10_2
                try clear hfz10_3
                try clear hfz11_0
                try clear hfz11_1
                try clear hfz11_2
                try clear hfz11_3
                try clear hfz12_0
                try clear hfz12_1
                try clear hfz12_2
                try clear hfz12_3
                try clear hfz16_0
                try clear hfz16_1
                try clear hfz16_2
                try clear hfz16_3
                try clear hfz17_0
                try clear hfz17_1
                try clear hfz17_2
                try clear hfz17_3
                try clear hfz22_0
                try clear hfz22_1
                try clear hfz22_2
                try clear hfz22_3
                try clear hfz25_0
                try clear hfz25_1
                try clear hfz25_2
                try clear hfz25_3
                try clear hfz25_4
                try clear hfz28_0
                try clear hfz28_1
                try clear hfz28_2
                try clear hfz28_3
                try clear hfz28_4
                try clear hfz30_0
                try clear hfz30_1
                try clear hfz30_2
                try clear hfz30_3
                try clear hfz30_4
                try clear hfz9_0
                try clear hfz9_1
                try clear hfz9_2
                try clear hfz9_3
                try clear hx128_0
                try clear hx128_1
                try clear hx128_2
                try clear hx128_3
                try clear hx128_4
                try clear p128
                try clear p2
                try clear q128
                obtain ⟨kq, x6_20, rfl, HA, HJ20, BK125, BK129, HB⟩ := hcut
                cases kq with
                | zero => exact absurd HA.out (by simp [lockstitchref05_Check.j3])
                | succ kj20 =>
                  have H := HA.out
                  clear HA
                  simp only [lockstitchref05_Check.j3] at H
                  replace H := Option.bind_eq_some_iff.mp H
                  obtain ⟨t130, A310, H⟩ := H
                  replace H : (if t130 = true then (if x6_20 = true then (if ((rd_T36 l0_3 x4_3).f4) < 0 then (lockstitchref05_Check.j4 kj20 x4_3 true l0_0 a0_1 a0_2 l0_3 ((rd_T36 l0_3 x4_3).f0) ((rd_T36 l0_3 x4_3).f1) ((rd_T36 l0_3 x4_3).f2) ((rd_T36 l0_3 x4_3).f3) ((rd_T36 l0_3 x4_3).f4)) else (lockstitchref05_Check.j4 kj20 x4_3 (decide (((rd_T36 l0_3 x4_3).f4) > (l0_3.length : Int))) l0_0 a0_1 a0_2 l0_3 ((rd_T36 l0_3 x4_3).f0) ((rd_T36 l0_3 x4_3).f1) ((rd_T36 l0_3 x4_3).f2) ((rd_T36 l0_3 x4_3).f3) ((rd_T36 l0_3 x4_3).f4))) else (lockstitchref05_Check.j4 kj20 x4_3 false l0_0 a0_1 a0_2 l0_3 ((rd_T36 l0_3 x4_3).f0) ((rd_T36 l0_3 x4_3).f1) ((rd_T36 l0_3 x4_3).f2) ((rd_T36 l0_3 x4_3).f3) ((rd_T36 l0_3 x4_3).f4))) else (some (x4_3, 4))) = some (r1, r2) := H
                  have A31 := Aside0.mk A310
                  clear A310
                  by_cases c32 : t130 = true
                  rotate_left
                  · replace c32 := Bool.eq_false_iff.mpr c32
                    subst c32
                    have H1 : (some (x4_3, 4)) = some (r1, r2) := by rw [if_neg (show ¬ (false = true) by decide)] at H; exact H
                    clear H
                    have H := H1
                    clear H1
                    simp only [Option.some.injEq, Prod.mk.injEq] at H
                    obtain ⟨rfl, rfl⟩ := H
                    have hnb64 := NB129_125.out
                    have hnc64 := NB125_129.out
                    have hcz65_0 : wc.cell? ⟨gb129, 0, none⟩ = some (.int .u8 ((rd_T36 l0_3 x4_3).f0)) := (blk_cell BK129.out 0).trans rfl
                    have hcz65_1 : wc.cell? ⟨gb129, 1, none⟩ = some (.int .u8 ((rd_T36 l0_3 x4_3).f1)) := (blk_cell BK129.out 1).trans rfl
                    have hcz65_2 : wc.cell? ⟨gb129, 2, none⟩ = some (.int .u8 ((rd_T36 l0_3 x4_3).f2)) := (blk_cell BK129.out 2).trans rfl
                    have hcz65_3 : wc.cell? ⟨gb129, 3, none⟩ = some (.int .u8 ((rd_T36 l0_3 x4_3).f3)) := (blk_cell BK129.out 3).trans rfl
                    have hcz65_4 : wc.cell? ⟨gb129, 4, none⟩ = some (.int .i64 ((rd_T36 l0_3 x4_3).f4)) := (blk_cell BK129.out 4).trans rfl
                    have hfz65_0 := blk_frozen BK129.out 0
                    have hfz65_1 := blk_frozen BK129.out 1
                    have hfz65_2 := blk_frozen BK129.out 2
                    have hfz65_3 := blk_frozen BK129.out 3
                    have hfz65_4 := blk_frozen BK129.out 4
                    go_wp2_with (first | ((with_reducible refine gate_callee (f := 49) rfl ?_); refine goesL_ (some 65) rfl rfl Tryd.func49 (by kernel_rfl) rfl #[.agg #[.int .u8 ((rd_T36 l0_3 x4_3).f0), .int .u8 ((rd_T36 l0_3 x4_3).f1), .int .u8 ((rd_T36 l0_3 x4_3).f2), .int .u8 ((rd_T36 l0_3 x4_3).f3), .int .i64 ((rd_T36 l0_3 x4_3).f4)]] rfl hB3 ?_; (with_reducible refine (lockstitchref04_Right.calls kj20 ((rd_T36 l0_3 x4_3).f0) ((rd_T36 l0_3 x4_3).f1) ((rd_T36 l0_3 x4_3).f2) ((rd_T36 l0_3 x4_3).f3) ((rd_T36 l0_3 x4_3).f4) false _ A31.out (TB_below HTB.out hB144)).mono ?_); rintro e w66 ⟨rfl, hb⟩; refine ⟨_, rfl, ?_⟩; have n0_ := Aside0.mk (blk_below (g := gb125) (o := .cells #[.slice A0_0 l0_0.length c0_0, .string a0_1, .string a0_2, .slice (some ad128) l0_3.length c0_3] 25 (0, 0)) hB90 hb); have n1_ := Aside0.mk (blk_below (g := gb129) (o := .cells #[.int .u8 ((rd_T36 l0_3 x4_3).f0), .int .u8 ((rd_T36 l0_3 x4_3).f1), .int .u8 ((rd_T36 l0_3 x4_3).f2), .int .u8 ((rd_T36 l0_3 x4_3).f3), .int .i64 ((rd_T36 l0_3 x4_3).f4)] 36 (0, 0)) hB91 hb); have n2_ := Aside0.mk (below_step hB144 hb); clear BK125; clear BK129; clear HB; have BK125 := n0_; have BK129 := n1_; have HB := n2_; clear n0_ n1_ n2_; (try clear hb); (try clear hb2); (try clear hk); (try clear hi)))
                    go_ret2
                    exact ⟨by first | rfl | (simp [errW_none, errW_some] <;> rfl) | (simp [*, errW_none, errW_some] <;> rfl), hB144⟩
                  subst c32
                  have H1 : (if x6_20 = true then (if ((rd_T36 l0_3 x4_3).f4) < 0 then (lockstitchref05_Check.j4 kj20 x4_3 true l0_0 a0_1 a0_2 l0_3 ((rd_T36 l0_3 x4_3).f0) ((rd_T36 l0_3 x4_3).f1) ((rd_T36 l0_3 x4_3).f2) ((rd_T36 l0_3 x4_3).f3) ((rd_T36 l0_3 x4_3).f4)) else (lockstitchref05_Check.j4 kj20 x4_3 (decide (((rd_T36 l0_3 x4_3).f4) > (l0_3.length : Int))) l0_0 a0_1 a0_2 l0_3 ((rd_T36 l0_3 x4_3).f0) ((rd_T36 l0_3 x4_3).f1) ((rd_T36 l0_3 x4_3).f2) ((rd_T36 l0_3 x4_3).f3) ((rd_T36 l0_3 x4_3).f4))) else (lockstitchref05_Check.j4 kj20 x4_3 false l0_0 a0_1 a0_2 l0_3 ((rd_T36 l0_3 x4_3).f0) ((rd_T36 l0_3 x4_3).f1) ((rd_T36 l0_3 x4_3).f2) ((rd_T36 l0_3 x4_3).f3) ((rd_T36 l0_3 x4_3).f4))) = some (r1, r2) := by rw [if_pos rfl] at H; exact H
                  clear H
                  have H := H1
                  clear H1
                  have HC33 := Aside0.mk H
                  clear H
                  have hnb34 := NB129_125.out
                  have hnc34 := NB125_129.out
                  have hcz35_0 : wc.cell? ⟨gb129, 0, none⟩ = some (.int .u8 ((rd_T36 l0_3 x4_3).f0)) := (blk_cell BK129.out 0).trans rfl
                  have hcz35_1 : wc.cell? ⟨gb129, 1, none⟩ = some (.int .u8 ((rd_T36 l0_3 x4_3).f1)) := (blk_cell BK129.out 1).trans rfl
                  have hcz35_2 : wc.cell? ⟨gb129, 2, none⟩ = some (.int .u8 ((rd_T36 l0_3 x4_3).f2)) := (blk_cell BK129.out 2).trans rfl
                  have hcz35_3 : wc.cell? ⟨gb129, 3, none⟩ = some (.int .u8 ((rd_T36 l0_3 x4_3).f3)) := (blk_cell BK129.out 3).trans rfl
                  have hcz35_4 : wc.cell? ⟨gb129, 4, none⟩ = some (.int .i64 ((rd_T36 l0_3 x4_3).f4)) := (blk_cell BK129.out 4).trans rfl
                  have hfz35_0 := blk_frozen BK129.out 0
                  have hfz35_1 := blk_frozen BK129.out 1
                  have hfz35_2 := blk_frozen BK129.out 2
                  have hfz35_3 := blk_frozen BK129.out 3
                  have hfz35_4 := blk_frozen BK129.out 4
                  go_upto_region 12 with (first | ((with_reducible refine gate_callee (f := 49) rfl ?_); refine goesL_ (some 65) rfl rfl Tryd.func49 (by kernel_rfl) rfl #[.agg #[.int .u8 ((rd_T36 l0_3 x4_3).f0), .int .u8 ((rd_T36 l0_3 x4_3).f1), .int .u8 ((rd_T36 l0_3 x4_3).f2), .int .u8 ((rd_T36 l0_3 x4_3).f3), .int .i64 ((rd_T36 l0_3 x4_3).f4)]] rfl hB3 ?_; (with_reducible refine (lockstitchref04_Right.calls kj20 ((rd_T36 l0_3 x4_3).f0) ((rd_T36 l0_3 x4_3).f1) ((rd_T36 l0_3 x4_3).f2) ((rd_T36 l0_3 x4_3).f3) ((rd_T36 l0_3 x4_3).f4) true _ A31.out (TB_below HTB.out hB144)).mono ?_); rintro e w36 ⟨rfl, hb⟩; refine ⟨_, rfl, ?_⟩; have n0_ := Aside0.mk (blk_below (g := gb125) (o := .cells #[.slice A0_0 l0_0.length c0_0, .string a0_1, .string a0_2, .slice (some ad128) l0_3.length c0_3] 25 (0, 0)) hB90 hb); have n1_ := Aside0.mk (blk_below (g := gb129) (o := .cells #[.int .u8 ((rd_T36 l0_3 x4_3).f0), .int .u8 ((rd_T36 l0_3 x4_3).f1), .int .u8 ((rd_T36 l0_3 x4_3).f2), .int .u8 ((rd_T36 l0_3 x4_3).f3), .int .i64 ((rd_T36 l0_3 x4_3).f4)] 36 (0, 0)) hB91 hb); have n2_ := Aside0.mk (below_step hB144 hb); clear BK125; clear BK129; clear HB; have BK125 := n0_; have BK129 := n1_; have HB := n2_; clear n0_ n1_ n2_; (try clear hb); (try clear hb2); (try clear hk); (try clear hi)))
                  (try simp only [Act.put, List.setIfInBounds_toArray, List.set_cons_zero, List.set_cons_succ])
                  go_cut [68] (fun v68 wc => ∃ (kq : Nat) (x68_32 : Bool), v68 = .bool x68_32 ∧ Aside0 (lockstitchref05_Check.j4 kq x4_3 x68_32 l0_0 a0_1 a0_2 l0_3 ((rd_T36 l0_3 x4_3).f0) ((rd_T36 l0_3 x4_3).f1) ((rd_T36 l0_3 x4_3).f2) ((rd_T36 l0_3 x4_3).f3) ((rd_T36 l0_3 x4_3).f4) = some (r1, r2)) ∧ Aside0 (kq ≤ kj20) ∧ Aside0 (wc.heap[gb125]? = some (.cells #[(.slice A0_0 l0_0.length c0_0), .string a0_1, .string a0_2, (.slice (some ad128) l0_3.length c0_3)] 25 (0, 0))) ∧ Aside0 (wc.heap[gb129]? = some (.cells #[.int .u8 ((rd_T36 l0_3 x4_3).f0), .int .u8 ((rd_T36 l0_3 x4_3).f1), .int .u8 ((rd_T36 l0_3 x4_3).f2), .int .u8 ((rd_T36 l0_3 x4_3).f3), .int .i64 ((rd_T36 l0_3 x4_3).f4)] 36 (0, 0))) ∧ Aside0 (Below w.heap.size w wc))
                  case first =>
                    have H := HC33.out
                    clear HC33
                    by_cases c37 : x6_20 = true
                    rotate_left
                    · replace c37 := Bool.eq_false_iff.mpr c37
                      subst c37
                      have H1 : (lockstitchref05_Check.j4 kj20 x4_3 false l0_0 a0_1 a0_2 l0_3 ((rd_T36 l0_3 x4_3).f0) ((rd_T36 l0_3 x4_3).f1) ((rd_T36 l0_3 x4_3).f2) ((rd_T36 l0_3 x4_3).f3) ((rd_T36 l0_3 x4_3).f4)) = some (r1, r2) := by rw [if_neg (show ¬ (false = true) by decide)] at H; exact H
                      clear H
                      have H := H1
                      clear H1
                      have H' := Aside0.mk H
                      clear H
                      go_wp2
                      go_meet
                      case rel => exact ⟨_, (false), hB115, H', ⟨hB118⟩, ⟨hB90⟩, ⟨hB91⟩, ⟨hB144⟩⟩
                    subst c37
                    have H1 : (if ((rd_T36 l0_3 x4_3).f4) < 0 then (lockstitchref05_Check.j4 kj20 x4_3 true l0_0 a0_1 a0_2 l0_3 ((rd_T36 l0_3 x4_3).f0) ((rd_T36 l0_3 x4_3).f1) ((rd_T36 l0_3 x4_3).f2) ((rd_T36 l0_3 x4_3).f3) ((rd_T36 l0_3 x4_3).f4)) else (lockstitchref05_Check.j4 kj20 x4_3 (decide (((rd_T36 l0_3 x4_3).f4) > (l0_3.length : Int))) l0_0 a0_1 a0_2 l0_3 ((rd_T36 l0_3 x4_3).f0) ((rd_T36 l0_3 x4_3).f1) ((rd_T36 l0_3 x4_3).f2) ((rd_T36 l0_3 x4_3).f3) ((rd_T36 l0_3 x4_3).f4))) = some (r1, r2) := by rw [if_pos rfl] at H; exact H
                    clear H
                    have H := H1
                    clear H1
                    by_cases c38 : ((rd_T36 l0_3 x4_3).f4) < 0
                    · rw [if_pos c38] at H
                      have c38b0 : decide (((rd_T36 l0_3 x4_3).f4) < 0) = true := decide_eq_true c38
                      clear c38
                      (first | rw [c38b0] | (simp only [i64_w, i32_w]; rw [c38b0]) | skip)
                      have H' := Aside0.mk H
                      clear H
                      have hnb39 := NB129_125.out
                      have hnc39 := NB125_129.out
                      have hcz40_0 : w36.cell? ⟨gb129, 0, none⟩ = some (.int .u8 ((rd_T36 l0_3 x4_3).f0)) := (blk_cell BK129.out 0).trans rfl
                      have hcz40_1 : w36.cell? ⟨gb129, 1, none⟩ = some (.int .u8 ((rd_T36 l0_3 x4_3).f1)) := (blk_cell BK129.out 1).trans rfl
                      have hcz40_2 : w36.cell? ⟨gb129, 2, none⟩ = some (.int .u8 ((rd_T36 l0_3 x4_3).f2)) := (blk_cell BK129.out 2).trans rfl
                      have hcz40_3 : w36.cell? ⟨gb129, 3, none⟩ = some (.int .u8 ((rd_T36 l0_3 x4_3).f3)) := (blk_cell BK129.out 3).trans rfl
                      have hcz40_4 : w36.cell? ⟨gb129, 4, none⟩ = some (.int .i64 ((rd_T36 l0_3 x4_3).f4)) := (blk_cell BK129.out 4).trans rfl
                      have hfz40_0 := blk_frozen BK129.out 0
                      have hfz40_1 := blk_frozen BK129.out 1
                      have hfz40_2 := blk_frozen BK129.out 2
                      have hfz40_3 := blk_frozen BK129.out 3
                      have hfz40_4 := blk_frozen BK129.out 4
                      go_wp2
                      go_meet
                      case rel => exact ⟨_, (true), hB115, H', ⟨hB118⟩, ⟨hB90⟩, ⟨hB91⟩, ⟨hB144⟩⟩
                    rw [if_neg c38] at H
                    have c38b0 : decide (((rd_T36 l0_3 x4_3).f4) < 0) = false := decide_eq_false c38
                    clear c38
                    (first | rw [c38b0] | (simp only [i64_w, i32_w]; rw [c38b0]) | skip)
                    have H' := Aside0.mk H
                    clear H
                    have hnb41 := NB129_125.out
                    have hnc41 := NB125_129.out
                    have hcz42_0 : w36.cell? ⟨gb129, 0, none⟩ = some (.int .u8 ((rd_T36 l0_3 x4_3).f0)) := (blk_cell BK129.out 0).trans rfl
                    have hcz42_1 : w36.cell? ⟨gb129, 1, none⟩ = some (.int .u8 ((rd_T36 l0_3 x4_3).f1)) := (blk_cell BK129.out 1).trans rfl
                    have hcz42_2 : w36.cell? ⟨gb129, 2, none⟩ = some (.int .u8 ((rd_T36 l0_3 x4_3).f2)) := (blk_cell BK129.out 2).trans rfl
                    have hcz42_3 : w36.cell? ⟨gb129, 3, none⟩ = some (.int .u8 ((rd_T36 l0_3 x4_3).f3)) := (blk_cell BK129.out 3).trans rfl
                    have hcz42_4 : w36.cell? ⟨gb129, 4, none⟩ = some (.int .i64 ((rd_T36 l0_3 x4_3).f4)) := (blk_cell BK129.out 4).trans rfl
                    have hfz42_0 := blk_frozen BK129.out 0
                    have hfz42_1 := blk_frozen BK129.out 1
                    have hfz42_2 := blk_frozen BK129.out 2
                    have hfz42_3 := blk_frozen BK129.out 3
                    have hfz42_4 := blk_frozen BK129.out 4
                    have hcz43_0 : w36.cell? ⟨gb125, 0, none⟩ = some (.slice A0_0 l0_0.length c0_0) := (blk_cell BK125.out 0).trans rfl
                    have hcz43_1 : w36.cell? ⟨gb125, 1, none⟩ = some (.string a0_1) := (blk_cell BK125.out 1).trans rfl
                    have hcz43_2 : w36.cell? ⟨gb125, 2, none⟩ = some (.string a0_2) := (blk_cell BK125.out 2).trans rfl
                    have hcz43_3 : w36.cell? ⟨gb125, 3, none⟩ = some (.slice (some ad128) l0_3.length c0_3) := (blk_cell BK125.out 3).trans rfl
                    have hfz43_0 := blk_frozen BK125.out 0
                    have hfz43_1 := blk_frozen BK125.out 1
                    have hfz43_2 := blk_frozen BK125.out 2
                    have hfz43_3 := blk_frozen BK125.out 3
                    go_wp2
                    go_meet
                    case rel => exact ⟨_, (decide (((rd_T36 l0_3 x4_3).f4) > (l0_3.length : Int))), hB115, H', ⟨hB118⟩, ⟨hB90⟩, ⟨hB91⟩, ⟨hB144⟩⟩
                  case rest =>
                    clear HC33
                    try clear c1
                    try clear p1
                    try clear q1
                    try clear hx1
                    try clear c2
                    try clear p2
                    try clear c3
                    try clear c4
                    try clear c5
                    try clear c7
                    try clear c8
                    try clear c8b0
                    try clear c8b1
                    try clear p12
                    try clear q12
                    try clear hx12
                    try clear c13
                    try clear c15
                    try clear c15b0
                    try clear c15b1
                    try clear c18
                    try clear c19
                    try clear c19b0
                    try clear c20
                    try clear c20b0
                    try clear c24
                    try clear c26
                    try clear c26b0
                    try clear c26b1
                    try clear c27
                    try clear c29
                    try clear c32
                    try clear c34
                    try clear c37
                    try clear c38
                    try clear c38b0
                    try clear c39
                    try clear c41
                    try clear hcz10_0
                    try clear hcz10_1
                    try clear hcz10_2
                    try clear hcz10_3
                    try clear hcz11_0
                    try clear hcz11_1
                    try clear hcz11_2
                    try clear hcz11_3
                    try clear hcz12_0
                    try clear hcz12_1
                    try clear hcz12_2
                    try clear hcz12_3
                    try clear hcz16_0
                    try clear hcz16_1
                    try clear hcz16_2
                    try clear hcz16_3
                    try clear hcz17_0
                    try clear hcz17_1
                    try clear hcz17_2
                    try clear hcz17_3
                    try clear hcz22_0
                    try clear hcz22_1
                    try clear hcz22_2
                    try clear hcz22_3
                    try clear hcz25_0
                    try clear hcz25_1
                    try clear hcz25_2
                    try clear hcz25_3
                    try clear hcz25_4
                    try clear hcz28_0
                    try clear hcz28_1
                    try clear hcz28_2
                    try clear hcz28_3
                    try clear hcz28_4
                    try clear hcz30_0
                    try clear hcz30_1
                    try clear hcz30_2
                    try clear hcz30_3
                    try clear hcz30_4
                    try clear hcz35_0
                    try clear hcz35_1
                    try clear hcz35_2
                    try clear hcz35_3
                    try clear hcz35_4
                    try clear hcz40_0
                    try clear hcz40_1
                    try clear hcz40_2
                    try clear hcz40_3
                    try clear hcz40_4
                    try clear hcz42_0
                    try clear hcz42_1
                    try clear hcz42_2
                    try clear hcz42_3
                    try clear hcz42_4
                    try clear hcz43_0
                    try clear hcz43_1
                    try clear hcz43_2
                    try clear hcz43_3
                    try clear hcz9_0
                    try clear hcz9_1
                    try clear hcz9_2
                    try clear hcz9_3
                    try clear hfz10_0
                    try clear hfz10_1
                    try clear hfz10_2
                    try clear hfz10_3
                    try clear hfz11_0
                    try clear hfz11_1
                    try clear hfz11_2
                    try clear hfz11_3
                    try clear hfz12_0
                    try clear hfz12_1
                    try clear hfz12_2
                    try clear hfz12_3
                    try clear hfz16_0
                    try clear hfz16_1
                    try clear hfz16_2
                    try clear hfz16_3
                    try clear hfz17_0
                    try clear hfz17_1
                    try clear hfz17_2
                    try clear hfz17_3
                    try clear hfz22_0
                    try clear hfz22_1
                    try clear hfz22_2
                    try clear hfz22_3
                    try clear hfz25_0
                    try clear hfz25_1
                    try clear hfz25_2
                    try clear hfz25_3
                    try clear hfz25_4
                    try clear hfz28_0
                    try clear hfz28_1
                    try clear hfz28_2
                    try clear hfz28_3
                    try clear hfz28_4
                    try clear hfz30_0
                    try clear hfz30_1
                    try clear hfz30_2
                    try clear hfz30_3
                    try clear hfz30_4
                    try clear hfz35_0
                    try clear hfz35_1
                    try clear hfz35_2
                    try clear hfz35_3
                    try clear hfz35_4
                    try clear hfz40_0
                    try clear hfz40_1
                    try clear hfz40_2
                    try clear hfz40_3
                    try clear hfz40_4
                    try clear hfz42_0
                    try clear hfz42_1
                    try clear hfz42_2
                    try clear hfz42_3
                    try clear hfz42_4
                    try clear hfz43_0
                    try clear hfz43_1
                    try clear hfz43_2
                    try clear hfz43_3
                    try clear hfz9_0
                    try clear hfz9_1
                    try clear hfz9_2
                    try clear hfz9_3
                    try clear hx128_0
                    try clear hx128_1
                    try clear hx128_2
                    try clear hx128_3
                    try clear hx128_4
                    try clear p1
                    try clear p12
                    try clear p128
                    try clear p2
                    try clear q1
                    try clear q12
                    try clear q128
                    obtain ⟨kq, x68_32, rfl, HA, HJ32, BK125, BK129, HB⟩ := hcut
                    cases kq with
                    | zero => exact absurd HA.out (by simp [lockstitchref05_Check.j4])
                    | succ kj32 =>
                      have H := HA.out
                      clear HA
                      simp only [lockstitchref05_Check.j4] at H
                      by_cases c44 : x68_32 = true
                      · subst c44
                        have H1 : (some (x4_3, 12)) = some (r1, r2) := by rw [if_pos rfl] at H; exact H
                        clear H
                        have H := H1
                        clear H1
                        simp only [Option.some.injEq, Prod.mk.injEq] at H
                        obtain ⟨rfl, rfl⟩ := H
                        go_wp2
                        go_ret2
                        exact ⟨by first | rfl | (simp [errW_none, errW_some] <;> rfl) | (simp [*, errW_none, errW_some] <;> rfl), hB144⟩
                      replace c44 := Bool.eq_false_iff.mpr c44
                      subst c44
                      have H1 : ((lockstitchref05_ints.f kj32 ((rd_T36 l0_3 x4_3).f0) ((rd_T36 l0_3 x4_3).f1) ((rd_T36 l0_3 x4_3).f2) ((rd_T36 l0_3 x4_3).f3) ((rd_T36 l0_3 x4_3).f4)).bind fun t131 => (if t131 = true then ((lockstitchref05_kinds.f kj32 l0_0 a0_1 a0_2 l0_3 ((rd_T36 l0_3 x4_3).f0) ((rd_T36 l0_3 x4_3).f1) ((rd_T36 l0_3 x4_3).f2) ((rd_T36 l0_3 x4_3).f3) ((rd_T36 l0_3 x4_3).f4)).bind fun t132 => (if t132 = true then (lockstitchref05_Check.l0 kj32 (wrap64 (x4_3 + 1)) l0_0 a0_1 a0_2 l0_3) else (some (x4_3, 5)))) else (some (x4_3, 5)))) = some (r1, r2) := by rw [if_neg (show ¬ (false = true) by decide)] at H; exact H
                      clear H
                      have H := H1
                      clear H1
                      replace H := Option.bind_eq_some_iff.mp H
                      obtain ⟨t131, A450, H⟩ := H
                      replace H : (if t131 = true then ((lockstitchref05_kinds.f kj32 l0_0 a0_1 a0_2 l0_3 ((rd_T36 l0_3 x4_3).f0) ((rd_T36 l0_3 x4_3).f1) ((rd_T36 l0_3 x4_3).f2) ((rd_T36 l0_3 x4_3).f3) ((rd_T36 l0_3 x4_3).f4)).bind fun t132 => (if t132 = true then (lockstitchref05_Check.l0 kj32 (wrap64 (x4_3 + 1)) l0_0 a0_1 a0_2 l0_3) else (some (x4_3, 5)))) else (some (x4_3, 5))) = some (r1, r2) := H
                      have A45 := Aside0.mk A450
                      clear A450
                      by_cases c46 : t131 = true
                      rotate_left
                      · replace c46 := Bool.eq_false_iff.mpr c46
                        subst c46
                        have H1 : (some (x4_3, 5)) = some (r1, r2) := by rw [if_neg (show ¬ (false = true) by decide)] at H; exact H
                        clear H
                        have H := H1
                        clear H1
                        simp only [Option.some.injEq, Prod.mk.injEq] at H
                        obtain ⟨rfl, rfl⟩ := H
                        have hnb61 := NB129_125.out
                        have hnc61 := NB125_129.out
                        have hcz62_0 : wc.cell? ⟨gb129, 0, none⟩ = some (.int .u8 ((rd_T36 l0_3 x4_3).f0)) := (blk_cell BK129.out 0).trans rfl
                        have hcz62_1 : wc.cell? ⟨gb129, 1, none⟩ = some (.int .u8 ((rd_T36 l0_3 x4_3).f1)) := (blk_cell BK129.out 1).trans rfl
                        have hcz62_2 : wc.cell? ⟨gb129, 2, none⟩ = some (.int .u8 ((rd_T36 l0_3 x4_3).f2)) := (blk_cell BK129.out 2).trans rfl
                        have hcz62_3 : wc.cell? ⟨gb129, 3, none⟩ = some (.int .u8 ((rd_T36 l0_3 x4_3).f3)) := (blk_cell BK129.out 3).trans rfl
                        have hcz62_4 : wc.cell? ⟨gb129, 4, none⟩ = some (.int .i64 ((rd_T36 l0_3 x4_3).f4)) := (blk_cell BK129.out 4).trans rfl
                        have hfz62_0 := blk_frozen BK129.out 0
                        have hfz62_1 := blk_frozen BK129.out 1
                        have hfz62_2 := blk_frozen BK129.out 2
                        have hfz62_3 := blk_frozen BK129.out 3
                        have hfz62_4 := blk_frozen BK129.out 4
                        go_wp2_with (first | ((with_reducible refine gate_callee (f := 50) rfl ?_); refine goesL_ (some 86) rfl rfl Tryd.func50 (by kernel_rfl) rfl #[.agg #[.int .u8 ((rd_T36 l0_3 x4_3).f0), .int .u8 ((rd_T36 l0_3 x4_3).f1), .int .u8 ((rd_T36 l0_3 x4_3).f2), .int .u8 ((rd_T36 l0_3 x4_3).f3), .int .i64 ((rd_T36 l0_3 x4_3).f4)]] rfl hB3 ?_; (with_reducible refine (lockstitchref05_ints.calls kj32 ((rd_T36 l0_3 x4_3).f0) ((rd_T36 l0_3 x4_3).f1) ((rd_T36 l0_3 x4_3).f2) ((rd_T36 l0_3 x4_3).f3) ((rd_T36 l0_3 x4_3).f4) false _ A45.out).mono ?_); rintro e w63 ⟨rfl, hb⟩; refine ⟨_, rfl, ?_⟩; have n0_ := Aside0.mk (blk_below (g := gb125) (o := .cells #[.slice A0_0 l0_0.length c0_0, .string a0_1, .string a0_2, .slice (some ad128) l0_3.length c0_3] 25 (0, 0)) hB90 hb); have n1_ := Aside0.mk (blk_below (g := gb129) (o := .cells #[.int .u8 ((rd_T36 l0_3 x4_3).f0), .int .u8 ((rd_T36 l0_3 x4_3).f1), .int .u8 ((rd_T36 l0_3 x4_3).f2), .int .u8 ((rd_T36 l0_3 x4_3).f3), .int .i64 ((rd_T36 l0_3 x4_3).f4)] 36 (0, 0)) hB91 hb); have n2_ := Aside0.mk (below_step hB144 hb); clear BK125; clear BK129; clear HB; have BK125 := n0_; have BK129 := n1_; have HB := n2_; clear n0_ n1_ n2_; (try clear hb); (try clear hb2); (try clear hk); (try clear hi)))
                        go_ret2
                        exact ⟨by first | rfl | (simp [errW_none, errW_some] <;> rfl) | (simp [*, errW_none, errW_some] <;> rfl), hB144⟩
                      subst c46
                      have H1 : ((lockstitchref05_kinds.f kj32 l0_0 a0_1 a0_2 l0_3 ((rd_T36 l0_3 x4_3).f0) ((rd_T36 l0_3 x4_3).f1) ((rd_T36 l0_3 x4_3).f2) ((rd_T36 l0_3 x4_3).f3) ((rd_T36 l0_3 x4_3).f4)).bind fun t132 => (if t132 = true then (lockstitchref05_Check.l0 kj32 (wrap64 (x4_3 + 1)) l0_0 a0_1 a0_2 l0_3) else (some (x4_3, 5)))) = some (r1, r2) := by rw [if_pos rfl] at H; exact H
                      clear H
                      have H := H1
                      clear H1
                      replace H := Option.bind_eq_some_iff.mp H
                      obtain ⟨t132, A470, H⟩ := H
                      replace H : (if t132 = true then (lockstitchref05_Check.l0 kj32 (wrap64 (x4_3 + 1)) l0_0 a0_1 a0_2 l0_3) else (some (x4_3, 5))) = some (r1, r2) := H
                      have A47 := Aside0.mk A470
                      clear A470
                      by_cases c48 : t132 = true
                      rotate_left
                      · replace c48 := Bool.eq_false_iff.mpr c48
                        subst c48
                        have H1 : (some (x4_3, 5)) = some (r1, r2) := by rw [if_neg (show ¬ (false = true) by decide)] at H; exact H
                        clear H
                        have H := H1
                        clear H1
                        simp only [Option.some.injEq, Prod.mk.injEq] at H
                        obtain ⟨rfl, rfl⟩ := H
                        have hnb55 := NB129_125.out
                        have hnc55 := NB125_129.out
                        have hcz56_0 : wc.cell? ⟨gb129, 0, none⟩ = some (.int .u8 ((rd_T36 l0_3 x4_3).f0)) := (blk_cell BK129.out 0).trans rfl
                        have hcz56_1 : wc.cell? ⟨gb129, 1, none⟩ = some (.int .u8 ((rd_T36 l0_3 x4_3).f1)) := (blk_cell BK129.out 1).trans rfl
                        have hcz56_2 : wc.cell? ⟨gb129, 2, none⟩ = some (.int .u8 ((rd_T36 l0_3 x4_3).f2)) := (blk_cell BK129.out 2).trans rfl
                        have hcz56_3 : wc.cell? ⟨gb129, 3, none⟩ = some (.int .u8 ((rd_T36 l0_3 x4_3).f3)) := (blk_cell BK129.out 3).trans rfl
                        have hcz56_4 : wc.cell? ⟨gb129, 4, none⟩ = some (.int .i64 ((rd_T36 l0_3 x4_3).f4)) := (blk_cell BK129.out 4).trans rfl
                        have hfz56_0 := blk_frozen BK129.out 0
                        have hfz56_1 := blk_frozen BK129.out 1
                        have hfz56_2 := blk_frozen BK129.out 2
                        have hfz56_3 := blk_frozen BK129.out 3
                        have hfz56_4 := blk_frozen BK129.out 4
                        go_wp2_with (first | ((with_reducible refine gate_callee (f := 50) rfl ?_); refine goesL_ (some 86) rfl rfl Tryd.func50 (by kernel_rfl) rfl #[.agg #[.int .u8 ((rd_T36 l0_3 x4_3).f0), .int .u8 ((rd_T36 l0_3 x4_3).f1), .int .u8 ((rd_T36 l0_3 x4_3).f2), .int .u8 ((rd_T36 l0_3 x4_3).f3), .int .i64 ((rd_T36 l0_3 x4_3).f4)]] rfl hB3 ?_; (with_reducible refine (lockstitchref05_ints.calls kj32 ((rd_T36 l0_3 x4_3).f0) ((rd_T36 l0_3 x4_3).f1) ((rd_T36 l0_3 x4_3).f2) ((rd_T36 l0_3 x4_3).f3) ((rd_T36 l0_3 x4_3).f4) true _ A45.out).mono ?_); rintro e w57 ⟨rfl, hb⟩; refine ⟨_, rfl, ?_⟩; have n0_ := Aside0.mk (blk_below (g := gb125) (o := .cells #[.slice A0_0 l0_0.length c0_0, .string a0_1, .string a0_2, .slice (some ad128) l0_3.length c0_3] 25 (0, 0)) hB90 hb); have n1_ := Aside0.mk (blk_below (g := gb129) (o := .cells #[.int .u8 ((rd_T36 l0_3 x4_3).f0), .int .u8 ((rd_T36 l0_3 x4_3).f1), .int .u8 ((rd_T36 l0_3 x4_3).f2), .int .u8 ((rd_T36 l0_3 x4_3).f3), .int .i64 ((rd_T36 l0_3 x4_3).f4)] 36 (0, 0)) hB91 hb); have n2_ := Aside0.mk (below_step hB144 hb); clear BK125; clear BK129; clear HB; have BK125 := n0_; have BK129 := n1_; have HB := n2_; clear n0_ n1_ n2_; (try clear hb); (try clear hb2); (try clear hk); (try clear hi); have hcz58_0 : w57.cell? ⟨gb125, 0, none⟩ = some (.slice A0_0 l0_0.length c0_0) := (blk_cell BK125.out 0).trans rfl; have hcz58_1 : w57.cell? ⟨gb125, 1, none⟩ = some (.string a0_1) := (blk_cell BK125.out 1).trans rfl; have hcz58_2 : w57.cell? ⟨gb125, 2, none⟩ = some (.string a0_2) := (blk_cell BK125.out 2).trans rfl; have hcz58_3 : w57.cell? ⟨gb125, 3, none⟩ = some (.slice (some ad128) l0_3.length c0_3) := (blk_cell BK125.out 3).trans rfl; have hfz58_0 := blk_frozen BK125.out 0; have hfz58_1 := blk_frozen BK125.out 1; have hfz58_2 := blk_frozen BK125.out 2; have hfz58_3 := blk_frozen BK125.out 3; have hcz59_0 : w57.cell? ⟨gb129, 0, none⟩ = some (.int .u8 ((rd_T36 l0_3 x4_3).f0)) := (blk_cell BK129.out 0).trans rfl; have hcz59_1 : w57.cell? ⟨gb129, 1, none⟩ = some (.int .u8 ((rd_T36 l0_3 x4_3).f1)) := (blk_cell BK129.out 1).trans rfl; have hcz59_2 : w57.cell? ⟨gb129, 2, none⟩ = some (.int .u8 ((rd_T36 l0_3 x4_3).f2)) := (blk_cell BK129.out 2).trans rfl; have hcz59_3 : w57.cell? ⟨gb129, 3, none⟩ = some (.int .u8 ((rd_T36 l0_3 x4_3).f3)) := (blk_cell BK129.out 3).trans rfl; have hcz59_4 : w57.cell? ⟨gb129, 4, none⟩ = some (.int .i64 ((rd_T36 l0_3 x4_3).f4)) := (blk_cell BK129.out 4).trans rfl; have hfz59_0 := blk_frozen BK129.out 0; have hfz59_1 := blk_frozen BK129.out 1; have hfz59_2 := blk_frozen BK129.out 2; have hfz59_3 := blk_frozen BK129.out 3; have hfz59_4 := blk_frozen BK129.out 4) | (go_at_call 51; (with_reducible refine (lockstitchref05_kinds.calls kj32 _ _ l0_0 a0_1 a0_2 _ _ l0_3 ((rd_T36 l0_3 x4_3).f0) ((rd_T36 l0_3 x4_3).f1) ((rd_T36 l0_3 x4_3).f2) ((rd_T36 l0_3 x4_3).f3) ((rd_T36 l0_3 x4_3).f4) false _ ?side1 ?side2 ?side3 ?side4 A47.out).mono ?_); (case side1 => repeat (first | exact (Kd.C_below HR0_0.out HB.out) | (with_reducible refine Kd.C_alloc ?_ _) | (with_reducible refine Kd.C_drewN ?_ _) | (with_reducible refine Kd.C_drew ?_))); (case side2 => exact HC0_0.out); (case side3 => repeat (first | exact (Kd.C_below HR0_3.out HB.out) | (with_reducible refine Kd.C_alloc ?_ _) | (with_reducible refine Kd.C_drewN ?_ _) | (with_reducible refine Kd.C_drew ?_))); (case side4 => exact HC0_3.out); rintro e w60 ⟨rfl, hb⟩; have n0_ := Aside0.mk (blk_below (g := gb125) (o := .cells #[.slice A0_0 l0_0.length c0_0, .string a0_1, .string a0_2, .slice (some ad128) l0_3.length c0_3] 25 (0, 0)) hB90 hb); have n1_ := Aside0.mk (blk_below (g := gb129) (o := .cells #[.int .u8 ((rd_T36 l0_3 x4_3).f0), .int .u8 ((rd_T36 l0_3 x4_3).f1), .int .u8 ((rd_T36 l0_3 x4_3).f2), .int .u8 ((rd_T36 l0_3 x4_3).f3), .int .i64 ((rd_T36 l0_3 x4_3).f4)] 36 (0, 0)) hB91 hb); have n2_ := Aside0.mk (below_step hB144 hb); clear BK125; clear BK129; clear HB; have BK125 := n0_; have BK129 := n1_; have HB := n2_; clear n0_ n1_ n2_; (try clear hb); (try clear hb2); (try clear hk); (try clear hi)))
                        go_ret2
                        exact ⟨by first | rfl | (simp [errW_none, errW_some] <;> rfl) | (simp [*, errW_none, errW_some] <;> rfl), hB144⟩
                      subst c48
                      have H1 : (lockstitchref05_Check.l0 kj32 (wrap64 (x4_3 + 1)) l0_0 a0_1 a0_2 l0_3) = some (r1, r2) := by rw [if_pos rfl] at H; exact H
                      clear H
                      have H := H1
                      clear H1
                      have H' := Aside0.mk H
                      clear H
                      have hnb49 := NB129_125.out
                      have hnc49 := NB125_129.out
                      have hcz50_0 : wc.cell? ⟨gb129, 0, none⟩ = some (.int .u8 ((rd_T36 l0_3 x4_3).f0)) := (blk_cell BK129.out 0).trans rfl
                      have hcz50_1 : wc.cell? ⟨gb129, 1, none⟩ = some (.int .u8 ((rd_T36 l0_3 x4_3).f1)) := (blk_cell BK129.out 1).trans rfl
                      have hcz50_2 : wc.cell? ⟨gb129, 2, none⟩ = some (.int .u8 ((rd_T36 l0_3 x4_3).f2)) := (blk_cell BK129.out 2).trans rfl
                      have hcz50_3 : wc.cell? ⟨gb129, 3, none⟩ = some (.int .u8 ((rd_T36 l0_3 x4_3).f3)) := (blk_cell BK129.out 3).trans rfl
                      have hcz50_4 : wc.cell? ⟨gb129, 4, none⟩ = some (.int .i64 ((rd_T36 l0_3 x4_3).f4)) := (blk_cell BK129.out 4).trans rfl
                      have hfz50_0 := blk_frozen BK129.out 0
                      have hfz50_1 := blk_frozen BK129.out 1
                      have hfz50_2 := blk_frozen BK129.out 2
                      have hfz50_3 := blk_frozen BK129.out 3
                      have hfz50_4 := blk_frozen BK129.out 4
                      go_wp2_with (first | ((with_reducible refine gate_callee (f := 50) rfl ?_); refine goesL_ (some 86) rfl rfl Tryd.func50 (by kernel_rfl) rfl #[.agg #[.int .u8 ((rd_T36 l0_3 x4_3).f0), .int .u8 ((rd_T36 l0_3 x4_3).f1), .int .u8 ((rd_T36 l0_3 x4_3).f2), .int .u8 ((rd_T36 l0_3 x4_3).f3), .int .i64 ((rd_T36 l0_3 x4_3).f4)]] rfl hB3 ?_; (with_reducible refine (lockstitchref05_ints.calls kj32 ((rd_T36 l0_3 x4_3).f0) ((rd_T36 l0_3 x4_3).f1) ((rd_T36 l0_3 x4_3).f2) ((rd_T36 l0_3 x4_3).f3) ((rd_T36 l0_3 x4_3).f4) true _ A45.out).mono ?_); rintro e w51 ⟨rfl, hb⟩; refine ⟨_, rfl, ?_⟩; have n0_ := Aside0.mk (blk_below (g := gb125) (o := .cells #[.slice A0_0 l0_0.length c0_0, .string a0_1, .string a0_2, .slice (some ad128) l0_3.length c0_3] 25 (0, 0)) hB90 hb); have n1_ := Aside0.mk (blk_below (g := gb129) (o := .cells #[.int .u8 ((rd_T36 l0_3 x4_3).f0), .int .u8 ((rd_T36 l0_3 x4_3).f1), .int .u8 ((rd_T36 l0_3 x4_3).f2), .int .u8 ((rd_T36 l0_3 x4_3).f3), .int .i64 ((rd_T36 l0_3 x4_3).f4)] 36 (0, 0)) hB91 hb); have n2_ := Aside0.mk (below_step hB144 hb); clear BK125; clear BK129; clear HB; have BK125 := n0_; have BK129 := n1_; have HB := n2_; clear n0_ n1_ n2_; (try clear hb); (try clear hb2); (try clear hk); (try clear hi); have hcz52_0 : w51.cell? ⟨gb125, 0, none⟩ = some (.slice A0_0 l0_0.length c0_0) := (blk_cell BK125.out 0).trans rfl; have hcz52_1 : w51.cell? ⟨gb125, 1, none⟩ = some (.string a0_1) := (blk_cell BK125.out 1).trans rfl; have hcz52_2 : w51.cell? ⟨gb125, 2, none⟩ = some (.string a0_2) := (blk_cell BK125.out 2).trans rfl; have hcz52_3 : w51.cell? ⟨gb125, 3, none⟩ = some (.slice (some ad128) l0_3.length c0_3) := (blk_cell BK125.out 3).trans rfl; have hfz52_0 := blk_frozen BK125.out 0; have hfz52_1 := blk_frozen BK125.out 1; have hfz52_2 := blk_frozen BK125.out 2; have hfz52_3 := blk_frozen BK125.out 3; have hcz53_0 : w51.cell? ⟨gb129, 0, none⟩ = some (.int .u8 ((rd_T36 l0_3 x4_3).f0)) := (blk_cell BK129.out 0).trans rfl; have hcz53_1 : w51.cell? ⟨gb129, 1, none⟩ = some (.int .u8 ((rd_T36 l0_3 x4_3).f1)) := (blk_cell BK129.out 1).trans rfl; have hcz53_2 : w51.cell? ⟨gb129, 2, none⟩ = some (.int .u8 ((rd_T36 l0_3 x4_3).f2)) := (blk_cell BK129.out 2).trans rfl; have hcz53_3 : w51.cell? ⟨gb129, 3, none⟩ = some (.int .u8 ((rd_T36 l0_3 x4_3).f3)) := (blk_cell BK129.out 3).trans rfl; have hcz53_4 : w51.cell? ⟨gb129, 4, none⟩ = some (.int .i64 ((rd_T36 l0_3 x4_3).f4)) := (blk_cell BK129.out 4).trans rfl; have hfz53_0 := blk_frozen BK129.out 0; have hfz53_1 := blk_frozen BK129.out 1; have hfz53_2 := blk_frozen BK129.out 2; have hfz53_3 := blk_frozen BK129.out 3; have hfz53_4 := blk_frozen BK129.out 4) | (go_at_call 51; (with_reducible refine (lockstitchref05_kinds.calls kj32 _ _ l0_0 a0_1 a0_2 _ _ l0_3 ((rd_T36 l0_3 x4_3).f0) ((rd_T36 l0_3 x4_3).f1) ((rd_T36 l0_3 x4_3).f2) ((rd_T36 l0_3 x4_3).f3) ((rd_T36 l0_3 x4_3).f4) true _ ?side1 ?side2 ?side3 ?side4 A47.out).mono ?_); (case side1 => repeat (first | exact (Kd.C_below HR0_0.out HB.out) | (with_reducible refine Kd.C_alloc ?_ _) | (with_reducible refine Kd.C_drewN ?_ _) | (with_reducible refine Kd.C_drew ?_))); (case side2 => exact HC0_0.out); (case side3 => repeat (first | exact (Kd.C_below HR0_3.out HB.out) | (with_reducible refine Kd.C_alloc ?_ _) | (with_reducible refine Kd.C_drewN ?_ _) | (with_reducible refine Kd.C_drew ?_))); (case side4 => exact HC0_3.out); rintro e w54 ⟨rfl, hb⟩; have n0_ := Aside0.mk (blk_below (g := gb125) (o := .cells #[.slice A0_0 l0_0.length c0_0, .string a0_1, .string a0_2, .slice (some ad128) l0_3.length c0_3] 25 (0, 0)) hB90 hb); have n1_ := Aside0.mk (blk_below (g := gb129) (o := .cells #[.int .u8 ((rd_T36 l0_3 x4_3).f0), .int .u8 ((rd_T36 l0_3 x4_3).f1), .int .u8 ((rd_T36 l0_3 x4_3).f2), .int .u8 ((rd_T36 l0_3 x4_3).f3), .int .i64 ((rd_T36 l0_3 x4_3).f4)] 36 (0, 0)) hB91 hb); have n2_ := Aside0.mk (below_step hB144 hb); clear BK125; clear BK129; clear HB; have BK125 := n0_; have BK129 := n1_; have HB := n2_; clear n0_ n1_ n2_; (try clear hb); (try clear hb2); (try clear hk); (try clear hi)))
                      go_roundg kj32
                      case measure => have := HJ1.out; have := HJ13.out; have := HK3.out; have := HJ20.out; have := HJ32.out; omega
                      case rel => exact ⟨(wrap64 (x4_3 + 1)), hB115, H', ⟨by have := HJ1.out; have := HJ13.out; have := HK3.out; have := HJ20.out; have := HJ32.out; omega⟩, ⟨hB90⟩, ⟨hB144⟩⟩
end Go.Proofs.YtkmkfiidlbhcgaaDoor.H

namespace Go.Proofs.YtkmkfiidlbhcgaaDoor.H
open Go.RowKit Go.Proofs.YtkmkfiidlbhcgaaDoorW.PrintWords Go.Proofs.YtkmkfiidlbhcgaaDoorW.PrintLast Go.Proofs.YtkmkfiidlbhcgaaDoorW.PrintMore
attribute [local go_sem] max2_int min2_int max_two min_two max_three min_three max_four min_four
set_option linter.unusedVariables false
set_option linter.unusedSimpArgs false
open Go.Proofs.YtkmkfiidlbhcgaaDoor.F
open Go.Proofs.YtkmkfiidlbhcgaaDoor.FM
noncomputable def lockstitchlaw07_Sound.f (k : Nat) (l0_0 : List ByteArray) (a0_1 : ByteArray) (a0_2 : ByteArray) (l0_3 : List (S36)) : Option (Bool) := (lockstitchlaw04_Few.f k l0_0 a0_1 a0_2 l0_3).bind fun t134 => (if t134 = true then (if (l0_3.length : Int) > 60 then (some false) else ((lockstitchref05_Check.f k l0_0 a0_1 a0_2 l0_3).bind fun bt135 => (some (bt135.2 == 0)))) else (some false))
set_option maxHeartbeats 8000000 in
set_option maxRecDepth 100000 in
theorem lockstitchlaw07_Sound.calls (k : Nat) (A0_0 : Option Addr) (c0_0 : Nat) (l0_0 : List ByteArray) (a0_1 : ByteArray) (a0_2 : ByteArray) (A0_3 : Option Addr) (c0_3 : Nat) (l0_3 : List (S36)) (r : Bool) (w : World) (hr0_0 : Kd.C Kd.string w A0_0 l0_0.length l0_0) (hc0_0 : l0_0.length ≤ c0_0) (hr0_3 : Kd.C k36 w A0_3 l0_3.length l0_3) (hc0_3 : l0_3.length ≤ c0_3) (h : lockstitchlaw07_Sound.f k l0_0 a0_1 a0_2 l0_3 = some r) (htab : TB w) :
    Calls Tryd.prog 19 #[.agg #[.slice A0_0 l0_0.length c0_0, .string a0_1, .string a0_2, .slice A0_3 l0_3.length c0_3]] w fun e w' => e = .returned (.bool r) ∧ Below w.heap.size w w' := by
  have HTB := Aside0.mk htab
  clear htab
  have hu25 := Tryd.underlying25
  have HR0_0 := Aside0.mk hr0_0
  have HC0_0 := Aside0.mk hc0_0
  clear hr0_0 hc0_0
  have HR0_3 := Aside0.mk hr0_3
  have HC0_3 := Aside0.mk hc0_3
  clear hr0_3 hc0_3
  have HB := Aside0.mk (Below.refl w.heap.size w)
  have H : ((lockstitchlaw04_Few.f k l0_0 a0_1 a0_2 l0_3).bind fun t134 => (if t134 = true then (if (l0_3.length : Int) > 60 then (some false) else ((lockstitchref05_Check.f k l0_0 a0_1 a0_2 l0_3).bind fun bt135 => (some (bt135.2 == 0)))) else (some false))) = some r := h
  clear h
  replace H := Option.bind_eq_some_iff.mp H
  obtain ⟨t134, A20, H⟩ := H
  replace H : (if t134 = true then (if (l0_3.length : Int) > 60 then (some false) else ((lockstitchref05_Check.f k l0_0 a0_1 a0_2 l0_3).bind fun bt135 => (some (bt135.2 == 0)))) else (some false)) = some r := H
  have A2 := Aside0.mk A20
  clear A20
  by_cases c3 : t134 = true
  rotate_left
  · replace c3 := Bool.eq_false_iff.mpr c3
    subst c3
    have H1 : (some false) = some r := by rw [if_neg (show ¬ (false = true) by decide)] at H; exact H
    clear H
    have H := H1
    clear H1
    obtain rfl := Option.some.inj H
    go_enter Tryd.func19, Tryd.ntmps19
    go_wp2_with (first | ((with_reducible refine gate_dst (N := 1) rfl ?_); (try (refine gate_guard (by rfl) ?_; dsimp only)); refine box_event ?hg (N := 1) ?hd (cs := #[.slice A0_0 l0_0.length c0_0, .string a0_1, .string a0_2, .slice A0_3 l0_3.length c0_3]) (t := 25) ?hr ?_; (case hd => rfl); (case hg => rfl); (case hr => first | (go_simp; done) | (go_simp; rfl)); intro gb133 hg w15 hbox hb; have n0_ := Aside0.mk (below_step hB164 hb); have n1_ := Aside0.mk (hbox); have n2_ := Aside0.mk ((by rw [hg]; exact (below_size hB164) : w.heap.size ≤ gb133)); have n3_ := Aside0.mk ((by rw [hg]; exact (below_size hB164) : w.heap.size ≤ gb133)); clear HB; have HB := n0_; have BK133 := n1_; have GW133 := n2_; have GE133 := n3_; clear n0_ n1_ n2_ n3_; clear hb hbox hg; have hcz16_0 : w15.cell? ⟨gb133, 0, none⟩ = some (.slice A0_0 l0_0.length c0_0) := (blk_cell BK133.out 0).trans rfl; have hcz16_1 : w15.cell? ⟨gb133, 1, none⟩ = some (.string a0_1) := (blk_cell BK133.out 1).trans rfl; have hcz16_2 : w15.cell? ⟨gb133, 2, none⟩ = some (.string a0_2) := (blk_cell BK133.out 2).trans rfl; have hcz16_3 : w15.cell? ⟨gb133, 3, none⟩ = some (.slice A0_3 l0_3.length c0_3) := (blk_cell BK133.out 3).trans rfl; have hfz16_0 := blk_frozen BK133.out 0; have hfz16_1 := blk_frozen BK133.out 1; have hfz16_2 := blk_frozen BK133.out 2; have hfz16_3 := blk_frozen BK133.out 3) | ((with_reducible refine gate_callee (f := 42) rfl ?_); refine goesL_ (some 6) rfl rfl Tryd.func42 (by kernel_rfl) rfl #[.agg #[.slice A0_0 l0_0.length c0_0, .string a0_1, .string a0_2, .slice A0_3 l0_3.length c0_3]] rfl hB3 ?_; (with_reducible refine (lockstitchlaw04_Few.calls k _ _ l0_0 a0_1 a0_2 _ _ l0_3 false _ ?side1 ?side2 ?side3 ?side4 A2.out).mono ?_); (case side1 => repeat (first | exact (Kd.C_below HR0_0.out HB.out) | (with_reducible refine Kd.C_alloc ?_ _) | (with_reducible refine Kd.C_drewN ?_ _) | (with_reducible refine Kd.C_drew ?_))); (case side2 => exact HC0_0.out); (case side3 => repeat (first | exact (Kd.C_below HR0_3.out HB.out) | (with_reducible refine Kd.C_alloc ?_ _) | (with_reducible refine Kd.C_drewN ?_ _) | (with_reducible refine Kd.C_drew ?_))); (case side4 => exact HC0_3.out); rintro e w17 ⟨rfl, hb⟩; refine ⟨_, rfl, ?_⟩; have n0_ := Aside0.mk (blk_below (g := gb133) (o := .cells #[.slice A0_0 l0_0.length c0_0, .string a0_1, .string a0_2, .slice A0_3 l0_3.length c0_3] 25 (0, 0)) hB93 hb); have n1_ := Aside0.mk (below_step hB146 hb); clear BK133; clear HB; have BK133 := n0_; have HB := n1_; clear n0_ n1_; (try clear hb); (try clear hb2); (try clear hk); (try clear hi)))
    go_ret
    exact ⟨by first | rfl | (simp [errW_none, errW_some] <;> rfl) | (simp [*, errW_none, errW_some] <;> rfl), hB146⟩
  subst c3
  have H1 : (if (l0_3.length : Int) > 60 then (some false) else ((lockstitchref05_Check.f k l0_0 a0_1 a0_2 l0_3).bind fun bt135 => (some (bt135.2 == 0)))) = some r := by rw [if_pos rfl] at H; exact H
  clear H
  have H := H1
  clear H1
  by_cases c4 : (l0_3.length : Int) > 60
  · rw [if_pos c4] at H
    have c4b0 : decide (60 < (l0_3.length : Int)) = true := decide_eq_true c4
    have c4b1 : decide (60 < l0_3.length) = true := decide_eq_true (by omega)
    clear c4
    obtain rfl := Option.some.inj H
    go_enter Tryd.func19, Tryd.ntmps19
    go_wp2_with (first | ((with_reducible refine gate_dst (N := 1) rfl ?_); (try (refine gate_guard (by rfl) ?_; dsimp only)); refine box_event ?hg (N := 1) ?hd (cs := #[.slice A0_0 l0_0.length c0_0, .string a0_1, .string a0_2, .slice A0_3 l0_3.length c0_3]) (t := 25) ?hr ?_; (case hd => rfl); (case hg => rfl); (case hr => first | (go_simp; done) | (go_simp; rfl)); intro gb133 hg w5 hbox hb; have n0_ := Aside0.mk (below_step hB164 hb); have n1_ := Aside0.mk (hbox); have n2_ := Aside0.mk ((by rw [hg]; exact (below_size hB164) : w.heap.size ≤ gb133)); have n3_ := Aside0.mk ((by rw [hg]; exact (below_size hB164) : w.heap.size ≤ gb133)); clear HB; have HB := n0_; have BK133 := n1_; have GW133 := n2_; have GE133 := n3_; clear n0_ n1_ n2_ n3_; clear hb hbox hg; have hcz6_0 : w5.cell? ⟨gb133, 0, none⟩ = some (.slice A0_0 l0_0.length c0_0) := (blk_cell BK133.out 0).trans rfl; have hcz6_1 : w5.cell? ⟨gb133, 1, none⟩ = some (.string a0_1) := (blk_cell BK133.out 1).trans rfl; have hcz6_2 : w5.cell? ⟨gb133, 2, none⟩ = some (.string a0_2) := (blk_cell BK133.out 2).trans rfl; have hcz6_3 : w5.cell? ⟨gb133, 3, none⟩ = some (.slice A0_3 l0_3.length c0_3) := (blk_cell BK133.out 3).trans rfl; have hfz6_0 := blk_frozen BK133.out 0; have hfz6_1 := blk_frozen BK133.out 1; have hfz6_2 := blk_frozen BK133.out 2; have hfz6_3 := blk_frozen BK133.out 3) | ((with_reducible refine gate_callee (f := 42) rfl ?_); refine goesL_ (some 6) rfl rfl Tryd.func42 (by kernel_rfl) rfl #[.agg #[.slice A0_0 l0_0.length c0_0, .string a0_1, .string a0_2, .slice A0_3 l0_3.length c0_3]] rfl hB3 ?_; (with_reducible refine (lockstitchlaw04_Few.calls k _ _ l0_0 a0_1 a0_2 _ _ l0_3 true _ ?side1 ?side2 ?side3 ?side4 A2.out).mono ?_); (case side1 => repeat (first | exact (Kd.C_below HR0_0.out HB.out) | (with_reducible refine Kd.C_alloc ?_ _) | (with_reducible refine Kd.C_drewN ?_ _) | (with_reducible refine Kd.C_drew ?_))); (case side2 => exact HC0_0.out); (case side3 => repeat (first | exact (Kd.C_below HR0_3.out HB.out) | (with_reducible refine Kd.C_alloc ?_ _) | (with_reducible refine Kd.C_drewN ?_ _) | (with_reducible refine Kd.C_drew ?_))); (case side4 => exact HC0_3.out); rintro e w7 ⟨rfl, hb⟩; refine ⟨_, rfl, ?_⟩; have n0_ := Aside0.mk (blk_below (g := gb133) (o := .cells #[.slice A0_0 l0_0.length c0_0, .string a0_1, .string a0_2, .slice A0_3 l0_3.length c0_3] 25 (0, 0)) hB93 hb); have n1_ := Aside0.mk (below_step hB146 hb); clear BK133; clear HB; have BK133 := n0_; have HB := n1_; clear n0_ n1_; (try clear hb); (try clear hb2); (try clear hk); (try clear hi); have hcz8_0 : w7.cell? ⟨gb133, 0, none⟩ = some (.slice A0_0 l0_0.length c0_0) := (blk_cell BK133.out 0).trans rfl; have hcz8_1 : w7.cell? ⟨gb133, 1, none⟩ = some (.string a0_1) := (blk_cell BK133.out 1).trans rfl; have hcz8_2 : w7.cell? ⟨gb133, 2, none⟩ = some (.string a0_2) := (blk_cell BK133.out 2).trans rfl; have hcz8_3 : w7.cell? ⟨gb133, 3, none⟩ = some (.slice A0_3 l0_3.length c0_3) := (blk_cell BK133.out 3).trans rfl; have hfz8_0 := blk_frozen BK133.out 0; have hfz8_1 := blk_frozen BK133.out 1; have hfz8_2 := blk_frozen BK133.out 2; have hfz8_3 := blk_frozen BK133.out 3))
    go_ret
    exact ⟨by first | rfl | (simp [errW_none, errW_some] <;> rfl) | (simp [*, errW_none, errW_some] <;> rfl), hB146⟩
  rw [if_neg c4] at H
  have c4b0 : decide (60 < (l0_3.length : Int)) = false := decide_eq_false c4
  have c4b1 : decide (60 < l0_3.length) = false := decide_eq_false (by omega)
  clear c4
  replace H := Option.bind_eq_some_iff.mp H
  obtain ⟨⟨t135, t136⟩, A90, H⟩ := H
  replace H : (some (t136 == 0)) = some r := H
  have A9 := Aside0.mk A90
  clear A90
  obtain rfl := Option.some.inj H
  go_enter Tryd.func19, Tryd.ntmps19
  go_wp2_with (first | ((with_reducible refine gate_dst (N := 1) rfl ?_); (try (refine gate_guard (by rfl) ?_; dsimp only)); refine box_event ?hg (N := 1) ?hd (cs := #[.slice A0_0 l0_0.length c0_0, .string a0_1, .string a0_2, .slice A0_3 l0_3.length c0_3]) (t := 25) ?hr ?_; (case hd => rfl); (case hg => rfl); (case hr => first | (go_simp; done) | (go_simp; rfl)); intro gb133 hg w10 hbox hb; have n0_ := Aside0.mk (below_step hB164 hb); have n1_ := Aside0.mk (hbox); have n2_ := Aside0.mk ((by rw [hg]; exact (below_size hB164) : w.heap.size ≤ gb133)); have n3_ := Aside0.mk ((by rw [hg]; exact (below_size hB164) : w.heap.size ≤ gb133)); clear HB; have HB := n0_; have BK133 := n1_; have GW133 := n2_; have GE133 := n3_; clear n0_ n1_ n2_ n3_; clear hb hbox hg; have hcz11_0 : w10.cell? ⟨gb133, 0, none⟩ = some (.slice A0_0 l0_0.length c0_0) := (blk_cell BK133.out 0).trans rfl; have hcz11_1 : w10.cell? ⟨gb133, 1, none⟩ = some (.string a0_1) := (blk_cell BK133.out 1).trans rfl; have hcz11_2 : w10.cell? ⟨gb133, 2, none⟩ = some (.string a0_2) := (blk_cell BK133.out 2).trans rfl; have hcz11_3 : w10.cell? ⟨gb133, 3, none⟩ = some (.slice A0_3 l0_3.length c0_3) := (blk_cell BK133.out 3).trans rfl; have hfz11_0 := blk_frozen BK133.out 0; have hfz11_1 := blk_frozen BK133.out 1; have hfz11_2 := blk_frozen BK133.out 2; have hfz11_3 := blk_frozen BK133.out 3) | ((with_reducible refine gate_callee (f := 42) rfl ?_); refine goesL_ (some 6) rfl rfl Tryd.func42 (by kernel_rfl) rfl #[.agg #[.slice A0_0 l0_0.length c0_0, .string a0_1, .string a0_2, .slice A0_3 l0_3.length c0_3]] rfl hB3 ?_; (with_reducible refine (lockstitchlaw04_Few.calls k _ _ l0_0 a0_1 a0_2 _ _ l0_3 true _ ?side1 ?side2 ?side3 ?side4 A2.out).mono ?_); (case side1 => repeat (first | exact (Kd.C_below HR0_0.out HB.out) | (with_reducible refine Kd.C_alloc ?_ _) | (with_reducible refine Kd.C_drewN ?_ _) | (with_reducible refine Kd.C_drew ?_))); (case side2 => exact HC0_0.out); (case side3 => repeat (first | exact (Kd.C_below HR0_3.out HB.out) | (with_reducible refine Kd.C_alloc ?_ _) | (with_reducible refine Kd.C_drewN ?_ _) | (with_reducible refine Kd.C_drew ?_))); (case side4 => exact HC0_3.out); rintro e w12 ⟨rfl, hb⟩; refine ⟨_, rfl, ?_⟩; have n0_ := Aside0.mk (blk_below (g := gb133) (o := .cells #[.slice A0_0 l0_0.length c0_0, .string a0_1, .string a0_2, .slice A0_3 l0_3.length c0_3] 25 (0, 0)) hB93 hb); have n1_ := Aside0.mk (below_step hB146 hb); clear BK133; clear HB; have BK133 := n0_; have HB := n1_; clear n0_ n1_; (try clear hb); (try clear hb2); (try clear hk); (try clear hi); have hcz13_0 : w12.cell? ⟨gb133, 0, none⟩ = some (.slice A0_0 l0_0.length c0_0) := (blk_cell BK133.out 0).trans rfl; have hcz13_1 : w12.cell? ⟨gb133, 1, none⟩ = some (.string a0_1) := (blk_cell BK133.out 1).trans rfl; have hcz13_2 : w12.cell? ⟨gb133, 2, none⟩ = some (.string a0_2) := (blk_cell BK133.out 2).trans rfl; have hcz13_3 : w12.cell? ⟨gb133, 3, none⟩ = some (.slice A0_3 l0_3.length c0_3) := (blk_cell BK133.out 3).trans rfl; have hfz13_0 := blk_frozen BK133.out 0; have hfz13_1 := blk_frozen BK133.out 1; have hfz13_2 := blk_frozen BK133.out 2; have hfz13_3 := blk_frozen BK133.out 3) | ((with_reducible refine gate_callee (f := 43) rfl ?_); refine goesL_ (some 16) rfl rfl Tryd.func43 (by kernel_rfl) rfl #[.agg #[.slice A0_0 l0_0.length c0_0, .string a0_1, .string a0_2, .slice A0_3 l0_3.length c0_3]] rfl hB3 ?_; (with_reducible refine (lockstitchref05_Check.calls k _ _ l0_0 a0_1 a0_2 _ _ l0_3 t135 t136 _ ?side1 ?side2 ?side3 ?side4 A9.out (TB_below HTB.out hB146)).mono ?_); (case side1 => repeat (first | exact (Kd.C_below HR0_0.out HB.out) | (with_reducible refine Kd.C_alloc ?_ _) | (with_reducible refine Kd.C_drewN ?_ _) | (with_reducible refine Kd.C_drew ?_))); (case side2 => exact HC0_0.out); (case side3 => repeat (first | exact (Kd.C_below HR0_3.out HB.out) | (with_reducible refine Kd.C_alloc ?_ _) | (with_reducible refine Kd.C_drewN ?_ _) | (with_reducible refine Kd.C_drew ?_))); (case side4 => exact HC0_3.out); rintro e w14 ⟨rfl, hb⟩; refine ⟨_, rfl, ?_⟩; have n0_ := Aside0.mk (blk_below (g := gb133) (o := .cells #[.slice A0_0 l0_0.length c0_0, .string a0_1, .string a0_2, .slice A0_3 l0_3.length c0_3] 25 (0, 0)) hB93 hb); have n1_ := Aside0.mk (below_step hB146 hb); clear BK133; clear HB; have BK133 := n0_; have HB := n1_; clear n0_ n1_; (try clear hb); (try clear hb2); (try clear hk); (try clear hi)))
  go_ret
  exact ⟨by first | rfl | (simp [errW_none, errW_some] <;> rfl) | (simp [*, errW_none, errW_some] <;> rfl), hB146⟩
end Go.Proofs.YtkmkfiidlbhcgaaDoor.H

namespace Go.Proofs.YtkmkfiidlbhcgaaDoor.H
open Go.RowKit Go.Proofs.YtkmkfiidlbhcgaaDoorW.PrintWords Go.Proofs.YtkmkfiidlbhcgaaDoorW.PrintLast Go.Proofs.YtkmkfiidlbhcgaaDoorW.PrintMore
attribute [local go_sem] max2_int min2_int max_two min_two max_three min_three max_four min_four
set_option linter.unusedVariables false
set_option linter.unusedSimpArgs false
open Go.Proofs.YtkmkfiidlbhcgaaDoor.F
open Go.Proofs.YtkmkfiidlbhcgaaDoor.FM
end Go.Proofs.YtkmkfiidlbhcgaaDoor.H

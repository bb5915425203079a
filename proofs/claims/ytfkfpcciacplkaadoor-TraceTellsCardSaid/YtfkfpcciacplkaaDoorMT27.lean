/- Texts of this claim, pruned to what it needs and laid together by prune.py. -/
import Derived.Test.YtfkfpcciacplkaaDoorMT24
import Derived.Deep.RegionHeld3
namespace Go.Proofs.YtfkfpcciacplkaaDoor.TRW
open Go.RowKit Go.Proofs.YtfkfpcciacplkaaDoorW.PrintWords Go.Proofs.YtfkfpcciacplkaaDoorW.PrintLast Go.Proofs.YtfkfpcciacplkaaDoorW.PrintMore Go.Proofs.YtfkfpcciacplkaaDoor.Scan Go.Proofs.YtfkfpcciacplkaaDoor.F Go.Proofs.YtfkfpcciacplkaaDoor.T Go.Proofs.YtfkfpcciacplkaaDoor.ST0 Go.Proofs.YtfkfpcciacplkaaDoor.TRB Go.Proofs.YtfkfpcciacplkaaDoor.TRL Go.Proofs.YtfkfpcciacplkaaDoor.TRA Go.Proofs.YtfkfpcciacplkaaDoor.TRP Go.Proofs.YtfkfpcciacplkaaDoor.TRC Go.Proofs.YtfkfpcciacplkaaDoor.CR Go.Proofs.YtfkfpcciacplkaaDoor.TAL Go.Proofs.YtfkfpcciacplkaaDoor.DO1
set_option linter.unusedVariables false
set_option linter.unusedSimpArgs false
set_option maxHeartbeats 8000000 in
set_option maxRecDepth 100000 in
theorem Tells_walk (w : World) (A0 : Option Addr) (c0 : Nat) (L : List Rr) (h0 : Kd.C k27 w A0 L.length L) (hc0 : L.length ≤ c0)
    (A1 : Option Addr) (c1 : Nat) (a : List Int) (h1 : Kd.C (Kd.int .i64) w A1 a.length a) (hc1 : a.length ≤ c1) (A2 : Option Addr) (c2 : Nat) (b : List Int) (h2 : Kd.C (Kd.int .i64) w A2 b.length b) (hc2 : b.length ≤ c2) (hot : OT w) :
    Calls Tryd.prog 3 #[.slice A0 L.length c0, .slice A1 a.length c1, .slice A2 b.length c2] w fun e w' => e = .returned (.bool true) ∧ Below w.heap.size w w' := by
  have hl : (L.length : Int) ≤ 9223372036854775807 := by have := Kd.C_max h0; omega
  have HL := Aside0.mk h0
  have ALV := Aside0.mk (fun W (hW : Below w.heap.size w W) => alive_c W (OT_below hot hW))
  have ALL := Aside0.mk (fun W (hW : Below w.heap.size w W) (h : L.length ≤ 100) => all_c W A0 c0 L (Kd.C_below h0 hW) hc0 h)
  have RAG := Aside0.mk (fun W (hW : Below w.heap.size w W) => rAgree_c W A0 c0 L (Kd.C_below h0 hW) hc0)
  have RLO := Aside0.mk (fun W (hW : Below w.heap.size w W) => rLong_c W A0 c0 L (Kd.C_below h0 hW) hc0)
  have BEG := Aside0.mk (fun W (hW : Below w.heap.size w W) => Beg_c W A1 c1 a A2 c2 b (Kd.C_below h1 hW) hc1 (Kd.C_below h2 hW) hc2)
  have RBE := Aside0.mk (fun W (hW : Below w.heap.size w W) => rBeg_c W A1 c1 a A2 c2 b (Kd.C_below h1 hW) hc1 (Kd.C_below h2 hW) hc2)
  have hlm : (L.map th).length = L.length := List.length_map _
  have AGR := Aside0.mk (fun W A c (h : Kd.C k31 W A L.length (L.map th)) (hc : L.length ≤ c) => Agree_n W A L.length c (L.map th) hlm h hc)
  have LNG := Aside0.mk (fun W A c (h : Kd.C k31 W A L.length (L.map th)) (hc : L.length ≤ c) => Longest_n W A L.length c (L.map th) hlm h hc)
  have HW := Aside0.mk (Below.refl w.heap.size w)
  obtain ⟨bf, hbf⟩ : ∃ bf : Bool, bf = true ↔ Few22 L := by classical exact ⟨decide (Few22 L), decide_eq_true_iff⟩
  have FEW := Aside0.mk (fun W (hW : Below w.heap.size w W) => few_c W A0 c0 L (Kd.C_below h0 hW) hc0 bf hbf)
  clear h0 h1 h2 hot hlm
  by_cases hg : bf = true ∧ ¬ (a.length : Int) > 60 ∧ ¬ (b.length : Int) > 60
  · obtain ⟨rfl, ha, hb⟩ := hg
    have hle : L.length ≤ 8 := (hbf.1 rfl).2
    clear hbf
    have ha' : decide ((a.length : Int) > 60) = false := decide_eq_false ha
    have hb' : decide ((b.length : Int) > 60) = false := decide_eq_false hb
    go_enter Tryd.func3, Tryd.ntmps3
    go_wp2_with (first
      | (go_at_call 12; (with_reducible refine (ALV.out _ HW.out).mono ?_); rintro e w1 ⟨rfl, hb1⟩; have HW := Aside0.mk (below_step HW.out hb1); clear hb1)
      | (go_at_call 13; (with_reducible refine (FEW.out _ HW.out).mono ?_); rintro e w1 ⟨rfl, hb1⟩; have HW := Aside0.mk (below_step HW.out hb1); clear hb1))
    go_loopw [26] (fun x wr => ∃ i : Nat, i ≤ L.length ∧ x = .int .i64 i ∧ Aside0 (Below w.heap.size w wr)) (fun x _ => L.length - (intOf x).toNat)
    case atStart => exact ⟨0, Nat.zero_le _, rfl, HW⟩
    case round =>
      clear HW
      obtain ⟨i, hi, rfl, HB⟩ := hrel
      by_cases hlt : (i : Int) < (L.length : Int)
      · have p0 : (0 : Int) ≤ i := by omega
        obtain ⟨ad, B0, b0, rfl, x0, x1, x2, x3, x4, xl, xc⟩ := at_T27 HL.out (i : Int) p0 hlt
        rw [Int.toNat_natCast] at x0 x1 x2 x3 x4
        replace x0 := (HB.out.cell (World.block_lt_of_cell? w _ x0)).trans x0
        replace x1 := (HB.out.cell (World.block_lt_of_cell? w _ x1)).trans x1
        replace x2 := (HB.out.cell (World.block_lt_of_cell? w _ x2)).trans x2
        replace x3 := (HB.out.cell (World.block_lt_of_cell? w _ x3)).trans x3
        replace x4 := (HB.out.cell (World.block_lt_of_cell? w _ x4)).trans x4
        obtain ⟨f0, e0⟩ : ∃ f0, (rd_T27 L (i : Int)).f0 = f0 := ⟨_, rfl⟩
        obtain ⟨f1, e1⟩ : ∃ f1, (rd_T27 L (i : Int)).f1 = f1 := ⟨_, rfl⟩
        obtain ⟨f2, e2⟩ : ∃ f2, (rd_T27 L (i : Int)).f2 = f2 := ⟨_, rfl⟩
        obtain ⟨f3, e3⟩ : ∃ f3, (rd_T27 L (i : Int)).f3 = f3 := ⟨_, rfl⟩
        obtain ⟨f4, e4⟩ : ∃ f4, (rd_T27 L (i : Int)).f4 = f4 := ⟨_, rfl⟩
        rw [e0] at x0 xl xc
        rw [e1] at x1
        rw [e2] at x2
        rw [e3] at x3
        rw [e4] at x4
        obtain ⟨n, en⟩ : ∃ n, f0.length = n := ⟨_, rfl⟩
        rw [en] at x0 xl xc
        have XL := Aside0.mk xl
        have XC := Aside0.mk xc
        have EN := Aside0.mk en
        clear e0 e1 e2 e3 e4 xl xc en
        obtain ⟨fb, hfb⟩ : ∃ fb, fin f1 f2 = fb := ⟨_, rfl⟩
        have THE := Aside0.mk (fun W => theirs_c W B0 n b0 f1 f2 f3 f4)
        have END_ := Aside0.mk (fun W (hW : Below w.heap.size w W) => ended_n W B0 n b0 f0 f1 f2 f3 f4 fb hfb EN.out (Kd.C_below XC.out hW) XL.out)
        have REN := Aside0.mk (fun W (hW : Below w.heap.size w W) => by
          have := rEnded_n W B0 n b0 f0 f1 f2 f3 f4 EN.out (Kd.C_below XC.out hW) XL.out
          rw [hfb] at this
          exact this)
        clear hfb
        obtain ⟨wo, rfl⟩ : ∃ wo : World, wo = wr := ⟨_, rfl⟩
        go_upto_region 8 with (fail)
        obtain ⟨W0, hW0⟩ : ∃ W0 : World, W0 = wo.alloc (.cells #[.slice B0 n b0, .bool f1, .int .i64 f2, .int .i64 f3, .int .i64 f4] 27) := ⟨_, rfl⟩
        have R0 : W0.heap[wo.heap.size]? = some (.cells #[.slice B0 n b0, .bool f1, .int .i64 f2, .int .i64 f3, .int .i64 f4] 27 (0, 0)) := by rw [hW0]; exact heap_alloc_new _ _
        have e0 : W0.cell? ⟨wo.heap.size, 0, none⟩ = some (.slice B0 n b0) := (blk_cell R0 0).trans rfl
        have e1 : W0.cell? ⟨wo.heap.size, 1, none⟩ = some (.bool f1) := (blk_cell R0 1).trans rfl
        have e2 : W0.cell? ⟨wo.heap.size, 2, none⟩ = some (.int .i64 f2) := (blk_cell R0 2).trans rfl
        have e3 : W0.cell? ⟨wo.heap.size, 3, none⟩ = some (.int .i64 f3) := (blk_cell R0 3).trans rfl
        have e4 : W0.cell? ⟨wo.heap.size, 4, none⟩ = some (.int .i64 f4) := (blk_cell R0 4).trans rfl
        have zz : wo.heap.size + 1 ≤ W0.heap.size := by rw [hW0]; simp
        have HB := Aside0.mk (show Below w.heap.size w W0 by rw [hW0]; exact below_alloc HB.out _)
        rw [← hW0]
        clear hW0 x0 x1 x2 x3 x4 R0
        go_region_held3 (fun w' => w'.cell? ⟨wo.heap.size, 0, none⟩ = some (.slice B0 n b0) ∧ w'.cell? ⟨wo.heap.size, 1, none⟩ = some (.bool f1) ∧ w'.cell? ⟨wo.heap.size, 2, none⟩ = some (.int .i64 f2) ∧ w'.cell? ⟨wo.heap.size, 3, none⟩ = some (.int .i64 f3) ∧ w'.cell? ⟨wo.heap.size, 4, none⟩ = some (.int .i64 f4))
          (first | exact ⟨e0, e1, e2, e3, e4⟩ | go_keep)
          ((first
            | (go_at_call 15; ((with_reducible refine (THE.out _).mono ?_); rintro e w1 ⟨rfl, hb1⟩; obtain ⟨hq1, hf1⟩ := bcell (B := wo.heap.size + 1) (hb1.mono zz); have e0 := (hq1 _ _ (by omega)).trans e0; have e1 := (hq1 _ _ (by omega)).trans e1; have e2 := (hq1 _ _ (by omega)).trans e2; have e3 := (hq1 _ _ (by omega)).trans e3; have e4 := (hq1 _ _ (by omega)).trans e4; have HB := Aside0.mk (show Below w.heap.size w w1 from below_step (by first | exact HB.out | exact below_drew1 HB.out) hb1); have zz : wo.heap.size + 1 ≤ w1.heap.size := Nat.le_trans zz hb1.size; clear hb1 hq1 hf1))
            | (go_at_call 14; ((with_reducible refine (END_.out _ ?side1).mono ?_); (case side1 => first | exact HB.out | exact below_drew1 HB.out); rintro e w1 ⟨rfl, hb1⟩; obtain ⟨hq1, hf1⟩ := bcell (B := wo.heap.size + 1) (hb1.mono zz); have e0 := (hq1 _ _ (by omega)).trans e0; have e1 := (hq1 _ _ (by omega)).trans e1; have e2 := (hq1 _ _ (by omega)).trans e2; have e3 := (hq1 _ _ (by omega)).trans e3; have e4 := (hq1 _ _ (by omega)).trans e4; have HB := Aside0.mk (show Below w.heap.size w w1 from below_step (by first | exact HB.out | exact below_drew1 HB.out) hb1); have zz : wo.heap.size + 1 ≤ w1.heap.size := Nat.le_trans zz hb1.size; clear hb1 hq1 hf1))
            | (go_at_call 16; ((with_reducible refine (REN.out _ ?side1).mono ?_); (case side1 => first | exact HB.out | exact below_drew1 HB.out); rintro e w1 ⟨rfl, hb1⟩; obtain ⟨hq1, hf1⟩ := bcell (B := wo.heap.size + 1) (hb1.mono zz); have e0 := (hq1 _ _ (by omega)).trans e0; have e1 := (hq1 _ _ (by omega)).trans e1; have e2 := (hq1 _ _ (by omega)).trans e2; have e3 := (hq1 _ _ (by omega)).trans e3; have e4 := (hq1 _ _ (by omega)).trans e4; have HB := Aside0.mk (show Below w.heap.size w w1 from below_step (by first | exact HB.out | exact below_drew1 HB.out) hb1); have zz : wo.heap.size + 1 ≤ w1.heap.size := Nat.le_trans zz hb1.size; clear hb1 hq1 hf1))))
        all_goals
          go_wp2
          go_roundw
          case rel => exact ⟨i + 1, by omega, by go_num, ⟨by repeat (first | (with_reducible first | exact HB.out | apply below_alloc | apply pw_below_drewN | apply below_drew1))⟩⟩
          case measure => simp [intOf]; omega
      · obtain rfl : i = L.length := by omega
        have HW := HB
        have BB : (beg a b == beg a b) = true := beq_self_eq_true _
        have AA : (ag (L.map th) == ag (L.map th)) = true := beq_self_eq_true _
        have LL : (lng (L.map th) L.length == lng (L.map th) L.length) = true := beq_self_eq_true _
        go_wp2_with (first
          | (go_at_call 18; (with_reducible refine (ALL.out _ HW.out (by omega)).mono ?_); rintro e w1 ⟨A, c, rfl, hc, hC, hb1⟩; have HW := Aside0.mk (below_step HW.out hb1); have HC := Aside0.mk hC; have HCC := Aside0.mk hc; clear hb1 hC hc)
          | (go_at_call 17; (with_reducible refine (AGR.out _ _ _ HC.out HCC.out).mono ?_); rintro e w1 ⟨rfl, hb1⟩; have HW := Aside0.mk (below_step HW.out hb1); clear hb1)
          | (go_at_call 22; (with_reducible refine (LNG.out _ _ _ HC.out HCC.out).mono ?_); rintro e w1 ⟨rfl, hb1⟩; have HW := Aside0.mk (below_step HW.out hb1); clear hb1)
          | (go_at_call 19; (with_reducible refine (RAG.out _ HW.out).mono ?_); rintro e w1 ⟨rfl, hb1⟩; have HW := Aside0.mk (below_step HW.out hb1); clear hb1)
          | (go_at_call 23; (with_reducible refine (RLO.out _ HW.out).mono ?_); rintro e w1 ⟨rfl, hb1⟩; have HW := Aside0.mk (below_step HW.out hb1); clear hb1)
          | (go_at_call 20; (with_reducible refine (BEG.out _ HW.out).mono ?_); rintro e w1 ⟨rfl, hb1⟩; have HW := Aside0.mk (below_step HW.out hb1); clear hb1)
          | (go_at_call 21; (with_reducible refine (RBE.out _ HW.out).mono ?_); rintro e w1 ⟨rfl, hb1⟩; have HW := Aside0.mk (below_step HW.out hb1); clear hb1))
        go_ret
        exact ⟨by simp, HW.out⟩
  · obtain rfl | ⟨rfl, ha⟩ | ⟨rfl, ha, hb⟩ : bf = false ∨ (bf = true ∧ (a.length : Int) > 60) ∨ (bf = true ∧ ¬ (a.length : Int) > 60 ∧ (b.length : Int) > 60) := by
      cases bf
      · exact .inl rfl
      · refine .inr ?_
        simp only [true_and] at hg ⊢
        omega
    all_goals
      clear hg hbf
      go_enter Tryd.func3, Tryd.ntmps3
      go_wp2_with (first
        | (go_at_call 12; (with_reducible refine (ALV.out _ HW.out).mono ?_); rintro e w1 ⟨rfl, hb1⟩; have HW := Aside0.mk (below_step HW.out hb1); clear hb1)
        | (go_at_call 13; (with_reducible refine (FEW.out _ HW.out).mono ?_); rintro e w1 ⟨rfl, hb1⟩; have HW := Aside0.mk (below_step HW.out hb1); clear hb1))
      go_ret
      exact ⟨rfl, HW.out⟩
end Go.Proofs.YtfkfpcciacplkaaDoor.TRW

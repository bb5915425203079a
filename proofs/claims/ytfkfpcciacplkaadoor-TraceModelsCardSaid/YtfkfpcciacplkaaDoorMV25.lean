/- Texts of this claim, pruned to what it needs and laid together by prune.py. -/
import Derived.Test.YtfkfpcciacplkaaDoorMV24
import Derived.Test.YtfkfpcciacplkaaDoorMV22
import Derived.Deep.RegionWith
import Derived.OwnWalk
import Derived.Deep.RegionHeld3
import Derived.Test.YtfkfpcciacplkaaDoorMV0
import Derived.Lib.ItoaNum
import Derived.Lib.ItoaMem
import Derived.Lib.ItoaLen
import Derived.Test.YtfkfpcciacplkaaDoorProg
import Derived.WalkKit
import Derived.KernelRfl
import Derived.Outline
import Derived.BigQuiet
import Derived.Deep.QuietTactic
import Derived.Deep.LoopGhost
import Derived.Test.YtfkfpcciacplkaaDoorMV21
import Derived.Laws.Rows
import Derived.StillTailTactics
namespace Go.Proofs.YtfkfpcciacplkaaDoor.MS
open Go.RowKit Go.Proofs.YtfkfpcciacplkaaDoorW.PrintWords Go.Proofs.YtfkfpcciacplkaaDoor.ST0 Go.Proofs.YtfkfpcciacplkaaDoor.ST Go.Proofs.YtfkfpcciacplkaaDoor.PL Go.Proofs.YtfkfpcciacplkaaDoor.KP Go.Proofs.YtfkfpcciacplkaaDoor.F
set_option linter.unusedVariables false
set_option linter.unusedSectionVars false
set_option linter.unusedSimpArgs false
theorem stepP_pair {sz loc : Int → Int} {code : List S68} {s : PS} {r : Int} (h : (stepP sz loc code s).2 = (false, r)) : stepP sz loc code s = ((stepP sz loc code s).1, false, r) := by rw [← h]
theorem MS.start (w : World) (g : Nat) (hg : g < w.heap.size) (h : w.heap[g]? = some (.cells (stA PS0.n (.slice none 0 0) (.slice none 0 0) 0 0) 88 (0, 0))) : MS w g (g + 1) PS0 :=
  ⟨none, [], 0, none, 0, Nat.lt_succ_self _, hg, h, own_nil .., own_nil .., rfl, fun j hj => absurd hj (Nat.not_lt_zero j), fun j hj => absurd hj (Nat.not_lt_zero j), fun i j hi => absurd hi (Nat.not_lt_zero i)⟩
theorem MS.below {w w' : World} {g B : Nat} {s : PS} (h : MS w g B s) (hb : Below w.heap.size w w') : MS w' g B s := by
  obtain ⟨oA, hs, oc, tA, tc, h⟩ := h
  have mv : ∀ {e n v xs}, w.ownsRow B e 1 v n xs → w'.ownsRow B e 1 v n xs := fun ho => own_move ho fun k hk => hb.block k (own_lt ho k hk)
  exact ⟨oA, hs, oc, tA, tc, h.gB, Nat.le_trans h.Bw hb.size, (hb.block g (blk_lt h.row)).trans h.row, mv h.out, mv h.hd, h.len, fun j hj => mv (h.obj j hj), h.far, h.apart⟩
theorem take_C {W : World} {B n m c : Nat} {A : Option Addr} {l r : List Int} (h : W.ownsRow B 2 1 (.slice A m c) m (nums .i64 l)) (hr : l.take n = r) (hn : r.length = n) : Kd.C (Kd.int .i64) W A n r ∧ n ≤ c := by
  have hm : l.length = m := by simpa [nums] using h.1
  have hnm : n ≤ m := by rw [← hn, ← hr, List.length_take]; omega
  have h1 := own_take h hnm
  rw [Nat.mul_one, nums, ← List.map_take, hr] at h1
  refine ⟨?_, ST0.own_le h1⟩
  subst hn
  obtain ⟨A', c', hv, _, hr'⟩ := OwnRow.reads (R := (Kd.int .i64).K W) (ps := r) ⟨nums .i64 r, h1, Kd.reps_scalar r⟩
  injection hv with hA _ _
  rw [hA]
  exact hr'
section
variable {sz loc : Int → Int} {code : List S68} {s : PS}
theorem runP_zero (h : (stepP sz loc code s).2 = (false, 0)) : runP sz loc code 0 s = (s.out, 10) := by
  unfold runP
  rw [h]
  rfl
theorem runP_succ (h : (stepP sz loc code s).2 = (false, 0)) (k : Nat) : runP sz loc code (k + 1) s = runP sz loc code k (stepP sz loc code s).1 := by
  rw [runP, h]
  rfl
theorem runP_err {r : Int} (h : (stepP sz loc code s).2 = (false, r)) (hr : r ≠ 0) (k : Nat) : runP sz loc code k s = (s.out, r) := by
  cases k <;> (rw [runP, h]; simp [hr])
theorem runP_end (h : s.pc = code.length) (k : Nat) : runP sz loc code k s = (s.out, 0) := by
  have e : stepP sz loc code s = (s, true, 0) := if_pos h
  cases k <;> (rw [runP, e]; rfl)
end
set_option maxHeartbeats 8000000 in
set_option maxRecDepth 100000 in
theorem pRun_c (p : Pg) (w : World) (h : p.On w) (hs : SpP p) (fuel : Nat) (hf : fuel ≤ 800000) : Calls Tryd.prog 37 #[p.v, .int .i64 fuel] w fun e w' =>
    ∃ A c, e = .returned (.tuple #[.slice A (runP (size p.ts) (atv p.ts p.la) p.code fuel PS0).1.length c, .int .i64 (runP (size p.ts) (atv p.ts p.la) p.code fuel PS0).2]) ∧ (runP (size p.ts) (atv p.ts p.la) p.code fuel PS0).1.length ≤ c ∧ Kd.C (Kd.int .i64) w' A (runP (size p.ts) (atv p.ts p.la) p.code fuel PS0).1.length (runP (size p.ts) (atv p.ts p.la) p.code fuel PS0).1 ∧ Below w.heap.size w w' := by
  obtain ⟨R, hR⟩ : ∃ R, R = runP (size p.ts) (atv p.ts p.la) p.code fuel PS0 := ⟨_, rfl⟩
  rw [← hR]
  have hmax := Kd.C_max h.hC
  have HP := Aside0.mk h
  have HSP := Aside0.mk hs
  have HR := Aside0.mk hR
  have CK := Aside0.mk (show ∀ W, Below w.heap.size w W → Calls Tryd.prog 41 #[p.v] W fun e w' => ∃ r : Int, e = .returned (.tuple #[.int .i64 r, .int .i64 0]) ∧ Below W.heap.size W w' from fun W hW => by
    refine (pCheck_c p W (h.below hW)).mono ?_
    rintro e w' ⟨r, er, rfl, h1, _, h3⟩
    obtain rfl := h1.2 hs
    exact ⟨r, rfl, h3⟩)
  have DO := Aside0.mk (show ∀ (W : World) (g B : Nat) (s : PS) (i : Nat), Below w.heap.size w W → w.heap.size ≤ g → MS W g B s → SInv p.ts p.la p.gl p.code i s → i ≤ 900000 → s.pc < p.code.length → ∀ (o a b c : Nat) (N : Int), rd_T68 p.code s.pc = ⟨o, a, b, c, N⟩ → Calls Tryd.prog 49 #[.pointer (some ⟨g, 0, none⟩), p.v, .agg #[.int .u8 o, .int .u8 a, .int .u8 b, .int .u8 c, .int .i64 N]] W (DoR p W g B s) from fun W g B s i h1 h2 h3 h4 h5 h6 o a b c N h7 => do_c p w W g B s i h h1 h2 h3 h4 h5 h6 hs o a b c N h7)
  have HWF := Aside0.mk h.hw
  clear h hs hR
  obtain ⟨q, hq⟩ : ∃ q : Pg, q = p := ⟨_, rfl⟩
  have HQ := Aside0.mk hq
  rw [← hq] at DO HR HSP
  clear hq
  obtain ⟨A0, c0, ts, la, gl, A3, c3, code⟩ := p
  change Aside0 (∀ W, Below w.heap.size w W → Calls Tryd.prog 41 #[.agg #[.slice A0 ts.length c0, .string la, .string gl, .slice A3 code.length c3]] W fun e w' => ∃ r : Int, e = .returned (.tuple #[.int .i64 r, .int .i64 0]) ∧ Below W.heap.size W w') at CK
  change Aside0 (∀ x ∈ code, WfI x.f0 x.f1 x.f2 x.f3 x.f4) at HWF
  obtain ⟨n0, hn0⟩ : ∃ n0, n0 = ts.length := ⟨_, rfl⟩
  show Calls _ _ #[.agg #[.slice A0 ts.length c0, .string la, .string gl, .slice A3 code.length c3], .int .i64 fuel] _ _
  have HQV := Aside0.mk (show q.v = .agg #[.slice A0 n0 c0, .string la, .string gl, .slice A3 code.length c3] by rw [HQ.out, hn0])
  rw [← hn0] at CK ⊢
  have HN0 := Aside0.mk hn0
  clear hn0
  have f0 : ¬ (fuel : Int) < 0 := by omega
  have HW := Aside0.mk (Below.refl w.heap.size w)
  go_enter Tryd.func37, Tryd.ntmps37
  go_wp2_with (go_at_call 41; (with_reducible refine (CK.out _ ?side1).mono ?_); (case side1 => exact below_alloc HW.out _); rintro e w1 ⟨r0, rfl, hb1⟩; have R0 := (hb1.block w.heap.size (by simp)).trans (heap_alloc_new w _); have kR := fun j => cell_of_row w1 w.heap.size j _ _ _ R0; have HW := Aside0.mk (below_step (below_alloc HW.out _) hb1); clear hb1)
  obtain ⟨B, hB⟩ : ∃ B, B = w1.heap.size := ⟨_, rfl⟩
  obtain ⟨W0, hW0⟩ : ∃ W0 : World, W0 = w1.alloc (.cells (DO1.stR (.slice none 0 0) 0 0) 88) := ⟨_, rfl⟩
  have HMS := Aside0.mk (show MS W0 B (B + 1) PS0 from MS.start W0 B (by rw [hW0, hB]; simp) (by rw [hW0, hB]; exact heap_alloc_new _ _))
  have HRP := Aside0.mk (show W0.heap[w.heap.size]? = some (.cells #[.slice A0 n0 c0, .string la, .string gl, .slice A3 code.length c3] 46 (0, 0)) by rw [hW0]; exact row_old _ _ _ (blk_lt R0) R0)
  have HBW := Aside0.mk (show w.heap.size < B by rw [hB]; exact blk_lt R0)
  have HW := Aside0.mk (show Below w.heap.size w W0 by rw [hW0]; exact below_alloc HW.out _)
  rw [← hB]
  rw [← hW0]
  clear hW0 kR R0 CK hB
  go_loopw [1] (fun f wr => ∃ (k : Nat) (s : PS), f = .int .i64 k ∧ Aside0 (k ≤ fuel ∧ MS wr B (B + 1) s ∧ SInv q.ts q.la q.gl q.code (fuel - k) s ∧ runP (size q.ts) (atv q.ts q.la) q.code k s = R ∧ wr.heap[w.heap.size]? = some (.cells #[.slice A0 n0 c0, .string la, .string gl, .slice A3 code.length c3] 46 (0, 0)) ∧ Below w.heap.size w wr)) (fun f _ => (intOf f).toNat)
  case atStart => exact ⟨fuel, PS0, rfl, ⟨Nat.le_refl _, HMS.out, by rw [Nat.sub_self]; exact SInv.start .., HR.out.symm, HRP.out, HW.out⟩⟩
  case round =>
    clear HMS HRP HW
    obtain ⟨k, s, rfl, HREL⟩ := hrel
    obtain ⟨wo, rfl⟩ : ∃ wo : World, wo = wr := ⟨_, rfl⟩
    obtain ⟨hk, hM, hI, hrun, hRP, hW⟩ := HREL.out
    obtain ⟨oA, hds, oc, tA, tc, hr⟩ := hM
    have HM := Aside0.mk (show MS wo B (B + 1) s from ⟨oA, hds, oc, tA, tc, hr⟩)
    have b22 : wo.cell? ⟨B, 22, none⟩ = some (.int .i64 s.pc) := (blk_cell hr.row 22).trans rfl
    have b21 : wo.cell? ⟨B, 21, none⟩ = some (.slice tA s.out.length tc) := (blk_cell hr.row 21).trans rfl
    have kP := fun j => cell_of_row wo w.heap.size j _ _ _ hRP
    have p3 : wo.cell? ⟨w.heap.size, 3, none⟩ = some (.slice A3 code.length c3) := (kP 3).trans rfl
    have hpc0 := hI.pc0
    have hpc1 := hI.pc1
    have HI := Aside0.mk hI
    have HRUN := Aside0.mk hrun
    have HRP := Aside0.mk hRP
    have HW := Aside0.mk hW
    have HMR := Aside0.mk hr
    have hql : q.code.length = code.length := by rw [HQ.out]
    rw [hql] at hpc1
    clear hI hrun hRP hW hr HREL
    by_cases hlt : s.pc < code.length
    · have p0 : wo.cell? ⟨w.heap.size, 0, none⟩ = some (.slice A0 n0 c0) := (kP 0).trans rfl
      have p1 : wo.cell? ⟨w.heap.size, 1, none⟩ = some (.string la) := (kP 1).trans rfl
      have p2 : wo.cell? ⟨w.heap.size, 2, none⟩ = some (.string gl) := (kP 2).trans rfl
      obtain ⟨ad, eA, y0, y1, y2, y3, y4⟩ := at_T68 (HP.out.below HW.out).hC s.pc hpc0 hlt
      change A3 = some ad at eA
      subst eA
      obtain ⟨x, hx⟩ : ∃ x, x = rd_T68 code s.pc := ⟨_, rfl⟩
      have hwx : WfI x.f0 x.f1 x.f2 x.f3 x.f4 := by
        have e := (WfC.rd HWF.out s.pc.toNat (by omega))
        rw [Int.toNat_of_nonneg hpc0, ← hx] at e
        exact e
      change wo.cell? _ = some (.int .u8 (rd_T68 code s.pc).f0) at y0
      change wo.cell? _ = some (.int .u8 (rd_T68 code s.pc).f1) at y1
      change wo.cell? _ = some (.int .u8 (rd_T68 code s.pc).f2) at y2
      change wo.cell? _ = some (.int .u8 (rd_T68 code s.pc).f3) at y3
      change wo.cell? _ = some (.int .i64 (rd_T68 code s.pc).f4) at y4
      rw [← hx] at y0 y1 y2 y3 y4
      obtain ⟨x0, x1, x2, x3, N⟩ := x
      simp only at y0 y1 y2 y3 y4 hwx
      obtain ⟨o, rfl⟩ := Int.eq_ofNat_of_zero_le hwx.1.1
      obtain ⟨a, rfl⟩ := Int.eq_ofNat_of_zero_le hwx.2.1.1
      obtain ⟨b, rfl⟩ := Int.eq_ofNat_of_zero_le hwx.2.2.1.1
      obtain ⟨c, rfl⟩ := Int.eq_ofNat_of_zero_le hwx.2.2.2.1.1
      have DOQ : Aside0 (∀ W, Below w.heap.size w W → MS W B (B + 1) s → Calls Tryd.prog 49 #[.pointer (some ⟨B, 0, none⟩), .agg #[.slice A0 n0 c0, .string la, .string gl, .slice (some ad) code.length c3], .agg #[.int .u8 o, .int .u8 a, .int .u8 b, .int .u8 c, .int .i64 N]] W (DoR q W B (B + 1) s)) := ⟨fun W h1 h2 => by
        have := DO.out W B (B + 1) s (fuel - k) h1 (Nat.le_of_lt HBW.out) h2 HI.out (by omega) (by rw [hql]; exact hlt) o a b c N (by rw [HQ.out]; exact hx.symm)
        rw [HQV.out] at this
        exact this⟩
      have HLT := Aside0.mk hlt
      clear DO HWF hwx hx kP
      by_cases her : (stepP (size q.ts) (atv q.ts q.la) q.code s).2.2 = 0
      · have HER := Aside0.mk her
        clear her
        cases k with
        | zero =>
          go_wp2
          go_still_tail 7, (by kernel_rfl)
          go_wp2_with (go_at_call 49; ((with_reducible refine (DOQ.out _ ?side1 ?side2).mono ?_); (case side1 => exact below_drew1 HW.out); (case side2 => exact HM.out.below (below_drew1 (Below.refl _ _))); rintro e w2 ⟨r, u, rfl, hMu, hc, hst, hu, htk, hle⟩; have er : r = 0 := (congrArg Prod.snd hst).symm.trans HER.out; subst er; have HCH := Aside0.mk hc; have HTK := Aside0.mk htk; obtain ⟨oA2, hds2, oc2, tA2, tc2, hr2⟩ := hMu; have b21 : w2.cell? ⟨B, 21, none⟩ = some (.slice tA2 u.out.length tc2) := (blk_cell hr2.row 21).trans rfl; have HU := Aside0.mk hr2; have hcap := ST0.own_le hr2.out; have HST := Aside0.mk hst; clear hc hst hu htk hr2))
          go_ret2
          have hR := HRUN.out.symm.trans (runP_zero HST.out)
          subst hR
          obtain ⟨q1, q2⟩ := take_C HU.out.out HTK.out rfl
          exact ⟨tA2, tc2, rfl, q2, q1, HCH.out.below' (below_drew1 HW.out) fun k e => by have := HBW.out; omega⟩
        | succ k =>
          go_wp2
          go_still_tail 7, (by kernel_rfl)
          go_wp2_with (go_at_call 49; ((with_reducible refine (DOQ.out _ ?side1 ?side2).mono ?_); (case side1 => exact below_drew1 HW.out); (case side2 => exact HM.out.below (below_drew1 (Below.refl _ _))); rintro e w2 ⟨r, u, rfl, hMu, hc, hst, hu, htk, hle⟩; have er : r = 0 := (congrArg Prod.snd hst).symm.trans HER.out; subst er; have HCH := Aside0.mk hc; have HTK := Aside0.mk htk; have HMU := Aside0.mk hMu; have HUE := Aside0.mk (hu rfl); have HST := Aside0.mk hst; clear hc hst hu htk hMu hle))
          have hs2 := SInv.step HSP.out (by rw [HQ.out]; exact HP.out.hw) HI.out (stepP_pair HST.out)
          refine ⟨⟨k, u, by go_num, ⟨by omega, HMU.out, ?_, ?_, ?_, ?_⟩⟩, ?_⟩
          · rw [HUE.out, show fuel - k = fuel - (k + 1) + 1 by omega]
            exact hs2.2
          · rw [HUE.out]
            exact (runP_succ HST.out k).symm.trans HRUN.out
          · exact (HCH.out.block w.heap.size (blk_lt HRP.out) (by have := HBW.out; omega)).trans HRP.out
          · exact HCH.out.below' (below_drew1 HW.out) fun k e => by have := HBW.out; omega
          · simp [intOf]
      · have HER := Aside0.mk her
        clear her
        go_wp2
        go_still_tail 7, (by kernel_rfl)
        go_wp2_with (go_at_call 49; ((with_reducible refine (DOQ.out _ ?side1 ?side2).mono ?_); (case side1 => exact below_drew1 HW.out); (case side2 => exact HM.out.below (below_drew1 (Below.refl _ _))); rintro e w2 ⟨r, u, rfl, hMu, hc, hst, hu, htk, hle⟩; have er : r ≠ 0 := fun e => HER.out ((congrArg Prod.snd hst).trans e); have er' : (r != 0) = true := bne_iff_ne.2 er; have HCH := Aside0.mk hc; have HTK := Aside0.mk htk; obtain ⟨oA2, hds2, oc2, tA2, tc2, hr2⟩ := hMu; have b21 : w2.cell? ⟨B, 21, none⟩ = some (.slice tA2 u.out.length tc2) := (blk_cell hr2.row 21).trans rfl; have HU := Aside0.mk hr2; have hcap := ST0.own_le hr2.out; have HST := Aside0.mk hst; clear hc hst hu htk hr2))
        go_ret2
        have hR := HRUN.out.symm.trans (runP_err HST.out er k)
        subst hR
        obtain ⟨q1, q2⟩ := take_C HU.out.out HTK.out rfl
        exact ⟨tA2, tc2, rfl, q2, q1, HCH.out.below' (below_drew1 HW.out) fun k e => by have := HBW.out; omega⟩
    · go_wp2
      go_ret2
      have hR := HRUN.out.symm.trans (runP_end (by rw [hql]; omega) k)
      subst hR
      obtain ⟨q1, q2⟩ := take_C HMR.out.out List.take_length rfl
      exact ⟨tA, tc, rfl, q2, q1, HW.out⟩
end Go.Proofs.YtfkfpcciacplkaaDoor.MS

namespace Go.Proofs.YtfkfpcciacplkaaDoor.PL
open Go.RowKit Go.Proofs.YtfkfpcciacplkaaDoorW.PrintWords Go.Proofs.YtfkfpcciacplkaaDoor.F Go.Proofs.YtfkfpcciacplkaaDoor.KP Go.Proofs.YtfkfpcciacplkaaDoor.CR Go.Proofs.YtfkfpcciacplkaaDoor.SH Go.Proofs.YtfkfpcciacplkaaDoor.FM Go.Proofs.YtfkfpcciacplkaaDoor.ST0
set_option linter.unusedVariables false
set_option linter.unusedSectionVars false
set_option linter.unusedSimpArgs false
noncomputable def kindsB (ts : List ByteArray) (la gl : ByteArray) (o : Nat) (f1 f2 f3 f4 : Int) : Bool :=
  if o = 5 ∨ o = 6 then decide (0 ≤ atv ts la f1) else if o = 7 then oneB (atv ts la f1) (atv ts la f2) else if o = 15 then oneB (atv ts la f2) (atv ts la f3)
  else if o = 8 then decide (0 ≤ atv ts la f2) && numB ts (atv ts la f2) f4 else if o = 9 then decide (0 ≤ atv ts la f1) && numB ts (atv ts la f1) f4
  else if o = 10 then decide (0 ≤ atv ts la f2) && oneB (atv ts la f1) (to_ ts (atv ts la f2) f4) else if o = 11 then decide (0 ≤ atv ts la f1) && oneB (atv ts la f2) (to_ ts (atv ts la f1) f4)
  else if o = 12 then oneB (atv ts la f1) (atv ts gl f2) else if o = 13 then oneB (atv ts la f2) (atv ts gl f1) else true
theorem oneB_iff (a b : Int) : oneB a b = true ↔ 0 ≤ a ∧ a = b := by simp [oneB]
theorem numB_iff (ts : List ByteArray) (t n : Int) : numB ts t n = true ↔ 0 ≤ n ∧ n < size ts t ∧ to_ ts t n < 0 := by
  unfold numB
  split
  · simp
    omega
  · simp
    omega
theorem kindsB_iff {ts : List ByteArray} {la gl : ByteArray} {o : Nat} {f1 f2 f3 f4 : Int} (h1 : 1 ≤ o) (h15 : o ≤ 15) : kindsB ts la gl o f1 f2 f3 f4 = true ↔ KindsP ts la gl o f1 f2 f3 f4 := by
  unfold kindsB KindsP
  obtain rfl | rfl | rfl | rfl | rfl | rfl | rfl | rfl | rfl | rfl | rfl | rfl | rfl | rfl | rfl : o = 1 ∨ o = 2 ∨ o = 3 ∨ o = 4 ∨ o = 5 ∨ o = 6 ∨ o = 7 ∨ o = 8 ∨ o = 9 ∨ o = 10 ∨ o = 11 ∨ o = 12 ∨ o = 13 ∨ o = 14 ∨ o = 15 := by omega
  all_goals simp [oneB_iff, numB_iff]
section
variable (p : Pg) (w : World) (o : Nat) (f1 f2 f3 f4 : Int) (h1 : 1 ≤ o) (h15 : o ≤ 15) (hx : WfI o f1 f2 f3 f4) (hp : p.In w)
include h1 h15 hx hp
set_option maxHeartbeats 4000000 in
set_option maxRecDepth 100000 in
theorem kinds_c : Calls Tryd.prog 54 #[p.v, .agg #[.int .u8 o, .int .u8 f1, .int .u8 f2, .int .u8 f3, .int .i64 f4]] w fun e w' => e = .returned (.bool (kindsB p.ts p.la p.gl o f1 f2 f3 f4)) ∧ Below w.heap.size w w' := by
  obtain ⟨_, ⟨a0, a1⟩, ⟨b0, b1⟩, ⟨c0', c1⟩, _⟩ := hx
  obtain ⟨A0, c0, ts, la, gl, A3, c3, code⟩ := p
  have HP := Aside0.mk hp
  have HA := Aside0.mk (And.intro a0 a1)
  have HBB := Aside0.mk (And.intro b0 b1)
  have HCC := Aside0.mk (And.intro c0' c1)
  clear hp a0 a1 b0 b1 c0' c1
  have LOC : Aside0 (∀ W, Below w.heap.size w W → ∀ a : Int, 0 ≤ a → a ≤ 255 → Calls Tryd.prog 82 #[.agg #[.slice A0 ts.length c0, .string la, .string gl, .slice A3 code.length c3], .int .u8 a] W fun e w' => e = .returned (.int .i64 (atv ts la a)) ∧ Below W.heap.size W w') := ⟨fun W hW a h0 h1 => Local_c ⟨A0, c0, ts, la, gl, A3, c3, code⟩ W (HP.out.below hW) a h0 h1⟩
  have HW := Aside0.mk (Below.refl w.heap.size w)
  show Calls Tryd.prog 54 #[.agg #[.slice A0 ts.length c0, .string la, .string gl, .slice A3 code.length c3], .agg #[.int .u8 o, .int .u8 f1, .int .u8 f2, .int .u8 f3, .int .i64 f4]] w fun e w' => e = .returned (.bool (kindsB ts la gl o f1 f2 f3 f4)) ∧ Below w.heap.size w w'
  go_enter Tryd.func54, Tryd.ntmps54
  go_upto_region 1 with (fail)
  obtain ⟨W0, hW0⟩ : ∃ W0 : World, W0 = (w.alloc (.cells #[.slice A0 ts.length c0, .string la, .string gl, .slice A3 code.length c3] 46)).alloc (.cells #[.int .u8 o, .int .u8 f1, .int .u8 f2, .int .u8 f3, .int .i64 f4] 68) := ⟨_, rfl⟩
  have R0 : W0.heap[w.heap.size]? = some (.cells #[.slice A0 ts.length c0, .string la, .string gl, .slice A3 code.length c3] 46 (0, 0)) := by rw [hW0]; exact row_old _ _ _ (by simp) (heap_alloc_new _ _)
  have R1 : W0.heap[w.heap.size + 1]? = some (.cells #[.int .u8 o, .int .u8 f1, .int .u8 f2, .int .u8 f3, .int .i64 f4] 68 (0, 0)) := by rw [hW0]; exact row_new _ _ _ (by simp)
  have zz : w.heap.size + 1 + 1 ≤ W0.heap.size := by rw [hW0]; simp
  have HW := Aside0.mk (show Below w.heap.size w W0 by rw [hW0]; exact below_alloc (below_alloc (Below.refl _ _) _) _)
  rw [← hW0]
  clear hW0
  have e0 : W0.cell? ⟨w.heap.size, 0, none⟩ = some (.slice A0 ts.length c0) := (cell_of_row _ _ 0 _ _ _ R0).trans rfl
  have e1 : W0.cell? ⟨w.heap.size, 1, none⟩ = some (.string la) := (cell_of_row _ _ 1 _ _ _ R0).trans rfl
  have e2 : W0.cell? ⟨w.heap.size, 2, none⟩ = some (.string gl) := (cell_of_row _ _ 2 _ _ _ R0).trans rfl
  have e3 : W0.cell? ⟨w.heap.size, 3, none⟩ = some (.slice A3 code.length c3) := (cell_of_row _ _ 3 _ _ _ R0).trans rfl
  have g0 : W0.cell? ⟨w.heap.size + 1, 0, none⟩ = some (.int .u8 o) := (cell_of_row _ _ 0 _ _ _ R1).trans rfl
  have g1 : W0.cell? ⟨w.heap.size + 1, 1, none⟩ = some (.int .u8 f1) := (cell_of_row _ _ 1 _ _ _ R1).trans rfl
  have g2 : W0.cell? ⟨w.heap.size + 1, 2, none⟩ = some (.int .u8 f2) := (cell_of_row _ _ 2 _ _ _ R1).trans rfl
  have g3 : W0.cell? ⟨w.heap.size + 1, 3, none⟩ = some (.int .u8 f3) := (cell_of_row _ _ 3 _ _ _ R1).trans rfl
  have g4 : W0.cell? ⟨w.heap.size + 1, 4, none⟩ = some (.int .i64 f4) := (cell_of_row _ _ 4 _ _ _ R1).trans rfl
  clear R0 R1
  go_region_held3 (fun w' => w'.cell? ⟨w.heap.size, 0, none⟩ = some (.slice A0 ts.length c0) ∧ w'.cell? ⟨w.heap.size, 1, none⟩ = some (.string la) ∧ w'.cell? ⟨w.heap.size, 2, none⟩ = some (.string gl) ∧ w'.cell? ⟨w.heap.size, 3, none⟩ = some (.slice A3 code.length c3) ∧ w'.cell? ⟨w.heap.size + 1, 1, none⟩ = some (.int .u8 f1) ∧ w'.cell? ⟨w.heap.size + 1, 2, none⟩ = some (.int .u8 f2))
      (first
        | (exact ⟨e0, e1, e2, e3, g1, g2⟩)
        | go_keep)
      ((first
        | (go_at_call 82; ((with_reducible refine (LOC.out _ ?side1 f1 HA.out.1 HA.out.2).mono ?_); (case side1 => first | exact HW.out | exact below_drew1 HW.out); rintro e w1 ⟨rfl, hb1⟩; obtain ⟨hq1, hf1⟩ := bcell (B := w.heap.size + 1 + 1) (hb1.mono zz); have e0 := (hq1 _ _ (by omega)).trans e0; have e1 := (hq1 _ _ (by omega)).trans e1; have e2 := (hq1 _ _ (by omega)).trans e2; have e3 := (hq1 _ _ (by omega)).trans e3; have g0 := (hq1 _ _ (by omega)).trans g0; have g1 := (hq1 _ _ (by omega)).trans g1; have g2 := (hq1 _ _ (by omega)).trans g2; have g3 := (hq1 _ _ (by omega)).trans g3; have g4 := (hq1 _ _ (by omega)).trans g4; have HW := Aside0.mk (show Below w.heap.size w w1 from below_step (by first | exact HW.out | exact below_drew1 HW.out) hb1); have zz : w.heap.size + 1 + 1 ≤ w1.heap.size := Nat.le_trans zz hb1.size; clear hb1 hq1 hf1))
        | (go_at_call 82; ((with_reducible refine (LOC.out _ ?side1 f2 HBB.out.1 HBB.out.2).mono ?_); (case side1 => first | exact HW.out | exact below_drew1 HW.out); rintro e w1 ⟨rfl, hb1⟩; obtain ⟨hq1, hf1⟩ := bcell (B := w.heap.size + 1 + 1) (hb1.mono zz); have e0 := (hq1 _ _ (by omega)).trans e0; have e1 := (hq1 _ _ (by omega)).trans e1; have e2 := (hq1 _ _ (by omega)).trans e2; have e3 := (hq1 _ _ (by omega)).trans e3; have g0 := (hq1 _ _ (by omega)).trans g0; have g1 := (hq1 _ _ (by omega)).trans g1; have g2 := (hq1 _ _ (by omega)).trans g2; have g3 := (hq1 _ _ (by omega)).trans g3; have g4 := (hq1 _ _ (by omega)).trans g4; have HW := Aside0.mk (show Below w.heap.size w w1 from below_step (by first | exact HW.out | exact below_drew1 HW.out) hb1); have zz : w.heap.size + 1 + 1 ≤ w1.heap.size := Nat.le_trans zz hb1.size; clear hb1 hq1 hf1))))
  have GLB : Aside0 (∀ W, Below w.heap.size w W → ∀ a : Int, 0 ≤ a → a ≤ 255 → Calls Tryd.prog 86 #[.agg #[.slice A0 ts.length c0, .string la, .string gl, .slice A3 code.length c3], .int .u8 a] W fun e w' => e = .returned (.int .i64 (atv ts gl a)) ∧ Below W.heap.size W w') := ⟨fun W hW a h0 h1 => Glob_c ⟨A0, c0, ts, la, gl, A3, c3, code⟩ W (HP.out.below hW) a h0 h1⟩
  have NUM : Aside0 (∀ W, Below w.heap.size w W → ∀ a n : Int, Calls Tryd.prog 84 #[.agg #[.slice A0 ts.length c0, .string la, .string gl, .slice A3 code.length c3], .int .i64 a, .int .i64 n] W fun e w' => e = .returned (.bool (numB ts a n)) ∧ Below W.heap.size W w') := ⟨fun W hW a n => number_c ⟨A0, c0, ts, la, gl, A3, c3, code⟩ W (HP.out.below hW) a n⟩
  have TO : Aside0 (∀ W, Below w.heap.size w W → ∀ a n : Int, Calls Tryd.prog 85 #[.agg #[.slice A0 ts.length c0, .string la, .string gl, .slice A3 code.length c3], .int .i64 a, .int .i64 n] W fun e w' => e = .returned (.int .i64 (to_ ts a n)) ∧ Below W.heap.size W w') := ⟨fun W hW a n => to_c ⟨A0, c0, ts, la, gl, A3, c3, code⟩ W (HP.out.below hW) a n⟩
  obtain rfl | rfl | rfl | rfl | rfl | rfl | rfl | rfl | rfl | rfl | rfl | rfl | rfl | rfl | rfl : o = 1 ∨ o = 2 ∨ o = 3 ∨ o = 4 ∨ o = 5 ∨ o = 6 ∨ o = 7 ∨ o = 8 ∨ o = 9 ∨ o = 10 ∨ o = 11 ∨ o = 12 ∨ o = 13 ∨ o = 14 ∨ o = 15 := by omega
  all_goals
    go_wp2_with (first
      | (go_at_call 82; (with_reducible refine (LOC.out _ HW.out f3 HCC.out.1 HCC.out.2).mono ?_); rintro e w2 ⟨rfl, hb2⟩; have HW := Aside0.mk (below_step HW.out hb2); clear hb2)
      | (go_at_call 86; (with_reducible refine (GLB.out _ HW.out f2 HBB.out.1 HBB.out.2).mono ?_); rintro e w2 ⟨rfl, hb2⟩; have HW := Aside0.mk (below_step HW.out hb2); clear hb2)
      | (go_at_call 86; (with_reducible refine (GLB.out _ HW.out f1 HA.out.1 HA.out.2).mono ?_); rintro e w2 ⟨rfl, hb2⟩; have HW := Aside0.mk (below_step HW.out hb2); clear hb2)
      | (go_at_call 84; (with_reducible refine (NUM.out _ HW.out _ f4).mono ?_); rintro e w2 ⟨rfl, hb2⟩; have HW := Aside0.mk (below_step HW.out hb2); clear hb2)
      | (go_at_call 85; (with_reducible refine (TO.out _ HW.out _ f4).mono ?_); rintro e w2 ⟨rfl, hb2⟩; have HW := Aside0.mk (below_step HW.out hb2); clear hb2)
      | (go_at_call 83; (with_reducible refine (one_c _ _ _).mono ?_); rintro e w2 ⟨rfl, hb2⟩; have HW := Aside0.mk (below_step HW.out hb2); clear hb2))
  all_goals
    go_ret
    refine ⟨?_, HW.out⟩
    first | (simp [kindsB, *]; done) | (simp [kindsB]; omega)
end
end Go.Proofs.YtfkfpcciacplkaaDoor.PL

namespace Go.Proofs.YtfkfpcciacplkaaDoor.NU
open Go.RowKit Go.Proofs.YtfkfpcciacplkaaDoorW.PrintWords Go.Proofs.YtfkfpcciacplkaaDoor.FM
abbrev nd (u : Nat) : Nat := Lib.nDigits u
theorem nd_pos (u : Nat) : 1 ≤ nd u := Lib.nDigits_pos u
theorem nd_min (u : Nat) (h : 2 ≤ nd u) : 10 ^ (nd u - 1) ≤ u := by
  induction u using Nat.strongRecOn with
  | ind u ih =>
    by_cases h10 : u < 10
    · rw [nd, Lib.nDigits_small h10] at h
      omega
    · have e : nd u = nd (u / 10) + 1 := Lib.nDigits_big h10
      rw [e]
      by_cases h2 : 2 ≤ nd (u / 10)
      · have := ih (u / 10) (by omega) h2
        have e2 : 10 ^ (nd (u / 10) + 1 - 1) = 10 ^ (nd (u / 10) - 1) * 10 := by
          rw [← Nat.pow_succ]
          congr 1
          omega
        rw [e2]
        omega
      · have e1 : nd (u / 10) = 1 := by have := nd_pos (u / 10); omega
        rw [e1]
        omega
theorem nd_le (u : Nat) (h : u ≤ 9223372036854775808) : nd u ≤ 19 := by
  rcases Nat.lt_or_ge 19 (nd u) with h' | h'
  · have h1 := nd_min u (by omega)
    have h2 : 10 ^ 19 ≤ 10 ^ (nd u - 1) := Nat.pow_le_pow_right (by decide) (by omega)
    omega
  · exact h'
def dgt (u j : Nat) : Nat := u / 10 ^ (nd u - 1 - j) % 10
theorem dgt_lt (u j : Nat) : dgt u j < 10 := Nat.mod_lt _ (by decide)
theorem dec_get (u j : Nat) (h : j < nd u) : (Lib.decDigits u)[j]? = some (UInt8.ofNat (48 + dgt u j)) := by
  rw [Lib.decDigits_eq, List.getElem?_map, List.getElem?_range h]
  simp only [Option.map_some, dgt, Lib.dg]
theorem dec_len (u : Nat) : (Lib.decDigits u).length = nd u := Lib.decDigits_length u
def acc (u j : Nat) : Nat := u / 10 ^ (nd u - j)
theorem acc_zero (u : Nat) : acc u 0 = 0 := Nat.div_eq_of_lt (Lib.lt_pow_nDigits u)
theorem acc_all (u : Nat) : acc u (nd u) = u := by simp [acc]
theorem acc_succ (u j : Nat) (h : j < nd u) : acc u (j + 1) = acc u j * 10 + dgt u j := by
  unfold acc dgt
  have e : nd u - j = (nd u - (j + 1)) + 1 := by omega
  have e2 : nd u - 1 - j = nd u - (j + 1) := by omega
  rw [e, e2, Nat.pow_succ, ← Nat.div_div_eq_div_mul]
  omega
theorem acc_le (u j : Nat) : acc u j ≤ u := Nat.div_le_self ..
theorem first (u : Nat) (h : 2 ≤ nd u) : dgt u 0 ≠ 0 := by
  have h1 := nd_min u h
  have h2 := Lib.lt_pow_nDigits u
  unfold dgt
  have e : 10 ^ nd u = 10 ^ (nd u - 1) * 10 := by
    rw [← Nat.pow_succ]
    congr 1
    omega
  have h3 : u / 10 ^ (nd u - 1 - 0) < 10 := by
    rw [Nat.sub_zero]
    exact Nat.div_lt_of_lt_mul (by rw [← e]; exact h2)
  have h4 : 1 ≤ u / 10 ^ (nd u - 1 - 0) := by
    rw [Nat.sub_zero]
    exact (Nat.one_le_div_iff (Nat.pow_pos (by decide))).2 h1
  omega
theorem ofNat_toNat (d : Nat) (h : d < 10) : (UInt8.ofNat (48 + d)).toNat = 48 + d := by
  simp only [UInt8.toNat_ofNat']
  omega
theorem size_mk (l : List UInt8) : (⟨l.toArray⟩ : ByteArray).size = l.length := rfl
theorem bt_mk (l : List UInt8) (j : Nat) (x : UInt8) (h : l[j]? = some x) : bt ⟨l.toArray⟩ j = x.toNat := by
  obtain ⟨hj, rfl⟩ := List.getElem?_eq_some_iff.1 h
  unfold bt
  rw [dif_pos (show ((j : Int).toNat) < (⟨l.toArray⟩ : ByteArray).size from hj)]
  rfl
theorem num_pos (u : Nat) : (num u).size = nd u ∧ ∀ j : Nat, j < nd u → bt (num u) j = 48 + dgt u j := by
  unfold num
  rw [Lib.itoa_nonneg]
  refine ⟨dec_len u, fun j hj => ?_⟩
  rw [bt_mk _ j _ (dec_get u j hj), ofNat_toNat _ (dgt_lt u j)]
  rfl
theorem num_neg (u : Nat) (h : 1 ≤ u) : (num (-(u : Int))).size = nd u + 1 ∧ bt (num (-(u : Int))) 0 = 45 ∧ ∀ j : Nat, j < nd u → bt (num (-(u : Int))) (j + 1) = 48 + dgt u j := by
  unfold num
  rw [Lib.itoa_neg u h]
  refine ⟨by rw [size_mk, List.length_cons, dec_len], (by have := bt_mk (45 :: Lib.decDigits u) 0 _ rfl; exact this), fun j hj => ?_⟩
  have := bt_mk (45 :: Lib.decDigits u) (j + 1) _ (by rw [List.getElem?_cons_succ]; exact dec_get u j hj)
  rw [ofNat_toNat _ (dgt_lt u j)] at this
  rw [Int.natCast_add] at this
  exact this
end Go.Proofs.YtfkfpcciacplkaaDoor.NU

namespace Go.Proofs.YtfkfpcciacplkaaDoor.NU
open Go.RowKit Go.Proofs.YtfkfpcciacplkaaDoorW.PrintWords Go.Proofs.YtfkfpcciacplkaaDoor.FM
set_option linter.unusedVariables false
set_option linter.unusedSectionVars false
set_option linter.unusedSimpArgs false
theorem ne_false {a b : Int} (h : a ≠ b) : (a == b) = false := beq_eq_false_iff_ne.2 h
theorem isE {s : ByteArray} (h : 1 ≤ s.size) : s.toList.isEmpty = false := by
  rw [ByteArray.toList_eq, List.isEmpty_eq_false_iff]
  intro e
  have : s.data.toList.length = s.size := by simp
  rw [e] at this
  simp at this
  omega
theorem bt_zero (s : ByteArray) {c : Int} (h : bt s 0 = c) : ∀ h : 0 < s.size, ((s[0]'h).toNat : Int) = c := fun hh => by rw [← h]; exact bt_at s 0 hh
theorem bt_nat (s : ByteArray) (m : Nat) {c : Int} (h : bt s m = c) : ∀ h : m < s.size, ((s[m]'h).toNat : Int) = c := fun hh => by
  rw [← h]
  have := bt_at s (m : Int) (by simpa using hh)
  simpa using this
theorem bt_tail (s : ByteArray) (n j : Nat) (hn : s.size = n + 1) (hj : j < n) : bt (s.extract 1 (n + 1)) j = bt s (j + 1) := by
  have e1 : (s.extract 1 (n + 1)).size = n := by rw [ByteArray.size_extract]; omega
  unfold bt
  rw [dif_pos (by rw [e1]; simpa using hj), dif_pos (by rw [hn]; omega)]
  congr 2
  rw [ByteArray.getElem_extract]
  congr 1
  omega
section
variable (w : World) (s : ByteArray) (u : Nat) (hu : u ≤ 9223372036854775808) (hs : s.size = nd u) (hb : ∀ j : Nat, j < nd u → bt s j = 48 + dgt u j)
include hu hs hb
set_option maxRecDepth 100000 in
theorem digits_pos : Calls Tryd.prog 127 #[.string s] w fun e w' => e = .returned (.bool true) ∧ w' = w := by
  have n1 := nd_pos u
  have n19 := nd_le u hu
  have b0 := hb 0 (by omega)
  have d0 := dgt_lt u 0
  have f0 := first u
  obtain ⟨c0, e0⟩ : ∃ c0, c0 = bt s 0 := ⟨_, rfl⟩
  have h0 := bt_zero s e0.symm
  have hE := isE (s := s) (by omega)
  have hm : (c0 == 45) = false := ne_false (by rw [e0]; have := b0; simp only [Int.natCast_zero] at this; omega)
  have H := Aside0.mk hb
  obtain ⟨N, eN⟩ : ∃ N, N = nd u := ⟨_, rfl⟩
  have hz : (c0 == 48) = true → ¬ ((N : Int) > 1) := fun hc h => by
    have hc := beq_iff_eq.1 hc
    have := f0 (by omega)
    simp only [Int.natCast_zero] at b0
    omega
  rw [← eN] at hs n1 n19 H
  clear hb b0 d0 f0 e0 eN
  cases hq : c0 == 48
  case' true => have hN1 := hz hq
  all_goals
    clear hz
    go_enter Tryd.func127, Tryd.ntmps127
    go_wp2
    go_loop [4] (fun a => ∃ m : Nat, a = .int .i64 m ∧ m ≤ N) (fun a => N - (intOf a).toNat)
    case atStart => exact ⟨0, rfl, Nat.zero_le _⟩
    case round =>
      obtain ⟨m, rfl, hm2⟩ := hrel
      by_cases hml : (m : Int) < (N : Int)
      · obtain ⟨c, ec⟩ : ∃ c, c = bt s m := ⟨_, rfl⟩
        have hx := bt_nat s m ec.symm
        have hv := H.out m (by omega)
        have hd := dgt_lt u m
        have g1 : ¬ c < 48 := by omega
        have g2 : ¬ c > 57 := by omega
        clear hv ec
        have m0 : (0 : Int) ≤ m := by omega
        go_wp2
        refine ⟨⟨m + 1, by go_num, by omega⟩, ?_⟩
        simp [intOf]
        omega
      · go_wp2
        go_ret
        exact ⟨rfl, rfl⟩
end
section
variable (w : World) (s : ByteArray) (u : Nat) (hu : u ≤ 9223372036854775808) (hs : s.size = nd u + 1) (h45 : bt s 0 = 45) (hb : ∀ j : Nat, j < nd u → bt s (j + 1) = 48 + dgt u j) (h1 : 1 ≤ u)
include hu hs h45 hb h1
theorem zero_one : dgt u 0 ≠ 0 := by
  by_cases h : 2 ≤ nd u
  · exact first u h
  · have e : nd u = 1 := by have := nd_pos u; omega
    have := Lib.lt_pow_nDigits u
    unfold dgt
    rw [show Lib.nDigits u = 1 from e] at this
    rw [e]
    simp
    omega
set_option maxRecDepth 100000 in
theorem digits_neg : Calls Tryd.prog 127 #[.string s] w fun e w' => e = .returned (.bool true) ∧ w' = w := by
  have n1 := nd_pos u
  have n19 := nd_le u hu
  have h0 := bt_zero s h45
  have z := zero_one s u hu hs h45 hb h1
  obtain ⟨d, ed⟩ : ∃ d, d = s.extract 1 (nd u + 1) := ⟨_, rfl⟩
  have hds : d.size = nd u := by rw [ed, ByteArray.size_extract]; omega
  have hdb : ∀ j : Nat, j < nd u → bt d j = 48 + dgt u j := fun j hj => by rw [ed, bt_tail s (nd u) j hs hj]; exact hb j hj
  have H := Aside0.mk hdb
  have d0 := bt_zero d (hdb 0 (by omega))
  have hq : (((48 : Int) + (dgt u 0 : Int)) == 48) = false := ne_false (by omega)
  have hE := isE (s := d) (by omega)
  obtain ⟨N, eN⟩ : ∃ N, N = nd u := ⟨_, rfl⟩
  rw [← eN] at hs n1 n19 H hds ed
  clear hb h45 eN hdb z
  go_enter Tryd.func127, Tryd.ntmps127
  go_upto_region 4 with (fail)
  rw [← ed]
  clear ed h0
  go_wp2
  go_loop [4] (fun a => ∃ m : Nat, a = .int .i64 m ∧ m ≤ N) (fun a => N - (intOf a).toNat)
  case atStart => exact ⟨0, rfl, Nat.zero_le _⟩
  case round =>
    obtain ⟨m, rfl, hm2⟩ := hrel
    by_cases hml : (m : Int) < (N : Int)
    · obtain ⟨c, ec⟩ : ∃ c, c = bt d m := ⟨_, rfl⟩
      have hx := bt_nat d m ec.symm
      have hv := H.out m (by omega)
      have hd := dgt_lt u m
      have g1 : ¬ c < 48 := by omega
      have g2 : ¬ c > 57 := by omega
      clear hv ec
      have m0 : (0 : Int) ≤ m := by omega
      go_wp2
      refine ⟨⟨m + 1, by go_num, by omega⟩, ?_⟩
      simp [intOf]
      omega
    · go_wp2
      go_ret
      exact ⟨rfl, rfl⟩
end
set_option maxRecDepth 100000 in
theorem number_pos (w : World) (s : ByteArray) (u : Nat) (hu : u ≤ 9223372036854775807) (hs : s.size = nd u) (hb : ∀ j : Nat, j < nd u → bt s j = 48 + dgt u j) :
    Calls Tryd.prog 111 #[.string s] w fun e w' => e = .returned (.tuple #[.int .i64 u, .int .i64 0]) ∧ w' = w := by
  have D := Aside0.mk (digits_pos w s u (by omega) hs hb)
  have n1 := nd_pos u
  have n19 := nd_le u (by omega)
  have d0 := dgt_lt u 0
  have b0 := bt_zero s (hb 0 (by omega))
  have hm : (((48 : Int) + (dgt u 0 : Int)) == 45) = false := ne_false (by omega)
  have H := Aside0.mk hb
  have AC := Aside0.mk (acc_succ u)
  have AL := Aside0.mk (acc_le u)
  have AZ := Aside0.mk (acc_zero u)
  have AA := acc_all u
  obtain ⟨N, eN⟩ : ∃ N, N = nd u := ⟨_, rfl⟩
  rw [← eN] at hs n1 n19 H AC AA
  clear hb eN
  go_enter Tryd.func111, Tryd.ntmps111
  go_wp2_with (go_at_call 127; (with_reducible refine D.out.mono ?_); rintro e w' ⟨rfl, rfl⟩)
  go_loop [6, 7] (fun b a => ∃ m : Nat, a = .int .i64 m ∧ b = .int .u64 (acc u m) ∧ m ≤ N) (fun _ a => N - (intOf a).toNat)
  case atStart => exact ⟨0, rfl, by rw [AZ.out]; rfl, Nat.zero_le _⟩
  case round =>
    obtain ⟨m, rfl, rfl, hm2⟩ := hrel
    by_cases hml : (m : Int) < (N : Int)
    · have hx := bt_nat s m (H.out m (by omega))
      have hd := dgt_lt u m
      have ha := AC.out m (by omega)
      have hl := AL.out (m + 1)
      have m0 : (0 : Int) ≤ m := by omega
      have m19 : (m : Int) < 19 := by omega
      go_wp2
      refine ⟨⟨m + 1, by go_num, ?_, by omega⟩, ?_⟩
      · congr 1
        omega
      · simp [intOf]
        omega
    · obtain rfl : m = N := by omega
      rw [AA]
      have n19' : ¬ ((m : Int) > 19) := by omega
      have g1 : ¬ ((u : Int) > 9223372036854775808) := by omega
      have g2 : ((u : Int) == 9223372036854775808) = false := ne_false (by omega)
      go_wp2
      go_ret2
      exact ⟨rfl, rfl⟩
set_option maxRecDepth 100000 in
theorem number_neg (w : World) (s : ByteArray) (u : Nat) (hu : u ≤ 9223372036854775808) (hs : s.size = nd u + 1) (h45 : bt s 0 = 45) (hb : ∀ j : Nat, j < nd u → bt s (j + 1) = 48 + dgt u j) (h1 : 1 ≤ u) :
    Calls Tryd.prog 111 #[.string s] w fun e w' => e = .returned (.tuple #[.int .i64 (-(u : Int)), .int .i64 0]) ∧ w' = w := by
  have D := Aside0.mk (digits_neg w s u (by omega) hs h45 hb h1)
  have n1 := nd_pos u
  have n19 := nd_le u (by omega)
  have b0 := bt_zero s h45
  obtain ⟨d, ed⟩ : ∃ d, d = s.extract 1 (nd u + 1) := ⟨_, rfl⟩
  have hds : d.size = nd u := by rw [ed, ByteArray.size_extract]; omega
  have H := Aside0.mk (show ∀ j : Nat, j < nd u → bt d j = 48 + dgt u j from fun j hj => by rw [ed, bt_tail s (nd u) j hs hj]; exact hb j hj)
  have AC := Aside0.mk (acc_succ u)
  have AL := Aside0.mk (acc_le u)
  have AZ := Aside0.mk (acc_zero u)
  have AA := acc_all u
  obtain ⟨N, eN⟩ : ∃ N, N = nd u := ⟨_, rfl⟩
  rw [← eN] at hs n1 n19 H AC AA hds ed
  clear hb eN h45
  go_enter Tryd.func111, Tryd.ntmps111
  go_upto_region 7 with (go_at_call 127; (with_reducible refine D.out.mono ?_); rintro e w' ⟨rfl, rfl⟩)
  rw [← ed]
  clear ed b0
  go_wp2
  go_loop [6, 7] (fun b a => ∃ m : Nat, a = .int .i64 m ∧ b = .int .u64 (acc u m) ∧ m ≤ N) (fun _ a => N - (intOf a).toNat)
  case atStart => exact ⟨0, rfl, by rw [AZ.out]; rfl, Nat.zero_le _⟩
  case round =>
    obtain ⟨m, rfl, rfl, hm2⟩ := hrel
    by_cases hml : (m : Int) < (N : Int)
    · have hx := bt_nat d m (H.out m (by omega))
      have hd := dgt_lt u m
      have ha := AC.out m (by omega)
      have hl := AL.out (m + 1)
      have m0 : (0 : Int) ≤ m := by omega
      have m19 : (m : Int) < 19 := by omega
      go_wp2
      refine ⟨⟨m + 1, by go_num, ?_, by omega⟩, ?_⟩
      · congr 1
        omega
      · simp [intOf]
        omega
    · obtain rfl : m = N := by omega
      rw [AA]
      have n19' : ¬ ((m : Int) > 19) := by omega
      have g1 : ¬ ((u : Int) > 9223372036854775808) := by omega
      by_cases h : (u : Int) = 9223372036854775808
      · have g2 : ((u : Int) == 9223372036854775808) = true := beq_iff_eq.2 h
        rw [h] at g1 g2 ⊢
        go_wp2
        go_ret2
        refine ⟨?_, rfl⟩
        show Ending.returned (.tuple #[.int .i64 (wrap64 (-wrap64 9223372036854775808)), .int .i64 0]) = _
        rw [show wrap64 (-wrap64 9223372036854775808) = -9223372036854775808 by unfold wrap64; decide +kernel]
      · have g2 : ((u : Int) == 9223372036854775808) = false := ne_false h
        have g3 : (u : Int) < 9223372036854775808 := by omega
        go_wp2
        go_ret2
        exact ⟨rfl, rfl⟩
theorem number_num (w : World) (n : Int) (h0 : -9223372036854775808 ≤ n) (h1 : n ≤ 9223372036854775807) :
    Calls Tryd.prog 111 #[.string (num n)] w fun e w' => e = .returned (.tuple #[.int .i64 n, .int .i64 0]) ∧ w' = w := by
  by_cases h : 0 ≤ n
  · obtain ⟨u, rfl⟩ := Int.eq_ofNat_of_zero_le h
    obtain ⟨a, b⟩ := num_pos u
    exact number_pos w _ u (by omega) a b
  · obtain ⟨u, hu⟩ := Int.eq_ofNat_of_zero_le (show 0 ≤ -n by omega)
    obtain rfl : n = -(u : Int) := by omega
    obtain ⟨a, b, c⟩ := num_neg u (by omega)
    exact number_neg w _ u (by omega) a b c (by omega)
end Go.Proofs.YtfkfpcciacplkaaDoor.NU

namespace Go.Proofs.YtfkfpcciacplkaaDoor.SH
open Go.RowKit Go.Proofs.YtfkfpcciacplkaaDoorW.PrintWords Go.Proofs.YtfkfpcciacplkaaDoor.FM Go.Proofs.YtfkfpcciacplkaaDoor.CR Go.Proofs.YtfkfpcciacplkaaDoor.ST0
set_option linter.unusedVariables false
set_option linter.unusedSectionVars false
set_option linter.unusedSimpArgs false
def nmB (o : Nat) : ByteArray := ⟨(opsL.getD o ([], [])).1.toArray⟩
def haB (o : Nat) : ByteArray := ⟨(hasOf o).toArray⟩
theorem o15 {o : Nat} (h : o ≤ 15) : o = 0 ∨ o = 1 ∨ o = 2 ∨ o = 3 ∨ o = 4 ∨ o = 5 ∨ o = 6 ∨ o = 7 ∨ o = 8 ∨ o = 9 ∨ o = 10 ∨ o = 11 ∨ o = 12 ∨ o = 13 ∨ o = 14 ∨ o = 15 := by omega
theorem out_B {o : Nat} (h : o = 0 ∨ 16 ≤ o) : nmB o = ⟨#[]⟩ ∧ haB o = ⟨#[]⟩ := by
  rcases h with rfl | h
  · exact ⟨rfl, rfl⟩
  · have e : opsL.getD o ([], []) = ([], []) := by rw [List.getD_eq_getElem?_getD, List.getElem?_eq_none (by show 16 ≤ o; exact h)]; rfl
    unfold nmB haB hasOf
    rw [e]
    exact ⟨rfl, rfl⟩
set_option maxRecDepth 100000 in
theorem rest_c (w : World) (o : Nat) (h : o = 0 ∨ 11 ≤ o) : Calls Tryd.prog 110 #[.int .u8 o] w fun e w' => e = .returned (.tuple #[.string (nmB o), .string (haB o)]) ∧ w' = w := by
  by_cases h15 : 1 ≤ o ∧ o ≤ 15
  · obtain rfl | rfl | rfl | rfl | rfl : o = 11 ∨ o = 12 ∨ o = 13 ∨ o = 14 ∨ o = 15 := by omega
    all_goals
      go_enter Tryd.func110, Tryd.ntmps110
      go_wp2
      go_ret2
      exact ⟨rfl, rfl⟩
  · obtain ⟨e1, e2⟩ := out_B (o := o) (by omega)
    rw [e1, e2]
    have h1 : ((o : Int) == 11) = false := NU.ne_false (by omega)
    have h2 : ((o : Int) == 12) = false := NU.ne_false (by omega)
    have h3 : ((o : Int) == 13) = false := NU.ne_false (by omega)
    have h4 : ((o : Int) == 14) = false := NU.ne_false (by omega)
    have h5 : ((o : Int) == 15) = false := NU.ne_false (by omega)
    clear e1 e2
    go_enter Tryd.func110, Tryd.ntmps110
    go_wp2
    go_ret2
    exact ⟨rfl, rfl⟩
set_option maxHeartbeats 2000000 in
set_option maxRecDepth 100000 in
theorem shape_c (w : World) (o : Nat) : Calls Tryd.prog 79 #[.int .u8 o] w fun e w' => e = .returned (.tuple #[.string (nmB o), .string (haB o)]) ∧ w' = w := by
  by_cases h10 : 1 ≤ o ∧ o ≤ 10
  · obtain rfl | rfl | rfl | rfl | rfl | rfl | rfl | rfl | rfl | rfl : o = 1 ∨ o = 2 ∨ o = 3 ∨ o = 4 ∨ o = 5 ∨ o = 6 ∨ o = 7 ∨ o = 8 ∨ o = 9 ∨ o = 10 := by omega
    all_goals
      go_enter Tryd.func79, Tryd.ntmps79
      go_wp2_with (fail)
      go_ret2
      exact ⟨rfl, rfl⟩
  · have R := Aside0.mk (rest_c w o (by omega))
    have h1 : ((o : Int) == 1) = false := NU.ne_false (by omega)
    have h2 : ((o : Int) == 2) = false := NU.ne_false (by omega)
    have h3 : ((o : Int) == 3) = false := NU.ne_false (by omega)
    have h4 : ((o : Int) == 4) = false := NU.ne_false (by omega)
    have h5 : ((o : Int) == 5) = false := NU.ne_false (by omega)
    have h6 : ((o : Int) == 6) = false := NU.ne_false (by omega)
    have h7 : ((o : Int) == 7) = false := NU.ne_false (by omega)
    have h8 : ((o : Int) == 8) = false := NU.ne_false (by omega)
    have h9 : ((o : Int) == 9) = false := NU.ne_false (by omega)
    have h10' : ((o : Int) == 10) = false := NU.ne_false (by omega)
    clear h10
    go_enter Tryd.func79, Tryd.ntmps79
    go_wp2_with (go_at_call 110; (with_reducible refine R.out.mono ?_); rintro e w' ⟨rfl, rfl⟩)
    go_ret2
    exact ⟨rfl, rfl⟩
def partV (f1 f2 f3 f4 c : Int) : Int := if c = 97 then f1 else if c = 98 then f2 else if c = 99 then f3 else f4
theorem sizeI : (Tryd.prog.info? 68).map (·.size) = some 5 := by kernel_rfl
theorem ldI_run {w : World} {g : Nat} {cs : Array Value} (hg : w.heap[g]? = some (.cells cs 68 (0, 0))) (hs : cs.size = 5) : (loadVar 68 ⟨g, 0, none⟩).run Tryd.prog w = .ok (.agg cs) w :=
  run_loadVar_row (P := Tryd.prog) w g 68 68 cs (0, 0) _ hg Tryd.underlying68 rfl (by rw [sizeI, hs])
section
variable {ops : Array Oper} {rest : List Oper} {o : Oper} {a : Act} {w w' : World} {Q : Exit → Act → World → Prop} {x y : Operand} {g : Nat} {cs old : Array Value}
theorem ldI (ho : o.op = .load 68 x) (hgd : o.guard = none) (hx : a.eval x = .pointer (some ⟨g, 0, none⟩)) (hg : w.heap[g]? = some (.cells cs 68 (0, 0))) (hs : cs.size = 5)
    (h : wpList Tryd.prog ops Q rest (a.put o.dst (.agg cs)) w) : wpList Tryd.prog ops Q (o :: rest) a w :=
  wpList_load_row hgd 68 x ho g hx 68 cs (0, 0) _ hg Tryd.underlying68 rfl (by rw [sizeI, hs]) h
theorem srI (ho : o.op = .store 68 x y) (hgd : o.guard = none) (hx : a.eval x = .pointer (some ⟨g, 0, none⟩)) (hy : a.eval y = .agg cs) (hg : w.heap[g]? = some (.cells old 68 (0, 0)))
    (hs : cs.size = 5) (hs' : old.size = 5) (h1 : cs.toList.all (·.oneCell') = true) (hw : w.setRow g cs = w')
    (h : wpList Tryd.prog ops Q rest (a.put o.dst undef) w') : wpList Tryd.prog ops Q (o :: rest) a w := by
  subst hw
  exact wpList_store_row hgd 68 x y ho g cs hx hy 68 old hg (by rw [sizeI, hs]) (by rw [hs, hs']) (by rw [← Array.all_toList]; exact h1) h
end
theorem ret2I {fn : Func} {R : Ending → World → Prop} {a : Act} {w : World} {p q : Tmp} {g : Nat} {cs : Array Value} {v : Value} (h : fn.results = #[.cell p 68, .tmp q]) (hd : a.defers = []) (hp : a.tmps.getD p undef = .pointer (some ⟨g, 0, none⟩))
    (hq : a.tmps.getD q undef = v) (hg : w.heap[g]? = some (.cells cs 68 (0, 0))) (hs : cs.size = 5) (hR : R (.returned (.tuple #[.agg cs, v])) w) : bodyPost Tryd.prog fn R .ret a w := by
  refine bodyPost_ret ?_ hd hR
  have hp' : a.tmps[p]?.getD undef = .pointer (some ⟨g, 0, none⟩) := by simpa using hp
  have hq' : a.tmps[q]?.getD undef = v := by simpa using hq
  simp [results, h, hp', hq', asAddr, ldI_run hg hs]
def wA (c n f : Int) : Int := if c = 97 then n else f
def wB (c n f : Int) : Int := if c = 98 then n else f
def wC (c n f : Int) : Int := if c = 99 then n else f
def wN (c n f : Int) : Int := if c = 110 then n else f
set_option maxRecDepth 100000 in
theorem with_c (w : World) (f0 f1 f2 f3 f4 c n : Int) (hc : c = 97 ∨ c = 98 ∨ c = 99 ∨ c = 110) (hn : c = 110 ∨ (0 ≤ n ∧ n ≤ 255)) :
    Calls Tryd.prog 112 #[.agg #[.int .u8 f0, .int .u8 f1, .int .u8 f2, .int .u8 f3, .int .i64 f4], .int .u8 c, .int .i64 n] w fun e w' => e = .returned (.tuple #[.agg #[.int .u8 f0, .int .u8 (wA c n f1), .int .u8 (wB c n f2), .int .u8 (wC c n f3), .int .i64 (wN c n f4)], .bool true]) ∧ Below w.heap.size w w' := by
  rcases hc with rfl | rfl | rfl | rfl
  case' inr.inr.inr => clear hn
  case' inl => have n0 : ¬ n < 0 := by omega
  case' inl => have n1 : ¬ n > 255 := by omega
  case' inr.inl => have n0 : ¬ n < 0 := by omega
  case' inr.inl => have n1 : ¬ n > 255 := by omega
  case' inr.inr.inl => have n0 : ¬ n < 0 := by omega
  case' inr.inr.inl => have n1 : ¬ n > 255 := by omega
  all_goals
    simp only [wA, wB, wC, wN, Int.reduceEq, reduceIte]
    go_enter Tryd.func112, Tryd.ntmps112
    go_wp2
    refine ret2I rfl rfl rfl rfl rowT rfl ⟨rfl, ?_⟩
    repeat (first | exact Below.refl _ _ | refine below_alloc ?_ _)
end Go.Proofs.YtfkfpcciacplkaaDoor.SH

namespace Go.Proofs.YtfkfpcciacplkaaDoor.SH
open Go.RowKit Go.Proofs.YtfkfpcciacplkaaDoorW.PrintWords Go.Proofs.YtfkfpcciacplkaaDoor.FM Go.Proofs.YtfkfpcciacplkaaDoor.CR Go.Proofs.YtfkfpcciacplkaaDoor.ST0
set_option linter.unusedVariables false
set_option linter.unusedSectionVars false
set_option linter.unusedSimpArgs false
def lV (o : Nat) (f1 f2 f3 f4 : Int) : List ByteArray := nmB o :: (hasOf o).map fun c => num (partV f1 f2 f3 f4 c.toNat)
theorem lV_len (o : Nat) (f1 f2 f3 f4 : Int) : (lV o f1 f2 f3 f4).length = (haB o).size + 1 := by
  show (List.map _ _).length + 1 = _
  rw [List.length_map]
  rfl
def gk (o k : Nat) (c : UInt8) (f : Int) : Int := if c ∈ (hasOf o).take k then f else 0
theorem nm_ne {m o : Nat} (h : m < o) (ho : o ≤ 15) : nmB o ≠ nmB m := by
  have : ∀ o : Fin 16, ∀ m : Fin 16, m < o → nmB o ≠ nmB m := by decide +kernel
  exact this ⟨o, by omega⟩ ⟨m, by omega⟩ h
theorem ha_mem : ∀ o : Fin 16, ∀ c ∈ hasOf o, c = 97 ∨ c = 98 ∨ c = 99 ∨ c = 110 := by decide +kernel
theorem ha_len : ∀ o : Fin 16, (hasOf o).length ≤ 3 ∧ (hasOf o).Nodup := by decide +kernel
theorem toList_inj {a b : ByteArray} (h : a.toList = b.toList) : a = b := by
  rw [ByteArray.toList_eq, ByteArray.toList_eq] at h
  obtain ⟨⟨a⟩⟩ := a
  obtain ⟨⟨b⟩⟩ := b
  simp at h
  rw [h]
theorem region_tail {P : Program} {id : Nat} {Q : Exit → Act → World → Prop} {a : Act} {w : World} {l : List Oper} (n : Nat) (hm : P.follows .mixedOrders = true) (hB : Region.lexTailB .any l.toArray n = true)
    (h : wpStill P l.toArray w.drew (fun a' => wpList P l.toArray Q (l.drop n) a' w.drew) (l.take n) a) : (Code.region id l.toArray true).wp P Q a w := wp_region_still_tail n hm hB h
theorem gk_succ (o k : Nat) (c x : UInt8) (f : Int) (h : (hasOf o)[k]? = some x) : gk o (k + 1) c f = if x = c then f else gk o k c f := by
  obtain ⟨hk, e⟩ := List.getElem?_eq_some_iff.1 h
  have e2 : (hasOf o).take (k + 1) = (hasOf o).take k ++ [x] := by rw [List.take_add_one, h]; rfl
  unfold gk
  rw [e2]
  by_cases hc : x = c
  · rw [if_pos hc, if_pos (by simp [hc])]
  · rw [if_neg hc]
    have : (c ∈ List.take k (hasOf o) ++ [x]) ↔ c ∈ List.take k (hasOf o) := by simp [show ¬ c = x from fun e => hc e.symm]
    simp only [this]
def gI (o k : Nat) (f1 f2 f3 f4 : Int) : Array Value := #[.int .u8 o, .int .u8 (gk o k 97 f1), .int .u8 (gk o k 98 f2), .int .u8 (gk o k 99 f3), .int .i64 (gk o k 110 f4)]
theorem gI_succ (o k : Nat) (f1 f2 f3 f4 : Int) (x : UInt8) (h : (hasOf o)[k]? = some x) (hx : x = 97 ∨ x = 98 ∨ x = 99 ∨ x = 110) :
    #[Value.int .u8 o, .int .u8 (wA x.toNat (partV f1 f2 f3 f4 x.toNat) (gk o k 97 f1)), .int .u8 (wB x.toNat (partV f1 f2 f3 f4 x.toNat) (gk o k 98 f2)), .int .u8 (wC x.toNat (partV f1 f2 f3 f4 x.toNat) (gk o k 99 f3)), .int .i64 (wN x.toNat (partV f1 f2 f3 f4 x.toNat) (gk o k 110 f4))] = gI o (k + 1) f1 f2 f3 f4 := by
  unfold gI
  rw [gk_succ o k 97 x f1 h, gk_succ o k 98 x f2 h, gk_succ o k 99 x f3 h, gk_succ o k 110 x f4 h]
  rcases hx with rfl | rfl | rfl | rfl
  all_goals simp [wA, wB, wC, wN, partV]
section
variable (w : World) (o : Nat) (f1 f2 f3 f4 : Int) (h1 : 1 ≤ o) (h15 : o ≤ 15) (b1 : 0 ≤ f1 ∧ f1 ≤ 255) (b2 : 0 ≤ f2 ∧ f2 ≤ 255) (b3 : 0 ≤ f3 ∧ f3 ≤ 255) (b4 : -9223372036854775808 ≤ f4 ∧ f4 ≤ 9223372036854775807)
  (A : Option Addr) (c : Nat) (hL : Kd.C Kd.string w A (lV o f1 f2 f3 f4).length (lV o f1 f2 f3 f4)) (hc : (lV o f1 f2 f3 f4).length ≤ c)
include h1 h15 b1 b2 b3 b4 hL hc
set_option maxHeartbeats 40000000 in
set_option maxRecDepth 100000 in
theorem read_c : Calls Tryd.prog 80 #[.slice A (lV o f1 f2 f3 f4).length c] w fun e w' =>
    e = .returned (.tuple #[.agg #[.int .u8 o, .int .u8 (gk o 3 97 f1), .int .u8 (gk o 3 98 f2), .int .u8 (gk o 3 99 f3), .int .i64 (gk o 3 110 f4)], .bool true]) ∧ Below w.heap.size w w' := by
  have hl3 := ha_len ⟨o, by omega⟩
  simp only at hl3
  obtain ⟨S, eS⟩ : ∃ S, S = (haB o).size := ⟨_, rfl⟩
  obtain ⟨L, eL⟩ : ∃ L, L = (lV o f1 f2 f3 f4).length := ⟨_, rfl⟩
  obtain rfl : L = S + 1 := by rw [eL, eS]; exact lV_len o f1 f2 f3 f4
  have S3 : S ≤ 3 := by rw [eS]; exact hl3.1
  obtain ⟨ad, rfl, hx⟩ : ∃ ad, A = some ad ∧ ∀ j : Nat, j < S + 1 → w.cell? (ad.add j) = some (.string ((lV o f1 f2 f3 f4).getD j ByteArray.empty)) := by
    obtain ⟨_, _, h3⟩ := Kd.reads_of_C (d := ByteArray.empty) hL
    obtain ⟨ad, e, h4⟩ := h3 (by omega)
    exact ⟨ad, e, fun j hj => h4 j (by omega)⟩
  have hS := eS.symm
  have HL := Aside0.mk hL
  have HX := Aside0.mk hx
  rw [← eL] at hc ⊢
  clear hL hx eL eS
  obtain ⟨Z, hZ⟩ : ∃ Z : World, Z = w.alloc (.cells #[.int .u8 0, .int .u8 0, .int .u8 0, .int .u8 0, .int .i64 0] 68) := ⟨_, rfl⟩
  have zZ : Z.heap.size = w.heap.size + 1 := by rw [hZ]; simp
  have HZ := Aside0.mk (show Below w.heap.size w Z by rw [hZ]; exact below_alloc (Below.refl _ _) _)
  have RZ := Aside0.mk (show Z.heap[w.heap.size]? = some (.cells #[.int .u8 0, .int .u8 0, .int .u8 0, .int .u8 0, .int .i64 0] 68 (0, 0)) by rw [hZ]; exact heap_alloc_new _ _)
  have HX := Aside0.mk (show ∀ j : Nat, j < S + 1 → ∀ W, Below Z.heap.size Z W → W.cell? (ad.add j) = some (.string ((lV o f1 f2 f3 f4).getD j ByteArray.empty)) from fun j hj W hW => by
    have h1 := HX.out j hj
    have h2 := HZ.out.cell (World.block_lt_of_cell? w _ h1)
    have h3 := hW.cell (p := ad.add j) (by have := World.block_lt_of_cell? w _ h1; omega)
    rw [h3, h2, h1])
  go_enter Tryd.func80, Tryd.ntmps80
  go_wp2
  rw [← hZ]
  clear hZ
  go_loopw [4] (fun a wr => ∃ m : Nat, a = .int .u8 m ∧ 1 ≤ m ∧ m ≤ o ∧ Z = wr) (fun a _ => 16 - (intOf a).toNat)
  case atStart => exact ⟨1, rfl, by omega, h1, rfl⟩
  case round =>
    obtain ⟨m, rfl, hm1, hmo, hZw⟩ := hrel
    rw [← hZw]
    clear hZw
    have m15 : (m : Int) ≤ 15 := by omega
    have hc0 : Z.cell? ad = some (.string (nmB o)) := by
      have := HX.out 0 (by omega) Z (Below.refl _ _)
      rw [Addr.add_zero'] at this
      exact this
    by_cases hlt : m < o
    · have hne : ¬ (nmB o).toList = (nmB m).toList := fun e => nm_ne hlt h15 (toList_inj e)
      go_wp2_with (go_at_call 79; (with_reducible refine (shape_c _ m).mono ?_); rintro e w' ⟨rfl, hw'⟩; rw [hw']; clear hw')
      refine ⟨⟨m + 1, by go_num, by omega, by omega, trivial⟩, ?_⟩
      simp [intOf]
      omega
    · obtain rfl : m = o := by omega
      go_wp2_with (go_at_call 79; (with_reducible refine (shape_c _ m).mono ?_); rintro e w' ⟨rfl, hw'⟩; rw [hw']; clear hw')
      have hst := Aside0.mk (And.intro (below_alloc (Below.refl _ Z) (.cells #[.int .u8 m, .int .u8 0, .int .u8 0, .int .u8 0, .int .i64 0] 68)) (row_new Z #[.int .u8 m, .int .u8 0, .int .u8 0, .int .u8 0, .int .i64 0] 68 (i := w.heap.size + 1) (by rw [zZ])))
      go_loopw [8] (fun a wr => ∃ k : Nat, a = .int .i64 k ∧ k ≤ S ∧ Below Z.heap.size Z wr ∧ wr.heap[w.heap.size + 1]? = some (.cells (gI m k f1 f2 f3 f4) 68 (0, 0))) (fun a _ => S - (intOf a).toNat)
      case atStart => exact ⟨0, rfl, Nat.zero_le _, hst.out.1, hst.out.2⟩
      case round =>
        obtain ⟨k, rfl, hk, hbW, hrow⟩ := hrel
        obtain ⟨W, hW⟩ : ∃ x : World, x = wr := ⟨_, rfl⟩
        subst hW
        have HBW := Aside0.mk hbW
        have HR := Aside0.mk hrow
        have k0 : (0 : Int) ≤ k := by omega
        by_cases hlt : (k : Int) < (S : Int)
        · obtain ⟨x, hxk⟩ : ∃ x, (hasOf m)[k]? = some x := ⟨_, List.getElem?_eq_getElem (by have : (hasOf m).length = S := hS; omega)⟩
          have hx4 := ha_mem ⟨m, by omega⟩ x (List.mem_of_getElem? hxk)
          have hbx := NU.bt_nat (haB m) k (NU.bt_mk (hasOf m) k x hxk)
          have hcell : W.cell? (ad.add (k + 1)) = some (.string (num (partV f1 f2 f3 f4 x.toNat))) := by
            rw [HX.out (k + 1) (by omega) W hbW]
            unfold lV
            rw [List.getD_cons_succ, List.getD_eq_getElem?_getD, List.getElem?_map, hxk]
            rfl
          obtain ⟨n, en⟩ : ∃ n, n = partV f1 f2 f3 f4 x.toNat := ⟨_, rfl⟩
          have hn : -9223372036854775808 ≤ n ∧ n ≤ 9223372036854775807 ∧ (x = 110 ∨ (0 ≤ n ∧ n ≤ 255)) := by
            rw [en]
            rcases hx4 with rfl | rfl | rfl | rfl
            · show _ ≤ f1 ∧ f1 ≤ _ ∧ (_ ∨ 0 ≤ f1 ∧ f1 ≤ 255); omega
            · show _ ≤ f2 ∧ f2 ≤ _ ∧ (_ ∨ 0 ≤ f2 ∧ f2 ≤ 255); omega
            · show _ ≤ f3 ∧ f3 ≤ _ ∧ (_ ∨ 0 ≤ f3 ∧ f3 ≤ 255); omega
            · show _ ≤ f4 ∧ f4 ≤ _ ∧ ((110 : UInt8) = 110 ∨ _); exact ⟨by omega, by omega, .inl rfl⟩
          rw [← en, Addr.add_succ'] at hcell
          have HXK := Aside0.mk hxk
          have HX4 := Aside0.mk hx4
          have HN := Aside0.mk hn
          have EN := Aside0.mk en
          clear hxk hx4 hn en
          go_upto_region 11 with (first
            | (go_at_call 111; (with_reducible refine (NU.number_num _ n HN.out.1 HN.out.2.1).mono ?_); rintro e w' ⟨rfl, rfl⟩))
          have C4 := Aside0.mk (show (x.toNat : Int) = 97 ∨ (x.toNat : Int) = 98 ∨ (x.toNat : Int) = 99 ∨ (x.toNat : Int) = 110 by rcases HX4.out with rfl | rfl | rfl | rfl <;> simp)
          have N4 := Aside0.mk (show (x.toNat : Int) = 110 ∨ (0 ≤ n ∧ n ≤ 255) by rcases HN.out.2.2 with rfl | h; exact .inl rfl; exact .inr h)
          have hx0 := HR.out
          have ki := fun j => cell_of_row w' (w.heap.size + 1) j _ _ _ hx0
          unfold gI at ki
          clear hx0
          have zB : w.heap.size + 1 < w'.heap.size := blk_lt HR.out
          have zC : ¬ w.heap.size + 1 = w'.heap.size := by omega
          have zD : ¬ w'.heap.size = w.heap.size + 1 := by omega
          have EG := Aside0.mk (gI_succ m k f1 f2 f3 f4 x HXK.out HX4.out)
          rw [← EN.out] at EG
          have HGO : Aside0 (Value.int .i64 ((k : Int) + 1) = .int .i64 ((k + 1 : Nat) : Int)) := ⟨by go_num⟩
          have HK1 : Aside0 (k + 1 ≤ S) := ⟨by omega⟩
          have HZ1 : Aside0 (Z.heap.size ≤ w.heap.size + 1) := ⟨by omega⟩
          have HZ2 : Aside0 (Z.heap.size ≤ w'.heap.size) := ⟨by omega⟩
          have HMS : Aside0 (S - (intOf (.int .i64 ((k : Int) + 1))).toNat < S - (intOf (.int .i64 (k : Int))).toNat) := ⟨by
            simp [intOf]
            omega⟩
          go_region_with (go_at_call 112; (with_reducible refine (with_c _ m (gk m k 97 f1) (gk m k 98 f2) (gk m k 99 f3) (gk m k 110 f4) x.toNat n C4.out N4.out).mono ?_); rintro e w2 ⟨rfl, hb2⟩; have r2 := (hb2.block (w.heap.size + 1) (by have := blk_lt HR.out; simp <;> omega)).trans (by first | exact row_drew HR.out | exact row_old _ _ _ (blk_lt HR.out) (row_drew HR.out)); unfold gI at r2; have z2 := blk_lt r2; (try have rz := (hb2.block w'.heap.size (by simp; done)).trans (row_new w'.drew _ _ rfl)); (try have kz := fun j => cell_of_row w2 w'.heap.size j _ _ _ rz); (try have fz := fun j => frozen_of_row w2 w'.heap.size j _ _ rz); have HB2 := Aside0.mk hb2; clear hb2)
          all_goals
            go_wp2_with (first
              | (apply ldI; (with_reducible rfl); rfl; rfl; exact rowT; rfl)
              | (apply srI; (with_reducible rfl); rfl; rfl; rfl; exact rowT; rfl; rfl; rfl; exact setT))
          all_goals
            refine ⟨⟨k + 1, HGO.out, HK1.out, ?_, ?_⟩, HMS.out⟩
            · refine below_row ?_ HZ1.out
              have hZ2 : Below Z.heap.size Z w2 := below_step (by repeat (first | exact HBW.out | refine below_alloc ?_ _ | refine below_drew1 ?_)) HB2.out
              repeat (first | exact hZ2 | (with_reducible refine below_alloc ?_ _) | (with_reducible refine Below.setCell ?_ HZ2.out _))
            · rw [← EG.out]
              first
                | (with_reducible exact row_setS (row_old _ _ _ z2 r2))
                | exact row_setS (row_cellO _ _ zC (row_cellO _ _ zC (row_cellO _ _ zC (row_cellO _ _ zC (row_cellO _ _ zC r2)))))
        · obtain rfl : k = S := by omega
          have rz := (hbW.block w.heap.size (by omega)).trans RZ.out
          have eI : gI m k f1 f2 f3 f4 = #[.int .u8 m, .int .u8 (gk m 3 97 f1), .int .u8 (gk m 3 98 f2), .int .u8 (gk m 3 99 f3), .int .i64 (gk m 3 110 f4)] := by
            have hk3 : (hasOf m).length ≤ k := by have : (hasOf m).length = k := hS; omega
            unfold gI gk
            rw [List.take_of_length_le hk3, List.take_of_length_le (show (hasOf m).length ≤ 3 by omega)]
          rw [eI] at hrow
          have hb9 := Aside0.mk (below_step HZ.out HBW.out)
          clear hbW HR eI
          go_wp2_with (first
            | (apply ldI; (with_reducible rfl); rfl; rfl; exact rowT; rfl)
            | (apply srI; (with_reducible rfl); rfl; rfl; rfl; exact rowT; rfl; rfl; rfl; rfl))
          refine ret2I rfl rfl rfl rfl (row_setS rz) rfl ⟨rfl, below_row hb9.out (Nat.le_refl _)⟩
end
end Go.Proofs.YtfkfpcciacplkaaDoor.SH

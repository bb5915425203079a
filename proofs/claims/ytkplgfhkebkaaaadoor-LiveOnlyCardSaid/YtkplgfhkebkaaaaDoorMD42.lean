/- Texts of this claim, pruned to what it needs and laid together by prune.py. -/
import Derived.Test.YtkplgfhkebkaaaaDoorMD41
import Derived.Outline
import Derived.Deep.LoopGhost
namespace Go.Proofs.YtkplgfhkebkaaaaDoor.ST
open Go.RowKit Go.Proofs.YtkplgfhkebkaaaaDoorW.PrintWords Go.Proofs.YtkplgfhkebkaaaaDoor.Scan Go.Proofs.YtkplgfhkebkaaaaDoor.F Go.Proofs.YtkplgfhkebkaaaaDoor.FM Go.Proofs.YtkplgfhkebkaaaaDoor.H Go.Proofs.YtkplgfhkebkaaaaDoor.KP Go.Proofs.YtkplgfhkebkaaaaDoor.TT Go.Proofs.YtkplgfhkebkaaaaDoor.NX Go.Proofs.YtkplgfhkebkaaaaDoor.FP Go.Proofs.YtkplgfhkebkaaaaDoor.FL Go.Proofs.YtkplgfhkebkaaaaDoor.B8 Go.Proofs.YtkplgfhkebkaaaaDoor.LB Go.Proofs.YtkplgfhkebkaaaaDoor.LG Go.Proofs.YtkplgfhkebkaaaaDoor.GL Go.Proofs.YtkplgfhkebkaaaaDoor.LL Go.Proofs.YtkplgfhkebkaaaaDoor.T0
set_option linter.unusedVariables false
set_option linter.unusedSectionVars false
set_option linter.unusedSimpArgs false
section
variable (w : World) (A0 : Option Addr) (c0 : Nat) (ts : List ByteArray) (la gl : ByteArray) (A3 : Option Addr) (c3 : Nat) (code : List S47)
  (hT : Kd.C Kd.string w A0 ts.length ts) (hc0 : ts.length ≤ c0) (hC : Kd.C k47 w A3 code.length code) (hc3 : code.length ≤ c3) (htab : TB w)
  (hl : (ts.length : Int) ≤ 9223372036854775807) (hsz : ∀ s ∈ ts, (s.size : Int) ≤ 9223372036854775807) (hla : Fit la) (hgl : Fit gl) (hw : WfC code) (many : Nat) (hm : many ≤ 255)
include hT hc0 hC hc3 htab hl hsz hla hgl hw hm
set_option maxHeartbeats 2000000 in
set_option maxRecDepth 100000 in
theorem LiveOnly_no (ks ka : Nat) (hS : lockstitchlaw07_Sound.f ks ts la gl code = some false) (hA : lockstitchlaw08_alive.f ka = some true) :
    Calls Tryd.prog 4 #[.agg #[.slice A0 ts.length c0, .string la, .string gl, .slice A3 code.length c3], .int .u8 many] w fun e w' => e = .returned (.bool true) ∧ Below w.heap.size w w' := by
  have HT := Aside0.mk hT
  have HC := Aside0.mk hC
  have HTB := Aside0.mk htab
  have HS := Aside0.mk hS
  have HA := Aside0.mk hA
  clear hT hC htab hS hA
  go_enter Tryd.func4, Tryd.ntmps4
  go_wp2_with (first
    | (go_at_call 8; (with_reducible refine (lockstitchlaw07_Sound.calls ks A0 c0 ts la gl A3 c3 code false _ (Kd.C_alloc HT.out _) hc0 (Kd.C_alloc HC.out _) hc3 HS.out (TB_below HTB.out (below_alloc (Below.refl _ _) _))).mono ?_); rintro e w1 ⟨rfl, hb1⟩; have HB1 := Aside0.mk (below_step (below_alloc (Below.refl _ _) _) hb1); clear hb1)
    | (go_at_call 14; (with_reducible refine (lockstitchlaw08_alive.calls ka true _ HA.out).mono ?_); rintro e w2 ⟨rfl, hb2⟩; have HB2 := Aside0.mk hb2; clear hb2))
  go_ret
  exact ⟨rfl, below_step HB1.out HB2.out⟩
set_option maxHeartbeats 8000000 in
set_option maxRecDepth 100000 in
theorem LiveOnly_yes (ks ka kc : Nat) (ck : Int) (hS : lockstitchlaw07_Sound.f ks ts la gl code = some true) (hA : lockstitchlaw08_alive.f ka = some true) (hsp : SP ts la gl code) (hK : lockstitchref05_Check.f kc ts la gl code = some (ck, 0)) :
    Calls Tryd.prog 4 #[.agg #[.slice A0 ts.length c0, .string la, .string gl, .slice A3 code.length c3], .int .u8 many] w fun e w' => e = .returned (.bool true) ∧ Below w.heap.size w w' := by
  have HT := Aside0.mk hT
  have HC := Aside0.mk hC
  have HTB := Aside0.mk htab
  have HS := Aside0.mk hS
  have HA := Aside0.mk hA
  have HK := Aside0.mk hK
  have HSP := Aside0.mk hsp
  have hcs := hsp.small
  have hlo := hsp.locals
  have HIN : Aside0 (live_In.f ts la gl code = some (lvI code)) := ⟨by obtain ⟨_, e⟩ := ev_at (in_ev hsp hw); exact e⟩
  have hfl := lvI_len code
  clear hT hC htab hS hA hK hsp
  go_enter Tryd.func4, Tryd.ntmps4
  go_wp2_with (first
    | (go_at_call 8; (with_reducible refine (lockstitchlaw07_Sound.calls ks A0 c0 ts la gl A3 c3 code true _ (Kd.C_alloc HT.out _) hc0 (Kd.C_alloc HC.out _) hc3 HS.out (TB_below HTB.out (below_alloc (Below.refl _ _) _))).mono ?_); rintro e w1 ⟨rfl, hb1⟩; have HB1 := Aside0.mk (below_step (below_alloc (Below.refl _ _) _) hb1); have HX1 := Aside0.mk ((hb1.block w.heap.size (by simp)).trans (heap_alloc_new w _)); clear hb1)
    | (go_at_call 14; (with_reducible refine (lockstitchlaw08_alive.calls ka true _ HA.out).mono ?_); rintro e w2 ⟨rfl, hb2⟩; have HB2 := Aside0.mk (below_step HB1.out hb2); have hx2 := (hb2.block w.heap.size (blk_lt HX1.out)).trans HX1.out; have kp2 := fun j => cell_of_row w2 (w.heap.size) j _ _ _ hx2; have HX2 := Aside0.mk hx2; clear hb2 hx2)
    | (go_at_call 15; (with_reducible refine (LG.live_In.calls A0 c0 ts la gl A3 c3 code _ w2 (Kd.C_below HT.out HB2.out) hc0 (Kd.C_below HC.out HB2.out) hc3 HIN.out).mono ?_); rintro e w3 ⟨v, rfl, hv, hb3⟩; obtain ⟨Al, cl, ev, hcl, hrl⟩ := Kd.R_reads hv; subst ev; rw [hfl] at hrl hcl ⊢; have HRL := Aside0.mk hrl; have HB3 := Aside0.mk (below_step HB2.out hb3); have hx3 := (hb3.block w.heap.size (blk_lt HX2.out)).trans HX2.out; have kp3 := fun j => cell_of_row w3 (w.heap.size) j _ _ _ hx3; have HX3 := Aside0.mk hx3; clear hb3 hx3 hv hrl))
  have hB := HB3.out
  have hX := HX3.out
  have hRL := HRL.out
  have hLT := Aside0.mk (LT.start w3)
  have hA0 := Aside0.mk (Alk.same (g (lvB code) 0) PS0)
  clear kp3 HB1 HB2 HX1 HX2 kp2
  go_outline
  go_loopw [35] (fun i wr => ∃ (k : Nat) (s : PS) (cs : Array Value) (t : PS) (ct : Array Value), i = .int .i64 k ∧ k ≤ many ∧ LT w3 wr s cs t ct ∧ SInv ts la gl code k s ∧ SInv ts la gl code k t ∧ Alk (g (lvB code) s.pc.toNat) s t) (fun i _ => many - (intOf i).toNat)
  case atStart => exact ⟨0, PS0, _, PS0, _, rfl, Nat.zero_le _, hLT.out, SInv.start .., SInv.start .., hA0.out⟩
  case round =>
    obtain ⟨k, s, cs, t, ct, rfl, hk, hL, hI, hJ, hA⟩ := hrel
    have hlt3 : w.heap.size < w3.heap.size := blk_lt hX
    obtain ⟨wr', hwr⟩ : ∃ x : World, x = wr := ⟨_, rfl⟩
    subst hwr
    have hltL := hL.lt
    have HL := Aside0.mk hL
    have HI := Aside0.mk hI
    have HJ := Aside0.mk hJ
    have HAK := Aside0.mk hA
    have hxr := (hL.below.block w.heap.size hlt3).trans hX
    have kp := fun j => cell_of_row wr' w.heap.size j _ _ _ hxr
    by_cases hlt : k < many
    · obtain ⟨q, hq⟩ := Int.eq_ofNat_of_zero_le hI.pc0
      have hpc := hI.pc1
      have htq : t.pc = (q : Int) := by rw [← hA.pc, hq]
      obtain ⟨oA, hs, oc, tA, tc, ecs, _⟩ := id hL.it
      have hrt := hL.rt
      have hcz := hL.it.size
      have hsz1 := hL.is.size
      have hv8 : ∀ j v, (v8 fun j => t.n (8 + j))[j]? = some v → ct[8 + j]? = some v := fun j v hv => by
        have hj : j < 8 := (List.getElem?_eq_some_iff.1 hv).1
        rw [ecs, stA_num _ _ _ _ _ _ (by omega)]
        rw [← hv]
        obtain rfl | rfl | rfl | rfl | rfl | rfl | rfl | rfl : j = 0 ∨ j = 1 ∨ j = 2 ∨ j = 3 ∨ j = 4 ∨ j = 5 ∨ j = 6 ∨ j = 7 := by omega
        all_goals rfl
      clear hL hI hJ hA hxr
      obtain ⟨z, ez⟩ : ∃ z, z = g (lvB code) q := ⟨_, rfl⟩
      have EZ := Aside0.mk ez
      have hlc : ∃ ad, Al = some ad ∧ ∀ W : World, Below wr'.heap.size wr' W → W.cell? (ad.add q) = some (.int .u8 (iv z)) := by
        obtain ⟨ad, e, _⟩ := Kd.at_int hRL (q : Int) (by omega) (by omega)
        refine ⟨ad, e, fun W hW => ?_⟩
        obtain ⟨ad', e', h4⟩ := Kd.at_int (Kd.C_below (Kd.C_below hRL HL.out.below) hW) (q : Int) (by omega) (by omega)
        obtain rfl : ad = ad' := Option.some.inj (e.symm.trans e')
        rw [Int.toNat_natCast] at h4
        rw [h4, rd_lv, ez]
      obtain ⟨ad, rfl, hrd⟩ := hlc
      have HRD := Aside0.mk hrd
      have q0 : (0 : Int) ≤ q := by omega
      have q1 : (q : Int) < (code.length : Int) + 1 := by omega
      clear ez hrd
      go_wp2_with (first
        | (apply ldP; (with_reducible rfl); rfl; rfl; exact hrt; exact hv8; rfl)
        | (apply srQ; (with_reducible rfl); rfl; rfl; rfl; exact rowT; rfl; rfl; rfl; exact setT))
      have hst0 := Aside0.mk (show Below wr'.heap.size wr' (wr'.alloc (.cells (v8 fun j => t.n (8 + j)).toArray 29)) ∧ (wr'.alloc (.cells (v8 fun j => t.n (8 + j)).toArray 29)).heap[wr'.heap.size]? = some (.cells (v8 (qm z (fun j => t.n (8 + j)) 0)).toArray 29 (0, 0)) from ⟨below_alloc (Below.refl _ _) _, by rw [qm_zero]; exact row_new _ _ _ rfl⟩)
      go_outline
      go_loopw [39] (fun a wr => ∃ m : Nat, a = .int .i64 m ∧ m ≤ 8 ∧ Below wr'.heap.size wr' wr ∧ wr.heap[wr'.heap.size]? = some (.cells (v8 (qm z (fun j => t.n (8 + j)) m)).toArray 29 (0, 0))) (fun a _ => 8 - (intOf a).toNat)
      case atStart => exact ⟨0, rfl, by omega, hst0.out.1, hst0.out.2⟩
      case round =>
        obtain ⟨m, rfl, hm8, hbW, hrW⟩ := hrel
        obtain ⟨W, hWW⟩ : ∃ x : World, x = wr := ⟨_, rfl⟩
        subst hWW
        have hltW := blk_lt hrW
        have HBW := Aside0.mk hbW
        have HRW := Aside0.mk hrW
        have krd := HRD.out _ hbW
        have kpcW : W.cell? ⟨w3.heap.size + 1, 22, none⟩ = some (.int .i64 q) := by
          rw [cell_of_row W (w3.heap.size + 1) 22 _ _ _ ((hbW.block _ hltL).trans hrt), ecs, ← htq]
          rfl
        have kq := fun j => cell_of_row W wr'.heap.size j _ _ _ hrW
        by_cases hml : m < 8
        · have m0 : (0 : Int) ≤ m := by omega
          have m1 : (m : Int) < 8 := by omega
          have fq : ∀ j, W.frozen? ⟨wr'.heap.size, j, none⟩ = false := fun j => frozen_of_row W wr'.heap.size j _ _ hrW
          have km : W.cell? ⟨wr'.heap.size, m, none⟩ = some (.int .i64 (qm z (fun j => t.n (8 + j)) m m)) := by
            rw [cell_of_row W wr'.heap.size m _ _ _ hrW]
            obtain rfl | rfl | rfl | rfl | rfl | rfl | rfl | rfl : m = 0 ∨ m = 1 ∨ m = 2 ∨ m = 3 ∨ m = 4 ∨ m = 5 ∨ m = 6 ∨ m = 7 := by omega
            all_goals rfl
          have hbv := bit_val z m
          clear kq
          cases hzb : z.getLsbD m with
          | true =>
            rw [hzb, if_pos rfl] at hbv
            go_wp2
            refine ⟨⟨m + 1, by go_num, by omega, hbW, by rw [qm_keep hzb]; exact hrW⟩, ?_⟩
            simp [intOf]
            omega
          | false =>
            rw [hzb, if_neg (by simp)] at hbv
            go_wp2
            refine ⟨⟨m + 1, by go_num, by omega, Below.setCell hbW (Nat.le_refl _) _, ?_⟩, ?_⟩
            · rw [qm_cut hzb, ← v8_set _ hml]
              exact heap_setCell_same W wr'.heap.size m _ _ _ hrW
            · simp [intOf]
              omega
        · obtain rfl : m = 8 := by omega
          have hvm : v8 (qm z (fun j => t.n (8 + j)) 8) = v8 (fun j => (mask z t).n (8 + j)) := by
            unfold v8
            rw [qm_mask z t (j := 0) (by omega), qm_mask z t (j := 1) (by omega), qm_mask z t (j := 2) (by omega), qm_mask z t (j := 3) (by omega), qm_mask z t (j := 4) (by omega), qm_mask z t (j := 5) (by omega), qm_mask z t (j := 6) (by omega), qm_mask z t (j := 7) (by omega)]
          rw [hvm] at hrW
          go_upto_region 17 with (first
            | (apply ldP; (with_reducible rfl); rfl; rfl; exact hrW; exact fun j v hv => (by rw [Nat.zero_add]; exact (List.getElem?_toArray ..).trans hv); rfl)
            | (apply srP; (with_reducible rfl); rfl; rfl; rfl; exact (hbW.block _ hltL).trans hrt; rfl; omega; rfl; rfl))
          have hLM : LT w3 (W.setRow (w3.heap.size + 1) (putAt ct 8 (v8 fun j => (mask z t).n (8 + j)))) s cs (mask z t) (putAt ct 8 (v8 fun j => (mask z t).n (8 + j))) :=
            HL.out.nums hbW (n := (mask z t).n) (fun oA hs oc tA tc e => by rw [e]; exact put_mask z t _ _ _ _)
          obtain ⟨V, hV⟩ : ∃ x, x = W.setRow (w3.heap.size + 1) (putAt ct 8 (v8 fun j => (mask z t).n (8 + j))) := ⟨_, rfl⟩
          obtain ⟨cm, hcm⟩ : ∃ x, x = putAt ct 8 (v8 fun j => (mask z t).n (8 + j)) := ⟨_, rfl⟩
          rw [← hV]
          rw [← hV, ← hcm] at hLM
          have HLM := Aside0.mk hLM
          have HV := Aside0.mk hV
          clear hLM hV hcm hrW hbW krd kq
          have hA2 : Alk (g (lvB code) s.pc.toNat) s (mask z t) := by
            have := HAK.out
            rw [hq, Int.toNat_natCast, ← EZ.out] at this ⊢
            exact this.mask
          obtain ⟨u, v, d, er, hu, hv, hAn, hAl⟩ := live_pair HSP.out hl hsz hla hgl hw HI.out.pc0 HI.out.pc1 hA2
          have HJM := HJ.out.mask z
          have GO1 : Aside0 (∀ W, Below V.heap.size V W → Calls Tryd.prog 12 #[.agg #[.slice A0 ts.length c0, .string la, .string gl, .slice A3 code.length c3], .agg cs] W fun e w' =>
              ∃ cu, e = .returned (.tuple #[.agg cu, .bool d, .int .i64 er]) ∧ IsS w' (fun k => PT w3 V k ∨ W.heap.size ≤ k) u cu ∧ Below W.heap.size W w') := ⟨fun W hW => by
            have hb := below_step (below_step HB3.out HLM.out.below) hW
            obtain ⟨ty, hty⟩ := HI.out.wt
            have h1 := HI.out.objs
            have h2 := HI.out.out
            have := Step_ps (P := PT w3 V) (Kd.C_below HT.out hb) hc0 (Kd.C_below HC.out hb) hc3 HK.out (TB_below HTB.out hb) HSP.out hl hsz hla hgl hw (HLM.out.is.below hW) hty HI.out.pc0 HI.out.pc1 (by omega) (by omega)
            rw [hu] at this
            exact this⟩
          have GO2 : Aside0 (∀ W, Below V.heap.size V W → Calls Tryd.prog 12 #[.agg #[.slice A0 ts.length c0, .string la, .string gl, .slice A3 code.length c3], .agg cm] W fun e w' =>
              ∃ cv, e = .returned (.tuple #[.agg cv, .bool d, .int .i64 er]) ∧ IsS w' (fun k => PT w3 V k ∨ W.heap.size ≤ k) v cv ∧ Below W.heap.size W w') := ⟨fun W hW => by
            have hb := below_step (below_step HB3.out HLM.out.below) hW
            obtain ⟨ty, hty⟩ := HJM.wt
            have h1 := HJM.objs
            have h2 := HJM.out
            have := Step_ps (P := PT w3 V) (Kd.C_below HT.out hb) hc0 (Kd.C_below HC.out hb) hc3 HK.out (TB_below HTB.out hb) HSP.out hl hsz hla hgl hw (HLM.out.it.below hW) hty HJM.pc0 HJM.pc1 (by omega) (by omega)
            rw [hv] at this
            exact this⟩
          have HU := Aside0.mk hu
          have HVV := Aside0.mk hv
          have HAN := Aside0.mk hAn
          have HAL := Aside0.mk hAl
          have hrs := HLM.out.rs
          have hrtm := HLM.out.rt
          have xV := (HLM.out.below.block w.heap.size hlt3).trans hX
          have kpV := fun j => cell_of_row V w.heap.size j _ _ _ xV
          have hczm := HLM.out.it.size
          clear hu hv hAn hAl hrt hv8 hA2
          go_upto_region 19 with (first
            | (go_at_call 12; (with_reducible refine (GO1.out V (Below.refl _ _)).mono ?_); rintro e w5 ⟨cu, rfl, hS5, hb5⟩; have hzu := hS5.size; have hou := hS5.one; have b5t := (hb5.block _ (blk_lt hrtm)).trans hrtm; have b5s := (hb5.block _ (blk_lt hrs)).trans hrs; have hz5 := blk_lt b5t; have x5 := (hb5.block _ (blk_lt xV)).trans xV; have kp5a := fun j => cell_of_row (w5.alloc (.cells cu 34)) w.heap.size j _ _ _ (row_old _ _ _ (blk_lt x5) x5); have kp5 := fun j => cell_of_row w5 w.heap.size j _ _ _ x5; have HS5 := Aside0.mk hS5; have HB5 := Aside0.mk hb5; clear hS5 hb5)
            | (go_at_call 12; (with_reducible refine (GO2.out _ (below_alloc HB5.out _)).mono ?_); rintro e w6 ⟨cv, rfl, hS6, hb6⟩; have hzv := hS6.size; have hov := hS6.one; have b6u := (hb6.block _ (by simp)).trans (heap_alloc_new w5 _); have b6t := (hb6.block _ (by simp; omega)).trans (row_old _ _ _ hz5 b5t); have b6s := (hb6.block _ (by simp; omega)).trans (row_old _ _ _ (by omega) b5s); have hz6 := blk_lt b6u; have HS6 := Aside0.mk hS6; have HB6 := Aside0.mk hb6; clear hS6 hb6)
            | (apply ldS; (with_reducible rfl); rfl; rfl; exact rowT; (first | rfl | assumption))
            | (apply srS; (with_reducible rfl); rfl; rfl; rfl; exact rowT; (first | rfl | assumption); (first | rfl | assumption); (first | rfl | assumption); exact setT))
          obtain ⟨WF, hWF⟩ : ∃ x : World, x = w6.alloc (.cells cv 34) := ⟨_, rfl⟩
          have rx : WF.heap[w5.heap.size]? = some (.cells cu 34 (0, 0)) := by rw [hWF]; exact row_old _ _ _ hz6 b6u
          have ry : WF.heap[w6.heap.size]? = some (.cells cv 34 (0, 0)) := by rw [hWF]; exact heap_alloc_new _ _
          have rs : WF.heap[w3.heap.size]? = some (.cells cs 34 (0, 0)) := by rw [hWF]; exact row_old _ _ _ (blk_lt b6s) b6s
          have rt : WF.heap[w3.heap.size + 1]? = some (.cells cm 34 (0, 0)) := by rw [hWF]; exact row_old _ _ _ (blk_lt b6t) b6t
          have hz36 := blk_lt b6s
          have HBF := Aside0.mk (show Below w6.heap.size w6 WF by rw [hWF]; exact below_alloc (Below.refl _ _) _)
          rw [← hWF]
          clear hWF b6u b6t b6s b5t b5s x5 xV hz5 hz6 hrs hrtm kp5a kp5 kpV kp
          have eX : v8 v.n = v8 u.n := v8_alike fun k hk => (HAN.out.x k hk).symm
          have eG : v4 (fun j => v.n (16 + j)) = v4 (fun j => u.n (16 + j)) := v4_alike fun k hk => (HAN.out.gs k hk).symm
          have ePC : v.pc = u.pc := HAN.out.pc.symm
          have eOU : v.out = u.out := HAN.out.out.symm
          obtain ⟨xA, xc, exo, hxc, hxo⟩ := HS5.out.outv
          obtain ⟨yA, yc, eyo, hyc, hyo⟩ := HS6.out.outv
          rw [eOU] at eyo hyc hyo
          have kx22 : WF.cell? ⟨w5.heap.size, 22, none⟩ = some (.int .i64 u.pc) := by rw [cell_of_row _ _ 22 _ _ _ rx]; exact HS5.out.pcv
          have ky22 : WF.cell? ⟨w6.heap.size, 22, none⟩ = some (.int .i64 u.pc) := by rw [cell_of_row _ _ 22 _ _ _ ry, ← ePC]; exact HS6.out.pcv
          have kx21 : WF.cell? ⟨w5.heap.size, 21, none⟩ = some (.slice xA u.out.length xc) := by rw [cell_of_row _ _ 21 _ _ _ rx]; exact exo
          have ky21 : WF.cell? ⟨w6.heap.size, 21, none⟩ = some (.slice yA u.out.length yc) := by rw [cell_of_row _ _ 21 _ _ _ ry]; exact eyo
          have HLY := Aside0.mk (show ∀ j v, (v8 u.n)[j]? = some v → cv[0 + j]? = some v by rw [← eX]; exact HS6.out.x8)
          have HLG := Aside0.mk (show ∀ j v, (v4 fun j => u.n (16 + j))[j]? = some v → cv[16 + j]? = some v by rw [← eG]; exact HS6.out.g4)
          have nx := eqX0 WF u.n
          have KX := Aside0.mk (show KI.C WF xA u.out.length u.out from (hxo.below (below_step (below_step (below_alloc (Below.refl _ _) _) HB6.out) HBF.out)).now)
          have KY := Aside0.mk (show KI.C WF yA u.out.length u.out from (hyo.below HBF.out).now)
          have hol : (u.out.length : Int) ≤ 9223372036854775807 := by have := KX.out.2.1; omega
          obtain ⟨kn, hkn⟩ := ev_at (nums_ev u.out hol)
          have HNU := Aside0.mk hkn
          have RX := Aside0.mk rx
          have RY := Aside0.mk ry
          clear hkn hxo hyo
          go_upto_region 21 with (first
            | (go_at_call 16; (with_reducible refine (T0.lockstitchref06_Nums.calls kn xA xc u.out yA yc u.out true WF KX.out hxc KY.out hyc HNU.out).mono ?_); rintro e w7 ⟨rfl, hd7⟩; have hb7 := hd7.below; have rx7 := (hb7.block _ (blk_lt RX.out)).trans RX.out; have ry7 := (hb7.block _ (blk_lt RY.out)).trans RY.out; have ng := eqG0 w7 fun j => u.n (16 + j); have HB7 := Aside0.mk hb7; clear hb7 hd7)
            | (apply ldXg; (with_reducible rfl); rfl; rfl; exact RX.out; exact HS5.out.x8; rfl)
            | (apply ldXg; (with_reducible rfl); rfl; rfl; exact RY.out; exact HLY.out; rfl)
            | (apply ldGg; (with_reducible rfl); rfl; rfl; assumption; exact HS5.out.g4; rfl)
            | (apply ldGg; (with_reducible rfl); rfl; rfl; assumption; exact HLG.out; rfl))
          have rs7 := (HB7.out.block _ (blk_lt rs)).trans rs
          have rt7 := (HB7.out.block _ (blk_lt rt)).trans rt
          have hcs0 := HLM.out.is.size
          have ry8 := (setRow_other w7 w3.heap.size w6.heap.size cu (by omega)).trans ry7
          have rt8 := (setRow_other w7 w3.heap.size (w3.heap.size + 1) cu (by omega)).trans rt7
          clear rs rt rx ry kx22 ky22 kx21 ky21
          cases d with
          | true =>
            go_wp2
            go_ret
            exact ⟨rfl, below_step (below_step (below_step (below_alloc (below_step (below_step HB3.out HLM.out.below) HB5.out) _) HB6.out) HBF.out) HB7.out⟩
          | false =>
            by_cases her : er = 0
            · subst her
              go_wp2_with (first
                | (apply ldS; (with_reducible rfl); rfl; rfl; exact rowT; (first | rfl | assumption))
                | (apply srS; (with_reducible rfl); rfl; rfl; rfl; exact rowT; (first | rfl | assumption); (first | rfl | assumption); (first | rfl | assumption); exact setT))
              go_roundw
              case rel =>
                exact ⟨k + 1, u, cu, v, cv, by go_num, by omega, HLM.out.next (Below.refl _ _) HB5.out (below_alloc (Below.refl _ _) _) HB6.out (below_step HBF.out HB7.out) HS5.out HS6.out, (SInv.step HSP.out hl hsz hla hgl hw HI.out HU.out).2.1, (SInv.step HSP.out hl hsz hla hgl hw HJM HVV.out).2.1, HAL.out rfl rfl⟩
              case measure =>
                simp [intOf]
                omega
            · have hne : (er != 0) = true := by simpa using her
              go_wp2
              go_ret
              exact ⟨rfl, below_step (below_step (below_step (below_alloc (below_step (below_step HB3.out HLM.out.below) HB5.out) _) HB6.out) HBF.out) HB7.out⟩
    · go_wp2
      go_ret
      exact ⟨rfl, below_step HB3.out HL.out.below⟩
end
theorem LiveOnly_walk (w : World) (A0 : Option Addr) (c0 : Nat) (ts : List ByteArray) (la gl : ByteArray) (A3 : Option Addr) (c3 : Nat) (code : List S47)
    (hT : Kd.C Kd.string w A0 ts.length ts) (hc0 : ts.length ≤ c0) (hC : Kd.C k47 w A3 code.length code) (hc3 : code.length ≤ c3) (htab : TB w)
    (hl : (ts.length : Int) ≤ 9223372036854775807) (hsz : ∀ s ∈ ts, (s.size : Int) ≤ 9223372036854775807) (hla : Fit la) (hgl : Fit gl) (hw : WfC code) (many : Int) (h0 : 0 ≤ many) (h1 : many ≤ 255) :
    Calls Tryd.prog 4 #[.agg #[.slice A0 ts.length c0, .string la, .string gl, .slice A3 code.length c3], .int .u8 many] w fun e w' => e = .returned (.bool true) ∧ Below w.heap.size w w' := by
  obtain ⟨m, rfl⟩ := Int.eq_ofNat_of_zero_le h0
  have hc : (code.length : Int) ≤ 9223372036854775807 := by have := Kd.C_max hC; omega
  obtain ⟨b, hb, hsp⟩ := sound_chk hl hsz hla hgl hc hw
  obtain ⟨ks, hks⟩ := ev_at hb
  obtain ⟨ka, hka⟩ := ev_at LL.alive_ev
  cases b with
  | false => exact LiveOnly_no w A0 c0 ts la gl A3 c3 code hT hc0 hC hc3 htab hl hsz hla hgl hw m (by omega) ks ka hks hka
  | true =>
    obtain ⟨hp, ck, hck⟩ := hsp rfl
    obtain ⟨kc, hkc⟩ := ev_at hck
    exact LiveOnly_yes w A0 c0 ts la gl A3 c3 code hT hc0 hC hc3 htab hl hsz hla hgl hw m (by omega) ks ka kc ck hks hka hp hkc
end Go.Proofs.YtkplgfhkebkaaaaDoor.ST

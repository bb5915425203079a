/- Texts of this claim, pruned to what it needs and laid together by prune.py. -/
import Derived.Test.YtkplgfhkebkaaaaDoorMC29
import Derived.Test.YtkplgfhkebkaaaaDoorMC42
import Derived.Test.YtkplgfhkebkaaaaDoorMC41
import Derived.Outline
import Derived.Deep.LoopGhost
import Derived.Test.YtkplgfhkebkaaaaDoorMC1
import Derived.SliceStrings
import Derived.ProofKit
import Derived.OpenShut
import Derived.ShutString
import Derived.ChangeOld
import Derived.SizedLaws
import Derived.Test.YtkplgfhkebkaaaaDoorMC28
import Derived.ChangeArms
namespace Go.Proofs.YtkplgfhkebkaaaaDoor.FL
open Go.RowKit Go.Proofs.YtkplgfhkebkaaaaDoorW.PrintWords Go.Proofs.YtkplgfhkebkaaaaDoor.Scan Go.Proofs.YtkplgfhkebkaaaaDoor.F Go.Proofs.YtkplgfhkebkaaaaDoor.FM Go.Proofs.YtkplgfhkebkaaaaDoor.H Go.Proofs.YtkplgfhkebkaaaaDoor.TT Go.Proofs.YtkplgfhkebkaaaaDoor.NX Go.Proofs.YtkplgfhkebkaaaaDoor.FP Go.Proofs.YtkplgfhkebkaaaaDoor.FG Go.Proofs.YtkplgfhkebkaaaaDoor.G
set_option linter.unusedVariables false
def c0 : List S47 := [⟨1, 0, 0, 0, 0⟩, ⟨4, 0, 0, 0, 0⟩, ⟨14, 0, 0, 0, 0⟩]
theorem c0_inR : InR (nxt c0) (c0.length + 1) := by
  intro k m hm
  by_cases h : 0 ≤ k ∧ k < c0.length
  · have hl : c0.length = 3 := rfl
    rw [hl] at h ⊢
    obtain rfl | rfl | rfl : k = 0 ∨ k = 1 ∨ k = 2 := by omega
    · have e : nxt c0 0 = [1] := by decide
      rw [e, List.mem_singleton] at hm
      omega
    · have e : nxt c0 1 = [0, 2] := by decide
      rw [e] at hm
      simp only [List.mem_cons, List.not_mem_nil, or_false] at hm
      omega
    · have e : nxt c0 2 = [3] := by decide
      rw [e, List.mem_singleton] at hm
      omega
  · have e : nxt c0 k = [] := by unfold nxt; rw [if_neg h]
    rw [e] at hm
    cases hm
theorem c0_reach (ts : List ByteArray) (la gl : ByteArray) (a : Int) (h0 : 0 ≤ a) (h1 : a < 4) : flow_Reach.f ts la gl c0 a = some (rr (nxt c0) 4 a 4) := by
  unfold flow_Reach.f reachV
  rw [if_pos ⟨c0_inR, by decide⟩, if_pos ⟨h0, by show a ≤ ((3 : Nat) : Int); omega⟩]
  exact congrArg some (rr_rch (M := 4) c0_inR h0 h1).symm
theorem alive_ev : Ev (fun k => lockstitchlaw07_alive.f k) true := by
  have n1 : nxt c0 1 = [0, 2] := by decide
  have r0 : rr (nxt c0) 4 0 4 = [true, true, true, true] := by decide
  have r2 : rr (nxt c0) 4 2 4 = [false, false, false, true] := by decide
  have s1 : sf c0 1 = true := by decide
  have s0 : sf c0 0 = false := by decide
  have l0 : ∀ ts la gl, flow_Loops.f ts la gl c0 0 = some true := fun ts la gl => by
    unfold flow_Loops.f
    rw [c0_reach ts la gl 0 (by decide) (by decide), r0]
    rfl
  have l2 : ∀ ts la gl, flow_Loops.f ts la gl c0 2 = some false := fun ts la gl => by
    unfold flow_Loops.f
    rw [c0_reach ts la gl 2 (by decide) (by decide), r2]
    rfl
  have h1 := fun ts la gl => safe_ev ts la gl c0 1
  have h0 := fun ts la gl => safe_ev ts la gl c0 0
  rw [s1] at h1
  rw [s0] at h0
  unfold lockstitchlaw07_alive.f
  refine ev_bind ev_const (ev_bind ev_const (ev_bind (a := [0, 2]) (ev_all fun k => congrArg some n1) ?_))
  refine Ev.congr (fun k => if_pos rfl) (Ev.congr (fun k => if_pos (by decide)) (Ev.congr (fun k => if_pos rfl) (Ev.congr (fun k => if_pos (by decide)) (Ev.congr (fun k => if_pos rfl) ?_))))
  refine ev_bind (h1 _ _ _) (Ev.congr (fun k => if_pos rfl) (ev_bind (h0 _ _ _) (Ev.congr (fun k => if_neg (by decide)) ?_)))
  refine ev_bind (ev_all fun k => l0 _ _ _) (Ev.congr (fun k => if_pos rfl) (ev_bind (ev_all fun k => l2 _ _ _) (Ev.congr (fun k => if_neg (by decide)) ?_)))
  refine ev_bind (ev_all fun k => c0_reach _ _ _ 0 (by decide) (by decide)) ?_
  rw [r0]
  exact ev_const
end Go.Proofs.YtkplgfhkebkaaaaDoor.FL

namespace Go.Proofs.YtkplgfhkebkaaaaDoor.FL
open Go.RowKit Go.Proofs.YtkplgfhkebkaaaaDoorW.PrintWords Go.Proofs.YtkplgfhkebkaaaaDoor.Scan Go.Proofs.YtkplgfhkebkaaaaDoor.F Go.Proofs.YtkplgfhkebkaaaaDoor.FM Go.Proofs.YtkplgfhkebkaaaaDoor.H Go.Proofs.YtkplgfhkebkaaaaDoor.TT Go.Proofs.YtkplgfhkebkaaaaDoor.NX Go.Proofs.YtkplgfhkebkaaaaDoor.FP Go.Proofs.YtkplgfhkebkaaaaDoor.FG Go.Proofs.YtkplgfhkebkaaaaDoor.G
theorem reachV_in {code : List S47} {a : Int} (h0 : 0 ≤ a) (h1 : a ≤ code.length) : reachV code a = rch (nxt code) (code.length + 1) a := by
  unfold reachV
  rw [if_pos ⟨h0, h1⟩]
section
variable {ts : List ByteArray} {la gl : ByteArray} {code : List S47} (h : SP ts la gl code)
include h
theorem reachV_get {a : Int} (h0 : 0 ≤ a) (h1 : a ≤ code.length) (m : Int) (hm : 0 ≤ m) : rdOf false (reachV code a) m = true ↔ RN (nxt code) a m := by
  rw [reachV_in h0 h1]
  have e : ((m.toNat : Nat) : Int) = m := by omega
  have := rch_getD (a := a) (SP.inR h) m.toNat
  rw [e] at this
  exact this
end
noncomputable def loops (code : List S47) (a : Int) : Bool := decide (a ≥ 0 ∧ a < (reachV code a).length) && rdOf false (reachV code a) a
theorem loops_ev {ts : List ByteArray} {la gl : ByteArray} {code : List S47} (h : SP ts la gl code) (a : Int) : Ev (fun _ => flow_Loops.f ts la gl code a) (loops code a) := by
  refine ev_bind (reach_ev h a) ?_
  unfold loops
  by_cases h0 : a ≥ 0
  · refine Ev.congr (fun k => if_pos h0) ?_
    by_cases h1 : a < ((reachV code a).length : Int)
    · rw [decide_eq_true ⟨h0, h1⟩, Bool.true_and]
      exact Ev.congr (fun k => if_pos h1) (Ev.congr (fun k => if_pos h0) ev_const)
    · rw [decide_eq_false (fun e => h1 e.2), Bool.false_and]
      exact Ev.congr (fun k => if_neg h1) ev_const
  · rw [decide_eq_false (fun e => h0 e.1), Bool.false_and]
    exact Ev.congr (fun k => if_neg h0) ev_const
theorem loops_rn {ts : List ByteArray} {la gl : ByteArray} {code : List S47} (h : SP ts la gl code) {a : Int} (h0 : 0 ≤ a) (h1 : a ≤ code.length) (hr : RN (nxt code) a a) : loops code a = true := by
  have h2 := (reachV_get h h0 h1 a h0).2 hr
  unfold loops
  rw [h2, Bool.and_true, decide_eq_true_iff]
  refine ⟨h0, ?_⟩
  rw [reachV_in h0 h1]
  rcases Int.lt_or_le a (rch (nxt code) (code.length + 1) a).length with h' | h'
  · exact h'
  · rw [reachV_in h0 h1] at h2
    unfold rdOf at h2
    rw [List.getD_eq_getElem?_getD, List.getElem?_eq_none (by omega)] at h2
    cases h2
end Go.Proofs.YtkplgfhkebkaaaaDoor.FL

namespace Go.Proofs.YtkplgfhkebkaaaaDoor.ST
open Go.RowKit Go.Proofs.YtkplgfhkebkaaaaDoorW.PrintWords Go.Proofs.YtkplgfhkebkaaaaDoor.Scan Go.Proofs.YtkplgfhkebkaaaaDoor.F Go.Proofs.YtkplgfhkebkaaaaDoor.FM Go.Proofs.YtkplgfhkebkaaaaDoor.H Go.Proofs.YtkplgfhkebkaaaaDoor.KP Go.Proofs.YtkplgfhkebkaaaaDoor.TT Go.Proofs.YtkplgfhkebkaaaaDoor.NX Go.Proofs.YtkplgfhkebkaaaaDoor.FP Go.Proofs.YtkplgfhkebkaaaaDoor.FL Go.Proofs.YtkplgfhkebkaaaaDoor.FG Go.Proofs.YtkplgfhkebkaaaaDoor.G Go.Proofs.YtkplgfhkebkaaaaDoor.MB
set_option linter.unusedVariables false
set_option linter.unusedSectionVars false
set_option linter.unusedSimpArgs false
section
variable (w : World) (A0 : Option Addr) (c0 : Nat) (ts : List ByteArray) (la gl : ByteArray) (A3 : Option Addr) (c3 : Nat) (code : List S47)
  (hT : Kd.C Kd.string w A0 ts.length ts) (hc0 : ts.length ≤ c0) (hC : Kd.C k47 w A3 code.length code) (hc3 : code.length ≤ c3) (htab : TB w)
  (hl : (ts.length : Int) ≤ 9223372036854775807) (hsz : ∀ s ∈ ts, (s.size : Int) ≤ 9223372036854775807) (hla : Fit la) (hgl : Fit gl) (hw : WfC code) (many : Nat) (hm : many ≤ 255)
include hT hc0 hC hc3 htab hl hsz hla hgl hw hm
set_option maxHeartbeats 2000000 in
set_option maxRecDepth 100000 in
theorem FlowRuns_no (ks ka : Nat) (hS : lockstitchlaw07_Sound.f ks ts la gl code = some false) (hA : lockstitchlaw07_alive.f ka = some true) :
    Calls Tryd.prog 3 #[.agg #[.slice A0 ts.length c0, .string la, .string gl, .slice A3 code.length c3], .int .u8 many] w fun e w' => e = .returned (.bool true) ∧ Below w.heap.size w w' := by
  have HT := Aside0.mk hT
  have HC := Aside0.mk hC
  have HTB := Aside0.mk htab
  have HS := Aside0.mk hS
  have HA := Aside0.mk hA
  clear hT hC htab hS hA
  go_enter Tryd.func3, Tryd.ntmps3
  go_wp2_with (first
    | (go_at_call 8; (with_reducible refine (lockstitchlaw07_Sound.calls ks A0 c0 ts la gl A3 c3 code false _ (Kd.C_alloc HT.out _) hc0 (Kd.C_alloc HC.out _) hc3 HS.out (TB_below HTB.out (below_alloc (Below.refl _ _) _))).mono ?_); rintro e w1 ⟨rfl, hb1⟩; have HB1 := Aside0.mk (below_step (below_alloc (Below.refl _ _) _) hb1); clear hb1)
    | (go_at_call 9; (with_reducible refine (lockstitchlaw07_alive.calls ka true _ HA.out).mono ?_); rintro e w2 ⟨rfl, hb2⟩; have HB2 := Aside0.mk hb2; clear hb2))
  go_ret
  exact ⟨rfl, below_step HB1.out HB2.out⟩
set_option maxHeartbeats 8000000 in
set_option maxRecDepth 100000 in
theorem FlowRuns_yes (ks ka kc : Nat) (ck : Int) (hS : lockstitchlaw07_Sound.f ks ts la gl code = some true) (hA : lockstitchlaw07_alive.f ka = some true) (hsp : SP ts la gl code) (hK : lockstitchref05_Check.f kc ts la gl code = some (ck, 0)) :
    Calls Tryd.prog 3 #[.agg #[.slice A0 ts.length c0, .string la, .string gl, .slice A3 code.length c3], .int .u8 many] w fun e w' => e = .returned (.bool true) ∧ Below w.heap.size w w' := by
  have HT := Aside0.mk hT
  have HC := Aside0.mk hC
  have HTB := Aside0.mk htab
  have HS := Aside0.mk hS
  have HA := Aside0.mk hA
  have HK := Aside0.mk hK
  have HSP := Aside0.mk hsp
  have hcs := hsp.small
  have hlo := hsp.locals
  have hmm := @run_makeMap Tryd.prog
  clear hT hC htab hS hA hK hsp
  go_enter Tryd.func3, Tryd.ntmps3
  go_wp2_with (first
    | (go_at_call 8; (with_reducible refine (lockstitchlaw07_Sound.calls ks A0 c0 ts la gl A3 c3 code true _ (Kd.C_alloc HT.out _) hc0 (Kd.C_alloc HC.out _) hc3 HS.out (TB_below HTB.out (below_alloc (Below.refl _ _) _))).mono ?_); rintro e w1 ⟨rfl, hb1⟩; have HB1 := Aside0.mk (below_step (below_alloc (Below.refl _ _) _) hb1); have HX1 := Aside0.mk ((hb1.block w.heap.size (by simp)).trans (heap_alloc_new w _)); clear hb1)
    | (go_at_call 9; (with_reducible refine (lockstitchlaw07_alive.calls ka true _ HA.out).mono ?_); rintro e w3 ⟨rfl, hb2⟩; have HB3 := Aside0.mk (below_step HB1.out hb2); have hx3 := (hb2.block w.heap.size (blk_lt HX1.out)).trans HX1.out; have HX3 := Aside0.mk hx3; clear hb2 hx3))
  have hX := HX3.out
  have hLM := Aside0.mk (LM.start w3)
  have hSN := Aside0.mk (Seen.start code)
  clear HX1
  go_loopw [7, 26] (fun sn i wr => ∃ (k : Nat) (s : PS) (cs : Array Value) (bn : Nat) (fs fn : Int → Bool), i = .int .i64 k ∧ sn = .map (some bn) ∧ k ≤ many ∧ LM w3 wr s cs bn k fs fn ∧ SInv ts la gl code k s ∧ Seen code fs fn s.pc) (fun _ i _ => many - (intOf i).toNat)
  case atStart => exact ⟨0, PS0, _, _, _, _, rfl, rfl, Nat.zero_le _, hLM.out, SInv.start .., hSN.out⟩
  case round =>
    obtain ⟨k, s, cs, bn, fs, fn, rfl, rfl, hk, hL, hI, hN⟩ := hrel
    have hlt3 : w.heap.size < w3.heap.size := blk_lt hX
    obtain ⟨wr', hwr⟩ : ∃ x : World, x = wr := ⟨_, rfl⟩
    subst hwr
    have HL := Aside0.mk hL
    have HI := Aside0.mk hI
    have HN := Aside0.mk hN
    have hxr := (hL.below.block w.heap.size hlt3).trans hX
    have kp := fun j => cell_of_row wr' w.heap.size j _ _ _ hxr
    clear hxr
    by_cases hlt : k < many
    · have hpc := hI.pc1
      obtain ⟨q, hq⟩ := Int.eq_ofNat_of_zero_le hI.pc0
      have kpc := hL.pc
      rw [hq] at hpc kpc
      have hcz := hL.is.size
      have hwf : (Lit.int .i64 (q : Int)).wf = true := by
        simp [Lit.wf, IntKind.min, IntKind.max, IntKind.signed, IntKind.bits]
        omega
      have hs1 := hL.seen.look hwf
      have hs2 := hL.since.look hwf
      have hf2 : fn q = false := by
        have := hN.since
        rwa [hq] at this
      rw [hf2] at hs2
      have HF2 := Aside0.mk hf2
      have HQ := Aside0.mk hq
      have HWF := Aside0.mk hwf
      have SAFE : Aside0 (Ev (fun k => flow_Safe.f k ts la gl code q) (sf code q)) := ⟨safe_ev ts la gl code q⟩
      have LOOPS : fs q = true → Aside0 (flow_Loops.f ts la gl code (q : Int) = some true) := fun hf => ⟨by
        obtain ⟨_, e⟩ := ev_at (loops_ev HSP.out (q : Int))
        rw [loops_rn HSP.out (by omega) hpc (by have := hN.rn q hf; rwa [hq] at this)] at e
        exact e⟩
      have NEXT : Aside0 (flow_Next.f ts la gl code (q : Int) = some (nxt code q)) := ⟨rfl⟩
      have hob := hI.objs
      have hou := hI.out
      obtain ⟨ty, hty⟩ := hI.wt
      obtain ⟨u, d, er, hst⟩ : ∃ u d er, stepP (size ts) (atv ts la) code s = (u, d, er) := ⟨_, _, _, rfl⟩
      have HST := Aside0.mk hst
      have HTY := Aside0.mk hty
      have GO : Aside0 (∀ U : World, LM w3 U s cs bn (k + 1) (fun x => x == (q : Int) || fs x) (fun x => x == (q : Int) || fn x) → ∀ W, Below U.heap.size U W → Calls Tryd.prog 12 #[.agg #[.slice A0 ts.length c0, .string la, .string gl, .slice A3 code.length c3], .agg cs] W fun e w' =>
          ∃ cs', e = .returned (.tuple #[.agg cs', .bool d, .int .i64 er]) ∧ IsS w' (fun k => PW w3 U bn k ∨ W.heap.size ≤ k) u cs' ∧ Below W.heap.size W w') := ⟨fun U hU W hW => by
        have hb := below_step (below_step HB3.out hU.below) hW
        have := Step_ps (P := PW w3 U bn) (Kd.C_below HT.out hb) hc0 (Kd.C_below HC.out hb) hc3 HK.out (TB_below HTB.out hb) HSP.out hl hsz hla hgl hw (hU.is.below hW) HTY.out HI.out.pc0 HI.out.pc1 (by omega) (by omega)
        rw [HST.out] at this
        exact this⟩
      clear hL hI hN hq hwf hf2 hst hty
      obtain ⟨b, hb⟩ : ∃ b, fs q = b := ⟨_, rfl⟩
      rw [hb] at hs1
      obtain ⟨bs, hbs⟩ : ∃ bs, sf code q = bs := ⟨_, rfl⟩
      obtain ⟨kf, hkf⟩ := ev_at SAFE.out
      rw [hbs] at hkf
      have SAF := Aside0.mk hkf
      have HBS := Aside0.mk hbs
      clear SAFE hkf hbs
      cases b with
      | true =>
        have HLO := LOOPS hb
        clear LOOPS hb
        go_upto_region 10 with (first
          | (go_at_call 10; (with_reducible refine (flow_Loops.calls A0 c0 ts la gl A3 c3 code q true wr' (Kd.C_below HT.out (below_step HB3.out HL.out.below)) hc0 (Kd.C_below HC.out (below_step HB3.out HL.out.below)) hc3 HLO.out).mono ?_); rintro e wB ⟨rfl, hbB⟩; have hs2' := (HL.out.since.move (hbB.block _ HL.out.since.lt)).look HWF.out; rw [HF2.out] at hs2'; have kpcB := (hbB.cell (p := ⟨w3.heap.size, 22, none⟩) (blk_lt HL.out.row)).trans kpc; have HBB := Aside0.mk hbB; clear hbB))
        have hPUT := HL.out.put HBB.out (by unfold maxLen; omega) HWF.out
        rw [HQ.out] at hPUT
        obtain ⟨wX, wY, wZ, wV, e1, e2, e3, e4, kX, kZ, lY, lV⟩ := hPUT
        have LY := Aside0.mk lY
        have LV := Aside0.mk lV
        clear lY lV
        go_region
        have hxU := (LY.out.below.block w.heap.size hlt3).trans hX
        have kpU := fun j => cell_of_row wY w.heap.size j _ _ _ hxU
        have kqU := LY.out.pc
        rw [HQ.out] at kqU
        clear hxU
        cases bs with
        | true =>
          cases d with
          | true =>
            go_wp2_with (first
              | (go_at_call 11; (with_reducible refine (flow_Safe.calls kf A0 c0 ts la gl A3 c3 code q true wY (Kd.C_below HT.out (below_step HB3.out LY.out.below)) hc0 (Kd.C_below HC.out (below_step HB3.out LY.out.below)) hc3 SAF.out).mono ?_); rintro e w5 ⟨rfl, hb5⟩; have b5 := (hb5.block _ (blk_lt LY.out.row)).trans LY.out.row; have x5 := ((below_step LY.out.below hb5).block w.heap.size hlt3).trans hX; have kp5 := fun j => cell_of_row w5 w.heap.size j _ _ _ x5; have hz35 := blk_lt b5; have hz05 := blk_lt x5; have kp5a := fun j => cell_of_row (w5.alloc (.map #[] 0)) w.heap.size j _ _ _ (row_old _ _ _ hz05 x5); have HB5 := Aside0.mk hb5; clear hb5)
              | (go_at_call 12; (with_reducible refine (GO.out wY LY.out _ (below_alloc HB5.out _)).mono ?_); rintro e w6 ⟨cs', rfl, hS6, hb6⟩; have hz6 := hS6.size; have ho6 := hS6.one; have hb56 := below_step (below_alloc HB5.out _) hb6; have b6 := (hb56.block _ (blk_lt LY.out.row)).trans LY.out.row; have hz36 := blk_lt b6; have x6 := ((below_step LY.out.below hb56).block w.heap.size hlt3).trans hX; have kp6 := fun j => cell_of_row w6 w.heap.size j _ _ _ x6; have kp6a := fun j => cell_of_row (w6.alloc (.cells cs' 34)) w.heap.size j _ _ _ (row_old _ _ _ (blk_lt x6) x6); have k22 := (cell_of_row w6 w3.heap.size 22 _ _ _ b6).symm.trans ((hb56.cell (p := ⟨w3.heap.size, 22, none⟩) (blk_lt LY.out.row)).trans kqU); have k22a := (cell_of_row (w6.alloc (.cells cs' 34)) w3.heap.size 22 _ _ _ (row_old _ _ _ hz36 b6)).trans k22; have hpc6 := hS6.pc; have HS6 := Aside0.mk hS6; have HB6 := Aside0.mk hb6; have HB56 := Aside0.mk hb56; clear hS6 hb6 hb56)
              | (apply ldS; (with_reducible rfl); rfl; rfl; exact rowT; (first | rfl | assumption))
              | (apply srS; (with_reducible rfl); rfl; rfl; rfl; exact rowT; (first | rfl | assumption); (first | rfl | assumption); (first | rfl | assumption); exact setT)
              | (go_at_call 13; (with_reducible refine (flow_Next.calls A0 c0 ts la gl A3 c3 code q _ _ (Kd.C_below HT.out (below_alloc (below_step (below_step HB3.out LY.out.below) HB56.out) _)) hc0 (Kd.C_below HC.out (below_alloc (below_step (below_step HB3.out LY.out.below) HB56.out) _)) hc3 NEXT.out).mono ?_); rintro e w7 ⟨v, rfl, hv, hb7⟩; obtain ⟨Al, cl, ev, hcl, hrl⟩ := Kd.R_reads hv; subst ev; have b7 := (hb7.block _ (by simp; omega)).trans (row_old _ _ _ hz36 b6); have t7 := (hb7.block _ (by simp)).trans (heap_alloc_new w6 _); have kt7 := (cell_of_row w7 w6.heap.size 22 _ _ _ t7).trans hpc6; have HRL := Aside0.mk hrl; have HB7 := Aside0.mk hb7; clear hv hrl hb7))
            go_ret
            exact ⟨rfl, below_alloc (below_step (below_step HB3.out LY.out.below) HB56.out) _⟩
          | false =>
            by_cases her : er = 0
            · subst her
              go_wp2_with (first
                | (go_at_call 11; (with_reducible refine (flow_Safe.calls kf A0 c0 ts la gl A3 c3 code q true wY (Kd.C_below HT.out (below_step HB3.out LY.out.below)) hc0 (Kd.C_below HC.out (below_step HB3.out LY.out.below)) hc3 SAF.out).mono ?_); rintro e w5 ⟨rfl, hb5⟩; have b5 := (hb5.block _ (blk_lt LY.out.row)).trans LY.out.row; have x5 := ((below_step LY.out.below hb5).block w.heap.size hlt3).trans hX; have kp5 := fun j => cell_of_row w5 w.heap.size j _ _ _ x5; have hz35 := blk_lt b5; have hz05 := blk_lt x5; have kp5a := fun j => cell_of_row (w5.alloc (.map #[] 0)) w.heap.size j _ _ _ (row_old _ _ _ hz05 x5); have HB5 := Aside0.mk hb5; clear hb5)
                | (go_at_call 12; (with_reducible refine (GO.out wY LY.out _ (below_alloc HB5.out _)).mono ?_); rintro e w6 ⟨cs', rfl, hS6, hb6⟩; have hz6 := hS6.size; have ho6 := hS6.one; have hb56 := below_step (below_alloc HB5.out _) hb6; have b6 := (hb56.block _ (blk_lt LY.out.row)).trans LY.out.row; have hz36 := blk_lt b6; have x6 := ((below_step LY.out.below hb56).block w.heap.size hlt3).trans hX; have kp6 := fun j => cell_of_row w6 w.heap.size j _ _ _ x6; have kp6a := fun j => cell_of_row (w6.alloc (.cells cs' 34)) w.heap.size j _ _ _ (row_old _ _ _ (blk_lt x6) x6); have k22 := (cell_of_row w6 w3.heap.size 22 _ _ _ b6).symm.trans ((hb56.cell (p := ⟨w3.heap.size, 22, none⟩) (blk_lt LY.out.row)).trans kqU); have k22a := (cell_of_row (w6.alloc (.cells cs' 34)) w3.heap.size 22 _ _ _ (row_old _ _ _ hz36 b6)).trans k22; have hpc6 := hS6.pc; have HS6 := Aside0.mk hS6; have HB6 := Aside0.mk hb6; have HB56 := Aside0.mk hb56; clear hS6 hb6 hb56)
                | (apply ldS; (with_reducible rfl); rfl; rfl; exact rowT; (first | rfl | assumption))
                | (apply srS; (with_reducible rfl); rfl; rfl; rfl; exact rowT; (first | rfl | assumption); (first | rfl | assumption); (first | rfl | assumption); exact setT)
                | (go_at_call 13; (with_reducible refine (flow_Next.calls A0 c0 ts la gl A3 c3 code q _ _ (Kd.C_below HT.out (below_alloc (below_step (below_step HB3.out LY.out.below) HB56.out) _)) hc0 (Kd.C_below HC.out (below_alloc (below_step (below_step HB3.out LY.out.below) HB56.out) _)) hc3 NEXT.out).mono ?_); rintro e w7 ⟨v, rfl, hv, hb7⟩; obtain ⟨Al, cl, ev, hcl, hrl⟩ := Kd.R_reads hv; subst ev; have b7 := (hb7.block _ (by simp; omega)).trans (row_old _ _ _ hz36 b6); have t7 := (hb7.block _ (by simp)).trans (heap_alloc_new w6 _); have kt7 := (cell_of_row w7 w6.heap.size 22 _ _ _ t7).trans hpc6; have HRL := Aside0.mk hrl; have HB7 := Aside0.mk hb7; clear hv hrl hb7))
              have hs2 := SInv.step HSP.out hl hsz hla hgl hw HI.out HST.out
              have hmem := step_next HSP.out hl hsz hla hgl hw HI.out.pc0 hs2.1 HST.out
              have hmem2 := hmem
              rw [HQ.out] at hmem2
              have hnl2 := nxt_two code q
              have hfull : ((nxt code q).take (nxt code q).length).any (· == u.pc) = true := by
                rw [List.take_length, List.any_eq_true]
                exact ⟨u.pc, hmem2, by simp⟩
              clear e1 e2 e3 e4
              go_loop [73, 11] (fun a f => ∃ m : Nat, m ≤ (nxt code q).length ∧ a = .int .i64 m ∧ f = .bool (((nxt code q).take m).any (· == u.pc))) (fun a _ => (nxt code q).length - (intOf a).toNat)
              case atStart => exact ⟨0, Nat.zero_le _, rfl, rfl⟩
              case round =>
                obtain ⟨m, hm2, rfl, rfl⟩ := hrel
                by_cases hml : m < (nxt code q).length
                · obtain ⟨ad, rfl, hx⟩ := Kd.at_int HRL.out (m : Int) (by omega) (by omega)
                  rw [Int.toNat_natCast] at hx
                  have hat := any_take hml u.pc
                  have hml2 : (m : Int) < (nxt code q).length := by omega
                  obtain ⟨x, ex⟩ : ∃ x, rd (nxt code q) m = x := ⟨_, rfl⟩
                  obtain ⟨b1, eb1⟩ : ∃ b1, ((nxt code q).take m).any (· == u.pc) = b1 := ⟨_, rfl⟩
                  rw [ex] at hx hat
                  rw [eb1] at hat ⊢
                  cases b1 with
                  | true =>
                    go_wp2
                    refine ⟨⟨m + 1, by omega, by go_num, by rw [hat]; rfl⟩, ?_⟩
                    simp [intOf]
                    omega
                  | false =>
                    go_wp2
                    refine ⟨⟨m + 1, by omega, by go_num, by rw [hat]; simp⟩, ?_⟩
                    simp [intOf]
                    omega
                · obtain rfl : m = (nxt code q).length := by omega
                  rw [hfull]
                  go_wp2_with (first
                    | (go_at_call 11; (with_reducible refine (flow_Safe.calls kf A0 c0 ts la gl A3 c3 code q true wY (Kd.C_below HT.out (below_step HB3.out LY.out.below)) hc0 (Kd.C_below HC.out (below_step HB3.out LY.out.below)) hc3 SAF.out).mono ?_); rintro e w5 ⟨rfl, hb5⟩; have b5 := (hb5.block _ (blk_lt LY.out.row)).trans LY.out.row; have x5 := ((below_step LY.out.below hb5).block w.heap.size hlt3).trans hX; have kp5 := fun j => cell_of_row w5 w.heap.size j _ _ _ x5; have hz35 := blk_lt b5; have hz05 := blk_lt x5; have kp5a := fun j => cell_of_row (w5.alloc (.map #[] 0)) w.heap.size j _ _ _ (row_old _ _ _ hz05 x5); have HB5 := Aside0.mk hb5; clear hb5)
                    | (go_at_call 12; (with_reducible refine (GO.out wY LY.out _ (below_alloc HB5.out _)).mono ?_); rintro e w6 ⟨cs', rfl, hS6, hb6⟩; have hz6 := hS6.size; have ho6 := hS6.one; have hb56 := below_step (below_alloc HB5.out _) hb6; have b6 := (hb56.block _ (blk_lt LY.out.row)).trans LY.out.row; have hz36 := blk_lt b6; have x6 := ((below_step LY.out.below hb56).block w.heap.size hlt3).trans hX; have kp6 := fun j => cell_of_row w6 w.heap.size j _ _ _ x6; have kp6a := fun j => cell_of_row (w6.alloc (.cells cs' 34)) w.heap.size j _ _ _ (row_old _ _ _ (blk_lt x6) x6); have k22 := (cell_of_row w6 w3.heap.size 22 _ _ _ b6).symm.trans ((hb56.cell (p := ⟨w3.heap.size, 22, none⟩) (blk_lt LY.out.row)).trans kqU); have k22a := (cell_of_row (w6.alloc (.cells cs' 34)) w3.heap.size 22 _ _ _ (row_old _ _ _ hz36 b6)).trans k22; have hpc6 := hS6.pc; have HS6 := Aside0.mk hS6; have HB6 := Aside0.mk hb6; have HB56 := Aside0.mk hb56; clear hS6 hb6 hb56)
                    | (apply ldS; (with_reducible rfl); rfl; rfl; exact rowT; (first | rfl | assumption))
                    | (apply srS; (with_reducible rfl); rfl; rfl; rfl; exact rowT; (first | rfl | assumption); (first | rfl | assumption); (first | rfl | assumption); exact setT)
                    | (go_at_call 13; (with_reducible refine (flow_Next.calls A0 c0 ts la gl A3 c3 code q _ _ (Kd.C_below HT.out (below_alloc (below_step (below_step HB3.out LY.out.below) HB56.out) _)) hc0 (Kd.C_below HC.out (below_alloc (below_step (below_step HB3.out LY.out.below) HB56.out) _)) hc3 NEXT.out).mono ?_); rintro e w7 ⟨v, rfl, hv, hb7⟩; obtain ⟨Al, cl, ev, hcl, hrl⟩ := Kd.R_reads hv; subst ev; have b7 := (hb7.block _ (by simp; omega)).trans (row_old _ _ _ hz36 b6); have t7 := (hb7.block _ (by simp)).trans (heap_alloc_new w6 _); have kt7 := (cell_of_row w7 w6.heap.size 22 _ _ _ t7).trans hpc6; have HRL := Aside0.mk hrl; have HB7 := Aside0.mk hb7; clear hv hrl hb7))
                  go_roundw
                  case rel =>
                    have hn2 := HN.out.step hmem
                    rw [HQ.out, HBS.out, if_pos rfl] at hn2
                    exact ⟨k + 1, u, cs', w5.heap.size, _, _, by go_num, rfl, by omega, LM.next LY.out (below_alloc HB5.out _) HB6.out (below_step (below_alloc (Below.refl _ _) _) HB7.out) ((MB.set_new w5).mono (Nat.zero_le _)) (.inr HB5.out.size) HS6.out, hs2.2.1, hn2⟩
                  case measure =>
                    simp [intOf]
                    omega
            · have hne : (er != 0) = true := by simpa using her
              go_wp2_with (first
                | (go_at_call 11; (with_reducible refine (flow_Safe.calls kf A0 c0 ts la gl A3 c3 code q true wY (Kd.C_below HT.out (below_step HB3.out LY.out.below)) hc0 (Kd.C_below HC.out (below_step HB3.out LY.out.below)) hc3 SAF.out).mono ?_); rintro e w5 ⟨rfl, hb5⟩; have b5 := (hb5.block _ (blk_lt LY.out.row)).trans LY.out.row; have x5 := ((below_step LY.out.below hb5).block w.heap.size hlt3).trans hX; have kp5 := fun j => cell_of_row w5 w.heap.size j _ _ _ x5; have hz35 := blk_lt b5; have hz05 := blk_lt x5; have kp5a := fun j => cell_of_row (w5.alloc (.map #[] 0)) w.heap.size j _ _ _ (row_old _ _ _ hz05 x5); have HB5 := Aside0.mk hb5; clear hb5)
                | (go_at_call 12; (with_reducible refine (GO.out wY LY.out _ (below_alloc HB5.out _)).mono ?_); rintro e w6 ⟨cs', rfl, hS6, hb6⟩; have hz6 := hS6.size; have ho6 := hS6.one; have hb56 := below_step (below_alloc HB5.out _) hb6; have b6 := (hb56.block _ (blk_lt LY.out.row)).trans LY.out.row; have hz36 := blk_lt b6; have x6 := ((below_step LY.out.below hb56).block w.heap.size hlt3).trans hX; have kp6 := fun j => cell_of_row w6 w.heap.size j _ _ _ x6; have kp6a := fun j => cell_of_row (w6.alloc (.cells cs' 34)) w.heap.size j _ _ _ (row_old _ _ _ (blk_lt x6) x6); have k22 := (cell_of_row w6 w3.heap.size 22 _ _ _ b6).symm.trans ((hb56.cell (p := ⟨w3.heap.size, 22, none⟩) (blk_lt LY.out.row)).trans kqU); have k22a := (cell_of_row (w6.alloc (.cells cs' 34)) w3.heap.size 22 _ _ _ (row_old _ _ _ hz36 b6)).trans k22; have hpc6 := hS6.pc; have HS6 := Aside0.mk hS6; have HB6 := Aside0.mk hb6; have HB56 := Aside0.mk hb56; clear hS6 hb6 hb56)
                | (apply ldS; (with_reducible rfl); rfl; rfl; exact rowT; (first | rfl | assumption))
                | (apply srS; (with_reducible rfl); rfl; rfl; rfl; exact rowT; (first | rfl | assumption); (first | rfl | assumption); (first | rfl | assumption); exact setT)
                | (go_at_call 13; (with_reducible refine (flow_Next.calls A0 c0 ts la gl A3 c3 code q _ _ (Kd.C_below HT.out (below_alloc (below_step (below_step HB3.out LY.out.below) HB56.out) _)) hc0 (Kd.C_below HC.out (below_alloc (below_step (below_step HB3.out LY.out.below) HB56.out) _)) hc3 NEXT.out).mono ?_); rintro e w7 ⟨v, rfl, hv, hb7⟩; obtain ⟨Al, cl, ev, hcl, hrl⟩ := Kd.R_reads hv; subst ev; have b7 := (hb7.block _ (by simp; omega)).trans (row_old _ _ _ hz36 b6); have t7 := (hb7.block _ (by simp)).trans (heap_alloc_new w6 _); have kt7 := (cell_of_row w7 w6.heap.size 22 _ _ _ t7).trans hpc6; have HRL := Aside0.mk hrl; have HB7 := Aside0.mk hb7; clear hv hrl hb7))
              go_ret
              exact ⟨rfl, below_alloc (below_step (below_step HB3.out LY.out.below) HB56.out) _⟩
        | false =>
          cases d with
          | true =>
            go_wp2_with (first
              | (go_at_call 11; (with_reducible refine (flow_Safe.calls kf A0 c0 ts la gl A3 c3 code q false wY (Kd.C_below HT.out (below_step HB3.out LY.out.below)) hc0 (Kd.C_below HC.out (below_step HB3.out LY.out.below)) hc3 SAF.out).mono ?_); rintro e w5 ⟨rfl, hb5⟩; have b5 := (hb5.block _ (blk_lt LY.out.row)).trans LY.out.row; have x5 := ((below_step LY.out.below hb5).block w.heap.size hlt3).trans hX; have kp5 := fun j => cell_of_row w5 w.heap.size j _ _ _ x5; have hz35 := blk_lt b5; have hz05 := blk_lt x5; have kp5a := fun j => cell_of_row (w5.alloc (.map #[] 0)) w.heap.size j _ _ _ (row_old _ _ _ hz05 x5); have HB5 := Aside0.mk hb5; clear hb5)
              | (go_at_call 12; (with_reducible refine (GO.out wY LY.out _ HB5.out).mono ?_); rintro e w6 ⟨cs', rfl, hS6, hb6⟩; have hz6 := hS6.size; have ho6 := hS6.one; have hb56 := below_step HB5.out hb6; have b6 := (hb56.block _ (blk_lt LY.out.row)).trans LY.out.row; have hz36 := blk_lt b6; have x6 := ((below_step LY.out.below hb56).block w.heap.size hlt3).trans hX; have kp6 := fun j => cell_of_row w6 w.heap.size j _ _ _ x6; have kp6a := fun j => cell_of_row (w6.alloc (.cells cs' 34)) w.heap.size j _ _ _ (row_old _ _ _ (blk_lt x6) x6); have k22 := (cell_of_row w6 w3.heap.size 22 _ _ _ b6).symm.trans ((hb56.cell (p := ⟨w3.heap.size, 22, none⟩) (blk_lt LY.out.row)).trans kqU); have k22a := (cell_of_row (w6.alloc (.cells cs' 34)) w3.heap.size 22 _ _ _ (row_old _ _ _ hz36 b6)).trans k22; have hpc6 := hS6.pc; have HS6 := Aside0.mk hS6; have HB6 := Aside0.mk hb6; have HB56 := Aside0.mk hb56; clear hS6 hb6 hb56)
              | (apply ldS; (with_reducible rfl); rfl; rfl; exact rowT; (first | rfl | assumption))
              | (apply srS; (with_reducible rfl); rfl; rfl; rfl; exact rowT; (first | rfl | assumption); (first | rfl | assumption); (first | rfl | assumption); exact setT)
              | (go_at_call 13; (with_reducible refine (flow_Next.calls A0 c0 ts la gl A3 c3 code q _ _ (Kd.C_below HT.out (below_alloc (below_step (below_step HB3.out LY.out.below) HB56.out) _)) hc0 (Kd.C_below HC.out (below_alloc (below_step (below_step HB3.out LY.out.below) HB56.out) _)) hc3 NEXT.out).mono ?_); rintro e w7 ⟨v, rfl, hv, hb7⟩; obtain ⟨Al, cl, ev, hcl, hrl⟩ := Kd.R_reads hv; subst ev; have b7 := (hb7.block _ (by simp; omega)).trans (row_old _ _ _ hz36 b6); have t7 := (hb7.block _ (by simp)).trans (heap_alloc_new w6 _); have kt7 := (cell_of_row w7 w6.heap.size 22 _ _ _ t7).trans hpc6; have HRL := Aside0.mk hrl; have HB7 := Aside0.mk hb7; clear hv hrl hb7))
            go_ret
            exact ⟨rfl, below_alloc (below_step (below_step HB3.out LY.out.below) HB56.out) _⟩
          | false =>
            by_cases her : er = 0
            · subst her
              go_wp2_with (first
                | (go_at_call 11; (with_reducible refine (flow_Safe.calls kf A0 c0 ts la gl A3 c3 code q false wY (Kd.C_below HT.out (below_step HB3.out LY.out.below)) hc0 (Kd.C_below HC.out (below_step HB3.out LY.out.below)) hc3 SAF.out).mono ?_); rintro e w5 ⟨rfl, hb5⟩; have b5 := (hb5.block _ (blk_lt LY.out.row)).trans LY.out.row; have x5 := ((below_step LY.out.below hb5).block w.heap.size hlt3).trans hX; have kp5 := fun j => cell_of_row w5 w.heap.size j _ _ _ x5; have hz35 := blk_lt b5; have hz05 := blk_lt x5; have kp5a := fun j => cell_of_row (w5.alloc (.map #[] 0)) w.heap.size j _ _ _ (row_old _ _ _ hz05 x5); have HB5 := Aside0.mk hb5; clear hb5)
                | (go_at_call 12; (with_reducible refine (GO.out wY LY.out _ HB5.out).mono ?_); rintro e w6 ⟨cs', rfl, hS6, hb6⟩; have hz6 := hS6.size; have ho6 := hS6.one; have hb56 := below_step HB5.out hb6; have b6 := (hb56.block _ (blk_lt LY.out.row)).trans LY.out.row; have hz36 := blk_lt b6; have x6 := ((below_step LY.out.below hb56).block w.heap.size hlt3).trans hX; have kp6 := fun j => cell_of_row w6 w.heap.size j _ _ _ x6; have kp6a := fun j => cell_of_row (w6.alloc (.cells cs' 34)) w.heap.size j _ _ _ (row_old _ _ _ (blk_lt x6) x6); have k22 := (cell_of_row w6 w3.heap.size 22 _ _ _ b6).symm.trans ((hb56.cell (p := ⟨w3.heap.size, 22, none⟩) (blk_lt LY.out.row)).trans kqU); have k22a := (cell_of_row (w6.alloc (.cells cs' 34)) w3.heap.size 22 _ _ _ (row_old _ _ _ hz36 b6)).trans k22; have hpc6 := hS6.pc; have HS6 := Aside0.mk hS6; have HB6 := Aside0.mk hb6; have HB56 := Aside0.mk hb56; clear hS6 hb6 hb56)
                | (apply ldS; (with_reducible rfl); rfl; rfl; exact rowT; (first | rfl | assumption))
                | (apply srS; (with_reducible rfl); rfl; rfl; rfl; exact rowT; (first | rfl | assumption); (first | rfl | assumption); (first | rfl | assumption); exact setT)
                | (go_at_call 13; (with_reducible refine (flow_Next.calls A0 c0 ts la gl A3 c3 code q _ _ (Kd.C_below HT.out (below_alloc (below_step (below_step HB3.out LY.out.below) HB56.out) _)) hc0 (Kd.C_below HC.out (below_alloc (below_step (below_step HB3.out LY.out.below) HB56.out) _)) hc3 NEXT.out).mono ?_); rintro e w7 ⟨v, rfl, hv, hb7⟩; obtain ⟨Al, cl, ev, hcl, hrl⟩ := Kd.R_reads hv; subst ev; have b7 := (hb7.block _ (by simp; omega)).trans (row_old _ _ _ hz36 b6); have t7 := (hb7.block _ (by simp)).trans (heap_alloc_new w6 _); have kt7 := (cell_of_row w7 w6.heap.size 22 _ _ _ t7).trans hpc6; have HRL := Aside0.mk hrl; have HB7 := Aside0.mk hb7; clear hv hrl hb7))
              have hs2 := SInv.step HSP.out hl hsz hla hgl hw HI.out HST.out
              have hmem := step_next HSP.out hl hsz hla hgl hw HI.out.pc0 hs2.1 HST.out
              have hmem2 := hmem
              rw [HQ.out] at hmem2
              have hnl2 := nxt_two code q
              have hfull : ((nxt code q).take (nxt code q).length).any (· == u.pc) = true := by
                rw [List.take_length, List.any_eq_true]
                exact ⟨u.pc, hmem2, by simp⟩
              clear e1 e2 e3 e4
              go_loop [73, 11] (fun a f => ∃ m : Nat, m ≤ (nxt code q).length ∧ a = .int .i64 m ∧ f = .bool (((nxt code q).take m).any (· == u.pc))) (fun a _ => (nxt code q).length - (intOf a).toNat)
              case atStart => exact ⟨0, Nat.zero_le _, rfl, rfl⟩
              case round =>
                obtain ⟨m, hm2, rfl, rfl⟩ := hrel
                by_cases hml : m < (nxt code q).length
                · obtain ⟨ad, rfl, hx⟩ := Kd.at_int HRL.out (m : Int) (by omega) (by omega)
                  rw [Int.toNat_natCast] at hx
                  have hat := any_take hml u.pc
                  have hml2 : (m : Int) < (nxt code q).length := by omega
                  obtain ⟨x, ex⟩ : ∃ x, rd (nxt code q) m = x := ⟨_, rfl⟩
                  obtain ⟨b1, eb1⟩ : ∃ b1, ((nxt code q).take m).any (· == u.pc) = b1 := ⟨_, rfl⟩
                  rw [ex] at hx hat
                  rw [eb1] at hat ⊢
                  cases b1 with
                  | true =>
                    go_wp2
                    refine ⟨⟨m + 1, by omega, by go_num, by rw [hat]; rfl⟩, ?_⟩
                    simp [intOf]
                    omega
                  | false =>
                    go_wp2
                    refine ⟨⟨m + 1, by omega, by go_num, by rw [hat]; simp⟩, ?_⟩
                    simp [intOf]
                    omega
                · obtain rfl : m = (nxt code q).length := by omega
                  rw [hfull]
                  go_wp2_with (first
                    | (go_at_call 11; (with_reducible refine (flow_Safe.calls kf A0 c0 ts la gl A3 c3 code q false wY (Kd.C_below HT.out (below_step HB3.out LY.out.below)) hc0 (Kd.C_below HC.out (below_step HB3.out LY.out.below)) hc3 SAF.out).mono ?_); rintro e w5 ⟨rfl, hb5⟩; have b5 := (hb5.block _ (blk_lt LY.out.row)).trans LY.out.row; have x5 := ((below_step LY.out.below hb5).block w.heap.size hlt3).trans hX; have kp5 := fun j => cell_of_row w5 w.heap.size j _ _ _ x5; have hz35 := blk_lt b5; have hz05 := blk_lt x5; have kp5a := fun j => cell_of_row (w5.alloc (.map #[] 0)) w.heap.size j _ _ _ (row_old _ _ _ hz05 x5); have HB5 := Aside0.mk hb5; clear hb5)
                    | (go_at_call 12; (with_reducible refine (GO.out wY LY.out _ HB5.out).mono ?_); rintro e w6 ⟨cs', rfl, hS6, hb6⟩; have hz6 := hS6.size; have ho6 := hS6.one; have hb56 := below_step HB5.out hb6; have b6 := (hb56.block _ (blk_lt LY.out.row)).trans LY.out.row; have hz36 := blk_lt b6; have x6 := ((below_step LY.out.below hb56).block w.heap.size hlt3).trans hX; have kp6 := fun j => cell_of_row w6 w.heap.size j _ _ _ x6; have kp6a := fun j => cell_of_row (w6.alloc (.cells cs' 34)) w.heap.size j _ _ _ (row_old _ _ _ (blk_lt x6) x6); have k22 := (cell_of_row w6 w3.heap.size 22 _ _ _ b6).symm.trans ((hb56.cell (p := ⟨w3.heap.size, 22, none⟩) (blk_lt LY.out.row)).trans kqU); have k22a := (cell_of_row (w6.alloc (.cells cs' 34)) w3.heap.size 22 _ _ _ (row_old _ _ _ hz36 b6)).trans k22; have hpc6 := hS6.pc; have HS6 := Aside0.mk hS6; have HB6 := Aside0.mk hb6; have HB56 := Aside0.mk hb56; clear hS6 hb6 hb56)
                    | (apply ldS; (with_reducible rfl); rfl; rfl; exact rowT; (first | rfl | assumption))
                    | (apply srS; (with_reducible rfl); rfl; rfl; rfl; exact rowT; (first | rfl | assumption); (first | rfl | assumption); (first | rfl | assumption); exact setT)
                    | (go_at_call 13; (with_reducible refine (flow_Next.calls A0 c0 ts la gl A3 c3 code q _ _ (Kd.C_below HT.out (below_alloc (below_step (below_step HB3.out LY.out.below) HB56.out) _)) hc0 (Kd.C_below HC.out (below_alloc (below_step (below_step HB3.out LY.out.below) HB56.out) _)) hc3 NEXT.out).mono ?_); rintro e w7 ⟨v, rfl, hv, hb7⟩; obtain ⟨Al, cl, ev, hcl, hrl⟩ := Kd.R_reads hv; subst ev; have b7 := (hb7.block _ (by simp; omega)).trans (row_old _ _ _ hz36 b6); have t7 := (hb7.block _ (by simp)).trans (heap_alloc_new w6 _); have kt7 := (cell_of_row w7 w6.heap.size 22 _ _ _ t7).trans hpc6; have HRL := Aside0.mk hrl; have HB7 := Aside0.mk hb7; clear hv hrl hb7))
                  go_roundw
                  case rel =>
                    have hn2 := HN.out.step hmem
                    rw [HQ.out, HBS.out, if_neg (by simp)] at hn2
                    exact ⟨k + 1, u, cs', bn, _, _, by go_num, rfl, by omega, LM.next LY.out HB5.out HB6.out (below_step (below_alloc (Below.refl _ _) _) HB7.out) (LY.out.since.move (HB5.out.block _ LY.out.since.lt)) (.inl rfl) HS6.out, hs2.2.1, hn2⟩
                  case measure =>
                    simp [intOf]
                    omega
            · have hne : (er != 0) = true := by simpa using her
              go_wp2_with (first
                | (go_at_call 11; (with_reducible refine (flow_Safe.calls kf A0 c0 ts la gl A3 c3 code q false wY (Kd.C_below HT.out (below_step HB3.out LY.out.below)) hc0 (Kd.C_below HC.out (below_step HB3.out LY.out.below)) hc3 SAF.out).mono ?_); rintro e w5 ⟨rfl, hb5⟩; have b5 := (hb5.block _ (blk_lt LY.out.row)).trans LY.out.row; have x5 := ((below_step LY.out.below hb5).block w.heap.size hlt3).trans hX; have kp5 := fun j => cell_of_row w5 w.heap.size j _ _ _ x5; have hz35 := blk_lt b5; have hz05 := blk_lt x5; have kp5a := fun j => cell_of_row (w5.alloc (.map #[] 0)) w.heap.size j _ _ _ (row_old _ _ _ hz05 x5); have HB5 := Aside0.mk hb5; clear hb5)
                | (go_at_call 12; (with_reducible refine (GO.out wY LY.out _ HB5.out).mono ?_); rintro e w6 ⟨cs', rfl, hS6, hb6⟩; have hz6 := hS6.size; have ho6 := hS6.one; have hb56 := below_step HB5.out hb6; have b6 := (hb56.block _ (blk_lt LY.out.row)).trans LY.out.row; have hz36 := blk_lt b6; have x6 := ((below_step LY.out.below hb56).block w.heap.size hlt3).trans hX; have kp6 := fun j => cell_of_row w6 w.heap.size j _ _ _ x6; have kp6a := fun j => cell_of_row (w6.alloc (.cells cs' 34)) w.heap.size j _ _ _ (row_old _ _ _ (blk_lt x6) x6); have k22 := (cell_of_row w6 w3.heap.size 22 _ _ _ b6).symm.trans ((hb56.cell (p := ⟨w3.heap.size, 22, none⟩) (blk_lt LY.out.row)).trans kqU); have k22a := (cell_of_row (w6.alloc (.cells cs' 34)) w3.heap.size 22 _ _ _ (row_old _ _ _ hz36 b6)).trans k22; have hpc6 := hS6.pc; have HS6 := Aside0.mk hS6; have HB6 := Aside0.mk hb6; have HB56 := Aside0.mk hb56; clear hS6 hb6 hb56)
                | (apply ldS; (with_reducible rfl); rfl; rfl; exact rowT; (first | rfl | assumption))
                | (apply srS; (with_reducible rfl); rfl; rfl; rfl; exact rowT; (first | rfl | assumption); (first | rfl | assumption); (first | rfl | assumption); exact setT)
                | (go_at_call 13; (with_reducible refine (flow_Next.calls A0 c0 ts la gl A3 c3 code q _ _ (Kd.C_below HT.out (below_alloc (below_step (below_step HB3.out LY.out.below) HB56.out) _)) hc0 (Kd.C_below HC.out (below_alloc (below_step (below_step HB3.out LY.out.below) HB56.out) _)) hc3 NEXT.out).mono ?_); rintro e w7 ⟨v, rfl, hv, hb7⟩; obtain ⟨Al, cl, ev, hcl, hrl⟩ := Kd.R_reads hv; subst ev; have b7 := (hb7.block _ (by simp; omega)).trans (row_old _ _ _ hz36 b6); have t7 := (hb7.block _ (by simp)).trans (heap_alloc_new w6 _); have kt7 := (cell_of_row w7 w6.heap.size 22 _ _ _ t7).trans hpc6; have HRL := Aside0.mk hrl; have HB7 := Aside0.mk hb7; clear hv hrl hb7))
              go_ret
              exact ⟨rfl, below_alloc (below_step (below_step HB3.out LY.out.below) HB56.out) _⟩
      | false =>
        clear LOOPS hb
        go_upto_region 10 with (fail)
        obtain ⟨wB, hwB⟩ : ∃ x : World, x = wr' := ⟨_, rfl⟩
        have HBB : Aside0 (Below wr'.heap.size wr' wB) := ⟨by rw [hwB]; exact Below.refl _ _⟩
        have kpcB : wB.cell? ⟨w3.heap.size, 22, none⟩ = some (.int .i64 q) := by rw [hwB]; exact kpc
        rw [← hwB]
        clear hwB
        have hPUT := HL.out.put HBB.out (by unfold maxLen; omega) HWF.out
        rw [HQ.out] at hPUT
        obtain ⟨wX, wY, wZ, wV, e1, e2, e3, e4, kX, kZ, lY, lV⟩ := hPUT
        have LY := Aside0.mk lY
        have LV := Aside0.mk lV
        clear lY lV
        go_region
        have hxU := (LY.out.below.block w.heap.size hlt3).trans hX
        have kpU := fun j => cell_of_row wY w.heap.size j _ _ _ hxU
        have kqU := LY.out.pc
        rw [HQ.out] at kqU
        clear hxU
        cases bs with
        | true =>
          cases d with
          | true =>
            go_wp2_with (first
              | (go_at_call 11; (with_reducible refine (flow_Safe.calls kf A0 c0 ts la gl A3 c3 code q true wY (Kd.C_below HT.out (below_step HB3.out LY.out.below)) hc0 (Kd.C_below HC.out (below_step HB3.out LY.out.below)) hc3 SAF.out).mono ?_); rintro e w5 ⟨rfl, hb5⟩; have b5 := (hb5.block _ (blk_lt LY.out.row)).trans LY.out.row; have x5 := ((below_step LY.out.below hb5).block w.heap.size hlt3).trans hX; have kp5 := fun j => cell_of_row w5 w.heap.size j _ _ _ x5; have hz35 := blk_lt b5; have hz05 := blk_lt x5; have kp5a := fun j => cell_of_row (w5.alloc (.map #[] 0)) w.heap.size j _ _ _ (row_old _ _ _ hz05 x5); have HB5 := Aside0.mk hb5; clear hb5)
              | (go_at_call 12; (with_reducible refine (GO.out wY LY.out _ (below_alloc HB5.out _)).mono ?_); rintro e w6 ⟨cs', rfl, hS6, hb6⟩; have hz6 := hS6.size; have ho6 := hS6.one; have hb56 := below_step (below_alloc HB5.out _) hb6; have b6 := (hb56.block _ (blk_lt LY.out.row)).trans LY.out.row; have hz36 := blk_lt b6; have x6 := ((below_step LY.out.below hb56).block w.heap.size hlt3).trans hX; have kp6 := fun j => cell_of_row w6 w.heap.size j _ _ _ x6; have kp6a := fun j => cell_of_row (w6.alloc (.cells cs' 34)) w.heap.size j _ _ _ (row_old _ _ _ (blk_lt x6) x6); have k22 := (cell_of_row w6 w3.heap.size 22 _ _ _ b6).symm.trans ((hb56.cell (p := ⟨w3.heap.size, 22, none⟩) (blk_lt LY.out.row)).trans kqU); have k22a := (cell_of_row (w6.alloc (.cells cs' 34)) w3.heap.size 22 _ _ _ (row_old _ _ _ hz36 b6)).trans k22; have hpc6 := hS6.pc; have HS6 := Aside0.mk hS6; have HB6 := Aside0.mk hb6; have HB56 := Aside0.mk hb56; clear hS6 hb6 hb56)
              | (apply ldS; (with_reducible rfl); rfl; rfl; exact rowT; (first | rfl | assumption))
              | (apply srS; (with_reducible rfl); rfl; rfl; rfl; exact rowT; (first | rfl | assumption); (first | rfl | assumption); (first | rfl | assumption); exact setT)
              | (go_at_call 13; (with_reducible refine (flow_Next.calls A0 c0 ts la gl A3 c3 code q _ _ (Kd.C_below HT.out (below_alloc (below_step (below_step HB3.out LY.out.below) HB56.out) _)) hc0 (Kd.C_below HC.out (below_alloc (below_step (below_step HB3.out LY.out.below) HB56.out) _)) hc3 NEXT.out).mono ?_); rintro e w7 ⟨v, rfl, hv, hb7⟩; obtain ⟨Al, cl, ev, hcl, hrl⟩ := Kd.R_reads hv; subst ev; have b7 := (hb7.block _ (by simp; omega)).trans (row_old _ _ _ hz36 b6); have t7 := (hb7.block _ (by simp)).trans (heap_alloc_new w6 _); have kt7 := (cell_of_row w7 w6.heap.size 22 _ _ _ t7).trans hpc6; have HRL := Aside0.mk hrl; have HB7 := Aside0.mk hb7; clear hv hrl hb7))
            go_ret
            exact ⟨rfl, below_alloc (below_step (below_step HB3.out LY.out.below) HB56.out) _⟩
          | false =>
            by_cases her : er = 0
            · subst her
              go_wp2_with (first
                | (go_at_call 11; (with_reducible refine (flow_Safe.calls kf A0 c0 ts la gl A3 c3 code q true wY (Kd.C_below HT.out (below_step HB3.out LY.out.below)) hc0 (Kd.C_below HC.out (below_step HB3.out LY.out.below)) hc3 SAF.out).mono ?_); rintro e w5 ⟨rfl, hb5⟩; have b5 := (hb5.block _ (blk_lt LY.out.row)).trans LY.out.row; have x5 := ((below_step LY.out.below hb5).block w.heap.size hlt3).trans hX; have kp5 := fun j => cell_of_row w5 w.heap.size j _ _ _ x5; have hz35 := blk_lt b5; have hz05 := blk_lt x5; have kp5a := fun j => cell_of_row (w5.alloc (.map #[] 0)) w.heap.size j _ _ _ (row_old _ _ _ hz05 x5); have HB5 := Aside0.mk hb5; clear hb5)
                | (go_at_call 12; (with_reducible refine (GO.out wY LY.out _ (below_alloc HB5.out _)).mono ?_); rintro e w6 ⟨cs', rfl, hS6, hb6⟩; have hz6 := hS6.size; have ho6 := hS6.one; have hb56 := below_step (below_alloc HB5.out _) hb6; have b6 := (hb56.block _ (blk_lt LY.out.row)).trans LY.out.row; have hz36 := blk_lt b6; have x6 := ((below_step LY.out.below hb56).block w.heap.size hlt3).trans hX; have kp6 := fun j => cell_of_row w6 w.heap.size j _ _ _ x6; have kp6a := fun j => cell_of_row (w6.alloc (.cells cs' 34)) w.heap.size j _ _ _ (row_old _ _ _ (blk_lt x6) x6); have k22 := (cell_of_row w6 w3.heap.size 22 _ _ _ b6).symm.trans ((hb56.cell (p := ⟨w3.heap.size, 22, none⟩) (blk_lt LY.out.row)).trans kqU); have k22a := (cell_of_row (w6.alloc (.cells cs' 34)) w3.heap.size 22 _ _ _ (row_old _ _ _ hz36 b6)).trans k22; have hpc6 := hS6.pc; have HS6 := Aside0.mk hS6; have HB6 := Aside0.mk hb6; have HB56 := Aside0.mk hb56; clear hS6 hb6 hb56)
                | (apply ldS; (with_reducible rfl); rfl; rfl; exact rowT; (first | rfl | assumption))
                | (apply srS; (with_reducible rfl); rfl; rfl; rfl; exact rowT; (first | rfl | assumption); (first | rfl | assumption); (first | rfl | assumption); exact setT)
                | (go_at_call 13; (with_reducible refine (flow_Next.calls A0 c0 ts la gl A3 c3 code q _ _ (Kd.C_below HT.out (below_alloc (below_step (below_step HB3.out LY.out.below) HB56.out) _)) hc0 (Kd.C_below HC.out (below_alloc (below_step (below_step HB3.out LY.out.below) HB56.out) _)) hc3 NEXT.out).mono ?_); rintro e w7 ⟨v, rfl, hv, hb7⟩; obtain ⟨Al, cl, ev, hcl, hrl⟩ := Kd.R_reads hv; subst ev; have b7 := (hb7.block _ (by simp; omega)).trans (row_old _ _ _ hz36 b6); have t7 := (hb7.block _ (by simp)).trans (heap_alloc_new w6 _); have kt7 := (cell_of_row w7 w6.heap.size 22 _ _ _ t7).trans hpc6; have HRL := Aside0.mk hrl; have HB7 := Aside0.mk hb7; clear hv hrl hb7))
              have hs2 := SInv.step HSP.out hl hsz hla hgl hw HI.out HST.out
              have hmem := step_next HSP.out hl hsz hla hgl hw HI.out.pc0 hs2.1 HST.out
              have hmem2 := hmem
              rw [HQ.out] at hmem2
              have hnl2 := nxt_two code q
              have hfull : ((nxt code q).take (nxt code q).length).any (· == u.pc) = true := by
                rw [List.take_length, List.any_eq_true]
                exact ⟨u.pc, hmem2, by simp⟩
              clear e1 e2 e3 e4
              go_loop [73, 11] (fun a f => ∃ m : Nat, m ≤ (nxt code q).length ∧ a = .int .i64 m ∧ f = .bool (((nxt code q).take m).any (· == u.pc))) (fun a _ => (nxt code q).length - (intOf a).toNat)
              case atStart => exact ⟨0, Nat.zero_le _, rfl, rfl⟩
              case round =>
                obtain ⟨m, hm2, rfl, rfl⟩ := hrel
                by_cases hml : m < (nxt code q).length
                · obtain ⟨ad, rfl, hx⟩ := Kd.at_int HRL.out (m : Int) (by omega) (by omega)
                  rw [Int.toNat_natCast] at hx
                  have hat := any_take hml u.pc
                  have hml2 : (m : Int) < (nxt code q).length := by omega
                  obtain ⟨x, ex⟩ : ∃ x, rd (nxt code q) m = x := ⟨_, rfl⟩
                  obtain ⟨b1, eb1⟩ : ∃ b1, ((nxt code q).take m).any (· == u.pc) = b1 := ⟨_, rfl⟩
                  rw [ex] at hx hat
                  rw [eb1] at hat ⊢
                  cases b1 with
                  | true =>
                    go_wp2
                    refine ⟨⟨m + 1, by omega, by go_num, by rw [hat]; rfl⟩, ?_⟩
                    simp [intOf]
                    omega
                  | false =>
                    go_wp2
                    refine ⟨⟨m + 1, by omega, by go_num, by rw [hat]; simp⟩, ?_⟩
                    simp [intOf]
                    omega
                · obtain rfl : m = (nxt code q).length := by omega
                  rw [hfull]
                  go_wp2_with (first
                    | (go_at_call 11; (with_reducible refine (flow_Safe.calls kf A0 c0 ts la gl A3 c3 code q true wY (Kd.C_below HT.out (below_step HB3.out LY.out.below)) hc0 (Kd.C_below HC.out (below_step HB3.out LY.out.below)) hc3 SAF.out).mono ?_); rintro e w5 ⟨rfl, hb5⟩; have b5 := (hb5.block _ (blk_lt LY.out.row)).trans LY.out.row; have x5 := ((below_step LY.out.below hb5).block w.heap.size hlt3).trans hX; have kp5 := fun j => cell_of_row w5 w.heap.size j _ _ _ x5; have hz35 := blk_lt b5; have hz05 := blk_lt x5; have kp5a := fun j => cell_of_row (w5.alloc (.map #[] 0)) w.heap.size j _ _ _ (row_old _ _ _ hz05 x5); have HB5 := Aside0.mk hb5; clear hb5)
                    | (go_at_call 12; (with_reducible refine (GO.out wY LY.out _ (below_alloc HB5.out _)).mono ?_); rintro e w6 ⟨cs', rfl, hS6, hb6⟩; have hz6 := hS6.size; have ho6 := hS6.one; have hb56 := below_step (below_alloc HB5.out _) hb6; have b6 := (hb56.block _ (blk_lt LY.out.row)).trans LY.out.row; have hz36 := blk_lt b6; have x6 := ((below_step LY.out.below hb56).block w.heap.size hlt3).trans hX; have kp6 := fun j => cell_of_row w6 w.heap.size j _ _ _ x6; have kp6a := fun j => cell_of_row (w6.alloc (.cells cs' 34)) w.heap.size j _ _ _ (row_old _ _ _ (blk_lt x6) x6); have k22 := (cell_of_row w6 w3.heap.size 22 _ _ _ b6).symm.trans ((hb56.cell (p := ⟨w3.heap.size, 22, none⟩) (blk_lt LY.out.row)).trans kqU); have k22a := (cell_of_row (w6.alloc (.cells cs' 34)) w3.heap.size 22 _ _ _ (row_old _ _ _ hz36 b6)).trans k22; have hpc6 := hS6.pc; have HS6 := Aside0.mk hS6; have HB6 := Aside0.mk hb6; have HB56 := Aside0.mk hb56; clear hS6 hb6 hb56)
                    | (apply ldS; (with_reducible rfl); rfl; rfl; exact rowT; (first | rfl | assumption))
                    | (apply srS; (with_reducible rfl); rfl; rfl; rfl; exact rowT; (first | rfl | assumption); (first | rfl | assumption); (first | rfl | assumption); exact setT)
                    | (go_at_call 13; (with_reducible refine (flow_Next.calls A0 c0 ts la gl A3 c3 code q _ _ (Kd.C_below HT.out (below_alloc (below_step (below_step HB3.out LY.out.below) HB56.out) _)) hc0 (Kd.C_below HC.out (below_alloc (below_step (below_step HB3.out LY.out.below) HB56.out) _)) hc3 NEXT.out).mono ?_); rintro e w7 ⟨v, rfl, hv, hb7⟩; obtain ⟨Al, cl, ev, hcl, hrl⟩ := Kd.R_reads hv; subst ev; have b7 := (hb7.block _ (by simp; omega)).trans (row_old _ _ _ hz36 b6); have t7 := (hb7.block _ (by simp)).trans (heap_alloc_new w6 _); have kt7 := (cell_of_row w7 w6.heap.size 22 _ _ _ t7).trans hpc6; have HRL := Aside0.mk hrl; have HB7 := Aside0.mk hb7; clear hv hrl hb7))
                  go_roundw
                  case rel =>
                    have hn2 := HN.out.step hmem
                    rw [HQ.out, HBS.out, if_pos rfl] at hn2
                    exact ⟨k + 1, u, cs', w5.heap.size, _, _, by go_num, rfl, by omega, LM.next LY.out (below_alloc HB5.out _) HB6.out (below_step (below_alloc (Below.refl _ _) _) HB7.out) ((MB.set_new w5).mono (Nat.zero_le _)) (.inr HB5.out.size) HS6.out, hs2.2.1, hn2⟩
                  case measure =>
                    simp [intOf]
                    omega
            · have hne : (er != 0) = true := by simpa using her
              go_wp2_with (first
                | (go_at_call 11; (with_reducible refine (flow_Safe.calls kf A0 c0 ts la gl A3 c3 code q true wY (Kd.C_below HT.out (below_step HB3.out LY.out.below)) hc0 (Kd.C_below HC.out (below_step HB3.out LY.out.below)) hc3 SAF.out).mono ?_); rintro e w5 ⟨rfl, hb5⟩; have b5 := (hb5.block _ (blk_lt LY.out.row)).trans LY.out.row; have x5 := ((below_step LY.out.below hb5).block w.heap.size hlt3).trans hX; have kp5 := fun j => cell_of_row w5 w.heap.size j _ _ _ x5; have hz35 := blk_lt b5; have hz05 := blk_lt x5; have kp5a := fun j => cell_of_row (w5.alloc (.map #[] 0)) w.heap.size j _ _ _ (row_old _ _ _ hz05 x5); have HB5 := Aside0.mk hb5; clear hb5)
                | (go_at_call 12; (with_reducible refine (GO.out wY LY.out _ (below_alloc HB5.out _)).mono ?_); rintro e w6 ⟨cs', rfl, hS6, hb6⟩; have hz6 := hS6.size; have ho6 := hS6.one; have hb56 := below_step (below_alloc HB5.out _) hb6; have b6 := (hb56.block _ (blk_lt LY.out.row)).trans LY.out.row; have hz36 := blk_lt b6; have x6 := ((below_step LY.out.below hb56).block w.heap.size hlt3).trans hX; have kp6 := fun j => cell_of_row w6 w.heap.size j _ _ _ x6; have kp6a := fun j => cell_of_row (w6.alloc (.cells cs' 34)) w.heap.size j _ _ _ (row_old _ _ _ (blk_lt x6) x6); have k22 := (cell_of_row w6 w3.heap.size 22 _ _ _ b6).symm.trans ((hb56.cell (p := ⟨w3.heap.size, 22, none⟩) (blk_lt LY.out.row)).trans kqU); have k22a := (cell_of_row (w6.alloc (.cells cs' 34)) w3.heap.size 22 _ _ _ (row_old _ _ _ hz36 b6)).trans k22; have hpc6 := hS6.pc; have HS6 := Aside0.mk hS6; have HB6 := Aside0.mk hb6; have HB56 := Aside0.mk hb56; clear hS6 hb6 hb56)
                | (apply ldS; (with_reducible rfl); rfl; rfl; exact rowT; (first | rfl | assumption))
                | (apply srS; (with_reducible rfl); rfl; rfl; rfl; exact rowT; (first | rfl | assumption); (first | rfl | assumption); (first | rfl | assumption); exact setT)
                | (go_at_call 13; (with_reducible refine (flow_Next.calls A0 c0 ts la gl A3 c3 code q _ _ (Kd.C_below HT.out (below_alloc (below_step (below_step HB3.out LY.out.below) HB56.out) _)) hc0 (Kd.C_below HC.out (below_alloc (below_step (below_step HB3.out LY.out.below) HB56.out) _)) hc3 NEXT.out).mono ?_); rintro e w7 ⟨v, rfl, hv, hb7⟩; obtain ⟨Al, cl, ev, hcl, hrl⟩ := Kd.R_reads hv; subst ev; have b7 := (hb7.block _ (by simp; omega)).trans (row_old _ _ _ hz36 b6); have t7 := (hb7.block _ (by simp)).trans (heap_alloc_new w6 _); have kt7 := (cell_of_row w7 w6.heap.size 22 _ _ _ t7).trans hpc6; have HRL := Aside0.mk hrl; have HB7 := Aside0.mk hb7; clear hv hrl hb7))
              go_ret
              exact ⟨rfl, below_alloc (below_step (below_step HB3.out LY.out.below) HB56.out) _⟩
        | false =>
          cases d with
          | true =>
            go_wp2_with (first
              | (go_at_call 11; (with_reducible refine (flow_Safe.calls kf A0 c0 ts la gl A3 c3 code q false wY (Kd.C_below HT.out (below_step HB3.out LY.out.below)) hc0 (Kd.C_below HC.out (below_step HB3.out LY.out.below)) hc3 SAF.out).mono ?_); rintro e w5 ⟨rfl, hb5⟩; have b5 := (hb5.block _ (blk_lt LY.out.row)).trans LY.out.row; have x5 := ((below_step LY.out.below hb5).block w.heap.size hlt3).trans hX; have kp5 := fun j => cell_of_row w5 w.heap.size j _ _ _ x5; have hz35 := blk_lt b5; have hz05 := blk_lt x5; have kp5a := fun j => cell_of_row (w5.alloc (.map #[] 0)) w.heap.size j _ _ _ (row_old _ _ _ hz05 x5); have HB5 := Aside0.mk hb5; clear hb5)
              | (go_at_call 12; (with_reducible refine (GO.out wY LY.out _ HB5.out).mono ?_); rintro e w6 ⟨cs', rfl, hS6, hb6⟩; have hz6 := hS6.size; have ho6 := hS6.one; have hb56 := below_step HB5.out hb6; have b6 := (hb56.block _ (blk_lt LY.out.row)).trans LY.out.row; have hz36 := blk_lt b6; have x6 := ((below_step LY.out.below hb56).block w.heap.size hlt3).trans hX; have kp6 := fun j => cell_of_row w6 w.heap.size j _ _ _ x6; have kp6a := fun j => cell_of_row (w6.alloc (.cells cs' 34)) w.heap.size j _ _ _ (row_old _ _ _ (blk_lt x6) x6); have k22 := (cell_of_row w6 w3.heap.size 22 _ _ _ b6).symm.trans ((hb56.cell (p := ⟨w3.heap.size, 22, none⟩) (blk_lt LY.out.row)).trans kqU); have k22a := (cell_of_row (w6.alloc (.cells cs' 34)) w3.heap.size 22 _ _ _ (row_old _ _ _ hz36 b6)).trans k22; have hpc6 := hS6.pc; have HS6 := Aside0.mk hS6; have HB6 := Aside0.mk hb6; have HB56 := Aside0.mk hb56; clear hS6 hb6 hb56)
              | (apply ldS; (with_reducible rfl); rfl; rfl; exact rowT; (first | rfl | assumption))
              | (apply srS; (with_reducible rfl); rfl; rfl; rfl; exact rowT; (first | rfl | assumption); (first | rfl | assumption); (first | rfl | assumption); exact setT)
              | (go_at_call 13; (with_reducible refine (flow_Next.calls A0 c0 ts la gl A3 c3 code q _ _ (Kd.C_below HT.out (below_alloc (below_step (below_step HB3.out LY.out.below) HB56.out) _)) hc0 (Kd.C_below HC.out (below_alloc (below_step (below_step HB3.out LY.out.below) HB56.out) _)) hc3 NEXT.out).mono ?_); rintro e w7 ⟨v, rfl, hv, hb7⟩; obtain ⟨Al, cl, ev, hcl, hrl⟩ := Kd.R_reads hv; subst ev; have b7 := (hb7.block _ (by simp; omega)).trans (row_old _ _ _ hz36 b6); have t7 := (hb7.block _ (by simp)).trans (heap_alloc_new w6 _); have kt7 := (cell_of_row w7 w6.heap.size 22 _ _ _ t7).trans hpc6; have HRL := Aside0.mk hrl; have HB7 := Aside0.mk hb7; clear hv hrl hb7))
            go_ret
            exact ⟨rfl, below_alloc (below_step (below_step HB3.out LY.out.below) HB56.out) _⟩
          | false =>
            by_cases her : er = 0
            · subst her
              go_wp2_with (first
                | (go_at_call 11; (with_reducible refine (flow_Safe.calls kf A0 c0 ts la gl A3 c3 code q false wY (Kd.C_below HT.out (below_step HB3.out LY.out.below)) hc0 (Kd.C_below HC.out (below_step HB3.out LY.out.below)) hc3 SAF.out).mono ?_); rintro e w5 ⟨rfl, hb5⟩; have b5 := (hb5.block _ (blk_lt LY.out.row)).trans LY.out.row; have x5 := ((below_step LY.out.below hb5).block w.heap.size hlt3).trans hX; have kp5 := fun j => cell_of_row w5 w.heap.size j _ _ _ x5; have hz35 := blk_lt b5; have hz05 := blk_lt x5; have kp5a := fun j => cell_of_row (w5.alloc (.map #[] 0)) w.heap.size j _ _ _ (row_old _ _ _ hz05 x5); have HB5 := Aside0.mk hb5; clear hb5)
                | (go_at_call 12; (with_reducible refine (GO.out wY LY.out _ HB5.out).mono ?_); rintro e w6 ⟨cs', rfl, hS6, hb6⟩; have hz6 := hS6.size; have ho6 := hS6.one; have hb56 := below_step HB5.out hb6; have b6 := (hb56.block _ (blk_lt LY.out.row)).trans LY.out.row; have hz36 := blk_lt b6; have x6 := ((below_step LY.out.below hb56).block w.heap.size hlt3).trans hX; have kp6 := fun j => cell_of_row w6 w.heap.size j _ _ _ x6; have kp6a := fun j => cell_of_row (w6.alloc (.cells cs' 34)) w.heap.size j _ _ _ (row_old _ _ _ (blk_lt x6) x6); have k22 := (cell_of_row w6 w3.heap.size 22 _ _ _ b6).symm.trans ((hb56.cell (p := ⟨w3.heap.size, 22, none⟩) (blk_lt LY.out.row)).trans kqU); have k22a := (cell_of_row (w6.alloc (.cells cs' 34)) w3.heap.size 22 _ _ _ (row_old _ _ _ hz36 b6)).trans k22; have hpc6 := hS6.pc; have HS6 := Aside0.mk hS6; have HB6 := Aside0.mk hb6; have HB56 := Aside0.mk hb56; clear hS6 hb6 hb56)
                | (apply ldS; (with_reducible rfl); rfl; rfl; exact rowT; (first | rfl | assumption))
                | (apply srS; (with_reducible rfl); rfl; rfl; rfl; exact rowT; (first | rfl | assumption); (first | rfl | assumption); (first | rfl | assumption); exact setT)
                | (go_at_call 13; (with_reducible refine (flow_Next.calls A0 c0 ts la gl A3 c3 code q _ _ (Kd.C_below HT.out (below_alloc (below_step (below_step HB3.out LY.out.below) HB56.out) _)) hc0 (Kd.C_below HC.out (below_alloc (below_step (below_step HB3.out LY.out.below) HB56.out) _)) hc3 NEXT.out).mono ?_); rintro e w7 ⟨v, rfl, hv, hb7⟩; obtain ⟨Al, cl, ev, hcl, hrl⟩ := Kd.R_reads hv; subst ev; have b7 := (hb7.block _ (by simp; omega)).trans (row_old _ _ _ hz36 b6); have t7 := (hb7.block _ (by simp)).trans (heap_alloc_new w6 _); have kt7 := (cell_of_row w7 w6.heap.size 22 _ _ _ t7).trans hpc6; have HRL := Aside0.mk hrl; have HB7 := Aside0.mk hb7; clear hv hrl hb7))
              have hs2 := SInv.step HSP.out hl hsz hla hgl hw HI.out HST.out
              have hmem := step_next HSP.out hl hsz hla hgl hw HI.out.pc0 hs2.1 HST.out
              have hmem2 := hmem
              rw [HQ.out] at hmem2
              have hnl2 := nxt_two code q
              have hfull : ((nxt code q).take (nxt code q).length).any (· == u.pc) = true := by
                rw [List.take_length, List.any_eq_true]
                exact ⟨u.pc, hmem2, by simp⟩
              clear e1 e2 e3 e4
              go_loop [73, 11] (fun a f => ∃ m : Nat, m ≤ (nxt code q).length ∧ a = .int .i64 m ∧ f = .bool (((nxt code q).take m).any (· == u.pc))) (fun a _ => (nxt code q).length - (intOf a).toNat)
              case atStart => exact ⟨0, Nat.zero_le _, rfl, rfl⟩
              case round =>
                obtain ⟨m, hm2, rfl, rfl⟩ := hrel
                by_cases hml : m < (nxt code q).length
                · obtain ⟨ad, rfl, hx⟩ := Kd.at_int HRL.out (m : Int) (by omega) (by omega)
                  rw [Int.toNat_natCast] at hx
                  have hat := any_take hml u.pc
                  have hml2 : (m : Int) < (nxt code q).length := by omega
                  obtain ⟨x, ex⟩ : ∃ x, rd (nxt code q) m = x := ⟨_, rfl⟩
                  obtain ⟨b1, eb1⟩ : ∃ b1, ((nxt code q).take m).any (· == u.pc) = b1 := ⟨_, rfl⟩
                  rw [ex] at hx hat
                  rw [eb1] at hat ⊢
                  cases b1 with
                  | true =>
                    go_wp2
                    refine ⟨⟨m + 1, by omega, by go_num, by rw [hat]; rfl⟩, ?_⟩
                    simp [intOf]
                    omega
                  | false =>
                    go_wp2
                    refine ⟨⟨m + 1, by omega, by go_num, by rw [hat]; simp⟩, ?_⟩
                    simp [intOf]
                    omega
                · obtain rfl : m = (nxt code q).length := by omega
                  rw [hfull]
                  go_wp2_with (first
                    | (go_at_call 11; (with_reducible refine (flow_Safe.calls kf A0 c0 ts la gl A3 c3 code q false wY (Kd.C_below HT.out (below_step HB3.out LY.out.below)) hc0 (Kd.C_below HC.out (below_step HB3.out LY.out.below)) hc3 SAF.out).mono ?_); rintro e w5 ⟨rfl, hb5⟩; have b5 := (hb5.block _ (blk_lt LY.out.row)).trans LY.out.row; have x5 := ((below_step LY.out.below hb5).block w.heap.size hlt3).trans hX; have kp5 := fun j => cell_of_row w5 w.heap.size j _ _ _ x5; have hz35 := blk_lt b5; have hz05 := blk_lt x5; have kp5a := fun j => cell_of_row (w5.alloc (.map #[] 0)) w.heap.size j _ _ _ (row_old _ _ _ hz05 x5); have HB5 := Aside0.mk hb5; clear hb5)
                    | (go_at_call 12; (with_reducible refine (GO.out wY LY.out _ HB5.out).mono ?_); rintro e w6 ⟨cs', rfl, hS6, hb6⟩; have hz6 := hS6.size; have ho6 := hS6.one; have hb56 := below_step HB5.out hb6; have b6 := (hb56.block _ (blk_lt LY.out.row)).trans LY.out.row; have hz36 := blk_lt b6; have x6 := ((below_step LY.out.below hb56).block w.heap.size hlt3).trans hX; have kp6 := fun j => cell_of_row w6 w.heap.size j _ _ _ x6; have kp6a := fun j => cell_of_row (w6.alloc (.cells cs' 34)) w.heap.size j _ _ _ (row_old _ _ _ (blk_lt x6) x6); have k22 := (cell_of_row w6 w3.heap.size 22 _ _ _ b6).symm.trans ((hb56.cell (p := ⟨w3.heap.size, 22, none⟩) (blk_lt LY.out.row)).trans kqU); have k22a := (cell_of_row (w6.alloc (.cells cs' 34)) w3.heap.size 22 _ _ _ (row_old _ _ _ hz36 b6)).trans k22; have hpc6 := hS6.pc; have HS6 := Aside0.mk hS6; have HB6 := Aside0.mk hb6; have HB56 := Aside0.mk hb56; clear hS6 hb6 hb56)
                    | (apply ldS; (with_reducible rfl); rfl; rfl; exact rowT; (first | rfl | assumption))
                    | (apply srS; (with_reducible rfl); rfl; rfl; rfl; exact rowT; (first | rfl | assumption); (first | rfl | assumption); (first | rfl | assumption); exact setT)
                    | (go_at_call 13; (with_reducible refine (flow_Next.calls A0 c0 ts la gl A3 c3 code q _ _ (Kd.C_below HT.out (below_alloc (below_step (below_step HB3.out LY.out.below) HB56.out) _)) hc0 (Kd.C_below HC.out (below_alloc (below_step (below_step HB3.out LY.out.below) HB56.out) _)) hc3 NEXT.out).mono ?_); rintro e w7 ⟨v, rfl, hv, hb7⟩; obtain ⟨Al, cl, ev, hcl, hrl⟩ := Kd.R_reads hv; subst ev; have b7 := (hb7.block _ (by simp; omega)).trans (row_old _ _ _ hz36 b6); have t7 := (hb7.block _ (by simp)).trans (heap_alloc_new w6 _); have kt7 := (cell_of_row w7 w6.heap.size 22 _ _ _ t7).trans hpc6; have HRL := Aside0.mk hrl; have HB7 := Aside0.mk hb7; clear hv hrl hb7))
                  go_roundw
                  case rel =>
                    have hn2 := HN.out.step hmem
                    rw [HQ.out, HBS.out, if_neg (by simp)] at hn2
                    exact ⟨k + 1, u, cs', bn, _, _, by go_num, rfl, by omega, LM.next LY.out HB5.out HB6.out (below_step (below_alloc (Below.refl _ _) _) HB7.out) (LY.out.since.move (HB5.out.block _ LY.out.since.lt)) (.inl rfl) HS6.out, hs2.2.1, hn2⟩
                  case measure =>
                    simp [intOf]
                    omega
            · have hne : (er != 0) = true := by simpa using her
              go_wp2_with (first
                | (go_at_call 11; (with_reducible refine (flow_Safe.calls kf A0 c0 ts la gl A3 c3 code q false wY (Kd.C_below HT.out (below_step HB3.out LY.out.below)) hc0 (Kd.C_below HC.out (below_step HB3.out LY.out.below)) hc3 SAF.out).mono ?_); rintro e w5 ⟨rfl, hb5⟩; have b5 := (hb5.block _ (blk_lt LY.out.row)).trans LY.out.row; have x5 := ((below_step LY.out.below hb5).block w.heap.size hlt3).trans hX; have kp5 := fun j => cell_of_row w5 w.heap.size j _ _ _ x5; have hz35 := blk_lt b5; have hz05 := blk_lt x5; have kp5a := fun j => cell_of_row (w5.alloc (.map #[] 0)) w.heap.size j _ _ _ (row_old _ _ _ hz05 x5); have HB5 := Aside0.mk hb5; clear hb5)
                | (go_at_call 12; (with_reducible refine (GO.out wY LY.out _ HB5.out).mono ?_); rintro e w6 ⟨cs', rfl, hS6, hb6⟩; have hz6 := hS6.size; have ho6 := hS6.one; have hb56 := below_step HB5.out hb6; have b6 := (hb56.block _ (blk_lt LY.out.row)).trans LY.out.row; have hz36 := blk_lt b6; have x6 := ((below_step LY.out.below hb56).block w.heap.size hlt3).trans hX; have kp6 := fun j => cell_of_row w6 w.heap.size j _ _ _ x6; have kp6a := fun j => cell_of_row (w6.alloc (.cells cs' 34)) w.heap.size j _ _ _ (row_old _ _ _ (blk_lt x6) x6); have k22 := (cell_of_row w6 w3.heap.size 22 _ _ _ b6).symm.trans ((hb56.cell (p := ⟨w3.heap.size, 22, none⟩) (blk_lt LY.out.row)).trans kqU); have k22a := (cell_of_row (w6.alloc (.cells cs' 34)) w3.heap.size 22 _ _ _ (row_old _ _ _ hz36 b6)).trans k22; have hpc6 := hS6.pc; have HS6 := Aside0.mk hS6; have HB6 := Aside0.mk hb6; have HB56 := Aside0.mk hb56; clear hS6 hb6 hb56)
                | (apply ldS; (with_reducible rfl); rfl; rfl; exact rowT; (first | rfl | assumption))
                | (apply srS; (with_reducible rfl); rfl; rfl; rfl; exact rowT; (first | rfl | assumption); (first | rfl | assumption); (first | rfl | assumption); exact setT)
                | (go_at_call 13; (with_reducible refine (flow_Next.calls A0 c0 ts la gl A3 c3 code q _ _ (Kd.C_below HT.out (below_alloc (below_step (below_step HB3.out LY.out.below) HB56.out) _)) hc0 (Kd.C_below HC.out (below_alloc (below_step (below_step HB3.out LY.out.below) HB56.out) _)) hc3 NEXT.out).mono ?_); rintro e w7 ⟨v, rfl, hv, hb7⟩; obtain ⟨Al, cl, ev, hcl, hrl⟩ := Kd.R_reads hv; subst ev; have b7 := (hb7.block _ (by simp; omega)).trans (row_old _ _ _ hz36 b6); have t7 := (hb7.block _ (by simp)).trans (heap_alloc_new w6 _); have kt7 := (cell_of_row w7 w6.heap.size 22 _ _ _ t7).trans hpc6; have HRL := Aside0.mk hrl; have HB7 := Aside0.mk hb7; clear hv hrl hb7))
              go_ret
              exact ⟨rfl, below_alloc (below_step (below_step HB3.out LY.out.below) HB56.out) _⟩
    · go_wp2
      go_ret
      exact ⟨rfl, below_step HB3.out HL.out.below⟩
end
theorem FlowRuns_walk (w : World) (A0 : Option Addr) (c0 : Nat) (ts : List ByteArray) (la gl : ByteArray) (A3 : Option Addr) (c3 : Nat) (code : List S47)
    (hT : Kd.C Kd.string w A0 ts.length ts) (hc0 : ts.length ≤ c0) (hC : Kd.C k47 w A3 code.length code) (hc3 : code.length ≤ c3) (htab : TB w)
    (hl : (ts.length : Int) ≤ 9223372036854775807) (hsz : ∀ s ∈ ts, (s.size : Int) ≤ 9223372036854775807) (hla : Fit la) (hgl : Fit gl) (hw : WfC code) (many : Int) (h0 : 0 ≤ many) (h1 : many ≤ 255) :
    Calls Tryd.prog 3 #[.agg #[.slice A0 ts.length c0, .string la, .string gl, .slice A3 code.length c3], .int .u8 many] w fun e w' => e = .returned (.bool true) ∧ Below w.heap.size w w' := by
  obtain ⟨m, rfl⟩ := Int.eq_ofNat_of_zero_le h0
  have hc : (code.length : Int) ≤ 9223372036854775807 := by have := Kd.C_max hC; omega
  obtain ⟨b, hb, hsp⟩ := sound_chk hl hsz hla hgl hc hw
  obtain ⟨ks, hks⟩ := ev_at hb
  obtain ⟨ka, hka⟩ := ev_at FL.alive_ev
  cases b with
  | false => exact FlowRuns_no w A0 c0 ts la gl A3 c3 code hT hc0 hC hc3 htab hl hsz hla hgl hw m (by omega) ks ka hks hka
  | true =>
    obtain ⟨hp, ck, hck⟩ := hsp rfl
    obtain ⟨kc, hkc⟩ := ev_at hck
    exact FlowRuns_yes w A0 c0 ts la gl A3 c3 code hT hc0 hC hc3 htab hl hsz hla hgl hw m (by omega) ks ka kc ck hks hka hp hkc
end Go.Proofs.YtkplgfhkebkaaaaDoor.ST

namespace Go.Proofs.YtkplgfhkebkaaaaDoor.Rw
open Go.RowKit Go.Proofs.YtkplgfhkebkaaaaDoorW.PrintWords
def IsStrs (w : World) (a : Option Addr) (len cap : Nat) (zs : List ByteArray) : Prop :=
  (a = none ∧ len = 0 ∧ cap = 0 ∧ zs = []) ∨
  ∃ x, a = some x ∧ len ≤ cap ∧ cap ≤ maxLen ∧ zs.length = cap ∧ (∀ i, i < zs.length → w.cell? (x.add i) = some (.string (zs.getD i ByteArray.empty))) ∧ ∀ s ∈ zs, s.size ≤ maxLen
theorem strs_C {w : World} {a : Option Addr} {len cap : Nat} {zs : List ByteArray} (h : IsStrs w a len cap zs) :
    ∃ l0 : List ByteArray, len = l0.length ∧ l0.length ≤ cap ∧ Kd.C Kd.string w a l0.length l0 ∧ ∀ s ∈ l0, (s.size : Int) ≤ 9223372036854775807 := by
  rcases h with ⟨rfl, rfl, rfl, rfl⟩ | ⟨x, rfl, hl, hm, hz, hc, hs⟩
  · exact ⟨[], rfl, Nat.le_refl _, Kd.C_nil _ _, fun s hs => by cases hs⟩
  · have hlen : (zs.take len).length = len := by rw [List.length_take]; omega
    refine ⟨zs.take len, hlen.symm, by omega, Kd.C_of_reads (d := ByteArray.empty) ⟨rfl, ?_, fun _ => ⟨x, rfl, fun j hj => ?_⟩⟩, fun s h => ?_⟩
    · rw [hlen]; unfold maxLen at hm; omega
    · rw [hlen] at hj
      rw [hc j (by omega)]
      congr 2
      rw [List.getD_eq_getElem?_getD, List.getD_eq_getElem?_getD, List.getElem?_take, if_pos hj]
    · have := hs s (List.mem_of_mem_take h)
      unfold maxLen at this
      omega
end Go.Proofs.YtkplgfhkebkaaaaDoor.Rw

namespace Go.Proofs.YtkplgfhkebkaaaaDoor.Rw
open Go.ChangeShapes Go.ChangeAt Go.RowKit Go.WideShapes Go.Proofs.YtkplgfhkebkaaaaDoorW.PrintWords Go.Proofs.YtkplgfhkebkaaaaDoor.F Go.Proofs.YtkplgfhkebkaaaaDoor.TT
theorem wf_u8 {n : Int} (h : (Lit.int .u8 n).wf = true) : 0 ≤ n ∧ n ≤ 255 := by
  simp [Lit.wf, IntKind.min, IntKind.max, IntKind.signed, IntKind.bits] at h
  omega
theorem wf_i64 {n : Int} (h : (Lit.int .i64 n).wf = true) : -9223372036854775808 ≤ n ∧ n ≤ 9223372036854775807 := by
  simp [Lit.wf, IntKind.min, IntKind.max, IntKind.signed, IntKind.bits] at h
  omega
theorem add_add (a : Addr) (i j : Nat) : (a.add i).add j = a.add (i + j) := by
  unfold Addr.add
  by_cases h1 : i = 0 <;> by_cases h2 : j = 0 <;> simp [h1, h2, Nat.add_assoc]
section
variable {H : Type} {enc : TypeId × Value → H} {W : World} {held : Bool} {sp : Nat → Bool}
set_option maxRecDepth 100000 in
theorem ins_at {fuel : Nat} {cs : List Value} {x : DataW H × List MemPlace} (h : DataW.trod enc Tryd.prog W 0 sp held fuel 47 cs = some x) :
    ∃ s : S47, cs = [.int .u8 s.f0, .int .u8 s.f1, .int .u8 s.f2, .int .u8 s.f3, .int .i64 s.f4] ∧ WfI s.f0 s.f1 s.f2 s.f3 s.f4 := by
  obtain ⟨xs, n, _, _, hl, hxl, hf⟩ := DataW.trod_struct Tryd.underlying47 h
  have hc5 : Tryd.prog.cellsOf 47 = 5 := by kernel_rfl
  have c1 : Tryd.prog.cellsOf 5 = 1 := by kernel_rfl
  have c2 : Tryd.prog.cellsOf 2 = 1 := by kernel_rfl
  rw [hc5] at hl
  match cs, hl with
  | [a, b, c, d, e], _ =>
    match xs, hxl with
    | [x0, x1, x2, x3, x4], _ =>
      obtain ⟨n0, e0, _, w0⟩ := DataW.trod_int Tryd.underlying5 (hf 0 _ rfl)
      obtain ⟨n1, e1, _, w1⟩ := DataW.trod_int Tryd.underlying5 (hf 1 _ rfl)
      obtain ⟨n2, e2, _, w2⟩ := DataW.trod_int Tryd.underlying5 (hf 2 _ rfl)
      obtain ⟨n3, e3, _, w3⟩ := DataW.trod_int Tryd.underlying5 (hf 3 _ rfl)
      obtain ⟨n4, e4, _, w4⟩ := DataW.trod_int Tryd.underlying2 (hf 4 _ rfl)
      have e0' : a = .int .u8 n0 := by simpa [c1, c2] using e0
      have e1' : b = .int .u8 n1 := by simpa [c1, c2] using e1
      have e2' : c = .int .u8 n2 := by simpa [c1, c2] using e2
      have e3' : d = .int .u8 n3 := by simpa [c1, c2] using e3
      have e4' : e = .int .i64 n4 := by simpa [c1, c2] using e4
      exact ⟨⟨n0, n1, n2, n3, n4⟩, by rw [e0', e1', e2', e3', e4'], wf_u8 w0, wf_u8 w1, wf_u8 w2, wf_u8 w3, wf_i64 w4⟩
set_option maxRecDepth 100000 in
theorem ins_row {fuel : Nat} {v : Value} {x : DataW H × List MemPlace} (h : DataW.trod enc Tryd.prog W 0 sp held fuel 23 [v] = some x) :
    ∃ (A : Option Addr) (c : Nat) (code : List S47), v = .slice A code.length c ∧ code.length ≤ c ∧ Kd.C k47 W A code.length code ∧ WfC code := by
  have hc5 : Tryd.prog.cellsOf 47 = 5 := by kernel_rfl
  rcases DataW.trod_slice Tryd.underlying23 h with ⟨h0, _⟩ | ⟨a, len, cap, elems, rest, n, _, h0, _, hb, hl, hm, hlen, hel, _, _⟩
  · injection h0 with h0
    exact ⟨none, 0, [], h0, Nat.le_refl _, Kd.C_nil _ _, fun x hx => by cases hx⟩
  · injection h0 with h0
    have each : ∀ i, ∃ s : S47, i < len → (∀ j u, ([.int .u8 s.f0, .int .u8 s.f1, .int .u8 s.f2, .int .u8 s.f3, .int .i64 s.f4] : List Value)[j]? = some u → W.cell? (a.add (i * 5 + j)) = some u) ∧ WfI s.f0 s.f1 s.f2 s.f3 s.f4 := by
      intro i
      by_cases hi : i < len
      · have h1 := hel i hi
        rw [List.getElem?_eq_getElem (by omega), hc5, Option.bind_eq_some_iff] at h1
        obtain ⟨cs, h2, h3⟩ := h1
        obtain ⟨s, rfl, hw⟩ := ins_at h3
        obtain ⟨_, _, h4⟩ := World.cells?_some h2
        refine ⟨s, fun _ => ⟨fun j u hu => ?_, hw⟩⟩
        have hj : j < 5 := by
          have := (List.getElem?_eq_some_iff.1 hu).1
          simpa using this
        have h5 := h4 j hj
        rw [hu] at h5
        rw [← h5]
        rw [add_add]
      · exact ⟨z47, fun h => absurd h hi⟩
    obtain ⟨f, hf⟩ := Classical.axiomOfChoice each
    have hlm : ((List.range len).map f).length = len := by simp
    refine ⟨some a, cap, (List.range len).map f, by rw [hlm]; exact h0, by rw [hlm]; exact hl, ?_, fun s hs => ?_⟩
    · rw [hlm]
      refine ⟨hlm, by unfold maxLen at hm; omega, fun _ => ⟨a, rfl, fun j p hp => ?_⟩⟩
      rw [List.getElem?_map] at hp
      by_cases hj : j < len
      · rw [List.getElem?_range hj] at hp
        obtain rfl := Option.some.inj hp
        exact ⟨_, rfl, k47_mk W (f j), fun i u hu => ((hf j) hj).1 i u hu⟩
      · rw [List.getElem?_eq_none (by simpa using hj)] at hp
        cases hp
    · obtain ⟨j, hj, rfl⟩ := List.mem_map.1 hs
      exact ((hf j) (List.mem_range.1 hj)).2
set_option maxRecDepth 100000 in
theorem open_prog {r : Reach} {b0 : Nat} {v : Value} {d : DataW H} {ps : List MemPlace} (hval : Value.okWide Tryd.prog W r b0 25 v) (hd : DataW.Trod enc Tryd.prog W 0 (fun _ => true) held 25 v d ps) :
    ∃ (A0 : Option Addr) (c0 : Nat) (ts : List ByteArray) (la gl : ByteArray) (A3 : Option Addr) (c3 : Nat) (code : List S47),
      v = .agg #[.slice A0 ts.length c0, .string la, .string gl, .slice A3 code.length c3] ∧ ts.length ≤ c0 ∧ Kd.C Kd.string W A0 ts.length ts ∧ (∀ s ∈ ts, (s.size : Int) ≤ 9223372036854775807) ∧
      Fit la ∧ Fit gl ∧ code.length ≤ c3 ∧ Kd.C k47 W A3 code.length code ∧ WfC code := by
  obtain ⟨cs, rfl, hn⟩ := okWide_struct Tryd.underlying25 hval
  have hc4 : Tryd.prog.cellsOf 25 = 4 := by kernel_rfl
  have c1 : Tryd.prog.cellsOf 9 = 1 := by kernel_rfl
  have c2 : Tryd.prog.cellsOf 22 = 1 := by kernel_rfl
  have c3' : Tryd.prog.cellsOf 23 = 1 := by kernel_rfl
  rw [hc4] at hn
  obtain ⟨fuel, hf⟩ := hd
  obtain ⟨xs, n, _, _, _, hxl, hfl⟩ := DataW.trod_struct Tryd.underlying25 hf
  obtain ⟨l⟩ := cs
  match l, hn with
  | [a, b, c, e], _ =>
    match xs, hxl with
    | [x0, x1, x2, x3], _ =>
      have f0 : DataW.trod enc Tryd.prog W 0 (fun _ => true) held n 22 [a] = some x0 := by simpa [c2, Value.cells] using hfl 0 _ rfl
      have f1 : DataW.trod enc Tryd.prog W 0 (fun _ => true) held n 9 [b] = some x1 := by simpa [c1, Value.cells] using hfl 1 _ rfl
      have f2 : DataW.trod enc Tryd.prog W 0 (fun _ => true) held n 9 [c] = some x2 := by simpa [c1, Value.cells] using hfl 2 _ rfl
      have f3 : DataW.trod enc Tryd.prog W 0 (fun _ => true) held n 23 [e] = some x3 := by simpa [c3', Value.cells] using hfl 3 _ rfl
      obtain ⟨s1, e1, _, w1⟩ := DataW.trod_string Tryd.underlying9 f1
      obtain ⟨s2, e2, _, w2⟩ := DataW.trod_string Tryd.underlying9 f2
      obtain ⟨A3, c3, code, e3, hc3, hC3, hw⟩ := ins_row f3
      injection e1 with e1
      injection e2 with e2
      have hS : ∃ A len cap zs, a = .slice A len cap ∧ IsStrs W A len cap zs := by
        rcases open_strings Tryd.underlying22 Tryd.underlying9 c1 f0 with ⟨hcs, _⟩ | ⟨x, l, c, zs, hcs, _, hl, hm, hz, _, hcell, hwz⟩
        · injection hcs with hcs
          exact ⟨none, 0, 0, [], hcs, .inl ⟨rfl, rfl, rfl, rfl⟩⟩
        · injection hcs with hcs
          exact ⟨some x, l, c, zs, hcs, .inr ⟨x, rfl, hl, hm, by simpa using hz, hcell, hwz⟩⟩
      obtain ⟨A0, len0, cap0, zs, e0, hz⟩ := hS
      obtain ⟨ts, rfl, hc0, hC0, hS0⟩ := strs_C hz
      subst e0 e1 e2 e3
      unfold maxLen at w1 w2
      exact ⟨A0, cap0, ts, s1, s2, A3, c3, code, rfl, hc0, hC0, hS0, by unfold Fit; omega, by unfold Fit; omega, hc3, hC3, hw⟩
end
end Go.Proofs.YtkplgfhkebkaaaaDoor.Rw

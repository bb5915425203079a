/- Texts of this claim, pruned to what it needs and laid together by prune.py. -/
import Derived.Test.YtkmkfiidlbhcgaaDoorMD37
import Derived.Test.YtkmkfiidlbhcgaaDoorMD48
namespace Go.Proofs.YtkmkfiidlbhcgaaDoor.ZL
open Go.RowKit Go.Proofs.YtkmkfiidlbhcgaaDoorW.PrintWords Go.Proofs.YtkmkfiidlbhcgaaDoorW.PrintMore Go.Proofs.YtkmkfiidlbhcgaaDoor.Scan Go.Proofs.YtkmkfiidlbhcgaaDoor.F Go.Proofs.YtkmkfiidlbhcgaaDoor.FM Go.Proofs.YtkmkfiidlbhcgaaDoor.H Go.Proofs.YtkmkfiidlbhcgaaDoor.TT Go.Proofs.YtkmkfiidlbhcgaaDoor.NX Go.Proofs.YtkmkfiidlbhcgaaDoor.FP Go.Proofs.YtkmkfiidlbhcgaaDoor.FL Go.Proofs.YtkmkfiidlbhcgaaDoor.B8 Go.Proofs.YtkmkfiidlbhcgaaDoor.V Go.Proofs.YtkmkfiidlbhcgaaDoor.LB Go.Proofs.YtkmkfiidlbhcgaaDoor.Z Go.Proofs.YtkmkfiidlbhcgaaDoor.ZB Go.Proofs.YtkmkfiidlbhcgaaDoor.ZG Go.Proofs.YtkmkfiidlbhcgaaDoor.GZ Go.Proofs.YtkmkfiidlbhcgaaDoor.L9Safe
set_option linter.unusedVariables false
set_option linter.unusedSectionVars false
theorem out_safe (x : S36) (z : S8) (ho : x.f0 = 5 ∨ x.f0 = 3 ∨ x.f0 = 4) : outI true x z = if x.f0 = 5 then own x.f1 else 0 := by
  refine BitVec.eq_of_getLsbD_eq fun i hi => ?_
  rw [Bool.eq_iff_iff, outI_bit]
  by_cases h5 : x.f0 = 5
  · rw [if_pos (.inl h5), if_pos h5]
    exact ⟨fun h => h.resolve_left fun h => (by cases h.1), .inr⟩
  · rw [if_neg (by omega), if_neg (by omega), if_neg (by omega), if_neg h5]
    simp
section
variable (ts : List ByteArray) (hl : (ts.length : Int) ≤ 9223372036854775807) (hs : ∀ s ∈ ts, (s.size : Int) ≤ 9223372036854775807) (la gl : ByteArray) (hla : Fit la) (hgl : Fit gl) (code : List S36) (hc : (code.length : Int) ≤ 9223372036854775807) (hw : WfC code)
include hl hs hla hgl hc hw
theorem FreshSafe_pure (a : Int) (h0 : 0 ≤ a) (h1 : a ≤ 255) : Ev (fun k => lockstitchlaw09_FreshSafe.f k ts la gl code a) true := by
  obtain ⟨b, hb, hsp⟩ := sound_tot ts hl hs la gl hla hgl code hc hw
  refine ev_bind alive_ev (Ev.congr (fun k => if_pos rfl) (ev_bind hb ?_))
  cases b with
  | false => exact Ev.congr (fun k => if_neg (by decide)) ev_const
  | true =>
    have h := hsp rfl
    have hsm := h.small
    have hps := h.pos
    have hll := frI_len code
    refine Ev.congr (fun k => if_pos rfl) ?_
    obtain ⟨q, hq, eq_⟩ := idx (code := code) h0 h1 hps
    have z0 : (0 : Int) ≤ (q : Int) := Int.natCast_nonneg q
    have z1 : (q : Int) < (code.length : Int) := by omega
    have zn : ¬ (code.length : Int) = 0 := by omega
    have el : ((frI code).length : Int) = wrap64 ((code.length : Int) + 1) := by unfold wrap64; omega
    rw [eq_]
    refine Ev.congr (fun k => if_neg zn) (ev_bind (in_ev h hw) (Ev.congr (fun k => if_pos el) (ev_bind (ref_safe_ev ts la gl code q) ?_)))
    cases hsf : sf code (q : Int) with
    | false => exact Ev.congr (fun k => if_neg (by decide)) ev_const
    | true =>
      have hop : (rd_T36 code q).f0 = 5 ∨ (rd_T36 code q).f0 = 3 ∨ (rd_T36 code q).f0 = 4 := by
        have := of_decide_eq_true hsf
        omega
      have hx := hw.rd q hq
      obtain ⟨w_, hw_⟩ : ∃ w_ : S8, w_ = if (rd_T36 code q).f0 = 5 then own (rd_T36 code q).f1 else 0 := ⟨_, rfl⟩
      have hout : ∀ z : S8, outB code (q : Int) z = w_ := fun z => by
        rw [hw_, ← out_safe _ z hop]
        have : outB code (q : Int) z = outI (sf code q) (rd_T36 code q) z := if_pos ⟨z0, z1⟩
        rw [this, hsf]
      have h2 := nxt_two code q
      have hI := SP.inR h
      have hsub : ∀ t ∈ nxt code q, g (frB code) t.toNat &&& ~~~ w_ = 0 := by
        intro t ht
        refine not_zero.2 ?_
        have := (frB_sol hI).2 q (by omega) t ht
        rw [show FB code q (g (frB code) q) = w_ from hout _] at this
        exact this
      have L : ∀ (d j : Nat), j + d = (nxt code q).length → Ev (fun k => lockstitchlaw09_FreshSafe.l0 k (q : Int) (frI code) (iv w_) (nxt code q) ((nxt code q).length : Int) (j : Int) ts la gl code) true := by
        intro d
        induction d with
        | zero =>
          intro j hj
          have o1 := out_ev (ts := ts) (la := la) (gl := gl) hw (q : Int) 255
          have o2 := out_ev (ts := ts) (la := la) (gl := gl) hw (q : Int) 0
          rw [hout] at o1 o2
          refine ev_step (fun k => lockstitchlaw09_FreshSafe.l0.eq_2 ..) (Ev.congr (fun k => if_neg (by omega)) (ev_bind o1 (Ev.congr (fun k => if_pos rfl) (ev_bind o2 (ev_all fun k => ?_)))))
          rw [beq_self_eq_true]
        | succ d ih =>
          intro j hj
          have ih := ih (j + 1) (by omega)
          have hjl : j < (nxt code q).length := by omega
          have hrd : rd (nxt code q) j = (nxt code q)[j] := by
            unfold rd
            rw [Int.toNat_natCast, List.getD_eq_getElem?_getD, List.getElem?_eq_getElem hjl]
            rfl
          have hm : rd (nxt code q) j ∈ nxt code q := by rw [hrd]; exact List.getElem_mem hjl
          have hr := hI _ _ hm
          have ew : wrap64 ((j : Int) + 1) = ((j + 1 : Nat) : Int) := by unfold wrap64; omega
          have y0 : (0 : Int) ≤ (j : Int) := Int.natCast_nonneg j
          have y2 : rd (nxt code q) j < ((frI code).length : Int) := by rw [hll]; exact hr.2
          have y5 : (j : Int) < ((nxt code q).length : Int) := by omega
          have e1 : bits .andNot .u8 (rd (frI code) (rd (nxt code q) j)) (iv w_) = 0 := by
            rw [show rd (frI code) (rd (nxt code q) j) = iv (g (frB code) (rd (nxt code q) j).toNat) from rd_iv .., bits_not, hsub _ hm]
            rfl
          refine ev_step (fun k => lockstitchlaw09_FreshSafe.l0.eq_2 ..) (Ev.congr (fun k => if_pos y5) (Ev.congr (fun k => if_pos y0) (Ev.congr (fun k => if_pos y5) (Ev.congr (fun k => if_pos hr.1) (Ev.congr (fun k => if_pos y2) (Ev.congr (fun k => if_pos e1) ?_))))))
          rw [ew]
          exact ih
      have J : Ev (fun k => lockstitchlaw09_FreshSafe.j0 k (q : Int) (frI code) (iv w_) ts la gl code) true :=
        ev_step (fun k => lockstitchlaw09_FreshSafe.j0.eq_2 ..) (ev_bind (ref_next_ev ts la gl code hc q) (L _ 0 (Nat.zero_add _)))
      refine Ev.congr (fun k => if_pos rfl) (Ev.congr (fun k => if_pos z0) (Ev.congr (fun k => if_pos z1) ?_))
      by_cases h5 : (rd_T36 code q).f0 = 5
      · refine Ev.congr (fun k => if_pos h5) (Ev.congr (fun k => if_pos hx.2.1.1) ?_)
        rw [if_pos h5] at hw_
        rw [shl_own hx.2.1.1, ← hw_]
        exact J
      · rw [if_neg h5] at hw_
        rw [hw_] at J
        exact Ev.congr (fun k => if_neg h5) J
end
end Go.Proofs.YtkmkfiidlbhcgaaDoor.ZL

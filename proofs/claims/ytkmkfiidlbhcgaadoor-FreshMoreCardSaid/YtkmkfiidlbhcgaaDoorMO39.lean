/- Texts of this claim, pruned to what it needs and laid together by prune.py. -/
import Derived.Test.YtkmkfiidlbhcgaaDoorMO37
import Derived.Test.YtkmkfiidlbhcgaaDoorMO38
namespace Go.Proofs.YtkmkfiidlbhcgaaDoor.ZL
open Go.RowKit Go.Proofs.YtkmkfiidlbhcgaaDoorW.PrintWords Go.Proofs.YtkmkfiidlbhcgaaDoorW.PrintMore Go.Proofs.YtkmkfiidlbhcgaaDoor.Scan Go.Proofs.YtkmkfiidlbhcgaaDoor.F Go.Proofs.YtkmkfiidlbhcgaaDoor.FM Go.Proofs.YtkmkfiidlbhcgaaDoor.H Go.Proofs.YtkmkfiidlbhcgaaDoor.TT Go.Proofs.YtkmkfiidlbhcgaaDoor.NX Go.Proofs.YtkmkfiidlbhcgaaDoor.FP Go.Proofs.YtkmkfiidlbhcgaaDoor.FL Go.Proofs.YtkmkfiidlbhcgaaDoor.B8 Go.Proofs.YtkmkfiidlbhcgaaDoor.V Go.Proofs.YtkmkfiidlbhcgaaDoor.LB Go.Proofs.YtkmkfiidlbhcgaaDoor.Z Go.Proofs.YtkmkfiidlbhcgaaDoor.ZB Go.Proofs.YtkmkfiidlbhcgaaDoor.ZG Go.Proofs.YtkmkfiidlbhcgaaDoor.GZ Go.Proofs.YtkmkfiidlbhcgaaDoor.L9More
set_option linter.unusedVariables false
set_option linter.unusedSectionVars false
section
variable (ts : List ByteArray) (hl : (ts.length : Int) ≤ 9223372036854775807) (hs : ∀ s ∈ ts, (s.size : Int) ≤ 9223372036854775807) (la gl : ByteArray) (hla : Fit la) (hgl : Fit gl) (code : List S36) (hc : (code.length : Int) ≤ 9223372036854775807) (hw : WfC code)
include hl hs hla hgl hc hw
theorem FreshMore_pure (a : Int) (_h0 : -9223372036854775808 ≤ a) (_h1 : a ≤ 9223372036854775807) (y z : Int) (hy0 : 0 ≤ y) (hy1 : y ≤ 255) (hz0 : 0 ≤ z) (hz1 : z ≤ 255) : Ev (fun k => lockstitchlaw09_FreshMore.f k ts la gl code a y z) true := by
  obtain ⟨b, hb, hsp⟩ := sound_tot ts hl hs la gl hla hgl code hc hw
  refine ev_bind alive_ev (Ev.congr (fun k => if_pos rfl) (ev_bind hb ?_))
  cases b with
  | false => exact Ev.congr (fun k => if_neg (by decide)) ev_const
  | true =>
    obtain ⟨s, rfl⟩ : ∃ s : S8, y = iv s := ⟨bv y, (iv_bv hy0 hy1).symm⟩
    obtain ⟨t, rfl⟩ : ∃ t : S8, z = iv t := ⟨bv z, (iv_bv hz0 hz1).symm⟩
    have hsub : Sub (s &&& t) t := (sub_and_r.1 (Sub.refl (s &&& t))).2
    have e0 : bits .andNot .u8 (iv (outB code a (s &&& t))) (iv (outB code a t)) = 0 := by
      rw [bits_not, not_zero.2 (outB_mono code a hsub)]
      rfl
    refine Ev.congr (fun k => if_pos rfl) ?_
    rw [bits_and]
    refine ev_bind (out_ev hw a _) (ev_bind (out_ev hw a _) (Ev.congr (fun k => if_pos e0) ?_))
    by_cases h0 : a < 0
    · exact Ev.congr (fun k => if_pos h0) ev_const
    · refine Ev.congr (fun k => if_neg h0) ?_
      by_cases h1 : a ≥ (code.length : Int)
      · exact Ev.congr (fun k => if_pos h1) ev_const
      · refine Ev.congr (fun k => if_neg h1) (ev_bind (ref_safe_ev ts la gl code a) ?_)
        by_cases hsf : sf code a = true
        · have e : outB code a (s &&& t) = outB code a t := by
            have hx : ∀ w_ : S8, outB code a w_ = outI true (rd_T36 code a) w_ := fun w_ => by
              have : outB code a w_ = outI (sf code a) (rd_T36 code a) w_ := if_pos (by omega)
              rw [this, hsf]
            rw [hx, hx]
            rfl
          refine Ev.congr (fun k => if_pos hsf) (ev_all fun k => ?_)
          rw [e, beq_self_eq_true]
        · exact Ev.congr (fun k => if_neg hsf) ev_const
end
end Go.Proofs.YtkmkfiidlbhcgaaDoor.ZL

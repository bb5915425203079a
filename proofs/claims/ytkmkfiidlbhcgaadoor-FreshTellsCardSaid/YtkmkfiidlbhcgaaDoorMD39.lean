/- Texts of this claim, pruned to what it needs and laid together by prune.py. -/
import Derived.Test.YtkmkfiidlbhcgaaDoorMD37
import Derived.Test.YtkmkfiidlbhcgaaDoorMD38
namespace Go.Proofs.YtkmkfiidlbhcgaaDoor.ZL
open Go.RowKit Go.Proofs.YtkmkfiidlbhcgaaDoorW.PrintWords Go.Proofs.YtkmkfiidlbhcgaaDoorW.PrintMore Go.Proofs.YtkmkfiidlbhcgaaDoor.Scan Go.Proofs.YtkmkfiidlbhcgaaDoor.F Go.Proofs.YtkmkfiidlbhcgaaDoor.FM Go.Proofs.YtkmkfiidlbhcgaaDoor.H Go.Proofs.YtkmkfiidlbhcgaaDoor.TT Go.Proofs.YtkmkfiidlbhcgaaDoor.NX Go.Proofs.YtkmkfiidlbhcgaaDoor.FP Go.Proofs.YtkmkfiidlbhcgaaDoor.FL Go.Proofs.YtkmkfiidlbhcgaaDoor.B8 Go.Proofs.YtkmkfiidlbhcgaaDoor.V Go.Proofs.YtkmkfiidlbhcgaaDoor.LB Go.Proofs.YtkmkfiidlbhcgaaDoor.Z Go.Proofs.YtkmkfiidlbhcgaaDoor.ZB Go.Proofs.YtkmkfiidlbhcgaaDoor.ZG Go.Proofs.YtkmkfiidlbhcgaaDoor.GZ Go.Proofs.YtkmkfiidlbhcgaaDoor.L9Tells
set_option linter.unusedVariables false
set_option linter.unusedSectionVars false
section
variable (ts : List ByteArray) (hl : (ts.length : Int) ≤ 9223372036854775807) (hs : ∀ s ∈ ts, (s.size : Int) ≤ 9223372036854775807) (la gl : ByteArray) (hla : Fit la) (hgl : Fit gl) (code : List S36) (hc : (code.length : Int) ≤ 9223372036854775807) (hw : WfC code)
include hl hs hla hgl hc hw
theorem FreshTells_pure (a : Int) (_h0 : -9223372036854775808 ≤ a) (_h1 : a ≤ 9223372036854775807) (z : Int) (hz0 : 0 ≤ z) (hz1 : z ≤ 255) : Ev (fun k => lockstitchlaw09_FreshTells.f k ts la gl code a z) true := by
  obtain ⟨b, hb, hsp⟩ := sound_tot ts hl hs la gl hla hgl code hc hw
  rw [← iv_bv hz0 hz1]
  refine ev_bind alive_ev (Ev.congr (fun k => if_pos rfl) (ev_bind hb ?_))
  cases b with
  | false => exact Ev.congr (fun k => if_neg (by decide)) ev_const
  | true =>
    have h := hsp rfl
    have hsm := h.small
    have hll := frI_len code
    have L : ∀ (d i : Nat), i + d = (frI code).length → Ev (fun k => lockstitchlaw09_FreshTells.l0 k (frI code) (frI code) ((frI code).length : Int) (i : Int)) true := by
      intro d
      induction d with
      | zero =>
        intro i hi
        exact ev_step (fun k => lockstitchlaw09_FreshTells.l0.eq_2 ..) (Ev.congr (fun k => if_neg (by omega)) ev_const)
      | succ d ih =>
        intro i hi
        have ih := ih (i + 1) (by omega)
        have z1 : (i : Int) < ((frI code).length : Int) := by omega
        have z0 : (0 : Int) ≤ (i : Int) := Int.natCast_nonneg i
        refine ev_step (fun k => lockstitchlaw09_FreshTells.l0.eq_2 ..) (Ev.congr (fun k => if_pos z1) (Ev.congr (fun k => if_pos z0) (Ev.congr (fun k => if_pos z1) (Ev.congr (fun k => if_pos z1) (Ev.congr (fun k => if_pos rfl) ?_)))))
        rw [w1 (n := (frI code).length) (by omega) (by omega)]
        exact ih
    refine Ev.congr (fun k => if_pos rfl) (ev_bind (in_ev h hw) (ev_bind (ref_ev h hw) (Ev.congr (fun k => if_pos rfl) (ev_bind (out_ev hw a (bv z)) (ev_bind (ref_out_ev hw a (bv z)) ?_)))))
    exact ev_step (fun k => lockstitchlaw09_FreshTells.j0.eq_2 ..) (Ev.congr (fun k => if_neg (by simp)) (L _ 0 (Nat.zero_add _)))
end
end Go.Proofs.YtkmkfiidlbhcgaaDoor.ZL

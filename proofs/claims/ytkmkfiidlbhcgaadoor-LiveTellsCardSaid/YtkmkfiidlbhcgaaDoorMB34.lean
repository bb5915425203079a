/- Texts of this claim, pruned to what it needs and laid together by prune.py. -/
import Derived.Test.YtkmkfiidlbhcgaaDoorMB32
import Derived.Test.YtkmkfiidlbhcgaaDoorMB33
namespace Go.Proofs.YtkmkfiidlbhcgaaDoor.LL
open Go.RowKit Go.Proofs.YtkmkfiidlbhcgaaDoorW.PrintWords Go.Proofs.YtkmkfiidlbhcgaaDoorW.PrintMore Go.Proofs.YtkmkfiidlbhcgaaDoor.Scan Go.Proofs.YtkmkfiidlbhcgaaDoor.F Go.Proofs.YtkmkfiidlbhcgaaDoor.FM Go.Proofs.YtkmkfiidlbhcgaaDoor.H Go.Proofs.YtkmkfiidlbhcgaaDoor.TT Go.Proofs.YtkmkfiidlbhcgaaDoor.NX Go.Proofs.YtkmkfiidlbhcgaaDoor.FP Go.Proofs.YtkmkfiidlbhcgaaDoor.FL Go.Proofs.YtkmkfiidlbhcgaaDoor.B8 Go.Proofs.YtkmkfiidlbhcgaaDoor.V Go.Proofs.YtkmkfiidlbhcgaaDoor.LB Go.Proofs.YtkmkfiidlbhcgaaDoor.LG Go.Proofs.YtkmkfiidlbhcgaaDoor.GL Go.Proofs.YtkmkfiidlbhcgaaDoor.L8Tells
set_option linter.unusedVariables false
section
variable (ts : List ByteArray) (hl : (ts.length : Int) ≤ 9223372036854775807) (hs : ∀ s ∈ ts, (s.size : Int) ≤ 9223372036854775807) (la gl : ByteArray) (hla : Fit la) (hgl : Fit gl) (code : List S36) (hc : (code.length : Int) ≤ 9223372036854775807) (hw : WfC code)
include hl hs hla hgl hc hw
theorem LiveTells_pure (x : S36) (hx : WfI x.f0 x.f1 x.f2 x.f3 x.f4) : Ev (fun k => lockstitchlaw08_LiveTells.f k ts la gl code x.f0 x.f1 x.f2 x.f3 x.f4) true := by
  obtain ⟨b, hb, hsp⟩ := sound_tot ts hl hs la gl hla hgl code hc hw
  refine ev_bind alive_ev (Ev.congr (fun k => if_pos rfl) (ev_bind (uses_ev hx) (ev_bind (ref_uses_ev hx) (Ev.congr (fun k => if_pos rfl) (ev_bind (sets_ev hx) (ev_bind (ref_sets_ev hx) ?_))))))
  refine ev_step (fun k => lockstitchlaw08_LiveTells.j0.eq_2 ..) (Ev.congr (fun k => if_neg (by simp)) (ev_bind hb ?_))
  cases b with
  | false => exact Ev.congr (fun k => if_neg (by decide)) ev_const
  | true =>
    have h := hsp rfl
    have hsm := h.small
    have hll := lvI_len code
    have L : ∀ (d i : Nat), i + d = (lvI code).length → Ev (fun k => lockstitchlaw08_LiveTells.l0 k (lvI code) (lvI code) ((lvI code).length : Int) (i : Int)) true := by
      intro d
      induction d with
      | zero =>
        intro i hi
        exact ev_step (fun k => lockstitchlaw08_LiveTells.l0.eq_2 ..) (Ev.congr (fun k => if_neg (by omega)) ev_const)
      | succ d ih =>
        intro i hi
        have ih := ih (i + 1) (by omega)
        have z1 : (i : Int) < ((lvI code).length : Int) := by omega
        have z0 : (0 : Int) ≤ (i : Int) := Int.natCast_nonneg i
        refine ev_step (fun k => lockstitchlaw08_LiveTells.l0.eq_2 ..) (Ev.congr (fun k => if_pos z1) (Ev.congr (fun k => if_pos z0) (Ev.congr (fun k => if_pos z1) (Ev.congr (fun k => if_pos z1) (Ev.congr (fun k => if_pos rfl) ?_)))))
        rw [w1 (n := (lvI code).length) (by omega) (by omega)]
        exact ih
    exact Ev.congr (fun k => if_pos rfl) (ev_bind (in_ev h hw) (ev_bind (ref_in_ev (SP.inR h) (by omega) hw) (Ev.congr (fun k => if_pos rfl) (L _ 0 (Nat.zero_add _)))))
end
end Go.Proofs.YtkmkfiidlbhcgaaDoor.LL

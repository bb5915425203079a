/- Texts of this claim, pruned to what it needs and laid together by prune.py. -/
import Derived.Test.YtkmkfiidlbhcgaaDoorMD37
import Derived.Test.YtkmkfiidlbhcgaaDoorMD54
namespace Go.Proofs.YtkmkfiidlbhcgaaDoor.ZL
open Go.RowKit Go.Proofs.YtkmkfiidlbhcgaaDoorW.PrintWords Go.Proofs.YtkmkfiidlbhcgaaDoorW.PrintMore Go.Proofs.YtkmkfiidlbhcgaaDoor.Scan Go.Proofs.YtkmkfiidlbhcgaaDoor.F Go.Proofs.YtkmkfiidlbhcgaaDoor.FM Go.Proofs.YtkmkfiidlbhcgaaDoor.H Go.Proofs.YtkmkfiidlbhcgaaDoor.TT Go.Proofs.YtkmkfiidlbhcgaaDoor.NX Go.Proofs.YtkmkfiidlbhcgaaDoor.FP Go.Proofs.YtkmkfiidlbhcgaaDoor.FL Go.Proofs.YtkmkfiidlbhcgaaDoor.B8 Go.Proofs.YtkmkfiidlbhcgaaDoor.V Go.Proofs.YtkmkfiidlbhcgaaDoor.LB Go.Proofs.YtkmkfiidlbhcgaaDoor.Z Go.Proofs.YtkmkfiidlbhcgaaDoor.ZB Go.Proofs.YtkmkfiidlbhcgaaDoor.ZG Go.Proofs.YtkmkfiidlbhcgaaDoor.GZ Go.Proofs.YtkmkfiidlbhcgaaDoor.L9Nil
set_option linter.unusedVariables false
set_option linter.unusedSectionVars false
section
variable (ts : List ByteArray) (hl : (ts.length : Int) ≤ 9223372036854775807) (hs : ∀ s ∈ ts, (s.size : Int) ≤ 9223372036854775807) (la gl : ByteArray) (hla : Fit la) (hgl : Fit gl) (code : List S36) (hc : (code.length : Int) ≤ 9223372036854775807) (hw : WfC code)
include hl hs hla hgl hc hw
theorem FreshNil_pure (a : Int) (h0 : 0 ≤ a) (h1 : a ≤ 255) (z : Int) (hz0 : 0 ≤ z) (hz1 : z ≤ 255) : Ev (fun k => lockstitchlaw09_FreshNil.f k ts la gl code a z) true := by
  obtain ⟨b, hb, hsp⟩ := sound_tot ts hl hs la gl hla hgl code hc hw
  refine ev_bind alive_ev (Ev.congr (fun k => if_pos rfl) (ev_bind hb ?_))
  cases b with
  | false => exact Ev.congr (fun k => if_neg (by decide)) ev_const
  | true =>
    have h := hsp rfl
    have hsm := h.small
    have hps := h.pos
    have hll := frI_len code
    refine Ev.congr (fun k => if_pos rfl) ?_
    obtain ⟨q, hq, eq_⟩ := idx (code := code) h0 h1 hps
    obtain ⟨s, rfl⟩ : ∃ s : S8, z = iv s := ⟨bv z, (iv_bv hz0 hz1).symm⟩
    have z0 : (0 : Int) ≤ (q : Int) := Int.natCast_nonneg q
    have z1 : (q : Int) < (code.length : Int) := by omega
    have zn : ¬ (code.length : Int) = 0 := by omega
    rw [eq_]
    refine Ev.congr (fun k => if_neg zn) (Ev.congr (fun k => if_pos z0) (Ev.congr (fun k => if_pos z1) (ev_bind (out_ev hw q s) ?_)))
    have hx := hw.rd q hq
    have hol := own_lt h hl hs hla hw q hq
    have hout : outB code (q : Int) s = outI (sf code q) (rd_T36 code q) s := if_pos ⟨z0, z1⟩
    have hsf : sf code (q : Int) = true → (rd_T36 code q).f0 = 5 ∨ (rd_T36 code q).f0 = 3 ∨ (rd_T36 code q).f0 = 4 := by
      intro e
      have := of_decide_eq_true e
      omega
    have hop := (h.all q hq).op
    rw [hout]
    obtain ⟨x, hx'⟩ : ∃ x, x = rd_T36 code q := ⟨_, rfl⟩
    rw [← hx'] at hx hol hop hsf ⊢
    obtain ⟨_, ⟨hA, _⟩, _⟩ := hx
    have hbit := outI_bit (sf code q) x s x.f1.toNat
    have hself : x.f1 < 8 → (own x.f1).getLsbD x.f1.toNat = true := fun h => (own_bit _ _).2 ⟨rfl, by omega⟩
    have J : ∀ hs : Bool, (x.f1 < 8 → hs = (outI (sf code q) x s).getLsbD x.f1.toNat) → Ev (fun k => lockstitchlaw09_FreshNil.j0 k (iv s) (iv (outI (sf code q) x s)) hs x.f0 x.f1 x.f2 x.f3 x.f4) true := by
      intro hs hhs
      have same : (x.f0 = 11 ∨ x.f0 = 9 ∨ x.f0 = 13 ∨ x.f0 = 8 ∨ x.f0 = 14 ∨ x.f0 = 1 ∨ x.f0 = 2 ∨ x.f0 = 15) → (iv (outI (sf code q) x s) == iv s) = true := by
        intro ho
        have e : outI (sf code q) x s = s := by
          refine Sub.anti (fun i hi => ?_) (fun i hi => ?_)
          · rw [outI_bit, if_neg (by omega), if_neg (by omega), if_neg (by omega)] at hi
            exact hi.2
          · rw [outI_bit, if_neg (by omega), if_neg (by omega), if_neg (by omega)]
            refine ⟨?_, hi⟩
            cases hb : sf code (q : Int) with
            | false => rfl
            | true =>
              have := hsf hb
              omega
        rw [e]
        exact beq_self_eq_true _
      have J2 : ∀ p : Bool, (p = true ↔ x.f0 = 10 ∨ x.f0 = 12) → Ev (fun k => lockstitchlaw09_FreshNil.j2 k (iv s) (iv (outI (sf code q) x s)) hs x.f0 p) true := by
        intro p hp
        refine ev_step (fun k => lockstitchlaw09_FreshNil.j2.eq_2 ..) ?_
        by_cases hp1 : p = true
        · have ho := hp.1 hp1
          have h8 := hol (by omega)
          have : hs = false := by
            rw [hhs h8]
            cases hb : (outI (sf code q) x s).getLsbD x.f1.toNat with
            | false => rfl
            | true =>
              rw [hb, if_neg (by omega), if_neg (by omega), if_pos (by omega), hself h8] at hbit
              exact absurd (hbit.1 rfl).2 (by decide)
          refine Ev.congr (fun k => if_pos hp1) (ev_all fun k => ?_)
          rw [this]
          rfl
        · have hno : ¬ (x.f0 = 10 ∨ x.f0 = 12) := fun e => hp1 (hp.2 e)
          refine Ev.congr (fun k => if_neg hp1) ?_
          by_cases g1 : x.f0 = 11
          · exact Ev.congr (fun k => if_pos g1) (ev_all fun k => by rw [same (by omega)])
          refine Ev.congr (fun k => if_neg g1) ?_
          by_cases g2 : x.f0 = 9
          · exact Ev.congr (fun k => if_pos g2) (ev_all fun k => by rw [same (by omega)])
          refine Ev.congr (fun k => if_neg g2) ?_
          by_cases g3 : x.f0 = 13
          · exact Ev.congr (fun k => if_pos g3) (ev_all fun k => by rw [same (by omega)])
          refine Ev.congr (fun k => if_neg g3) ?_
          by_cases g4 : x.f0 = 8
          · exact Ev.congr (fun k => if_pos g4) (ev_all fun k => by rw [same (by omega)])
          refine Ev.congr (fun k => if_neg g4) ?_
          by_cases g5 : x.f0 = 14
          · exact Ev.congr (fun k => if_pos g5) (ev_all fun k => by rw [same (by omega)])
          refine Ev.congr (fun k => if_neg g5) ?_
          by_cases g6 : x.f0 = 1
          · exact Ev.congr (fun k => if_pos g6) (ev_all fun k => by rw [same (by omega)])
          refine Ev.congr (fun k => if_neg g6) ?_
          by_cases g7 : x.f0 = 2
          · exact Ev.congr (fun k => if_pos g7) (ev_all fun k => by rw [same (by omega)])
          refine Ev.congr (fun k => if_neg g7) ?_
          by_cases g8 : x.f0 = 15
          · exact Ev.congr (fun k => if_pos g8) (ev_all fun k => by rw [same (by omega)])
          exact Ev.congr (fun k => if_neg g8) ev_const
      have J1 : ∀ p : Bool, (p = true ↔ x.f0 = 5 ∨ x.f0 = 6) → Ev (fun k => lockstitchlaw09_FreshNil.j1 k (iv s) (iv (outI (sf code q) x s)) hs x.f0 p) true := by
        intro p hp
        refine ev_step (fun k => lockstitchlaw09_FreshNil.j1.eq_2 ..) ?_
        by_cases hp1 : p = true
        · have ho := hp.1 hp1
          have h8 := hol (by omega)
          refine Ev.congr (fun k => if_pos hp1) (ev_all fun k => ?_)
          rw [if_pos ho] at hbit
          rw [hhs h8, hbit.2 (.inr (hself h8))]
        · refine Ev.congr (fun k => if_neg hp1) ?_
          by_cases h10 : x.f0 = 10
          · exact Ev.congr (fun k => if_pos h10) (J2 _ (by simp [h10]))
          · exact Ev.congr (fun k => if_neg h10) (J2 _ (by simp [h10]))
      refine ev_step (fun k => lockstitchlaw09_FreshNil.j0.eq_2 ..) ?_
      by_cases h5 : x.f0 = 5
      · exact Ev.congr (fun k => if_pos h5) (J1 _ (by simp [h5]))
      · exact Ev.congr (fun k => if_neg h5) (J1 _ (by simp [h5]))
    by_cases h8 : x.f1 < 8
    · refine Ev.congr (fun k => if_pos h8) (Ev.congr (fun k => if_pos hA) (J _ fun _ => ?_))
      rw [shr_tmod _ hA]
      cases (outI (sf code q) x s).getLsbD x.f1.toNat <;> rfl
    · exact Ev.congr (fun k => if_neg h8) (J _ fun e => absurd e h8)
end
end Go.Proofs.YtkmkfiidlbhcgaaDoor.ZL

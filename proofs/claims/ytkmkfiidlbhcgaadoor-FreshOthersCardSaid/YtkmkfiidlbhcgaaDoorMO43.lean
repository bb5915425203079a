/- Texts of this claim, pruned to what it needs and laid together by prune.py. -/
import Derived.Test.YtkmkfiidlbhcgaaDoorMO37
import Derived.Test.YtkmkfiidlbhcgaaDoorMO42
namespace Go.Proofs.YtkmkfiidlbhcgaaDoor.ZL
open Go.RowKit Go.Proofs.YtkmkfiidlbhcgaaDoorW.PrintWords Go.Proofs.YtkmkfiidlbhcgaaDoorW.PrintMore Go.Proofs.YtkmkfiidlbhcgaaDoor.Scan Go.Proofs.YtkmkfiidlbhcgaaDoor.F Go.Proofs.YtkmkfiidlbhcgaaDoor.FM Go.Proofs.YtkmkfiidlbhcgaaDoor.H Go.Proofs.YtkmkfiidlbhcgaaDoor.TT Go.Proofs.YtkmkfiidlbhcgaaDoor.NX Go.Proofs.YtkmkfiidlbhcgaaDoor.FP Go.Proofs.YtkmkfiidlbhcgaaDoor.FL Go.Proofs.YtkmkfiidlbhcgaaDoor.B8 Go.Proofs.YtkmkfiidlbhcgaaDoor.V Go.Proofs.YtkmkfiidlbhcgaaDoor.LB Go.Proofs.YtkmkfiidlbhcgaaDoor.Z Go.Proofs.YtkmkfiidlbhcgaaDoor.ZB Go.Proofs.YtkmkfiidlbhcgaaDoor.ZG Go.Proofs.YtkmkfiidlbhcgaaDoor.GZ Go.Proofs.YtkmkfiidlbhcgaaDoor.L9Others
set_option linter.unusedVariables false
set_option linter.unusedSectionVars false
section
variable (ts : List ByteArray) (hl : (ts.length : Int) ≤ 9223372036854775807) (hs : ∀ s ∈ ts, (s.size : Int) ≤ 9223372036854775807) (la gl : ByteArray) (hla : Fit la) (hgl : Fit gl) (code : List S36) (hc : (code.length : Int) ≤ 9223372036854775807) (hw : WfC code)
include hl hs hla hgl hc hw
theorem FreshOthers_pure (a : Int) (h0 : 0 ≤ a) (h1 : a ≤ 255) (z : Int) (hz0 : 0 ≤ z) (hz1 : z ≤ 255) : Ev (fun k => lockstitchlaw09_FreshOthers.f k ts la gl code a z) true := by
  obtain ⟨b, hb, hsp⟩ := sound_tot ts hl hs la gl hla hgl code hc hw
  refine ev_bind alive_ev (Ev.congr (fun k => if_pos rfl) (ev_bind hb ?_))
  cases b with
  | false => exact Ev.congr (fun k => if_neg (by decide)) ev_const
  | true =>
    have h := hsp rfl
    have hsm := h.small
    have hps := h.pos
    have hll := frI_len code
    refine Ev.congr (fun k => if_pos rfl) ?_
    obtain ⟨q, hq, eq_⟩ := idx (code := code) h0 h1 hps
    obtain ⟨s, rfl⟩ : ∃ s : S8, z = iv s := ⟨bv z, (iv_bv hz0 hz1).symm⟩
    have z0 : (0 : Int) ≤ (q : Int) := Int.natCast_nonneg q
    have z1 : (q : Int) < (code.length : Int) := by omega
    have zn : ¬ (code.length : Int) = 0 := by omega
    rw [eq_]
    refine Ev.congr (fun k => if_neg zn) (Ev.congr (fun k => if_pos z0) (Ev.congr (fun k => if_pos z1) ?_))
    have hx := hw.rd q hq
    have hol := own_lt h hl hs hla hw q hq
    have hout : outB code (q : Int) s = outI (sf code q) (rd_T36 code q) s := if_pos ⟨z0, z1⟩
    have hsf : sf code (q : Int) = true → (rd_T36 code q).f0 = 5 ∨ (rd_T36 code q).f0 = 3 ∨ (rd_T36 code q).f0 = 4 := by
      intro e
      have := of_decide_eq_true e
      omega
    have o1 := out_ev (ts := ts) (la := la) (gl := gl) hw (q : Int) s
    rw [hout] at o1
    obtain ⟨x, hx'⟩ : ∃ x, x = rd_T36 code q := ⟨_, rfl⟩
    rw [← hx'] at hx hol hsf o1 ⊢
    obtain ⟨_, ⟨hA, _⟩, ⟨hB, _⟩, _⟩ := hx
    have mv : x.f0 = 7 → (Int.tmod (shr .u8 (iv (outI (sf code q) x s)) x.f1) 2 == Int.tmod (shr .u8 (iv s) x.f2) 2) = true := by
      intro h7
      have h8 := hol (by omega)
      have hb := outI_bit (sf code q) x s x.f1.toNat
      have hf : sf code (q : Int) = false := by
        cases hb : sf code (q : Int) with
        | false => rfl
        | true => have := hsf hb; omega
      rw [if_neg (by omega), if_pos h7, if_pos ((own_bit _ _).2 ⟨rfl, by omega⟩)] at hb
      have e : (outI (sf code q) x s).getLsbD x.f1.toNat = s.getLsbD x.f2.toNat := by
        rw [Bool.eq_iff_iff, hb]
        exact ⟨fun h => h.2, fun h => ⟨hf, h⟩⟩
      rw [shr_tmod _ hA, shr_tmod _ hB, e]
      exact beq_self_eq_true _
    have rest : ∀ w_ : S8, ((x.f0 = 5 ∨ x.f0 = 6 ∨ x.f0 = 7 ∨ x.f0 = 10 ∨ x.f0 = 12) → w_ = own x.f1) → sf code (q : Int) = false → bits .andNot .u8 (iv (outI (sf code q) x s)) (iv w_) = bits .andNot .u8 (iv s) (iv w_) := by
      intro w_ hw_ hf
      rw [bits_not, bits_not]
      congr 1
      refine BitVec.eq_of_getLsbD_eq fun i hi => ?_
      rw [Bool.eq_iff_iff, not_bit, not_bit, outI_bit]
      by_cases h5 : x.f0 = 5 ∨ x.f0 = 6
      · rw [if_pos h5, hw_ (by omega)]
        constructor
        · rintro ⟨h | h, k⟩
          · exact ⟨h.2, k⟩
          · rw [h] at k
            cases k
        · rintro ⟨h, k⟩
          exact ⟨.inl ⟨hf, h⟩, k⟩
      · rw [if_neg h5]
        by_cases h7 : x.f0 = 7
        · rw [if_pos h7, hw_ (by omega)]
          constructor
          · rintro ⟨h, k⟩
            rw [if_neg (by rw [k]; decide)] at h
            exact ⟨h.2, k⟩
          · rintro ⟨h, k⟩
            rw [if_neg (by rw [k]; decide)]
            exact ⟨⟨hf, h⟩, k⟩
        · rw [if_neg h7]
          by_cases h10 : x.f0 = 10 ∨ x.f0 = 12
          · rw [if_pos h10, hw_ (by omega)]
            exact ⟨fun h => ⟨h.1.1.2, h.2⟩, fun h => ⟨⟨⟨hf, h.1⟩, h.2⟩, h.2⟩⟩
          · rw [if_neg h10]
            exact ⟨fun h => ⟨h.1.2, h.2⟩, fun h => ⟨⟨hf, h.1⟩, h.2⟩⟩
    have J : ∀ p : Bool, (p = true ↔ x.f0 = 5 ∨ x.f0 = 6 ∨ x.f0 = 7 ∨ x.f0 = 10 ∨ x.f0 = 12) → Ev (fun k => lockstitchlaw09_FreshOthers.j0 k (iv s) (q : Int) 0 p ts la gl code x.f0 x.f1 x.f2 x.f3 x.f4) true := by
      intro p hp
      refine ev_step (fun k => lockstitchlaw09_FreshOthers.j0.eq_2 ..) ?_
      by_cases hp1 : p = true
      · refine Ev.congr (fun k => if_pos hp1) (Ev.congr (fun k => if_pos hA) (ev_bind o1 (ev_bind (ref_safe_ev ts la gl code q) ?_)))
        by_cases hb : sf code (q : Int) = true
        · refine Ev.congr (fun k => if_pos hb) ?_
          by_cases h7 : x.f0 = 7
          · exact Ev.congr (fun k => if_pos h7) (Ev.congr (fun k => if_pos hB) (ev_all fun k => by rw [mv h7]))
          · exact Ev.congr (fun k => if_neg h7) ev_const
        · have er := rest (own x.f1) (fun _ => rfl) (by simpa using hb)
          rw [← shl_own hA] at er
          refine Ev.congr (fun k => if_neg hb) (Ev.congr (fun k => if_pos er) ?_)
          by_cases h7 : x.f0 = 7
          · exact Ev.congr (fun k => if_pos h7) (Ev.congr (fun k => if_pos hB) (ev_all fun k => by rw [mv h7]))
          · exact Ev.congr (fun k => if_neg h7) ev_const
      · have hno : ¬ (x.f0 = 5 ∨ x.f0 = 6 ∨ x.f0 = 7 ∨ x.f0 = 10 ∨ x.f0 = 12) := fun e => hp1 (hp.2 e)
        have h7 : ¬ x.f0 = 7 := by omega
        refine Ev.congr (fun k => if_neg hp1) (ev_bind o1 (ev_bind (ref_safe_ev ts la gl code q) ?_))
        by_cases hb : sf code (q : Int) = true
        · exact Ev.congr (fun k => if_pos hb) (Ev.congr (fun k => if_neg h7) ev_const)
        · have er := rest 0 (fun e => absurd e hno) (by simpa using hb)
          exact Ev.congr (fun k => if_neg hb) (Ev.congr (fun k => if_pos er) (Ev.congr (fun k => if_neg h7) ev_const))
    by_cases h5 : x.f0 = 5
    · exact Ev.congr (fun k => if_pos h5) (J _ (by simp [h5]))
    refine Ev.congr (fun k => if_neg h5) ?_
    by_cases h6 : x.f0 = 6
    · exact Ev.congr (fun k => if_pos h6) (J _ (by simp [h6]))
    refine Ev.congr (fun k => if_neg h6) ?_
    by_cases h7 : x.f0 = 7
    · exact Ev.congr (fun k => if_pos h7) (J _ (by simp [h7]))
    refine Ev.congr (fun k => if_neg h7) ?_
    by_cases h10 : x.f0 = 10
    · exact Ev.congr (fun k => if_pos h10) (J _ (by simp [h10]))
    exact Ev.congr (fun k => if_neg h10) (J _ (by simp [h5, h6, h7, h10]))
end
end Go.Proofs.YtkmkfiidlbhcgaaDoor.ZL

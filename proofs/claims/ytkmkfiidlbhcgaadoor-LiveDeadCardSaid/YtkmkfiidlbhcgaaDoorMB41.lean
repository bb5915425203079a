/- Texts of this claim, pruned to what it needs and laid together by prune.py. -/
import Derived.Test.YtkmkfiidlbhcgaaDoorMB32
import Derived.Test.YtkmkfiidlbhcgaaDoorMB40
namespace Go.Proofs.YtkmkfiidlbhcgaaDoor.LL
open Go.RowKit Go.Proofs.YtkmkfiidlbhcgaaDoorW.PrintWords Go.Proofs.YtkmkfiidlbhcgaaDoorW.PrintMore Go.Proofs.YtkmkfiidlbhcgaaDoor.Scan Go.Proofs.YtkmkfiidlbhcgaaDoor.F Go.Proofs.YtkmkfiidlbhcgaaDoor.FM Go.Proofs.YtkmkfiidlbhcgaaDoor.H Go.Proofs.YtkmkfiidlbhcgaaDoor.TT Go.Proofs.YtkmkfiidlbhcgaaDoor.NX Go.Proofs.YtkmkfiidlbhcgaaDoor.FP Go.Proofs.YtkmkfiidlbhcgaaDoor.FL Go.Proofs.YtkmkfiidlbhcgaaDoor.B8 Go.Proofs.YtkmkfiidlbhcgaaDoor.V Go.Proofs.YtkmkfiidlbhcgaaDoor.LB Go.Proofs.YtkmkfiidlbhcgaaDoor.LG Go.Proofs.YtkmkfiidlbhcgaaDoor.GL Go.Proofs.YtkmkfiidlbhcgaaDoor.L8Dead
set_option linter.unusedVariables false
theorem lv_jump {code : List S36} {k : Nat} (hk : k < code.length) (h3 : (rd_T36 code k).f0 = 3) (h0 : 0 ≤ (rd_T36 code k).f4) : g (lvB code) k = g (lvB code) (rd_T36 code k).f4.toNat := by
  have e : nxt code k = [(rd_T36 code k).f4] := by
    unfold nxt
    rw [if_pos ⟨Int.natCast_nonneg k, Int.ofNat_lt.2 hk⟩, if_pos h3]
  have e1 : stB code k = 0 := by unfold stB setsB; rw [if_neg (by omega)]
  have e2 : usB code k = 0 := by
    unfold usB usesB
    rw [if_neg (by omega), if_neg (by omega), if_neg (by omega), if_neg (by omega)]
  refine BitVec.eq_of_getLsbD_eq fun i hi => ?_
  rw [Bool.eq_iff_iff, lv_step code k hk, lst_bit, e, e1, e2]
  simp
theorem lv_dead (code : List S36) (k : Nat) (hk : k < code.length) : g (lvB code) k &&& (stB code k &&& ~~~ usB code k) = 0 := by
  refine Sub.anti (fun i hi => ?_) (Sub.zero _)
  rw [BitVec.getLsbD_and, Bool.and_eq_true, not_bit, lv_step code k hk, lst_bit] at hi
  obtain ⟨h1, h2, h3⟩ := hi
  rcases h1 with ⟨_, h⟩ | h
  · rw [h] at h2
    cases h2
  · rw [h] at h3
    cases h3
theorem lv_uses (code : List S36) (k : Nat) (hk : k < code.length) : usB code k &&& ~~~ g (lvB code) k = 0 := by
  refine not_zero.2 fun i hi => ?_
  rw [lv_step code k hk, lst_bit]
  exact .inr hi
section
variable (ts : List ByteArray) (hl : (ts.length : Int) ≤ 9223372036854775807) (hs : ∀ s ∈ ts, (s.size : Int) ≤ 9223372036854775807) (la gl : ByteArray) (hla : Fit la) (hgl : Fit gl) (code : List S36) (hc : (code.length : Int) ≤ 9223372036854775807) (hw : WfC code)
include hl hs hla hgl hc hw
theorem LiveDead_pure (a : Int) (h0 : 0 ≤ a) (h1 : a ≤ 255) : Ev (fun k => lockstitchlaw08_LiveDead.f k ts la gl code a) true := by
  obtain ⟨b, hb, hsp⟩ := sound_tot ts hl hs la gl hla hgl code hc hw
  refine ev_bind alive_ev (Ev.congr (fun k => if_pos rfl) (ev_bind hb ?_))
  cases b with
  | false => exact Ev.congr (fun k => if_neg (by decide)) ev_const
  | true =>
    have h := hsp rfl
    have hsm := h.small
    have hps := h.pos
    have hll := lvI_len code
    obtain ⟨an, rfl⟩ := Int.eq_ofNat_of_zero_le h0
    have ewa : wrap64 ((an : Nat) : Int) = (an : Int) := by unfold wrap64; omega
    have etm : Int.tmod (an : Int) (code.length : Int) = ((an % code.length : Nat) : Int) := by
      rw [Int.tmod_eq_emod_of_nonneg h0]
      rfl
    have hlt : an % code.length < code.length := Nat.mod_lt _ hps
    obtain ⟨q, hq⟩ : ∃ q, q = an % code.length := ⟨_, rfl⟩
    rw [← hq] at etm hlt
    have L : ∀ (d i : Nat), i + d = code.length → Ev (fun k => lockstitchlaw08_LiveDead.l0 k (an : Int) (lvI code) code (code.length : Int) (i : Int) ts la gl code) true := by
      intro d
      induction d with
      | zero =>
        intro i hi
        have z0 : (0 : Int) ≤ (q : Int) := Int.natCast_nonneg q
        have z1 : (q : Int) < (code.length : Int) := by omega
        have z2 : (q : Int) < ((lvI code).length : Int) := by omega
        have zn : ¬ (code.length : Int) = 0 := by omega
        refine ev_step (fun k => lockstitchlaw08_LiveDead.l0.eq_2 ..) (Ev.congr (fun k => if_neg (by omega)) ?_)
        rw [ewa, etm]
        refine Ev.congr (fun k => if_neg zn) (Ev.congr (fun k => if_pos z0) (Ev.congr (fun k => if_pos z1) ?_))
        by_cases h3 : (rd_T36 code q).f0 = 3
        · have hj := (h.all q hlt).jump (.inl h3)
          have z4 : (rd_T36 code q).f4 < ((lvI code).length : Int) := by omega
          refine Ev.congr (fun k => if_pos h3) (Ev.congr (fun k => if_pos z2) (Ev.congr (fun k => if_pos hj.1) (Ev.congr (fun k => if_pos z4) (ev_all fun k => ?_))))
          rw [rd_lv, lv_jump hlt h3 hj.1]
          unfold lvI
          rw [rd_iv, beq_self_eq_true]
        · exact Ev.congr (fun k => if_neg h3) ev_const
      | succ d ih =>
        intro i hi
        have ih := ih (i + 1) (by omega)
        have hil : i < code.length := by omega
        have hx := hw.rd i hil
        have z0 : (0 : Int) ≤ (i : Int) := Int.natCast_nonneg i
        have z1 : (i : Int) < (code.length : Int) := by omega
        have z2 : (i : Int) < ((lvI code).length : Int) := by omega
        have e1 : bits .and .u8 (rd (lvI code) (i : Int)) (bits .andNot .u8 (iv (stB code i)) (iv (usB code i))) = 0 := by
          rw [rd_lv, bits_not, bits_and, lv_dead code i hil]
          rfl
        have e2 : bits .andNot .u8 (iv (usB code i)) (rd (lvI code) (i : Int)) = 0 := by
          rw [rd_lv, bits_not, lv_uses code i hil]
          rfl
        refine ev_step (fun k => lockstitchlaw08_LiveDead.l0.eq_2 ..) (Ev.congr (fun k => if_pos z1) (Ev.congr (fun k => if_pos z0) (Ev.congr (fun k => if_pos z1) (ev_bind (sets_ev hx) (ev_bind (uses_ev hx) (Ev.congr (fun k => if_pos z2) (Ev.congr (fun k => if_pos e1) (ev_bind (uses_ev hx) (Ev.congr (fun k => if_pos e2) ?_)))))))))
        rw [w1 (n := code.length) (by omega) (by omega)]
        exact ih
    have el : ((lvI code).length : Int) = wrap64 ((code.length : Int) + 1) := by unfold wrap64; omega
    exact Ev.congr (fun k => if_pos rfl) (ev_bind (in_ev h hw) (Ev.congr (fun k => if_pos el) (L _ 0 (Nat.zero_add _))))
end
end Go.Proofs.YtkmkfiidlbhcgaaDoor.LL

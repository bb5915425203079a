/- Texts of this claim, pruned to what it needs and laid together by prune.py. -/
import Derived.Test.YtkmkfiidlbhcgaaDoorMB32
import Derived.Test.YtkmkfiidlbhcgaaDoorMB37
namespace Go.Proofs.YtkmkfiidlbhcgaaDoor.LL
open Go.RowKit Go.Proofs.YtkmkfiidlbhcgaaDoorW.PrintWords Go.Proofs.YtkmkfiidlbhcgaaDoorW.PrintMore Go.Proofs.YtkmkfiidlbhcgaaDoor.Scan Go.Proofs.YtkmkfiidlbhcgaaDoor.F Go.Proofs.YtkmkfiidlbhcgaaDoor.FM Go.Proofs.YtkmkfiidlbhcgaaDoor.H Go.Proofs.YtkmkfiidlbhcgaaDoor.TT Go.Proofs.YtkmkfiidlbhcgaaDoor.NX Go.Proofs.YtkmkfiidlbhcgaaDoor.FP Go.Proofs.YtkmkfiidlbhcgaaDoor.FL Go.Proofs.YtkmkfiidlbhcgaaDoor.B8 Go.Proofs.YtkmkfiidlbhcgaaDoor.V Go.Proofs.YtkmkfiidlbhcgaaDoor.LB Go.Proofs.YtkmkfiidlbhcgaaDoor.LG Go.Proofs.YtkmkfiidlbhcgaaDoor.GL Go.Proofs.YtkmkfiidlbhcgaaDoor.L8Flows
set_option linter.unusedVariables false
def mask (n : Nat) : S8 := BitVec.ofNat 8 (2 ^ n - 1)
theorem mask_bit (n i : Nat) : (mask n).getLsbD i = true ↔ i < 8 ∧ i < n := by
  unfold mask
  rw [BitVec.getLsbD_ofNat, Bool.and_eq_true, decide_eq_true_iff, Nat.testBit_two_pow_sub_one, decide_eq_true_iff]
theorem own_mask {a : Int} {n : Nat} (h0 : 0 ≤ a) (h : a < n) : Sub (own a) (mask n) := by
  intro i hi
  rw [own_bit] at hi
  rw [mask_bit]
  omega
theorem shr_mask {z : S8} {n : Nat} (h : Sub z (mask n)) (hn : n ≤ 8) : shr .u8 (iv z) (n : Int) = 0 := by
  have hlt : z.toNat < 2 ^ n := Nat.lt_pow_two_of_testBit _ fun i hi => by
    cases hb : z.toNat.testBit i with
    | false => rfl
    | true =>
      have := (mask_bit n i).1 (h i hb)
      omega
  unfold shr iv
  rw [Int.toNat_natCast, show min n IntKind.u8.bits = n from Nat.min_eq_left hn]
  have e : ((2 ^ n : Nat) : Int) = (2 : Int) ^ n := Int.natCast_pow 2 n
  rw [← e]
  exact Int.ediv_eq_zero_of_lt (Int.natCast_nonneg _) (Int.ofNat_lt.2 hlt)
section
variable {ts : List ByteArray} {la gl : ByteArray} {code : List S36} (h : SP ts la gl code) (hl : (ts.length : Int) ≤ 9223372036854775807) (hs : ∀ s ∈ ts, (s.size : Int) ≤ 9223372036854775807) (hla : Fit la) (hw : WfC code)
include h hl hs hla hw
theorem us_mask (k : Nat) (hk : k < code.length) : Sub (usB code k) (mask la.size) := by
  have hx := hw.rd k hk
  have f := kinds_kf ts hl hs la gl hla code hx (h.all k hk).kinds
  obtain ⟨_, ⟨h1, _⟩, ⟨h2, _⟩, ⟨h3, _⟩, _⟩ := hx
  have fa := f.a
  have fb := f.b
  have fc := f.c
  unfold usB usesB
  split
  · exact own_mask h2 (fb (by omega))
  · split
    · exact own_mask h1 (fa (by omega))
    · split
      · exact sub_or_l.2 ⟨own_mask h1 (fa (by omega)), own_mask h2 (fb (by omega))⟩
      · split
        · exact sub_or_l.2 ⟨own_mask h2 (fb (by omega)), own_mask h3 (fc (by omega))⟩
        · exact Sub.zero _
theorem lv_mask (k : Nat) : Sub (g (lvB code) k) (mask la.size) := by
  have hg : ∀ i, Sub (g (List.replicate (code.length + 1) (mask la.size)) i) (mask la.size) := by
    intro i
    unfold g
    rw [List.getD_eq_getElem?_getD, List.getElem?_replicate]
    split
    · exact Sub.refl _
    · exact Sub.zero _
  have hp : Pre (nxt code) code.length (stB code) (usB code) (List.replicate (code.length + 1) (mask la.size)) := by
    refine ⟨by simp, fun j hj => ?_⟩
    have e : g (List.replicate (code.length + 1) (mask la.size)) j = mask la.size := by
      unfold g
      rw [List.getD_eq_getElem?_getD, List.getElem?_replicate, if_pos (by omega)]
      rfl
    rw [e]
    intro i hi
    rw [lst_bit] at hi
    rcases hi with ⟨⟨t, _, hb⟩, _⟩ | hb
    · exact hg _ i hb
    · exact us_mask h hl hs hla hw j hj i hb
  exact ((lv_inv ..).least _ hp).2 k |>.trans (hg k)
end
section
variable (ts : List ByteArray) (hl : (ts.length : Int) ≤ 9223372036854775807) (hs : ∀ s ∈ ts, (s.size : Int) ≤ 9223372036854775807) (la gl : ByteArray) (hla : Fit la) (hgl : Fit gl) (code : List S36) (hc : (code.length : Int) ≤ 9223372036854775807) (hw : WfC code)
include hl hs hla hgl hc hw
theorem LiveFlows_pure : Ev (fun k => lockstitchlaw08_LiveFlows.f k ts la gl code) true := by
  obtain ⟨b, hb, hsp⟩ := sound_tot ts hl hs la gl hla hgl code hc hw
  refine ev_bind alive_ev (Ev.congr (fun k => if_pos rfl) (ev_bind hb ?_))
  cases b with
  | false => exact Ev.congr (fun k => if_neg (by decide)) ev_const
  | true =>
    have h := hsp rfl
    have hsm := h.small
    have hll := lvI_len code
    have hI := SP.inR h
    have L0 : ∀ (d i : Nat), i + d = code.length → Ev (fun k => lockstitchlaw08_LiveFlows.l0 k (lvI code) code (code.length : Int) (i : Int) ts la gl code) true := by
      intro d
      induction d with
      | zero =>
        intro i hi
        exact ev_step (fun k => lockstitchlaw08_LiveFlows.l0.eq_2 ..) (Ev.congr (fun k => if_neg (by omega)) ev_const)
      | succ d ih =>
        intro i hi
        have ih := ih (i + 1) (by omega)
        have hil : i < code.length := by omega
        have hx := hw.rd i hil
        have h2 := nxt_two code i
        have z0 : (0 : Int) ≤ (i : Int) := Int.natCast_nonneg i
        have z1 : (i : Int) < (code.length : Int) := by omega
        have z2 : (i : Int) < ((lvI code).length : Int) := by omega
        have e0 : iv (0 : S8) = 0 := rfl
        have L1 : ∀ (d j : Nat), j + d = (nxt code i).length → Ev (fun k => lockstitchlaw08_LiveFlows.l1 k (lvI code) (i : Int) (iv (lorj (nxt code) (lvB code) i j)) code (code.length : Int) (i : Int) (nxt code i) ((nxt code i).length : Int) (j : Int) ts la gl code (rd_T36 code i).f0 (rd_T36 code i).f1 (rd_T36 code i).f2 (rd_T36 code i).f3 (rd_T36 code i).f4) true := by
          intro d
          induction d with
          | zero =>
            intro j hj
            obtain rfl : j = (nxt code i).length := by omega
            have e1 : rd (lvI code) (i : Int) = bits .or .u8 (iv (usB code i)) (bits .andNot .u8 (iv (lorj (nxt code) (lvB code) i (nxt code i).length)) (iv (stB code i))) := by
              rw [lorj_all, bits_not, bits_or, rd_lv, lv_step code i hil]
              exact congrArg iv (BitVec.or_comm ..)
            have e2 : shr .u8 (rd (lvI code) (i : Int)) (la.size : Int) = 0 := by
              rw [rd_lv]
              exact shr_mask (lv_mask h hl hs hla hw i) h.locals
            refine ev_step (fun k => lockstitchlaw08_LiveFlows.l1.eq_2 ..) (Ev.congr (fun k => if_neg (by omega)) (Ev.congr (fun k => if_pos z0) (Ev.congr (fun k => if_pos z2) (ev_bind (ref_uses_ev hx) (ev_bind (ref_sets_ev hx) (Ev.congr (fun k => if_pos e1) (Ev.congr (fun k => if_pos e2) ?_)))))))
            rw [w1 (n := code.length) (by omega) (by omega)]
            exact ih
          | succ d ih1 =>
            intro j hj
            have ih1 := ih1 (j + 1) (by omega)
            have hjl : j < (nxt code i).length := by omega
            have hrd : rd (nxt code i) j = (nxt code i)[j] := by
              unfold rd
              rw [Int.toNat_natCast, List.getD_eq_getElem?_getD, List.getElem?_eq_getElem hjl]
              rfl
            have hr := hI _ _ (List.getElem_mem hjl)
            rw [← hrd] at hr
            have ew : wrap64 ((j : Int) + 1) = ((j + 1 : Nat) : Int) := by unfold wrap64; omega
            have y0 : (0 : Int) ≤ (j : Int) := Int.natCast_nonneg j
            have y2 : rd (nxt code i) j < ((lvI code).length : Int) := by rw [hll]; exact hr.2
            have y5 : (j : Int) < ((nxt code i).length : Int) := by omega
            refine ev_step (fun k => lockstitchlaw08_LiveFlows.l1.eq_2 ..) (Ev.congr (fun k => if_pos y5) (Ev.congr (fun k => if_pos y0) (Ev.congr (fun k => if_pos y5) (Ev.congr (fun k => if_pos hr.1) (Ev.congr (fun k => if_pos y2) ?_)))))
            rw [ew, show rd (lvI code) (rd (nxt code i) j) = iv (g (lvB code) (rd (nxt code i) j).toNat) from rd_iv .., bits_or]
            rw [lorj_succ _ _ _ _ hjl, ← hrd] at ih1
            exact ih1
        have hL := L1 _ 0 (Nat.zero_add _)
        exact ev_step (fun k => lockstitchlaw08_LiveFlows.l0.eq_2 ..) (Ev.congr (fun k => if_pos z1) (Ev.congr (fun k => if_pos z0) (Ev.congr (fun k => if_pos z1) (ev_bind (ref_next_ev ts la gl code hc i) hL))))
    have el : ((lvI code).length : Int) = wrap64 ((code.length : Int) + 1) := by unfold wrap64; omega
    have y0 : (0 : Int) ≤ (code.length : Int) := Int.natCast_nonneg _
    have y1 : (code.length : Int) < ((lvI code).length : Int) := by omega
    have e3 : rd (lvI code) (code.length : Int) = 0 := by
      rw [rd_lv, lv_end]
      rfl
    refine Ev.congr (fun k => if_pos rfl) (ev_bind (in_ev h hw) (Ev.congr (fun k => if_pos el) (Ev.congr (fun k => if_pos y0) (Ev.congr (fun k => if_pos y1) ?_))))
    exact ev_step (fun k => lockstitchlaw08_LiveFlows.j0.eq_2 ..) (Ev.congr (fun k => if_neg (by rw [e3]; decide)) (L0 _ 0 (Nat.zero_add _)))
end
end Go.Proofs.YtkmkfiidlbhcgaaDoor.LL

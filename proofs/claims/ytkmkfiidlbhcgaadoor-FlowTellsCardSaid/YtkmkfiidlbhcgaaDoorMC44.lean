/- Texts of this claim, pruned to what it needs and laid together by prune.py. -/
import Derived.Test.YtkmkfiidlbhcgaaDoorMC42
import Derived.Test.YtkmkfiidlbhcgaaDoorMC43
namespace Go.Proofs.YtkmkfiidlbhcgaaDoor.FL
open Go.RowKit Go.Proofs.YtkmkfiidlbhcgaaDoorW.PrintWords Go.Proofs.YtkmkfiidlbhcgaaDoor.Scan Go.Proofs.YtkmkfiidlbhcgaaDoor.F Go.Proofs.YtkmkfiidlbhcgaaDoor.FM Go.Proofs.YtkmkfiidlbhcgaaDoor.H Go.Proofs.YtkmkfiidlbhcgaaDoor.TT Go.Proofs.YtkmkfiidlbhcgaaDoor.NX Go.Proofs.YtkmkfiidlbhcgaaDoor.FP Go.Proofs.YtkmkfiidlbhcgaaDoor.FG Go.Proofs.YtkmkfiidlbhcgaaDoor.G Go.Proofs.YtkmkfiidlbhcgaaDoor.L7Tells
theorem same_ev (a b : List Int) (hl : (a.length : Int) ≤ 9223372036854775807) (he : a = b) : Ev (fun k => lockstitchlaw07_same.f k a b) true := by
  subst he
  have L : ∀ (d i : Nat), i + d = a.length → Ev (fun k => lockstitchlaw07_same.l0 k a a (a.length : Int) (i : Int)) true := by
    intro d
    induction d with
    | zero =>
      intro i hi
      exact ev_step (fun k => lockstitchlaw07_same.l0.eq_2 ..) (Ev.congr (fun k => if_neg (by omega)) ev_const)
    | succ d ih =>
      intro i hi
      have ih := ih (i + 1) (by omega)
      refine ev_step (fun k => lockstitchlaw07_same.l0.eq_2 ..) (Ev.congr (fun k => if_pos (by omega)) (Ev.congr (fun k => if_pos (by omega)) (Ev.congr (fun k => if_pos (by omega)) (Ev.congr (fun k => if_pos (by omega)) (Ev.congr (fun k => if_pos rfl) ?_)))))
      rw [w1 (n := a.length) (by omega) hl]
      exact ih
  exact Ev.congr (fun k => if_pos rfl) (L a.length 0 (Nat.zero_add _))
section
variable {ts : List ByteArray} {la gl : ByteArray} {code : List S36} (h : SP ts la gl code) (a : Int) (ha0 : 0 ≤ a) (ha1 : a ≤ code.length)
include h ha0 ha1
omit ha0 ha1 in
theorem ref_l2 (k : Nat) (r : Nat) (had : List Bool) (hh : had.length = code.length + 1) (hk : k ≤ code.length) (q : List Bool) :
    ∀ (d j : Nat), j + d = (nxt code k).length → Ev (fun n => lockstitchref07_Reach.l1 n a (js (nxt code) a k had (nxt code k).length) (r : Int) (wrap64 ((k : Int) + 1)) ts la gl code) q →
      Ev (fun n => lockstitchref07_Reach.l2 n a (js (nxt code) a k had j) (r : Int) (k : Int) (nxt code k) (j : Int) ts la gl code) q := by
  have h2 := nxt_two code k
  intro d
  induction d with
  | zero =>
    intro j hj hq
    obtain rfl : j = (nxt code k).length := by omega
    exact ev_step (fun n => lockstitchref07_Reach.l2.eq_2 ..) (Ev.congr (fun n => if_neg (by omega)) hq)
  | succ d ih =>
    intro j hj hq
    have ih := ih (j + 1) (by omega) hq
    have hjl : j < (nxt code k).length := by omega
    have hrd : rd (nxt code k) j = (nxt code k)[j] := by
      unfold rd
      rw [Int.toNat_natCast, List.getD_eq_getElem?_getD, List.getElem?_eq_getElem hjl]
      rfl
    have hm : rd (nxt code k) j ∈ nxt code k := by rw [hrd]; exact List.getElem_mem hjl
    have hr := SP.inR h _ _ hm
    have hlen : (js (nxt code) a k had j).length = code.length + 1 := (LE.fold a k ((nxt code k).take j) had).1.symm.trans hh
    have ew : wrap64 ((j : Int) + 1) = ((j + 1 : Nat) : Int) := by unfold wrap64; omega
    have z0 : (0 : Int) ≤ (j : Int) := Int.natCast_nonneg j
    have z2 : rd (nxt code k) j < ((js (nxt code) a k had j).length : Int) := by rw [hlen]; exact hr.2
    have z3 : (0 : Int) ≤ (k : Int) := Int.natCast_nonneg k
    have z4 : (k : Int) < ((js (nxt code) a k had j).length : Int) := by rw [hlen]; omega
    have z5 : (j : Int) < ((nxt code k).length : Int) := by omega
    rw [js_succ _ _ _ _ _ hjl, ← hrd] at ih
    unfold upd at ih
    refine ev_step (fun n => lockstitchref07_Reach.l2.eq_2 ..) (Ev.congr (fun n => if_pos z5) ?_)
    rw [ew]
    by_cases hka : (k : Int) = a
    · rw [if_pos (.inl hka)] at ih
      exact Ev.congr (fun n => if_pos hka) (Ev.congr (fun n => if_pos z0) (Ev.congr (fun n => if_pos hr.1) (Ev.congr (fun n => if_pos z2) ih)))
    · refine Ev.congr (fun n => if_neg hka) (Ev.congr (fun n => if_pos z3) (Ev.congr (fun n => if_pos z4) ?_))
      by_cases hb : rdOf false (js (nxt code) a k had j) (k : Int) = true
      · rw [if_pos (.inr (by rw [Int.toNat_natCast]; exact hb))] at ih
        exact Ev.congr (fun n => if_pos hb) (Ev.congr (fun n => if_pos z0) (Ev.congr (fun n => if_pos hr.1) (Ev.congr (fun n => if_pos z2) ih)))
      · rw [if_neg (by rw [Int.toNat_natCast]; exact fun e => e.elim hka hb)] at ih
        exact Ev.congr (fun n => if_neg hb) ih
omit ha0 ha1 in
theorem ref_l1 (r : Nat) (had : List Bool) (hh : had.length = code.length + 1) (q : List Bool)
    (hq : Ev (fun n => lockstitchref07_Reach.l0 n a (ks (nxt code) a had (code.length + 1)) (wrap64 ((r : Int) + 1)) ts la gl code) q) :
    ∀ (d k : Nat), k + d = code.length + 1 → Ev (fun n => lockstitchref07_Reach.l1 n a (ks (nxt code) a had k) (r : Int) (k : Int) ts la gl code) q := by
  have hs := h.small
  intro d
  induction d with
  | zero =>
    intro k hk
    obtain rfl : k = code.length + 1 := by omega
    exact ev_step (fun n => lockstitchref07_Reach.l1.eq_2 ..) (Ev.congr (fun n => if_neg (by omega)) hq)
  | succ d ih =>
    intro k hk
    have ih := ih (k + 1) (by omega)
    have ew : wrap64 ((k : Int) + 1) = ((k + 1 : Nat) : Int) := by unfold wrap64; omega
    refine ev_step (fun n => lockstitchref07_Reach.l1.eq_2 ..) (Ev.congr (fun n => if_pos (by omega)) (ev_bind (ref_next_ev ts la gl code (by omega) k) ?_))
    refine ref_l2 h a k r (ks (nxt code) a had k) (by rw [← (LE.ks (nxt code) a had k).1, hh]) (by omega) q _ 0 (Nat.zero_add _) ?_
    rw [ew]
    exact ih
theorem ref_l0 : ∀ (d r : Nat), r + d = code.length + 1 → Ev (fun n => lockstitchref07_Reach.l0 n a (rr (nxt code) (code.length + 1) a r) (r : Int) ts la gl code) (rch (nxt code) (code.length + 1) a) := by
  have hs := h.small
  intro d
  induction d with
  | zero =>
    intro r hr
    obtain rfl : r = code.length + 1 := by omega
    refine ev_step (fun n => lockstitchref07_Reach.l0.eq_2 ..) (Ev.congr (fun n => if_neg (by omega)) ?_)
    rw [rr_rch (SP.inR h) ha0 (by omega)]
    exact ev_const
  | succ d ih =>
    intro r hr
    have ih := ih (r + 1) (by omega)
    have ew : wrap64 ((r : Int) + 1) = ((r + 1 : Nat) : Int) := by unfold wrap64; omega
    refine ev_step (fun n => lockstitchref07_Reach.l0.eq_2 ..) (Ev.congr (fun n => if_pos (by omega)) ?_)
    exact ref_l1 h a r _ (rr_length ..) _ (by rw [ew]; exact ih) (code.length + 1) 0 (Nat.zero_add _)
end
theorem ref_reach_ev {ts : List ByteArray} {la gl : ByteArray} {code : List S36} (h : SP ts la gl code) (a : Int) : Ev (fun k => lockstitchref07_Reach.f k ts la gl code a) (reachV code a) := by
  have hs := h.small
  have ew : wrap64 ((code.length : Int) + 1) = ((code.length + 1 : Nat) : Int) := by unfold wrap64; omega
  unfold reachV
  by_cases ha : 0 ≤ a ∧ a ≤ code.length
  · rw [if_pos ha]
    refine Ev.congr (fun k => if_neg (by omega)) (ev_step (fun k => lockstitchref07_Reach.j0.eq_2 ..) (Ev.congr (fun k => if_neg (by rw [decide_eq_true_iff]; omega)) ?_))
    rw [ew, Int.toNat_natCast]
    exact Ev.congr (fun k => if_pos (by omega)) (Ev.congr (fun k => if_pos (by omega)) (ref_l0 h a ha.1 ha.2 _ 0 (Nat.zero_add _)))
  · rw [if_neg ha]
    by_cases h0 : a < 0
    · exact Ev.congr (fun k => if_pos h0) (ev_step (fun k => lockstitchref07_Reach.j0.eq_2 ..) (Ev.congr (fun k => if_pos rfl) ev_const))
    · exact Ev.congr (fun k => if_neg h0) (ev_step (fun k => lockstitchref07_Reach.j0.eq_2 ..) (Ev.congr (fun k => if_pos (by rw [decide_eq_true_iff]; omega)) ev_const))
noncomputable def loops (code : List S36) (a : Int) : Bool := decide (a ≥ 0 ∧ a < (reachV code a).length) && rdOf false (reachV code a) a
theorem loops_ev {ts : List ByteArray} {la gl : ByteArray} {code : List S36} (h : SP ts la gl code) (a : Int) : Ev (fun _ => flow_Loops.f ts la gl code a) (loops code a) := by
  refine ev_bind (reach_ev h a) ?_
  unfold loops
  by_cases h0 : a ≥ 0
  · refine Ev.congr (fun k => if_pos h0) ?_
    by_cases h1 : a < ((reachV code a).length : Int)
    · rw [decide_eq_true ⟨h0, h1⟩, Bool.true_and]
      exact Ev.congr (fun k => if_pos h1) (Ev.congr (fun k => if_pos h0) ev_const)
    · rw [decide_eq_false (fun e => h1 e.2), Bool.false_and]
      exact Ev.congr (fun k => if_neg h1) ev_const
  · rw [decide_eq_false (fun e => h0 e.1), Bool.false_and]
    exact Ev.congr (fun k => if_neg h0) ev_const
theorem ref_loops_ev {ts : List ByteArray} {la gl : ByteArray} {code : List S36} (h : SP ts la gl code) (a : Int) : Ev (fun k => lockstitchref07_Loops.f k ts la gl code a) (loops code a) := by
  refine ev_bind (ref_reach_ev h a) ?_
  unfold loops
  by_cases h0 : a ≥ 0
  · refine Ev.congr (fun k => if_pos h0) ?_
    by_cases h1 : a < ((reachV code a).length : Int)
    · rw [decide_eq_true ⟨h0, h1⟩, Bool.true_and]
      exact Ev.congr (fun k => if_pos h1) (Ev.congr (fun k => if_pos h0) ev_const)
    · rw [decide_eq_false (fun e => h1 e.2), Bool.false_and]
      exact Ev.congr (fun k => if_neg h1) ev_const
  · rw [decide_eq_false (fun e => h0 e.1), Bool.false_and]
    exact Ev.congr (fun k => if_neg h0) ev_const
theorem reachV_len {code : List S36} {a : Int} : (reachV code a).length ≤ code.length + 1 := by
  unfold reachV
  split
  · rw [rch_length]
    exact Nat.le_refl _
  · exact Nat.zero_le _
section
variable (ts : List ByteArray) (hl : (ts.length : Int) ≤ 9223372036854775807) (hs : ∀ s ∈ ts, (s.size : Int) ≤ 9223372036854775807) (la gl : ByteArray) (hla : Fit la) (hgl : Fit gl) (code : List S36) (hc : (code.length : Int) ≤ 9223372036854775807) (hw : WfC code)
include hl hs hla hgl hc hw
theorem FlowTells_pure (a : Int) (_h0 : -9223372036854775808 ≤ a) (_h1 : a ≤ 9223372036854775807) : Ev (fun k => lockstitchlaw07_FlowTells.f k ts la gl code a) true := by
  obtain ⟨b, hb, hsp⟩ := sound_tot ts hl hs la gl hla hgl code hc hw
  refine ev_bind alive_ev (Ev.congr (fun k => if_pos rfl) (ev_bind hb ?_))
  cases b with
  | false => exact Ev.congr (fun k => if_neg (by decide)) ev_const
  | true =>
    have h := hsp rfl
    have hrl := reachV_len (code := code) (a := a)
    have hsm := h.small
    refine Ev.congr (fun k => if_pos rfl) (ev_bind (reach_ev h a) (ev_bind (ref_reach_ev h a) (Ev.congr (fun k => if_pos rfl) ?_)))
    have L : ∀ (d i : Nat), i + d = (reachV code a).length → Ev (fun k => lockstitchlaw07_FlowTells.l0 k a (reachV code a) (reachV code a) ((reachV code a).length : Int) (i : Int) ts la gl code) true := by
      intro d
      induction d with
      | zero =>
        intro i hi
        refine ev_step (fun k => lockstitchlaw07_FlowTells.l0.eq_2 ..) (Ev.congr (fun k => if_neg (by omega)) (ev_bind (next_ev _ _ _ _ _) (ev_bind (ref_next_ev ts la gl code hc a) (ev_bind (same_ev _ _ (by have := nxt_two code a; omega) rfl) (Ev.congr (fun k => if_pos rfl) ?_)))))
        refine ev_bind (safe_ev ts la gl code a) (ev_bind (ref_safe_ev ts la gl code a) (Ev.congr (fun k => if_pos (by simp)) (ev_bind (loops_ev h a) (ev_bind (ref_loops_ev h a) (ev_all fun k => by simp)))))
      | succ d ih =>
        intro i hi
        have ih := ih (i + 1) (by omega)
        refine ev_step (fun k => lockstitchlaw07_FlowTells.l0.eq_2 ..) (Ev.congr (fun k => if_pos (by omega)) (Ev.congr (fun k => if_pos (by omega)) (Ev.congr (fun k => if_pos (by omega)) (Ev.congr (fun k => if_pos (by omega)) (Ev.congr (fun k => if_neg (by simp)) ?_)))))
        rw [w1 (n := (reachV code a).length) (by omega) (by omega)]
        exact ih
    exact L _ 0 (Nat.zero_add _)
end
end Go.Proofs.YtkmkfiidlbhcgaaDoor.FL

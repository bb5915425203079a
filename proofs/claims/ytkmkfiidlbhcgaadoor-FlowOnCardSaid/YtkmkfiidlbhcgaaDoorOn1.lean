/-
  The law FlowOn, in plain words.
-/
import Derived.Test.YtkmkfiidlbhcgaaDoorGe1
import Derived.Test.YtkmkfiidlbhcgaaDoorOn0
namespace Go.Proofs.YtkmkfiidlbhcgaaDoor.FL
open Go.RowKit Go.Proofs.YtkmkfiidlbhcgaaDoorW.PrintWords Go.Proofs.YtkmkfiidlbhcgaaDoor.Scan Go.Proofs.YtkmkfiidlbhcgaaDoor.F Go.Proofs.YtkmkfiidlbhcgaaDoor.FM Go.Proofs.YtkmkfiidlbhcgaaDoor.H Go.Proofs.YtkmkfiidlbhcgaaDoor.TT Go.Proofs.YtkmkfiidlbhcgaaDoor.NX Go.Proofs.YtkmkfiidlbhcgaaDoor.FP Go.Proofs.YtkmkfiidlbhcgaaDoor.FG Go.Proofs.YtkmkfiidlbhcgaaDoor.G Go.Proofs.YtkmkfiidlbhcgaaDoor.L7On

section
variable {ts : List ByteArray} {la gl : ByteArray} {code : List S36} (h : SP ts la gl code)
include h
variable (x : Int) (hx0 : 0 ≤ x) (hx1 : x ≤ code.length)
include hx0 hx1
theorem on_l2 (k : Nat) (hk : k ≤ code.length) (hkx : RN (nxt code) x k) (hq : Ev (fun n => lockstitchlaw07_FlowOn.l1 n x (reachV code x) (reachV code x) ((reachV code x).length : Int) (wrap64 ((k : Int) + 1)) ts la gl code) true) :
    ∀ (d j : Nat), j + d = code.length + 1 → Ev (fun n => lockstitchlaw07_FlowOn.l2 n x (reachV code x) (reachV code x) ((reachV code x).length : Int) (k : Int) (reachV code k) ((reachV code k).length : Int) (j : Int) ts la gl code) true := by
  have hs := h.small
  have hlx : (reachV code x).length = code.length + 1 := by rw [reachV_in hx0 hx1, rch_length]
  have hlk : (reachV code k).length = code.length + 1 := by rw [reachV_in (by omega) (by omega), rch_length]
  intro d
  induction d with
  | zero =>
    intro j hj
    exact ev_step (fun n => lockstitchlaw07_FlowOn.l2.eq_2 ..) (Ev.congr (fun n => if_neg (by omega)) hq)
  | succ d ih =>
    intro j hj
    have ih := ih (j + 1) (by omega)
    have ew : wrap64 ((j : Int) + 1) = ((j + 1 : Nat) : Int) := by unfold wrap64; omega
    refine ev_step (fun n => lockstitchlaw07_FlowOn.l2.eq_2 ..) (Ev.congr (fun n => if_pos (by omega)) (Ev.congr (fun n => if_pos (by omega)) (Ev.congr (fun n => if_pos (by omega)) ?_)))
    rw [ew]
    by_cases hb : rdOf false (reachV code k) (j : Int) = true
    · have h1 := (reachV_get h (by omega) (by omega) (j : Int) (by omega)).1 hb
      have h2 := (reachV_get h hx0 hx1 (j : Int) (by omega)).2 (hkx.trans h1)
      exact Ev.congr (fun n => if_pos hb) (Ev.congr (fun n => if_pos (by omega)) (Ev.congr (fun n => if_pos h2) ih))
    · exact Ev.congr (fun n => if_neg hb) ih
theorem on_l1 : ∀ (d k : Nat), k + d = code.length + 1 → Ev (fun n => lockstitchlaw07_FlowOn.l1 n x (reachV code x) (reachV code x) ((reachV code x).length : Int) (k : Int) ts la gl code) true := by
  have hs := h.small
  have hlx : (reachV code x).length = code.length + 1 := by rw [reachV_in hx0 hx1, rch_length]
  intro d
  induction d with
  | zero =>
    intro k hk
    refine ev_step (fun n => lockstitchlaw07_FlowOn.l1.eq_2 ..) (Ev.congr (fun n => if_neg (by omega)) ?_)
    by_cases hlt : x < (code.length : Int)
    · exact Ev.congr (fun n => if_pos hlt) ev_const
    · refine Ev.congr (fun n => if_neg hlt) (Ev.congr (fun n => if_pos hx0) (Ev.congr (fun n => if_pos (by omega)) (ev_all fun n => ?_)))
      have hno : ¬ rdOf false (reachV code x) x = true := fun e => by
        obtain ⟨b, hb, _⟩ := ((reachV_get h hx0 hx1 x hx0).1 e).head
        unfold nxt at hb
        rw [if_neg (by omega)] at hb
        cases hb
      rw [Bool.eq_false_iff.2 hno]
      rfl
  | succ d ih =>
    intro k hk
    have ih := ih (k + 1) (by omega)
    have ew : wrap64 ((k : Int) + 1) = ((k + 1 : Nat) : Int) := by unfold wrap64; omega
    have hlk : (reachV code k).length = code.length + 1 := by rw [reachV_in (by omega) (by omega), rch_length]
    rw [← ew] at ih
    refine ev_step (fun n => lockstitchlaw07_FlowOn.l1.eq_2 ..) (Ev.congr (fun n => if_pos (by omega)) (Ev.congr (fun n => if_pos (by omega)) (Ev.congr (fun n => if_pos (by omega)) ?_)))
    by_cases hb : rdOf false (reachV code x) (k : Int) = true
    · refine Ev.congr (fun n => if_pos hb) (ev_bind (reach_ev h k) ?_)
      exact on_l2 h x hx0 hx1 k (by omega) ((reachV_get h hx0 hx1 (k : Int) (by omega)).1 hb) ih (code.length + 1) 0 (Nat.zero_add _)
    · exact Ev.congr (fun n => if_neg hb) ih
theorem on_l0 : ∀ (d i : Nat), i + d = (nxt code x).length → Ev (fun n => lockstitchlaw07_FlowOn.l0 n x (reachV code x) (nxt code x) ((nxt code x).length : Int) (i : Int) ts la gl code) true := by
  have h2 := nxt_two code x
  have hlx : (reachV code x).length = code.length + 1 := by rw [reachV_in hx0 hx1, rch_length]
  intro d
  induction d with
  | zero =>
    intro i hi
    exact ev_step (fun n => lockstitchlaw07_FlowOn.l0.eq_2 ..) (Ev.congr (fun n => if_neg (by omega)) (on_l1 h x hx0 hx1 (code.length + 1) 0 (Nat.zero_add _)))
  | succ d ih =>
    intro i hi
    have ih := ih (i + 1) (by omega)
    have hm := rd_mem (l := nxt code x) (i := i) (by omega)
    have hr := SP.inR h _ _ hm
    have z : rd (nxt code x) i < ((reachV code x).length : Int) := by rw [hlx]; exact hr.2
    have z1 : (i : Int) < ((nxt code x).length : Int) := by omega
    have z0 : (0 : Int) ≤ (i : Int) := Int.natCast_nonneg i
    have hb := (reachV_get h hx0 hx1 _ hr.1).2 (.base hm)
    have ew : wrap64 ((i : Int) + 1) = ((i + 1 : Nat) : Int) := by unfold wrap64; omega
    rw [← ew] at ih
    exact ev_step (fun n => lockstitchlaw07_FlowOn.l0.eq_2 ..) (Ev.congr (fun n => if_pos z1) (Ev.congr (fun n => if_pos z0) (Ev.congr (fun n => if_pos z1) (Ev.congr (fun n => if_pos hr.1) (Ev.congr (fun n => if_pos z) (Ev.congr (fun n => if_pos hb) ih))))))
end
section
variable (ts : List ByteArray) (hl : (ts.length : Int) ≤ 9223372036854775807) (hs : ∀ s ∈ ts, (s.size : Int) ≤ 9223372036854775807) (la gl : ByteArray) (hla : Fit la) (hgl : Fit gl) (code : List S36) (hc : (code.length : Int) ≤ 9223372036854775807) (hw : WfC code)
include hl hs hla hgl hc hw
theorem FlowOn_pure (a : Int) (h0 : 0 ≤ a) (h1 : a ≤ 255) : Ev (fun k => lockstitchlaw07_FlowOn.f k ts la gl code a) true := by
  obtain ⟨b, hb, hsp⟩ := sound_tot ts hl hs la gl hla hgl code hc hw
  refine ev_bind alive_ev (Ev.congr (fun k => if_pos rfl) (ev_bind hb ?_))
  cases b with
  | false => exact Ev.congr (fun k => if_neg (by decide)) ev_const
  | true =>
    have h := hsp rfl
    obtain ⟨p0, p1, p2, p3⟩ := place code.length h.small a h0 h1
    refine Ev.congr (fun k => if_pos rfl) (Ev.congr (fun k => if_neg p0) ?_)
    rw [p1]
    refine ev_bind (reach_ev h _) (Ev.congr (fun k => if_pos (by rw [reachV_in p2 p3, rch_length]; push_cast; rfl)) (ev_bind (next_ev _ _ _ _ _) ?_))
    exact on_l0 h _ p2 p3 _ 0 (Nat.zero_add _)
end
end Go.Proofs.YtkmkfiidlbhcgaaDoor.FL

/-
  The law FlowEnds, in plain words.
-/
import Derived.Test.YtkmkfiidlbhcgaaDoorGe1
import Derived.Test.YtkmkfiidlbhcgaaDoorEn0
namespace Go.Proofs.YtkmkfiidlbhcgaaDoor.FL
open Go.RowKit Go.Proofs.YtkmkfiidlbhcgaaDoorW.PrintWords Go.Proofs.YtkmkfiidlbhcgaaDoor.Scan Go.Proofs.YtkmkfiidlbhcgaaDoor.F Go.Proofs.YtkmkfiidlbhcgaaDoor.FM Go.Proofs.YtkmkfiidlbhcgaaDoor.H Go.Proofs.YtkmkfiidlbhcgaaDoor.TT Go.Proofs.YtkmkfiidlbhcgaaDoor.NX Go.Proofs.YtkmkfiidlbhcgaaDoor.FP Go.Proofs.YtkmkfiidlbhcgaaDoor.FG Go.Proofs.YtkmkfiidlbhcgaaDoor.G Go.Proofs.YtkmkfiidlbhcgaaDoor.L7Ends

section
variable {ts : List ByteArray} {la gl : ByteArray} {code : List S36} (h : SP ts la gl code)
include h
omit h in
theorem end_none (m : Int) : ¬ RN (nxt code) (code.length : Int) m := by
  intro e
  obtain ⟨b, hb, _⟩ := e.head
  unfold nxt at hb
  rw [if_neg (by omega)] at hb
  cases hb
variable (x : Int) (hx0 : 0 ≤ x) (hx1 : x < code.length)
include hx0 hx1
theorem ends_l1 (h3 : ¬ (rd_T36 code x).f0 = 3) (h4 : ¬ (rd_T36 code x).f0 = 4) : ∀ (d i : Nat), i + d = code.length + 1 →
    Ev (fun n => lockstitchlaw07_FlowEnds.l1 n x (reachV code x) (reachV code (x + 1)) ((reachV code x).length : Int) (i : Int)) true := by
  have hs := h.small
  have hlx : (reachV code x).length = code.length + 1 := by rw [reachV_in hx0 (by omega), rch_length]
  have hly : (reachV code (x + 1)).length = code.length + 1 := by rw [reachV_in (by omega) (by omega), rch_length]
  have e : nxt code x = [x + 1] := by unfold nxt; rw [if_pos ⟨hx0, hx1⟩, if_neg h3, if_neg h4]
  intro d
  induction d with
  | zero =>
    intro i hi
    exact ev_step (fun n => lockstitchlaw07_FlowEnds.l1.eq_2 ..) (Ev.congr (fun n => if_neg (by omega)) ev_const)
  | succ d ih =>
    intro i hi
    have ih := ih (i + 1) (by omega)
    have ew : wrap64 ((i : Int) + 1) = ((i + 1 : Nat) : Int) := by unfold wrap64; omega
    have ex : wrap64 (x + 1) = x + 1 := by unfold wrap64; omega
    have z0 : (0 : Int) ≤ (i : Int) := Int.natCast_nonneg i
    have ga := reachV_get h hx0 (by omega) (i : Int) z0
    have gb := reachV_get h (a := x + 1) (by omega) (by omega) (i : Int) z0
    have key : RN (nxt code) x i ↔ RN (nxt code) (x + 1) i ∨ (i : Int) = x + 1 := by
      constructor
      · intro hr
        obtain ⟨b, hb, hc⟩ := hr.head
        rw [e, List.mem_singleton] at hb
        subst hb
        rcases hc with hc | hc
        · exact .inr hc
        · exact .inl hc
      · have hb : x + 1 ∈ nxt code x := by rw [e]; simp
        rintro (hr | hr)
        · exact (RN.base hb).trans hr
        · rw [hr]
          exact .base hb
    rw [← ew] at ih
    refine ev_step (fun n => lockstitchlaw07_FlowEnds.l1.eq_2 ..) (Ev.congr (fun n => if_pos (by omega)) (Ev.congr (fun n => if_pos z0) (Ev.congr (fun n => if_pos (by omega)) (Ev.congr (fun n => if_pos (by omega)) ?_))))
    by_cases hb : rdOf false (reachV code (x + 1)) (i : Int) = true
    · have ha := ga.2 (key.2 (.inl (gb.1 hb)))
      exact Ev.congr (fun n => if_pos hb) (Ev.congr (fun n => if_neg (by rw [ha]; decide)) ih)
    · have hbn : ¬ RN (nxt code) (x + 1) i := fun e => hb (gb.2 e)
      have ha : rdOf false (reachV code x) (i : Int) = ((i : Int) == wrap64 (x + 1)) := by
        rw [ex]
        apply Bool.eq_iff_iff.2
        rw [ga, key, beq_iff_eq]
        exact ⟨fun e => e.resolve_left hbn, .inr⟩
      exact Ev.congr (fun n => if_neg hb) (Ev.congr (fun n => if_neg (by rw [ha]; simp)) ih)
theorem ends_j1 (q : Bool) (hq : q = false → ¬ (rd_T36 code x).f0 = 3 ∧ ¬ (rd_T36 code x).f0 = 4) : Ev (fun n => lockstitchlaw07_FlowEnds.j1 n (code.length : Int) x q ts la gl code) true := by
  have hs := h.small
  have hlx : (reachV code x).length = code.length + 1 := by rw [reachV_in hx0 (by omega), rch_length]
  have hly : (reachV code (x + 1)).length = code.length + 1 := by rw [reachV_in (by omega) (by omega), rch_length]
  have ex : wrap64 (x + 1) = x + 1 := by unfold wrap64; omega
  have el : wrap64 ((code.length : Int) + 1) = (code.length : Int) + 1 := by unfold wrap64; omega
  cases q with
  | true => exact ev_step (fun n => lockstitchlaw07_FlowEnds.j1.eq_2 ..) (Ev.congr (fun n => if_pos rfl) ev_const)
  | false =>
    obtain ⟨h3, h4⟩ := hq rfl
    refine ev_step (fun n => lockstitchlaw07_FlowEnds.j1.eq_2 ..) (Ev.congr (fun n => if_neg (by decide)) (ev_bind (reach_ev h x) ?_))
    rw [ex]
    refine ev_bind (reach_ev h (x + 1)) ?_
    rw [el]
    have e2 : (((reachV code (x + 1)).length : Int) != (code.length : Int) + 1) = false := bne_eq_false_iff_eq.2 (by omega)
    refine Ev.congr (fun n => if_pos (by omega)) ?_
    rw [e2]
    exact ev_step (fun n => lockstitchlaw07_FlowEnds.j2.eq_2 ..) (Ev.congr (fun n => if_neg (by decide)) (ends_l1 h x hx0 hx1 h3 h4 (code.length + 1) 0 (Nat.zero_add _)))
theorem ends_l0 : ∀ (d i : Nat), i + d = code.length + 1 →
    Ev (fun n => lockstitchlaw07_FlowEnds.l0 n (code.length : Int) x (reachV code (code.length : Int)) ((reachV code (code.length : Int)).length : Int) (i : Int) ts la gl code) true := by
  have hs := h.small
  have hle : (reachV code (code.length : Int)).length = code.length + 1 := by rw [reachV_in (by omega) (by omega), rch_length]
  intro d
  induction d with
  | zero =>
    intro i hi
    refine ev_step (fun n => lockstitchlaw07_FlowEnds.l0.eq_2 ..) (Ev.congr (fun n => if_neg (by omega)) (Ev.congr (fun n => if_pos hx0) (Ev.congr (fun n => if_pos hx1) ?_)))
    by_cases h3 : (rd_T36 code x).f0 = 3
    · exact Ev.congr (fun n => if_pos h3) (ends_j1 h x hx0 hx1 true (fun e => by cases e))
    · exact Ev.congr (fun n => if_neg h3) (ends_j1 h x hx0 hx1 _ (fun e => ⟨h3, beq_eq_false_iff_ne.1 e⟩))
  | succ d ih =>
    intro i hi
    have ih := ih (i + 1) (by omega)
    have ew : wrap64 ((i : Int) + 1) = ((i + 1 : Nat) : Int) := by unfold wrap64; omega
    have z0 : (0 : Int) ≤ (i : Int) := Int.natCast_nonneg i
    have hb : ¬ rdOf false (reachV code (code.length : Int)) (i : Int) = true := fun e => end_none _ ((reachV_get h (by omega) (by omega) (i : Int) z0).1 e)
    rw [← ew] at ih
    exact ev_step (fun n => lockstitchlaw07_FlowEnds.l0.eq_2 ..) (Ev.congr (fun n => if_pos (by omega)) (Ev.congr (fun n => if_pos z0) (Ev.congr (fun n => if_pos (by omega)) (Ev.congr (fun n => if_neg hb) ih))))
end
section
variable (ts : List ByteArray) (hl : (ts.length : Int) ≤ 9223372036854775807) (hs : ∀ s ∈ ts, (s.size : Int) ≤ 9223372036854775807) (la gl : ByteArray) (hla : Fit la) (hgl : Fit gl) (code : List S36) (hc : (code.length : Int) ≤ 9223372036854775807) (hw : WfC code)
include hl hs hla hgl hc hw
theorem FlowEnds_pure (a : Int) (h0 : 0 ≤ a) (h1 : a ≤ 255) : Ev (fun k => lockstitchlaw07_FlowEnds.f k ts la gl code a) true := by
  obtain ⟨b, hb, hsp⟩ := sound_tot ts hl hs la gl hla hgl code hc hw
  refine ev_bind alive_ev (Ev.congr (fun k => if_pos rfl) (ev_bind hb ?_))
  cases b with
  | false => exact Ev.congr (fun k => if_neg (by decide)) ev_const
  | true =>
    have h := hsp rfl
    have hp := h.pos
    have e2 : wrap64 a = a := by unfold wrap64; omega
    have h3 := Int.tmod_nonneg (code.length : Int) h0
    have h4 := Int.tmod_lt_of_pos a (b := (code.length : Int)) (by omega)
    refine Ev.congr (fun k => if_pos rfl) (Ev.congr (fun k => if_neg (by omega)) (ev_bind (reach_ev h _) ?_))
    rw [e2]
    exact ends_l0 h _ h3 h4 (code.length + 1) 0 (Nat.zero_add _)
end
end Go.Proofs.YtkmkfiidlbhcgaaDoor.FL

/-
  The law FlowLoops, in plain words.
-/
import Derived.Test.YtkmkfiidlbhcgaaDoorGe1
import Derived.Test.YtkmkfiidlbhcgaaDoorLo0
namespace Go.Proofs.YtkmkfiidlbhcgaaDoor.FL
open Go.RowKit Go.Proofs.YtkmkfiidlbhcgaaDoorW.PrintWords Go.Proofs.YtkmkfiidlbhcgaaDoor.Scan Go.Proofs.YtkmkfiidlbhcgaaDoor.F Go.Proofs.YtkmkfiidlbhcgaaDoor.FM Go.Proofs.YtkmkfiidlbhcgaaDoor.H Go.Proofs.YtkmkfiidlbhcgaaDoor.TT Go.Proofs.YtkmkfiidlbhcgaaDoor.NX Go.Proofs.YtkmkfiidlbhcgaaDoor.FP Go.Proofs.YtkmkfiidlbhcgaaDoor.FG Go.Proofs.YtkmkfiidlbhcgaaDoor.G Go.Proofs.YtkmkfiidlbhcgaaDoor.L7Loops

/-- does a place loop? -/
noncomputable def loops (code : List S36) (a : Int) : Bool := decide (a ≥ 0 ∧ a < (reachV code a).length) && rdOf false (reachV code a) a
theorem loops_ev {ts : List ByteArray} {la gl : ByteArray} {code : List S36} (h : SP ts la gl code) (a : Int) : Ev (fun _ => flow_Loops.f ts la gl code a) (loops code a) := by
  refine ev_bind (reach_ev h a) ?_
  unfold loops
  by_cases h0 : a ≥ 0
  · refine Ev.congr (fun k => if_pos h0) ?_
    by_cases h1 : a < ((reachV code a).length : Int)
    · rw [decide_eq_true ⟨h0, h1⟩, Bool.true_and]
      exact Ev.congr (fun k => if_pos h1) (Ev.congr (fun k => if_pos h0) ev_const)
    · rw [decide_eq_false (fun e => h1 e.2), Bool.false_and]
      exact Ev.congr (fun k => if_neg h1) ev_const
  · rw [decide_eq_false (fun e => h0 e.1), Bool.false_and]
    exact Ev.congr (fun k => if_neg h0) ev_const
open Classical in
/-- does one of the first next places come to x, or is it x? -/
noncomputable def wv (code : List S36) (x : Int) (i : Nat) : Bool := decide (∃ j : Nat, j < i ∧ (rd (nxt code x) j = x ∨ RN (nxt code) (rd (nxt code x) j) x))
theorem wv_iff (code : List S36) (x : Int) (i : Nat) : wv code x i = true ↔ ∃ j : Nat, j < i ∧ (rd (nxt code x) j = x ∨ RN (nxt code) (rd (nxt code x) j) x) := by simp [wv]
theorem wv_succ (code : List S36) (x : Int) (i : Nat) : wv code x (i + 1) = true ↔ wv code x i = true ∨ rd (nxt code x) i = x ∨ RN (nxt code) (rd (nxt code x) i) x := by
  rw [wv_iff, wv_iff]
  constructor
  · rintro ⟨j, hj, h⟩
    rcases Nat.lt_succ_iff_lt_or_eq.1 hj with hlt | rfl
    · exact .inl ⟨j, hlt, h⟩
    · exact .inr h
  · rintro (⟨j, hj, h⟩ | h)
    · exact ⟨j, by omega, h⟩
    · exact ⟨i, by omega, h⟩
theorem bool_of {a b : Bool} (h : a = true ↔ b = true) : a = b := Bool.eq_iff_iff.2 h
section
variable {ts : List ByteArray} {la gl : ByteArray} {code : List S36} (h : SP ts la gl code) (x : Int) (hx0 : 0 ≤ x) (hx1 : x ≤ code.length)
include h hx0 hx1
theorem loops_iff : loops code x = true ↔ RN (nxt code) x x := by
  have hl : (reachV code x).length = code.length + 1 := by rw [reachV_in hx0 hx1, rch_length]
  unfold loops
  rw [decide_eq_true ⟨hx0, by omega⟩, Bool.true_and]
  exact reachV_get h hx0 hx1 x hx0
theorem wv_all : wv code x (nxt code x).length = loops code x := by
  apply bool_of
  rw [loops_iff h x hx0 hx1, wv_iff]
  constructor
  · rintro ⟨j, hj, e | e⟩
    · have := rd_mem (l := nxt code x) (i := j) hj
      rw [e] at this
      exact .base this
    · exact (RN.base (rd_mem (l := nxt code x) (i := j) hj)).trans e
  · intro e
    obtain ⟨b, hb, hc⟩ := e.head
    obtain ⟨j, hj, rfl⟩ := List.getElem_of_mem hb
    have hrd : rd (nxt code x) j = (nxt code x)[j] := by
      unfold rd
      rw [Int.toNat_natCast, List.getD_eq_getElem?_getD, List.getElem?_eq_getElem hj]
      rfl
    refine ⟨j, hj, ?_⟩
    rw [hrd]
    rcases hc with hc | hc
    · exact .inl hc.symm
    · exact .inr hc
theorem loops_l0 : ∀ (d i : Nat), i + d = (nxt code x).length → Ev (fun n => lockstitchlaw07_FlowLoops.l0 n x (wv code x i) (nxt code x) ((nxt code x).length : Int) (i : Int) ts la gl code) true := by
  have h2 := nxt_two code x
  intro d
  induction d with
  | zero =>
    intro i hi
    obtain rfl : i = (nxt code x).length := by omega
    refine ev_step (fun n => lockstitchlaw07_FlowLoops.l0.eq_2 ..) (Ev.congr (fun n => if_neg (by omega)) (ev_bind (loops_ev h x) (ev_all fun n => ?_)))
    rw [wv_all h x hx0 hx1, beq_self_eq_true]
  | succ d ih =>
    intro i hi
    have ih := ih (i + 1) (by omega)
    have hm := rd_mem (l := nxt code x) (i := i) (by omega)
    have hr := SP.inR h _ _ hm
    have hrl : (reachV code (rd (nxt code x) i)).length = code.length + 1 := by rw [reachV_in hr.1 (by omega), rch_length]
    have z1 : (i : Int) < ((nxt code x).length : Int) := by omega
    have z0 : (0 : Int) ≤ (i : Int) := Int.natCast_nonneg i
    have z2 : ¬ x ≥ ((reachV code (rd (nxt code x) i)).length : Int) := by omega
    have ew : wrap64 ((i : Int) + 1) = ((i + 1 : Nat) : Int) := by unfold wrap64; omega
    have hs := wv_succ code x i
    rw [← ew] at ih
    refine ev_step (fun n => lockstitchlaw07_FlowLoops.l0.eq_2 ..) (Ev.congr (fun n => if_pos z1) (Ev.congr (fun n => if_pos z0) (Ev.congr (fun n => if_pos z1) (ev_bind (reach_ev h _) (Ev.congr (fun n => if_neg z2) ?_)))))
    cases hwi : wv code x i with
    | true =>
      rw [hs.2 (.inl hwi)] at ih
      exact Ev.congr (fun n => if_pos rfl) ih
    | false =>
      refine Ev.congr (fun n => if_neg (by decide)) ?_
      by_cases he : rd (nxt code x) (i : Int) = x
      · rw [hs.2 (.inr (.inl he))] at ih
        exact Ev.congr (fun n => if_pos he) ih
      · refine Ev.congr (fun n => if_neg he) (Ev.congr (fun n => if_pos hx0) (Ev.congr (fun n => if_pos (by omega)) ?_))
        have e : rdOf false (reachV code (rd (nxt code x) i)) x = wv code x (i + 1) := by
          apply bool_of
          rw [reachV_get h hr.1 (by omega) x hx0, hs, hwi]
          exact ⟨fun e => .inr (.inr e), fun e => (e.resolve_left (by decide)).resolve_left he⟩
        rw [e]
        exact ih
end
section
variable (ts : List ByteArray) (hl : (ts.length : Int) ≤ 9223372036854775807) (hs : ∀ s ∈ ts, (s.size : Int) ≤ 9223372036854775807) (la gl : ByteArray) (hla : Fit la) (hgl : Fit gl) (code : List S36) (hc : (code.length : Int) ≤ 9223372036854775807) (hw : WfC code)
include hl hs hla hgl hc hw
theorem FlowLoops_pure (a : Int) (h0 : 0 ≤ a) (h1 : a ≤ 255) : Ev (fun k => lockstitchlaw07_FlowLoops.f k ts la gl code a) true := by
  obtain ⟨b, hb, hsp⟩ := sound_tot ts hl hs la gl hla hgl code hc hw
  refine ev_bind alive_ev (Ev.congr (fun k => if_pos rfl) (ev_bind hb ?_))
  cases b with
  | false => exact Ev.congr (fun k => if_neg (by decide)) ev_const
  | true =>
    have h := hsp rfl
    obtain ⟨p0, p1, p2, p3⟩ := place code.length h.small a h0 h1
    refine Ev.congr (fun k => if_pos rfl) (Ev.congr (fun k => if_neg p0) ?_)
    rw [p1]
    refine ev_bind (next_ev _ _ _ _ _) ?_
    have e : wv code (Int.tmod (wrap64 a) ((code.length : Int) + 1)) 0 = false := by
      rw [Bool.eq_false_iff, Ne, wv_iff]
      rintro ⟨j, hj, _⟩
      omega
    have L := loops_l0 h _ p2 p3 _ 0 (Nat.zero_add _)
    rw [e] at L
    exact L
end
end Go.Proofs.YtkmkfiidlbhcgaaDoor.FL

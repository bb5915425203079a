/- Texts of this claim, pruned to what it needs and laid together by prune.py. -/
import Derived.Test.YtkmkfiidlbhcgaaDoorMA30
namespace Go.Proofs.YtkmkfiidlbhcgaaDoor.TT
open Go.RowKit Go.Proofs.YtkmkfiidlbhcgaaDoorW.PrintWords Go.Proofs.YtkmkfiidlbhcgaaDoor.Scan Go.Proofs.YtkmkfiidlbhcgaaDoor.F Go.Proofs.YtkmkfiidlbhcgaaDoor.KP Go.Proofs.YtkmkfiidlbhcgaaDoor.FM Go.Proofs.YtkmkfiidlbhcgaaDoor.H
structure PI (ts : List ByteArray) (la gl : ByteArray) (code : List S36) (j : Nat) : Prop where
  jump : (rd_T36 code j).f0 = 3 ∨ (rd_T36 code j).f0 = 4 → 0 ≤ (rd_T36 code j).f4 ∧ (rd_T36 code j).f4 ≤ code.length
  op : 1 ≤ (rd_T36 code j).f0 ∧ (rd_T36 code j).f0 ≤ 15
  ints : Ev (fun k => lockstitchref05_ints.f k (rd_T36 code j).f0 (rd_T36 code j).f1 (rd_T36 code j).f2 (rd_T36 code j).f3 (rd_T36 code j).f4) true
  kinds : Ev (fun k => lockstitchref05_kinds.f k ts la gl code (rd_T36 code j).f0 (rd_T36 code j).f1 (rd_T36 code j).f2 (rd_T36 code j).f3 (rd_T36 code j).f4) true
structure SP (ts : List ByteArray) (la gl : ByteArray) (code : List S36) : Prop where
  pos : 1 ≤ code.length
  small : code.length ≤ 60
  locals : la.size ≤ 8
  globals : gl.size ≤ 4
  all : ∀ j, j < code.length → PI ts la gl code j
def WfC (code : List S36) : Prop := ∀ x ∈ code, WfI x.f0 x.f1 x.f2 x.f3 x.f4
theorem WfC.rd {code : List S36} (h : WfC code) (i : Nat) (hi : i < code.length) : WfI (rd_T36 code i).f0 (rd_T36 code i).f1 (rd_T36 code i).f2 (rd_T36 code i).f3 (rd_T36 code i).f4 := by
  have e : rd_T36 code i = code[i] := by
    unfold rd_T36
    rw [Int.toNat_natCast, List.getD_eq_getElem?_getD, List.getElem?_eq_getElem hi]
    rfl
  rw [e]
  exact h _ (List.getElem_mem hi)
section
variable (ts : List ByteArray) (hl : (ts.length : Int) ≤ 9223372036854775807) (hs : ∀ s ∈ ts, (s.size : Int) ≤ 9223372036854775807) (la gl : ByteArray) (hla : Fit la) (hgl : Fit gl) (code : List S36) (hc : (code.length : Int) ≤ 9223372036854775807) (hw : WfC code)
include hl hs hla hgl hc hw
theorem check_l0 : ∀ (d i : Nat), i + d = code.length → (∀ j, j < i → PI ts la gl code j) →
    ∃ r : Int × Int, Ev (fun k => lockstitchref05_Check.l0 k (i : Int) ts la gl code) r ∧ (r.2 = 0 → ∀ j, j < code.length → PI ts la gl code j) := by
  intro d
  induction d with
  | zero =>
    intro i hi h
    exact ⟨_, ev_step (fun k => lockstitchref05_Check.l0.eq_2 ..) (Ev.congr (fun k => if_neg (by omega)) ev_const), fun _ j hj => h j (by omega)⟩
  | succ d ih =>
    intro i hi h
    have hx := hw.rd i (by omega)
    obtain ⟨b, hb, hop⟩ := right_tot hx
    obtain ⟨q, hq⟩ := ints_tot (rd_T36 code i).f0 (rd_T36 code i).f1 (rd_T36 code i).f2 (rd_T36 code i).f3 (rd_T36 code i).f4
    obtain ⟨z, hz⟩ := kinds_tot ts hl hs la gl hla hgl code hx
    have J4 : ∀ p : Bool, b = true → (p = false → (rd_T36 code i).f0 = 3 ∨ (rd_T36 code i).f0 = 4 → 0 ≤ (rd_T36 code i).f4 ∧ (rd_T36 code i).f4 ≤ code.length) →
        ∃ r : Int × Int, Ev (fun k => lockstitchref05_Check.j4 k (i : Int) p ts la gl code (rd_T36 code i).f0 (rd_T36 code i).f1 (rd_T36 code i).f2 (rd_T36 code i).f3 (rd_T36 code i).f4) r ∧ (r.2 = 0 → ∀ j, j < code.length → PI ts la gl code j) := by
      intro p hbt hp
      cases p with
      | true => exact ⟨_, ev_step (fun k => lockstitchref05_Check.j4.eq_2 ..) (Ev.congr (fun k => if_pos rfl) ev_const), fun e => by simp at e⟩
      | false =>
        cases q with
        | false => exact ⟨_, ev_step (fun k => lockstitchref05_Check.j4.eq_2 ..) (Ev.congr (fun k => if_neg (by decide)) (ev_bind hq (Ev.congr (fun k => if_neg (by decide)) ev_const))), fun e => by simp at e⟩
        | true =>
          cases z with
          | false => exact ⟨_, ev_step (fun k => lockstitchref05_Check.j4.eq_2 ..) (Ev.congr (fun k => if_neg (by decide)) (ev_bind hq (Ev.congr (fun k => if_pos rfl) (ev_bind hz (Ev.congr (fun k => if_neg (by decide)) ev_const))))), fun e => by simp at e⟩
          | true =>
            obtain ⟨r, h1, h2⟩ := ih (i + 1) (by omega) (fun j hj => by
              rcases Nat.lt_succ_iff_lt_or_eq.1 hj with hlt | rfl
              · exact h j hlt
              · exact ⟨hp rfl, hop hbt, hq, hz⟩)
            refine ⟨r, ev_step (fun k => lockstitchref05_Check.j4.eq_2 ..) (Ev.congr (fun k => if_neg (by decide)) (ev_bind hq (Ev.congr (fun k => if_pos rfl) (ev_bind hz (Ev.congr (fun k => if_pos rfl) ?_))))), h2⟩
            rw [w1 (n := code.length) (by omega) hc]
            exact h1
    have J3 : ∀ p : Bool, (p = false → ¬ ((rd_T36 code i).f0 = 3 ∨ (rd_T36 code i).f0 = 4)) →
        ∃ r : Int × Int, Ev (fun k => lockstitchref05_Check.j3 k (i : Int) p ts la gl code (rd_T36 code i).f0 (rd_T36 code i).f1 (rd_T36 code i).f2 (rd_T36 code i).f3 (rd_T36 code i).f4) r ∧ (r.2 = 0 → ∀ j, j < code.length → PI ts la gl code j) := by
      intro p hp
      cases b with
      | false => exact ⟨_, ev_step (fun k => lockstitchref05_Check.j3.eq_2 ..) (ev_bind hb (Ev.congr (fun k => if_neg (by decide)) ev_const)), fun e => by simp at e⟩
      | true =>
        cases p with
        | false =>
          obtain ⟨r, h1, h2⟩ := J4 false rfl (fun _ e => absurd e (hp rfl))
          exact ⟨r, ev_step (fun k => lockstitchref05_Check.j3.eq_2 ..) (ev_bind hb (Ev.congr (fun k => if_pos rfl) (Ev.congr (fun k => if_neg (by decide)) h1))), h2⟩
        | true =>
          by_cases h0 : (rd_T36 code i).f4 < 0
          · obtain ⟨r, h1, h2⟩ := J4 true rfl (fun e => by cases e)
            exact ⟨r, ev_step (fun k => lockstitchref05_Check.j3.eq_2 ..) (ev_bind hb (Ev.congr (fun k => if_pos rfl) (Ev.congr (fun k => if_pos rfl) (Ev.congr (fun k => if_pos h0) h1)))), h2⟩
          · obtain ⟨r, h1, h2⟩ := J4 (decide ((rd_T36 code i).f4 > (code.length : Int))) rfl (fun e _ => by have := of_decide_eq_false e; omega)
            exact ⟨r, ev_step (fun k => lockstitchref05_Check.j3.eq_2 ..) (ev_bind hb (Ev.congr (fun k => if_pos rfl) (Ev.congr (fun k => if_pos rfl) (Ev.congr (fun k => if_neg h0) h1)))), h2⟩
    by_cases h3 : (rd_T36 code i).f0 = 3
    · obtain ⟨r, h1, h2⟩ := J3 true (fun e => by cases e)
      exact ⟨r, ev_step (fun k => lockstitchref05_Check.l0.eq_2 ..) (Ev.congr (fun k => if_pos (by omega)) (Ev.congr (fun k => if_pos (by omega)) (Ev.congr (fun k => if_pos h3) h1))), h2⟩
    · obtain ⟨r, h1, h2⟩ := J3 ((rd_T36 code i).f0 == 4) (fun e h => by have := beq_eq_false_iff_ne.1 e; omega)
      exact ⟨r, ev_step (fun k => lockstitchref05_Check.l0.eq_2 ..) (Ev.congr (fun k => if_pos (by omega)) (Ev.congr (fun k => if_pos (by omega)) (Ev.congr (fun k => if_neg h3) h1))), h2⟩
theorem check_tot : ∃ r : Int × Int, Ev (fun k => lockstitchref05_Check.f k ts la gl code) r ∧ (r.2 = 0 → 1 ≤ code.length ∧ la.size ≤ 8 ∧ gl.size ≤ 4 ∧ ∀ j, j < code.length → PI ts la gl code j) := by
  obtain ⟨r0, hr0, hp0⟩ := check_l0 ts hl hs la gl hla hgl code hc hw code.length 0 (Nat.zero_add _) (fun j hj => by omega)
  have J1 : ∀ q : Bool, (q = false → 1 ≤ code.length) → ∃ r : Int × Int, Ev (fun k => lockstitchref05_Check.j1 k q ts la gl code) r ∧ (r.2 = 0 → 1 ≤ code.length ∧ ∀ j, j < code.length → PI ts la gl code j) := by
    intro q hq
    cases q with
    | true => exact ⟨_, ev_step (fun k => lockstitchref05_Check.j1.eq_2 ..) (Ev.congr (fun k => if_pos rfl) ev_const), fun e => by simp at e⟩
    | false => exact ⟨r0, ev_step (fun k => lockstitchref05_Check.j1.eq_2 ..) (Ev.congr (fun k => if_neg (by decide)) hr0), fun e => ⟨hq rfl, hp0 e⟩⟩
  have J0 : ∀ q : Bool, (q = false → la.size ≤ 8 ∧ gl.size ≤ 4) → ∃ r : Int × Int, Ev (fun k => lockstitchref05_Check.j0 k q ts la gl code) r ∧ (r.2 = 0 → 1 ≤ code.length ∧ la.size ≤ 8 ∧ gl.size ≤ 4 ∧ ∀ j, j < code.length → PI ts la gl code j) := by
    intro q hq
    cases q with
    | true => exact ⟨_, ev_step (fun k => lockstitchref05_Check.j0.eq_2 ..) (Ev.congr (fun k => if_pos rfl) ev_const), fun e => by simp at e⟩
    | false =>
      by_cases h : (code.length : Int) < 1
      · obtain ⟨r, h1, h2⟩ := J1 true (fun e => by cases e)
        exact ⟨r, ev_step (fun k => lockstitchref05_Check.j0.eq_2 ..) (Ev.congr (fun k => if_neg (by decide)) (Ev.congr (fun k => if_pos h) h1)), fun e => ⟨(h2 e).1, (hq rfl).1, (hq rfl).2, (h2 e).2⟩⟩
      · obtain ⟨r, h1, h2⟩ := J1 (decide ((code.length : Int) > 200)) (fun _ => by omega)
        exact ⟨r, ev_step (fun k => lockstitchref05_Check.j0.eq_2 ..) (Ev.congr (fun k => if_neg (by decide)) (Ev.congr (fun k => if_neg h) h1)), fun e => ⟨(h2 e).1, (hq rfl).1, (hq rfl).2, (h2 e).2⟩⟩
  have r1 := ref_Refs_ev ts la hl hs hla
  have r2 := ref_Refs_ev ts gl hl hs hgl
  obtain ⟨rt, ht, hpt⟩ := J0 true (fun e => by cases e)
  cases hb1 : refs ts la with
  | false =>
    rw [hb1] at r1
    exact ⟨rt, ev_bind r1 (Ev.congr (fun k => if_neg (by decide)) ht), hpt⟩
  | true =>
    rw [hb1] at r1
    cases hb2 : refs ts gl with
    | false =>
      rw [hb2] at r2
      exact ⟨rt, ev_bind r1 (Ev.congr (fun k => if_pos rfl) (ev_bind r2 (Ev.congr (fun k => if_neg (by decide)) ht))), hpt⟩
    | true =>
      rw [hb2] at r2
      by_cases h8 : (la.size : Int) > 8
      · exact ⟨rt, ev_bind r1 (Ev.congr (fun k => if_pos rfl) (ev_bind r2 (Ev.congr (fun k => if_pos rfl) (Ev.congr (fun k => if_pos h8) ht)))), hpt⟩
      · obtain ⟨r, h1, h2⟩ := J0 (decide ((gl.size : Int) > 4)) (fun e => by have := of_decide_eq_false e; omega)
        exact ⟨r, ev_bind r1 (Ev.congr (fun k => if_pos rfl) (ev_bind r2 (Ev.congr (fun k => if_pos rfl) (Ev.congr (fun k => if_neg h8) h1)))), h2⟩
omit hs hla hgl hc hw in
theorem few_l0 : ∀ (d i : Nat) (a : Int), i + d = ts.length → Tot (fun k => lockstitchlaw04_Few.l0 k a ts (ts.length : Int) (i : Int) ts la gl code) := by
  intro d
  induction d with
  | zero =>
    intro i a hi
    exact tot_step (fun k => lockstitchlaw04_Few.l0.eq_2 ..) (tot_neg (by omega) (tot_ite (fun _ => tot_const) fun _ => tot_const))
  | succ d ih =>
    intro i a hi
    refine tot_step (fun k => lockstitchlaw04_Few.l0.eq_2 ..) (tot_pos (by omega) (tot_pos (by omega) (tot_pos (by omega) ?_)))
    rw [show wrap64 ((i : Int) + 1) = ((i + 1 : Nat) : Int) from w1 (n := ts.length) (by omega) hl]
    exact ih (i + 1) _ (by omega)
theorem sound_tot : ∃ b, Ev (fun k => lockstitchlaw07_Sound.f k ts la gl code) b ∧ (b = true → SP ts la gl code) := by
  obtain ⟨q, hq⟩ : Tot (fun k => lockstitchlaw04_Few.f k ts la gl code) := few_l0 ts hl la gl code ts.length 0 _ (Nat.zero_add _)
  cases q with
  | false => exact ⟨false, ev_bind hq (Ev.congr (fun k => if_neg (by decide)) ev_const), fun e => by cases e⟩
  | true =>
    by_cases h : (code.length : Int) > 60
    · exact ⟨false, ev_bind hq (Ev.congr (fun k => if_pos rfl) (Ev.congr (fun k => if_pos h) ev_const)), fun e => by cases e⟩
    · obtain ⟨r, h1, h2⟩ := check_tot ts hl hs la gl hla hgl code hc hw
      exact ⟨_, ev_bind hq (Ev.congr (fun k => if_pos rfl) (Ev.congr (fun k => if_neg h) (ev_bind h1 ev_const))), fun e => by
        obtain ⟨a, b, c, d⟩ := h2 (beq_iff_eq.1 e)
        exact ⟨a, by omega, b, c, d⟩⟩
end
end Go.Proofs.YtkmkfiidlbhcgaaDoor.TT

/- Texts of this claim, pruned to what it needs and laid together by prune.py. -/
import Derived.Test.YtkmkfiidlbhcgaaDoorME28
import Derived.Test.YtkmkfiidlbhcgaaDoorME29
import Derived.Lib.ItoaLen
import Derived.Test.YtkmkfiidlbhcgaaDoorME25
import Derived.Laws.BitsLemmas
import Derived.Test.YtkmkfiidlbhcgaaDoorME26
namespace Go.Proofs.YtkmkfiidlbhcgaaDoor.TT
open Go.RowKit Go.Proofs.YtkmkfiidlbhcgaaDoorW.PrintWords Go.Proofs.YtkmkfiidlbhcgaaDoor.Scan Go.Proofs.YtkmkfiidlbhcgaaDoor.F Go.Proofs.YtkmkfiidlbhcgaaDoor.KP Go.Proofs.YtkmkfiidlbhcgaaDoor.FM Go.Proofs.YtkmkfiidlbhcgaaDoor.H
set_option linter.unusedVariables false
def Tot {α : Type} (g : Nat → Option α) : Prop := ∃ r, Ev g r
theorem tot_ev {α : Type} {g : Nat → Option α} {r : α} (h : Ev g r) : Tot g := ⟨r, h⟩
theorem tot_const {α : Type} {r : α} : Tot (fun _ => some r) := ⟨r, ev_const⟩
theorem tot_step {α : Type} {g f : Nat → Option α} (h : ∀ k, g (k + 1) = f k) (k : Tot f) : Tot g := k.elim fun r hr => ⟨r, ev_step h hr⟩
theorem tot_bind {α β : Type} {g : Nat → Option α} {f : Nat → α → Option β} (h : Tot g) (k : ∀ a, Tot (fun n => f n a)) : Tot (fun n => (g n).bind (f n)) := by
  obtain ⟨a, ha⟩ := h
  obtain ⟨r, hr⟩ := k a
  exact ⟨r, ev_bind ha hr⟩
theorem tot_bind1 {α β : Type} {g : Nat → Option α} {f : Nat → α → Option β} {a : α} (h : Ev g a) (k : Tot (fun n => f n a)) : Tot (fun n => (g n).bind (f n)) := by
  obtain ⟨r, hr⟩ := k
  exact ⟨r, ev_bind h hr⟩
theorem tot_ite {α : Type} {c : Prop} [Decidable c] {f g : Nat → Option α} (hf : c → Tot f) (hg : ¬ c → Tot g) : Tot (fun k => if c then f k else g k) := by
  by_cases h : c
  · obtain ⟨r, hr⟩ := hf h
    exact ⟨r, Ev.congr (fun k => if_pos h) hr⟩
  · obtain ⟨r, hr⟩ := hg h
    exact ⟨r, Ev.congr (fun k => if_neg h) hr⟩
theorem tot_pos {α : Type} {c : Prop} [Decidable c] {f g : Nat → Option α} (h : c) (hf : Tot f) : Tot (fun k => if c then f k else g k) := tot_ite (fun _ => hf) (fun h' => absurd h h')
theorem tot_neg {α : Type} {c : Prop} [Decidable c] {f g : Nat → Option α} (h : ¬ c) (hg : Tot g) : Tot (fun k => if c then f k else g k) := tot_ite (fun h' => absurd h' h) (fun _ => hg)
abbrev Fit (s : ByteArray) : Prop := (s.size : Int) ≤ 9223372036854775807
theorem w1 {i n : Nat} (h : i < n) (hn : (n : Int) ≤ 9223372036854775807) : wrap64 ((i : Int) + 1) = ((i + 1 : Nat) : Int) := by unfold wrap64; omega
theorem extract_fit {s : ByteArray} (h : Fit s) (a b : Nat) : Fit (s.extract a b) := by
  unfold Fit
  rw [ByteArray.size_extract]
  omega
theorem digits_l0 (s : ByteArray) (hz : Fit s) : ∀ (d i : Nat), i + d = s.size → Tot (fun k => lockstitchref02_digits.l0 k s (i : Int)) := by
  intro d
  induction d with
  | zero =>
    intro i hi
    exact tot_step (fun k => lockstitchref02_digits.l0.eq_2 ..) (tot_neg (by omega) tot_const)
  | succ d ih =>
    intro i hi
    have ih := ih (i + 1) (by omega)
    refine tot_step (fun k => lockstitchref02_digits.l0.eq_2 ..) (tot_pos (by omega) (tot_pos (by omega) (tot_ite (fun _ => tot_const) fun _ => tot_ite (fun _ => tot_const) fun _ => ?_)))
    rw [w1 (n := s.size) (by omega) hz]
    exact ih
theorem digits_j2 (s : ByteArray) (hz : Fit s) (q : Bool) : Tot (fun k => lockstitchref02_digits.j2 k s q) :=
  tot_step (fun k => lockstitchref02_digits.j2.eq_2 ..) (tot_ite (fun _ => tot_const) fun _ => digits_l0 s hz s.size 0 (Nat.zero_add _))
theorem digits_j1 (s0 s : ByteArray) (hz : Fit s) : Tot (fun k => lockstitchref02_digits.j1 k s0 s) := by
  refine tot_step (fun k => lockstitchref02_digits.j1.eq_2 ..) (tot_ite (fun _ => digits_j2 s hz _) fun h => tot_pos ?_ (tot_ite (fun _ => tot_ite (fun _ => digits_j2 s hz _) fun _ => digits_j2 s hz _) fun _ => digits_j2 s hz _))
  have : s.size ≠ 0 := fun e => h ((toList_nil s).2 e)
  omega
theorem digits_j0 (s0 s : ByteArray) (h0 : Fit s0) (hz : Fit s) (q : Bool) (hq : q = true → 1 ≤ s0.size) : Tot (fun k => lockstitchref02_digits.j0 k s0 s q) :=
  tot_step (fun k => lockstitchref02_digits.j0.eq_2 ..) (tot_ite (fun h => tot_pos (by have := hq h; omega) (digits_j1 s0 _ (extract_fit h0 _ _))) fun _ => digits_j1 s0 s hz)
theorem digits_tot (s : ByteArray) (hz : Fit s) : Tot (fun k => lockstitchref02_digits.f k s) :=
  tot_ite (fun h => tot_pos (by omega) (digits_j0 s s hz hz _ fun _ => by omega)) fun _ => digits_j0 s s hz hz _ fun h => by cases h
theorem digits_nil (s : ByteArray) (h : s.size = 0) : Ev (fun k => lockstitchref02_digits.f k s) false := by
  refine Ev.congr (fun k => if_neg (by omega)) (ev_step (fun k => lockstitchref02_digits.j0.eq_2 ..) (Ev.congr (fun k => if_neg (by decide)) (ev_step (fun k => lockstitchref02_digits.j1.eq_2 ..) (Ev.congr (fun k => if_pos ((toList_nil s).2 h)) (ev_step (fun k => lockstitchref02_digits.j2.eq_2 ..) (Ev.congr (fun k => if_pos rfl) ev_const))))))
theorem number_j3 (a : Bool) (b : Int) (c : Bool) : Tot (fun k => lockstitchref02_Number.j3 k a b c) :=
  tot_step (fun k => lockstitchref02_Number.j3.eq_2 ..) (tot_ite (fun _ => tot_const) fun _ => tot_ite (fun _ => tot_const) fun _ => tot_const)
theorem number_j2 (s : ByteArray) (a : Bool) (b : Int) : Tot (fun k => lockstitchref02_Number.j2 k s a b) :=
  tot_step (fun k => lockstitchref02_Number.j2.eq_2 ..) (tot_ite (fun _ => number_j3 ..) fun _ => tot_ite (fun _ => number_j3 ..) fun _ => tot_ite (fun _ => number_j3 ..) fun _ => number_j3 ..)
theorem number_l0 (s : ByteArray) (hz : Fit s) (a : Bool) : ∀ (d i : Nat) (b : Int), i + d = s.size → Tot (fun k => lockstitchref02_Number.l0 k s a b (i : Int)) := by
  intro d
  induction d with
  | zero =>
    intro i b hi
    exact tot_step (fun k => lockstitchref02_Number.l0.eq_2 ..) (tot_neg (by omega) (number_j2 ..))
  | succ d ih =>
    intro i b hi
    refine tot_step (fun k => lockstitchref02_Number.l0.eq_2 ..) (tot_pos (by omega) (tot_ite (fun _ => tot_pos (by omega) ?_) fun _ => number_j2 ..))
    rw [w1 (n := s.size) (by omega) hz]
    exact ih (i + 1) _ (by omega)
theorem number_j0 (s : ByteArray) (hz : Fit s) (a : Bool) : Tot (fun k => lockstitchref02_Number.j0 k s a) :=
  tot_step (fun k => lockstitchref02_Number.j0.eq_2 ..) (number_l0 s hz a s.size 0 0 (Nat.zero_add _))
theorem number_tot (s : ByteArray) (hz : Fit s) : Tot (fun k => lockstitchref02_Number.f k s) := by
  by_cases h : s.size = 0
  · exact tot_bind1 (digits_nil s h) (tot_neg (by decide) tot_const)
  · exact tot_bind (digits_tot s hz) fun q => tot_ite (fun _ => tot_pos (by omega) (tot_ite (fun _ => tot_pos (by omega) (number_j0 _ (extract_fit hz _ _) _)) fun _ => number_j0 s hz _)) fun _ => tot_const
theorem shape_ok (a : Int) : ∃ n s, lockstitchref04_shape.f a = some (n, s) ∧ s.size ≤ 3 ∧ (n.toList = [] ∨ 1 ≤ a ∧ a ≤ 15) := by
  by_cases h : 1 ≤ a ∧ a ≤ 15
  · obtain rfl | rfl | rfl | rfl | rfl | rfl | rfl | rfl | rfl | rfl | rfl | rfl | rfl | rfl | rfl : a = 1 ∨ a = 2 ∨ a = 3 ∨ a = 4 ∨ a = 5 ∨ a = 6 ∨ a = 7 ∨ a = 8 ∨ a = 9 ∨ a = 10 ∨ a = 11 ∨ a = 12 ∨ a = 13 ∨ a = 14 ∨ a = 15 := by omega
    all_goals exact ⟨_, _, rfl, by decide, .inr (by decide)⟩
  · refine ⟨⟨#[]⟩, ⟨#[]⟩, ?_, by decide, .inl ((toList_nil _).2 rfl)⟩
    unfold lockstitchref04_shape.f lockstitchref04_rest.f
    repeat rw [if_neg (by omega)]
    rfl
theorem with_j0 (a b : Int) (q : Bool) (x0 x1 x2 x3 x4 : Int) : Tot (fun k => lockstitchref04_with.j0 k a b q x0 x1 x2 x3 x4) :=
  tot_step (fun k => lockstitchref04_with.j0.eq_2 ..) (tot_ite (fun _ => tot_const) fun _ => tot_ite (fun _ => tot_const) fun _ => tot_ite (fun _ => tot_const) fun _ => tot_const)
theorem with_tot (x0 x1 x2 x3 x4 a b : Int) : Tot (fun k => lockstitchref04_with.f k x0 x1 x2 x3 x4 a b) :=
  tot_ite (fun _ => tot_const) fun _ => tot_ite (fun _ => with_j0 ..) fun _ => with_j0 ..
theorem read_l1 (l : List ByteArray) (hl : ∀ s ∈ l, Fit s) (s : ByteArray) (h3 : s.size ≤ 3) (hn : l.length = s.size + 1) :
    ∀ (d i : Nat) (x0 x1 x2 x3 x4 : Int), i + d = s.size → Tot (fun k => lockstitchref04_read.l1 k l s (i : Int) x0 x1 x2 x3 x4) := by
  intro d
  induction d with
  | zero =>
    intro i x0 x1 x2 x3 x4 hi
    exact tot_step (fun k => lockstitchref04_read.l1.eq_2 ..) (tot_neg (by omega) tot_const)
  | succ d ih =>
    intro i x0 x1 x2 x3 x4 hi
    refine tot_step (fun k => lockstitchref04_read.l1.eq_2 ..) (tot_pos (by omega) ?_)
    rw [w1 (n := s.size) (by omega) (by omega)]
    refine tot_pos (by omega) (tot_pos (by omega) (tot_bind (number_tot _ (rd_size l hl _)) fun n => tot_pos (by omega) (tot_bind (with_tot ..) fun r => tot_ite (fun _ => tot_ite (fun _ => ?_) fun _ => tot_const) fun _ => tot_const)))
    exact ih (i + 1) _ _ _ _ _ (by omega)
theorem read_l0 (l : List ByteArray) (hl : ∀ s ∈ l, Fit s) (h1 : 0 < l.length) (hm : (l.length : Int) ≤ 9223372036854775807) : ∀ (d i : Nat), i + d = 16 → Tot (fun k => lockstitchref04_read.l0 k l (i : Int)) := by
  intro d
  induction d with
  | zero =>
    intro i hi
    exact tot_step (fun k => lockstitchref04_read.l0.eq_2 ..) (tot_neg (by omega) tot_const)
  | succ d ih =>
    intro i hi
    have ih := ih (i + 1) (by omega)
    obtain ⟨n, s, e, h3, _⟩ := shape_ok i
    have J : ∀ q : Bool, (q = false → l.length = s.size + 1) → Tot (fun k => lockstitchref04_read.j1 k l (i : Int) s q) := by
      intro q hq
      refine tot_step (fun k => lockstitchref04_read.j1.eq_2 ..) (tot_ite (fun _ => ?_) fun h => ?_)
      · rw [show ((i : Int) + 1) % 256 = ((i + 1 : Nat) : Int) by omega]
        exact ih
      · exact read_l1 l hl s h3 (hq (by simpa using h)) s.size 0 _ _ _ _ _ (Nat.zero_add _)
    refine tot_step (fun k => lockstitchref04_read.l0.eq_2 ..) (tot_pos (by omega) (tot_bind1 (ev_all fun _ => e) (tot_pos (by omega) (tot_ite (fun _ => J _ fun h => ?_) fun _ => J _ fun h => by cases h))))
    have h' : (l.length : Int) = wrap64 ((s.size : Int) + 1) := bne_eq_false_iff_eq.1 h
    have : wrap64 ((s.size : Int) + 1) = (s.size : Int) + 1 := by unfold wrap64; omega
    omega
theorem read_tot (l : List ByteArray) (hl : ∀ s ∈ l, Fit s) (h1 : 0 < l.length) (hm : (l.length : Int) ≤ 9223372036854775807) : Tot (fun k => lockstitchref04_read.f k l) := read_l0 l hl h1 hm 15 1 rfl
def WfI (x0 x1 x2 x3 x4 : Int) : Prop := (0 ≤ x0 ∧ x0 ≤ 255) ∧ (0 ≤ x1 ∧ x1 ≤ 255) ∧ (0 ≤ x2 ∧ x2 ≤ 255) ∧ (0 ≤ x3 ∧ x3 ≤ 255) ∧ -9223372036854775808 ≤ x4 ∧ x4 ≤ 9223372036854775807
theorem part_ok {x0 x1 x2 x3 x4 : Int} (h : WfI x0 x1 x2 x3 x4) (c : Int) : ∃ r, lockstitchref04_part.f x0 x1 x2 x3 x4 c = some r ∧ -9223372036854775808 ≤ r ∧ r ≤ 9223372036854775807 := by
  obtain ⟨_, h1, h2, h3, h4⟩ := h
  unfold lockstitchref04_part.f
  repeat' split
  · exact ⟨_, rfl, by unfold wrap64; omega, by unfold wrap64; omega⟩
  · exact ⟨_, rfl, by unfold wrap64; omega, by unfold wrap64; omega⟩
  · exact ⟨_, rfl, by unfold wrap64; omega, by unfold wrap64; omega⟩
  · exact ⟨_, rfl, h4.1, h4.2⟩
theorem num_fit (n : Int) (h0 : -9223372036854775808 ≤ n) (h1 : n ≤ 9223372036854775807) : Fit (num n) := by
  have := Lib.itoa_length_le n h0 h1
  have e : (num n).size = (Lib.itoa n).length := by simp [num, ByteArray.size]
  unfold Fit
  omega
section
variable {x0 x1 x2 x3 x4 : Int} (hw : WfI x0 x1 x2 x3 x4)
include hw
theorem line_l0 (s : ByteArray) (h3 : s.size ≤ 3) : ∀ (d i : Nat) (acc : List ByteArray), i + d = s.size → acc.length = i + 1 → (∀ x ∈ acc, Fit x) →
    ∃ l, Ev (fun k => lockstitchref04_line.l0 k s acc (i : Int) x0 x1 x2 x3 x4) l ∧ l.length = s.size + 1 ∧ ∀ x ∈ l, Fit x := by
  intro d
  induction d with
  | zero =>
    intro i acc hi ha hf
    exact ⟨acc, ev_step (fun k => lockstitchref04_line.l0.eq_2 ..) (Ev.congr (fun k => if_neg (by omega)) ev_const), by omega, hf⟩
  | succ d ih =>
    intro i acc hi ha hf
    obtain ⟨n, hn, a, b⟩ := part_ok hw (bt s i)
    obtain ⟨l, h1, h2⟩ := ih (i + 1) (acc ++ [num n]) (by omega) (by simp [ha]) (fun x hx => by
      rcases List.mem_append.1 hx with h | h
      · exact hf x h
      · rw [List.mem_singleton] at h
        subst h
        exact num_fit n a b)
    refine ⟨l, ev_step (fun k => lockstitchref04_line.l0.eq_2 ..) (Ev.congr (fun k => if_pos (by omega)) (Ev.congr (fun k => if_pos (by omega)) (ev_bind (ev_all fun _ => hn) (ev_bind (ev_all fun _ => if_pos ⟨rfl, a, b⟩) (Ev.congr (fun k => if_pos (by omega)) ?_))))), h2⟩
    rw [w1 (n := s.size) (by omega) (by omega)]
    exact h1
theorem line_tot : ∃ l, Ev (fun k => lockstitchref04_line.f k x0 x1 x2 x3 x4) l ∧ 1 ≤ l.length ∧ l.length ≤ 4 ∧ ∀ x ∈ l, Fit x := by
  obtain ⟨n, s, e, h3, hn⟩ := shape_ok x0
  have hnf : Fit n := by
    rcases hn with h | h
    · have := (toList_nil n).1 h
      unfold Fit
      omega
    · obtain ⟨h1, h2⟩ := h
      obtain rfl | rfl | rfl | rfl | rfl | rfl | rfl | rfl | rfl | rfl | rfl | rfl | rfl | rfl | rfl : x0 = 1 ∨ x0 = 2 ∨ x0 = 3 ∨ x0 = 4 ∨ x0 = 5 ∨ x0 = 6 ∨ x0 = 7 ∨ x0 = 8 ∨ x0 = 9 ∨ x0 = 10 ∨ x0 = 11 ∨ x0 = 12 ∨ x0 = 13 ∨ x0 = 14 ∨ x0 = 15 := by omega
      all_goals
        have e1 := congrArg Prod.fst (Option.some.inj e)
        simp only at e1
        rw [← e1]
        decide
  obtain ⟨l, h1, h2, h4⟩ := line_l0 hw s h3 s.size 0 [n] (Nat.zero_add _) rfl (fun x hx => by rw [List.mem_singleton] at hx; subst hx; exact hnf)
  exact ⟨l, ev_bind (ev_all fun _ => e) h1, by omega, by omega, h4⟩
theorem right_tot : ∃ b, Ev (fun k => lockstitchref04_Right.f k x0 x1 x2 x3 x4) b ∧ (b = true → 1 ≤ x0 ∧ x0 ≤ 15) := by
  obtain ⟨n, s, e, h3, hn⟩ := shape_ok x0
  by_cases h : n.toList = []
  · exact ⟨false, ev_bind (ev_all fun _ => e) (Ev.congr (fun k => if_pos h) ev_const), fun h => by cases h⟩
  · obtain ⟨l, h1, h2, h4, hf⟩ := line_tot hw
    obtain ⟨r, hr⟩ := read_tot l hf (by omega) (by omega)
    have hop := hn.resolve_left h
    by_cases hb : r.2.2.2.2.2 = true
    · exact ⟨_, ev_bind (ev_all fun _ => e) (Ev.congr (fun k => if_neg h) (ev_bind h1 (ev_bind hr (Ev.congr (fun k => if_pos hb) ev_const)))), fun _ => hop⟩
    · exact ⟨_, ev_bind (ev_all fun _ => e) (Ev.congr (fun k => if_neg h) (ev_bind h1 (ev_bind hr (Ev.congr (fun k => if_neg hb) ev_const)))), fun _ => hop⟩
omit hw in
theorem ints_tot (x0 x1 x2 x3 x4 : Int) : Tot (fun k => lockstitchref05_ints.f k x0 x1 x2 x3 x4) := by
  have J : ∀ (q : Bool) (a y0 y1 y2 y3 y4 : Int), Tot (fun k => lockstitchref05_ints.j0 k a q y0 y1 y2 y3 y4) := fun q a y0 y1 y2 y3 y4 =>
    tot_step (fun k => lockstitchref05_ints.j0.eq_2 ..) (tot_ite (fun _ => tot_const) fun _ => tot_ite (fun _ => tot_ite (fun _ => tot_ite (fun _ => tot_const) fun _ => tot_const) fun _ => tot_const) fun _ => tot_ite (fun _ => tot_const) fun _ => tot_const)
  exact tot_ite (fun _ => J ..) fun _ => tot_ite (fun _ => J ..) fun _ => tot_ite (fun _ => J ..) fun _ => tot_ite (fun _ => J ..) fun _ => J ..
end
section
variable (ts : List ByteArray) (hl : (ts.length : Int) ≤ 9223372036854775807) (hs : ∀ s ∈ ts, (s.size : Int) ≤ 9223372036854775807) (la gl : ByteArray) (hla : Fit la) (hgl : Fit gl) (code : List S36)
include hl hs
theorem at_ok (s : ByteArray) (hz : Fit s) (a : Int) (h0 : 0 ≤ a) (h255 : a ≤ 255) : ∃ r, Ev (fun k => lockstitchref05_at.f k ts s a) r ∧ (0 ≤ r → a < s.size) := by
  have e : wrap64 a = a := by unfold wrap64; omega
  have e1 : wrap64 (a + 1) = a + 1 := by unfold wrap64; omega
  unfold lockstitchref05_at.f
  simp only [e, e1]
  by_cases h : a ≥ (s.size : Int)
  · exact ⟨-1, Ev.congr (fun k => if_pos h) ev_const, by omega⟩
  · have hr := ref_Refs_ev ts (s.extract a.toNat (a + 1).toNat) hl hs (extract_fit hz _ _)
    cases hb : refs ts (s.extract a.toNat (a + 1).toNat) with
    | false =>
      rw [hb] at hr
      exact ⟨-1, Ev.congr (fun k => if_neg h) (Ev.congr (fun k => if_pos h0) (Ev.congr (fun k => if_pos (by omega)) (Ev.congr (fun k => if_pos (by omega)) (ev_bind hr (Ev.congr (fun k => if_neg (by decide)) ev_const))))), by omega⟩
    | true =>
      rw [hb] at hr
      exact ⟨_, Ev.congr (fun k => if_neg h) (Ev.congr (fun k => if_pos h0) (Ev.congr (fun k => if_pos (by omega)) (Ev.congr (fun k => if_pos (by omega)) (ev_bind hr (Ev.congr (fun k => if_pos rfl) (Ev.congr (fun k => if_pos h0) (Ev.congr (fun k => if_pos (by omega)) ev_const))))))), fun _ => by omega⟩
include hla hgl
omit hgl in
theorem local_ok (a : Int) (h0 : 0 ≤ a) (h255 : a ≤ 255) : ∃ r, Ev (fun k => lockstitchref05_Local.f k ts la gl code a) r ∧ (0 ≤ r → a < la.size) := by
  obtain ⟨r, h1, h2⟩ := at_ok ts hl hs la hla a h0 h255
  exact ⟨r, ev_bind h1 ev_const, h2⟩
omit hla in
theorem glob_ok (a : Int) (h0 : 0 ≤ a) (h255 : a ≤ 255) : ∃ r, Ev (fun k => lockstitchref05_Glob.f k ts la gl code a) r ∧ (0 ≤ r → a < gl.size) := by
  obtain ⟨r, h1, h2⟩ := at_ok ts hl hs gl hgl a h0 h255
  exact ⟨r, ev_bind h1 ev_const, h2⟩
omit hla hgl in
theorem number_ok (t n : Int) : Tot (fun k => lockstitchref05_number.f k ts la gl code t n) :=
  tot_ite (fun _ => tot_const) fun _ => tot_bind (tot_ev (ref_Size_ev ts hl hs t)) fun a => tot_ite (fun _ => tot_const) fun _ => tot_bind (tot_ev (ref_To_ev ts hl hs t n)) fun _ => tot_const
omit hla hgl in
theorem to_ok (t n : Int) : Tot (fun k => lockstitchref05_to.f k ts la gl code t n) :=
  tot_ite (fun _ => tot_const) fun _ => tot_ite (fun _ => tot_const) fun _ => tot_bind (tot_ev (ref_To_ev ts hl hs t n)) fun _ => tot_const
omit hl hs hla hgl in
theorem one_ok (a b : Int) : ∀ _k : Nat, ∃ r, lockstitchref05_one.f a b = some r ∧ (r = true → 0 ≤ a ∧ 0 ≤ b) := by
  intro _
  unfold lockstitchref05_one.f
  by_cases h : a ≥ 0
  · rw [if_pos h]
    exact ⟨_, rfl, fun e => by have := beq_iff_eq.1 e; omega⟩
  · rw [if_neg h]
    exact ⟨_, rfl, fun e => by cases e⟩
theorem kinds_tot {x0 x1 x2 x3 x4 : Int} (hw : WfI x0 x1 x2 x3 x4) : Tot (fun k => lockstitchref05_kinds.f k ts la gl code x0 x1 x2 x3 x4) := by
  obtain ⟨a, ha, _⟩ := local_ok ts hl hs la gl hla code x1 hw.2.1.1 hw.2.1.2
  obtain ⟨b, hb, _⟩ := local_ok ts hl hs la gl hla code x2 hw.2.2.1.1 hw.2.2.1.2
  obtain ⟨c, hc, _⟩ := local_ok ts hl hs la gl hla code x3 hw.2.2.2.1.1 hw.2.2.2.1.2
  obtain ⟨ga, hga, _⟩ := glob_ok ts hl hs la gl hgl code x1 hw.2.1.1 hw.2.1.2
  obtain ⟨gb, hgb, _⟩ := glob_ok ts hl hs la gl hgl code x2 hw.2.2.1.1 hw.2.2.1.2
  have one : ∀ p q : Int, Tot (fun _ => (lockstitchref05_one.f p q).bind fun t => some t) := fun p q => by
    obtain ⟨r, e, _⟩ := one_ok p q 0
    exact tot_bind1 (ev_all fun _ => e) tot_const
  have J : ∀ q : Bool, Tot (fun k => lockstitchref05_kinds.j0 k a b x0 q ts la gl code x0 x1 x2 x3 x4) := fun q =>
    tot_step (fun k => lockstitchref05_kinds.j0.eq_2 ..) (tot_ite (fun _ => tot_const) fun _ => tot_ite (fun _ => one _ _) fun _ => tot_ite (fun _ => tot_bind1 hc (one _ _)) fun _ =>
      tot_ite (fun _ => tot_ite (fun _ => tot_bind (number_ok ts hl hs la gl code _ _) fun _ => tot_const) fun _ => tot_const) fun _ => tot_ite (fun _ => tot_ite (fun _ => tot_bind (number_ok ts hl hs la gl code _ _) fun _ => tot_const) fun _ => tot_const) fun _ =>
      tot_ite (fun _ => tot_ite (fun _ => tot_bind (to_ok ts hl hs la gl code _ _) fun _ => one _ _) fun _ => tot_const) fun _ => tot_ite (fun _ => tot_ite (fun _ => tot_bind (to_ok ts hl hs la gl code _ _) fun _ => one _ _) fun _ => tot_const) fun _ =>
      tot_ite (fun _ => tot_bind1 hgb (one _ _)) fun _ => tot_ite (fun _ => tot_bind1 hga (one _ _)) fun _ => tot_const)
  exact tot_bind1 ha (tot_bind1 hb (tot_ite (fun _ => J _) fun _ => J _))
end
end Go.Proofs.YtkmkfiidlbhcgaaDoor.TT

namespace Go.Proofs.YtkmkfiidlbhcgaaDoor.TT
open Go.RowKit Go.Proofs.YtkmkfiidlbhcgaaDoorW.PrintWords Go.Proofs.YtkmkfiidlbhcgaaDoor.Scan Go.Proofs.YtkmkfiidlbhcgaaDoor.F Go.Proofs.YtkmkfiidlbhcgaaDoor.KP Go.Proofs.YtkmkfiidlbhcgaaDoor.FM Go.Proofs.YtkmkfiidlbhcgaaDoor.H
structure PI (ts : List ByteArray) (la gl : ByteArray) (code : List S36) (j : Nat) : Prop where
  jump : (rd_T36 code j).f0 = 3 ∨ (rd_T36 code j).f0 = 4 → 0 ≤ (rd_T36 code j).f4 ∧ (rd_T36 code j).f4 ≤ code.length
  op : 1 ≤ (rd_T36 code j).f0 ∧ (rd_T36 code j).f0 ≤ 15
  ints : Ev (fun k => lockstitchref05_ints.f k (rd_T36 code j).f0 (rd_T36 code j).f1 (rd_T36 code j).f2 (rd_T36 code j).f3 (rd_T36 code j).f4) true
  kinds : Ev (fun k => lockstitchref05_kinds.f k ts la gl code (rd_T36 code j).f0 (rd_T36 code j).f1 (rd_T36 code j).f2 (rd_T36 code j).f3 (rd_T36 code j).f4) true
structure SP (ts : List ByteArray) (la gl : ByteArray) (code : List S36) : Prop where
  pos : 1 ≤ code.length
  small : code.length ≤ 60
  locals : la.size ≤ 8
  globals : gl.size ≤ 4
  all : ∀ j, j < code.length → PI ts la gl code j
def WfC (code : List S36) : Prop := ∀ x ∈ code, WfI x.f0 x.f1 x.f2 x.f3 x.f4
theorem WfC.rd {code : List S36} (h : WfC code) (i : Nat) (hi : i < code.length) : WfI (rd_T36 code i).f0 (rd_T36 code i).f1 (rd_T36 code i).f2 (rd_T36 code i).f3 (rd_T36 code i).f4 := by
  have e : rd_T36 code i = code[i] := by
    unfold rd_T36
    rw [Int.toNat_natCast, List.getD_eq_getElem?_getD, List.getElem?_eq_getElem hi]
    rfl
  rw [e]
  exact h _ (List.getElem_mem hi)
section
variable (ts : List ByteArray) (hl : (ts.length : Int) ≤ 9223372036854775807) (hs : ∀ s ∈ ts, (s.size : Int) ≤ 9223372036854775807) (la gl : ByteArray) (hla : Fit la) (hgl : Fit gl) (code : List S36) (hc : (code.length : Int) ≤ 9223372036854775807) (hw : WfC code)
include hl hs hla hgl hc hw
theorem check_l0 : ∀ (d i : Nat), i + d = code.length → (∀ j, j < i → PI ts la gl code j) →
    ∃ r : Int × Int, Ev (fun k => lockstitchref05_Check.l0 k (i : Int) ts la gl code) r ∧ (r.2 = 0 → ∀ j, j < code.length → PI ts la gl code j) := by
  intro d
  induction d with
  | zero =>
    intro i hi h
    exact ⟨_, ev_step (fun k => lockstitchref05_Check.l0.eq_2 ..) (Ev.congr (fun k => if_neg (by omega)) ev_const), fun _ j hj => h j (by omega)⟩
  | succ d ih =>
    intro i hi h
    have hx := hw.rd i (by omega)
    obtain ⟨b, hb, hop⟩ := right_tot hx
    obtain ⟨q, hq⟩ := ints_tot (rd_T36 code i).f0 (rd_T36 code i).f1 (rd_T36 code i).f2 (rd_T36 code i).f3 (rd_T36 code i).f4
    obtain ⟨z, hz⟩ := kinds_tot ts hl hs la gl hla hgl code hx
    have J4 : ∀ p : Bool, b = true → (p = false → (rd_T36 code i).f0 = 3 ∨ (rd_T36 code i).f0 = 4 → 0 ≤ (rd_T36 code i).f4 ∧ (rd_T36 code i).f4 ≤ code.length) →
        ∃ r : Int × Int, Ev (fun k => lockstitchref05_Check.j4 k (i : Int) p ts la gl code (rd_T36 code i).f0 (rd_T36 code i).f1 (rd_T36 code i).f2 (rd_T36 code i).f3 (rd_T36 code i).f4) r ∧ (r.2 = 0 → ∀ j, j < code.length → PI ts la gl code j) := by
      intro p hbt hp
      cases p with
      | true => exact ⟨_, ev_step (fun k => lockstitchref05_Check.j4.eq_2 ..) (Ev.congr (fun k => if_pos rfl) ev_const), fun e => by simp at e⟩
      | false =>
        cases q with
        | false => exact ⟨_, ev_step (fun k => lockstitchref05_Check.j4.eq_2 ..) (Ev.congr (fun k => if_neg (by decide)) (ev_bind hq (Ev.congr (fun k => if_neg (by decide)) ev_const))), fun e => by simp at e⟩
        | true =>
          cases z with
          | false => exact ⟨_, ev_step (fun k => lockstitchref05_Check.j4.eq_2 ..) (Ev.congr (fun k => if_neg (by decide)) (ev_bind hq (Ev.congr (fun k => if_pos rfl) (ev_bind hz (Ev.congr (fun k => if_neg (by decide)) ev_const))))), fun e => by simp at e⟩
          | true =>
            obtain ⟨r, h1, h2⟩ := ih (i + 1) (by omega) (fun j hj => by
              rcases Nat.lt_succ_iff_lt_or_eq.1 hj with hlt | rfl
              · exact h j hlt
              · exact ⟨hp rfl, hop hbt, hq, hz⟩)
            refine ⟨r, ev_step (fun k => lockstitchref05_Check.j4.eq_2 ..) (Ev.congr (fun k => if_neg (by decide)) (ev_bind hq (Ev.congr (fun k => if_pos rfl) (ev_bind hz (Ev.congr (fun k => if_pos rfl) ?_))))), h2⟩
            rw [w1 (n := code.length) (by omega) hc]
            exact h1
    have J3 : ∀ p : Bool, (p = false → ¬ ((rd_T36 code i).f0 = 3 ∨ (rd_T36 code i).f0 = 4)) →
        ∃ r : Int × Int, Ev (fun k => lockstitchref05_Check.j3 k (i : Int) p ts la gl code (rd_T36 code i).f0 (rd_T36 code i).f1 (rd_T36 code i).f2 (rd_T36 code i).f3 (rd_T36 code i).f4) r ∧ (r.2 = 0 → ∀ j, j < code.length → PI ts la gl code j) := by
      intro p hp
      cases b with
      | false => exact ⟨_, ev_step (fun k => lockstitchref05_Check.j3.eq_2 ..) (ev_bind hb (Ev.congr (fun k => if_neg (by decide)) ev_const)), fun e => by simp at e⟩
      | true =>
        cases p with
        | false =>
          obtain ⟨r, h1, h2⟩ := J4 false rfl (fun _ e => absurd e (hp rfl))
          exact ⟨r, ev_step (fun k => lockstitchref05_Check.j3.eq_2 ..) (ev_bind hb (Ev.congr (fun k => if_pos rfl) (Ev.congr (fun k => if_neg (by decide)) h1))), h2⟩
        | true =>
          by_cases h0 : (rd_T36 code i).f4 < 0
          · obtain ⟨r, h1, h2⟩ := J4 true rfl (fun e => by cases e)
            exact ⟨r, ev_step (fun k => lockstitchref05_Check.j3.eq_2 ..) (ev_bind hb (Ev.congr (fun k => if_pos rfl) (Ev.congr (fun k => if_pos rfl) (Ev.congr (fun k => if_pos h0) h1)))), h2⟩
          · obtain ⟨r, h1, h2⟩ := J4 (decide ((rd_T36 code i).f4 > (code.length : Int))) rfl (fun e _ => by have := of_decide_eq_false e; omega)
            exact ⟨r, ev_step (fun k => lockstitchref05_Check.j3.eq_2 ..) (ev_bind hb (Ev.congr (fun k => if_pos rfl) (Ev.congr (fun k => if_pos rfl) (Ev.congr (fun k => if_neg h0) h1)))), h2⟩
    by_cases h3 : (rd_T36 code i).f0 = 3
    · obtain ⟨r, h1, h2⟩ := J3 true (fun e => by cases e)
      exact ⟨r, ev_step (fun k => lockstitchref05_Check.l0.eq_2 ..) (Ev.congr (fun k => if_pos (by omega)) (Ev.congr (fun k => if_pos (by omega)) (Ev.congr (fun k => if_pos h3) h1))), h2⟩
    · obtain ⟨r, h1, h2⟩ := J3 ((rd_T36 code i).f0 == 4) (fun e h => by have := beq_eq_false_iff_ne.1 e; omega)
      exact ⟨r, ev_step (fun k => lockstitchref05_Check.l0.eq_2 ..) (Ev.congr (fun k => if_pos (by omega)) (Ev.congr (fun k => if_pos (by omega)) (Ev.congr (fun k => if_neg h3) h1))), h2⟩
theorem check_tot : ∃ r : Int × Int, Ev (fun k => lockstitchref05_Check.f k ts la gl code) r ∧ (r.2 = 0 → 1 ≤ code.length ∧ la.size ≤ 8 ∧ gl.size ≤ 4 ∧ ∀ j, j < code.length → PI ts la gl code j) := by
  obtain ⟨r0, hr0, hp0⟩ := check_l0 ts hl hs la gl hla hgl code hc hw code.length 0 (Nat.zero_add _) (fun j hj => by omega)
  have J1 : ∀ q : Bool, (q = false → 1 ≤ code.length) → ∃ r : Int × Int, Ev (fun k => lockstitchref05_Check.j1 k q ts la gl code) r ∧ (r.2 = 0 → 1 ≤ code.length ∧ ∀ j, j < code.length → PI ts la gl code j) := by
    intro q hq
    cases q with
    | true => exact ⟨_, ev_step (fun k => lockstitchref05_Check.j1.eq_2 ..) (Ev.congr (fun k => if_pos rfl) ev_const), fun e => by simp at e⟩
    | false => exact ⟨r0, ev_step (fun k => lockstitchref05_Check.j1.eq_2 ..) (Ev.congr (fun k => if_neg (by decide)) hr0), fun e => ⟨hq rfl, hp0 e⟩⟩
  have J0 : ∀ q : Bool, (q = false → la.size ≤ 8 ∧ gl.size ≤ 4) → ∃ r : Int × Int, Ev (fun k => lockstitchref05_Check.j0 k q ts la gl code) r ∧ (r.2 = 0 → 1 ≤ code.length ∧ la.size ≤ 8 ∧ gl.size ≤ 4 ∧ ∀ j, j < code.length → PI ts la gl code j) := by
    intro q hq
    cases q with
    | true => exact ⟨_, ev_step (fun k => lockstitchref05_Check.j0.eq_2 ..) (Ev.congr (fun k => if_pos rfl) ev_const), fun e => by simp at e⟩
    | false =>
      by_cases h : (code.length : Int) < 1
      · obtain ⟨r, h1, h2⟩ := J1 true (fun e => by cases e)
        exact ⟨r, ev_step (fun k => lockstitchref05_Check.j0.eq_2 ..) (Ev.congr (fun k => if_neg (by decide)) (Ev.congr (fun k => if_pos h) h1)), fun e => ⟨(h2 e).1, (hq rfl).1, (hq rfl).2, (h2 e).2⟩⟩
      · obtain ⟨r, h1, h2⟩ := J1 (decide ((code.length : Int) > 200)) (fun _ => by omega)
        exact ⟨r, ev_step (fun k => lockstitchref05_Check.j0.eq_2 ..) (Ev.congr (fun k => if_neg (by decide)) (Ev.congr (fun k => if_neg h) h1)), fun e => ⟨(h2 e).1, (hq rfl).1, (hq rfl).2, (h2 e).2⟩⟩
  have r1 := ref_Refs_ev ts la hl hs hla
  have r2 := ref_Refs_ev ts gl hl hs hgl
  obtain ⟨rt, ht, hpt⟩ := J0 true (fun e => by cases e)
  cases hb1 : refs ts la with
  | false =>
    rw [hb1] at r1
    exact ⟨rt, ev_bind r1 (Ev.congr (fun k => if_neg (by decide)) ht), hpt⟩
  | true =>
    rw [hb1] at r1
    cases hb2 : refs ts gl with
    | false =>
      rw [hb2] at r2
      exact ⟨rt, ev_bind r1 (Ev.congr (fun k => if_pos rfl) (ev_bind r2 (Ev.congr (fun k => if_neg (by decide)) ht))), hpt⟩
    | true =>
      rw [hb2] at r2
      by_cases h8 : (la.size : Int) > 8
      · exact ⟨rt, ev_bind r1 (Ev.congr (fun k => if_pos rfl) (ev_bind r2 (Ev.congr (fun k => if_pos rfl) (Ev.congr (fun k => if_pos h8) ht)))), hpt⟩
      · obtain ⟨r, h1, h2⟩ := J0 (decide ((gl.size : Int) > 4)) (fun e => by have := of_decide_eq_false e; omega)
        exact ⟨r, ev_bind r1 (Ev.congr (fun k => if_pos rfl) (ev_bind r2 (Ev.congr (fun k => if_pos rfl) (Ev.congr (fun k => if_neg h8) h1)))), h2⟩
omit hs hla hgl hc hw in
theorem few_l0 : ∀ (d i : Nat) (a : Int), i + d = ts.length → Tot (fun k => lockstitchlaw04_Few.l0 k a ts (ts.length : Int) (i : Int) ts la gl code) := by
  intro d
  induction d with
  | zero =>
    intro i a hi
    exact tot_step (fun k => lockstitchlaw04_Few.l0.eq_2 ..) (tot_neg (by omega) (tot_ite (fun _ => tot_const) fun _ => tot_const))
  | succ d ih =>
    intro i a hi
    refine tot_step (fun k => lockstitchlaw04_Few.l0.eq_2 ..) (tot_pos (by omega) (tot_pos (by omega) (tot_pos (by omega) ?_)))
    rw [show wrap64 ((i : Int) + 1) = ((i + 1 : Nat) : Int) from w1 (n := ts.length) (by omega) hl]
    exact ih (i + 1) _ (by omega)
theorem sound_tot : ∃ b, Ev (fun k => lockstitchlaw07_Sound.f k ts la gl code) b ∧ (b = true → SP ts la gl code) := by
  obtain ⟨q, hq⟩ : Tot (fun k => lockstitchlaw04_Few.f k ts la gl code) := few_l0 ts hl la gl code ts.length 0 _ (Nat.zero_add _)
  cases q with
  | false => exact ⟨false, ev_bind hq (Ev.congr (fun k => if_neg (by decide)) ev_const), fun e => by cases e⟩
  | true =>
    by_cases h : (code.length : Int) > 60
    · exact ⟨false, ev_bind hq (Ev.congr (fun k => if_pos rfl) (Ev.congr (fun k => if_pos h) ev_const)), fun e => by cases e⟩
    · obtain ⟨r, h1, h2⟩ := check_tot ts hl hs la gl hla hgl code hc hw
      exact ⟨_, ev_bind hq (Ev.congr (fun k => if_pos rfl) (Ev.congr (fun k => if_neg h) (ev_bind h1 ev_const))), fun e => by
        obtain ⟨a, b, c, d⟩ := h2 (beq_iff_eq.1 e)
        exact ⟨a, by omega, b, c, d⟩⟩
end
end Go.Proofs.YtkmkfiidlbhcgaaDoor.TT

namespace Go.Proofs.YtkmkfiidlbhcgaaDoor.FL
open Go.RowKit Go.Proofs.YtkmkfiidlbhcgaaDoorW.PrintWords Go.Proofs.YtkmkfiidlbhcgaaDoor.Scan Go.Proofs.YtkmkfiidlbhcgaaDoor.F Go.Proofs.YtkmkfiidlbhcgaaDoor.FM Go.Proofs.YtkmkfiidlbhcgaaDoor.H Go.Proofs.YtkmkfiidlbhcgaaDoor.TT Go.Proofs.YtkmkfiidlbhcgaaDoor.NX Go.Proofs.YtkmkfiidlbhcgaaDoor.FP Go.Proofs.YtkmkfiidlbhcgaaDoor.FG
set_option linter.unusedVariables false
theorem SP.inR {ts : List ByteArray} {la gl : ByteArray} {code : List S36} (h : SP ts la gl code) : InR (nxt code) (code.length + 1) := by
  intro k m hm
  unfold nxt at hm
  split at hm
  · rename_i hk
    obtain ⟨kn, rfl⟩ := Int.eq_ofNat_of_zero_le hk.1
    have hp := (h.all kn (by omega)).jump
    split at hm
    · rename_i h3
      have := hp (.inl h3)
      rw [List.mem_singleton] at hm
      subst hm
      omega
    · split at hm
      · rename_i h4
        have := hp (.inr h4)
        split at hm
        · simp only [List.mem_cons, List.not_mem_nil, or_false] at hm
          omega
        · split at hm
          · simp only [List.mem_cons, List.not_mem_nil, or_false] at hm
            omega
          · rw [List.mem_singleton] at hm
            omega
      · rw [List.mem_singleton] at hm
        omega
  · cases hm
theorem next_ev (ts : List ByteArray) (la gl : ByteArray) (code : List S36) (a : Int) : Ev (fun _ => flow_Next.f ts la gl code a) (nxt code a) := ev_const
def sf (code : List S36) (a : Int) : Bool := decide ((0 ≤ a ∧ a < code.length) ∧ ((rd_T36 code a).f0 = 5 ∨ ((rd_T36 code a).f0 = 3 ∨ (rd_T36 code a).f0 = 4) ∧ (rd_T36 code a).f4 ≤ a))
theorem ref_next_ev (ts : List ByteArray) (la gl : ByteArray) (code : List S36) (hc : (code.length : Int) ≤ 9223372036854775807) (a : Int) : Ev (fun k => lockstitchref07_Next.f k ts la gl code a) (nxt code a) := by
  by_cases h : 0 ≤ a ∧ a < code.length
  · have ew : wrap64 (a + 1) = a + 1 := by unfold wrap64; omega
    refine Ev.congr (fun k => if_neg (by omega)) (ev_step (fun k => lockstitchref07_Next.j0.eq_2 ..) (Ev.congr (fun k => if_neg (by rw [decide_eq_true_iff]; omega)) (Ev.congr (fun k => if_pos h.1) (Ev.congr (fun k => if_pos h.2) ?_))))
    unfold nxt
    rw [if_pos h]
    by_cases h3 : (rd_T36 code a).f0 = 3
    · rw [if_pos h3]
      exact Ev.congr (fun k => if_pos h3) ev_const
    · rw [if_neg h3]
      refine Ev.congr (fun k => if_neg h3) ?_
      by_cases h4 : (rd_T36 code a).f0 = 4
      · rw [if_pos h4]
        refine Ev.congr (fun k => if_pos h4) (ev_step (fun k => lockstitchref07_Next.j1.eq_2 ..) ?_)
        rw [ew]
        by_cases hlt : (rd_T36 code a).f4 < a + 1
        · rw [if_pos hlt]
          exact Ev.congr (fun k => if_pos (decide_eq_true hlt)) ev_const
        · rw [if_neg hlt]
          refine Ev.congr (fun k => if_neg (by rw [decide_eq_true_iff]; exact hlt)) (Ev.congr (fun k => if_pos h4) ?_)
          by_cases hgt : (rd_T36 code a).f4 > a + 1
          · exact ev_all fun k => by rw [if_pos hgt, if_pos hgt]
          · exact ev_all fun k => by rw [if_neg hgt, if_neg hgt]
      · rw [if_neg h4]
        refine Ev.congr (fun k => if_neg h4) (ev_step (fun k => lockstitchref07_Next.j1.eq_2 ..) (Ev.congr (fun k => if_neg (by decide)) (Ev.congr (fun k => if_neg h4) ?_)))
        rw [ew]
        exact ev_const
  · have e : nxt code a = [] := by unfold nxt; rw [if_neg h]
    rw [e]
    by_cases h0 : a < 0
    · exact Ev.congr (fun k => if_pos h0) (ev_step (fun k => lockstitchref07_Next.j0.eq_2 ..) (Ev.congr (fun k => if_pos rfl) ev_const))
    · exact Ev.congr (fun k => if_neg h0) (ev_step (fun k => lockstitchref07_Next.j0.eq_2 ..) (Ev.congr (fun k => if_pos (by rw [decide_eq_true_iff]; omega)) ev_const))
end Go.Proofs.YtkmkfiidlbhcgaaDoor.FL

namespace Go.Proofs.YtkmkfiidlbhcgaaDoor.B8
open Go.Proofs.YtkmkfiidlbhcgaaDoor.FP
abbrev S8 := BitVec 8
def iv (z : S8) : Int := (z.toNat : Int)
def bv (x : Int) : S8 := BitVec.ofInt 8 x
theorem bv_iv (z : S8) : bv (iv z) = z := by
  apply BitVec.eq_of_toNat_eq
  unfold bv iv
  rw [BitVec.ofInt_natCast, BitVec.toNat_ofNat]
  exact Nat.mod_eq_of_lt z.isLt
theorem iv_inj {a b : S8} (h : iv a = iv b) : a = b := by rw [← bv_iv a, h, bv_iv]
theorem wrap_iv (z : S8) : IntKind.u8.wrap (z.toNat : Int) = iv z := wraps_u8 _ (Int.natCast_nonneg _) (by have := z.isLt; omega)
theorem bits_or (a b : S8) : bits .or .u8 (iv a) (iv b) = iv (a ||| b) := by
  have h : bits .or .u8 (iv a) (iv b) = IntKind.u8.wrap ((bv (iv a) ||| bv (iv b) : S8).toNat : Int) := rfl
  rw [h, bv_iv, bv_iv, wrap_iv]
theorem bits_not (a b : S8) : bits .andNot .u8 (iv a) (iv b) = iv (a &&& ~~~ b) := by
  have h : bits .andNot .u8 (iv a) (iv b) = IntKind.u8.wrap ((bv (iv a) &&& ~~~ bv (iv b) : S8).toNat : Int) := rfl
  rw [h, bv_iv, bv_iv, wrap_iv]
def Sub (a b : S8) : Prop := ∀ i, a.getLsbD i = true → b.getLsbD i = true
theorem Sub.refl (a : S8) : Sub a a := fun _ h => h
theorem Sub.trans {a b c : S8} (h : Sub a b) (k : Sub b c) : Sub a c := fun i hi => k i (h i hi)
theorem Sub.anti {a b : S8} (h : Sub a b) (k : Sub b a) : a = b :=
  BitVec.eq_of_getLsbD_eq fun i _ => by rw [Bool.eq_iff_iff]; exact ⟨h i, k i⟩
theorem Sub.zero (a : S8) : Sub 0 a := fun i h => by simp at h
theorem Sub.all (a : S8) : Sub a 255 := fun i h => by
  have hi : i < 8 := BitVec.lt_of_getLsbD h
  have : ∀ j, j < 8 → (255#8).getLsbD j = true := by decide
  exact this i hi
theorem sub_and_r {a b c : S8} : Sub a (b &&& c) ↔ Sub a b ∧ Sub a c := by
  constructor
  · intro h
    exact ⟨fun i hi => by have := h i hi; rw [BitVec.getLsbD_and, Bool.and_eq_true] at this; exact this.1, fun i hi => by have := h i hi; rw [BitVec.getLsbD_and, Bool.and_eq_true] at this; exact this.2⟩
  · rintro ⟨h, k⟩ i hi
    rw [BitVec.getLsbD_and, Bool.and_eq_true]
    exact ⟨h i hi, k i hi⟩
theorem not_bit (a b : S8) (i : Nat) : (a &&& ~~~ b).getLsbD i = true ↔ a.getLsbD i = true ∧ b.getLsbD i = false := by
  rw [BitVec.getLsbD_and, Bool.and_eq_true, BitVec.getLsbD_not, Bool.and_eq_true]
  constructor
  · rintro ⟨h, _, k⟩
    exact ⟨h, by simpa using k⟩
  · rintro ⟨h, k⟩
    exact ⟨h, by simpa using BitVec.lt_of_getLsbD h, by simpa using k⟩
theorem not_zero {a b : S8} : a &&& ~~~ b = 0 ↔ Sub a b := by
  constructor
  · intro h i hi
    cases hb : b.getLsbD i with
    | true => rfl
    | false =>
      have := (not_bit a b i).2 ⟨hi, hb⟩
      rw [h] at this
      simp at this
  · intro h
    refine Sub.anti (fun i hi => ?_) (Sub.zero _)
    obtain ⟨h1, h2⟩ := (not_bit a b i).1 hi
    rw [h i h1] at h2
    cases h2
def pc (z : S8) : Nat := cnt ((List.range 8).map z.getLsbD)
theorem pc_le {a b : S8} (h : Sub a b) : pc a ≤ pc b ∧ (a ≠ b → pc a < pc b) := by
  have hg : ∀ (z : S8) i, ((List.range 8).map z.getLsbD).getD i false = z.getLsbD i := by
    intro z i
    rw [List.getD_eq_getElem?_getD, List.getElem?_map]
    by_cases hi : i < 8
    · rw [List.getElem?_range hi]
      rfl
    · rw [List.getElem?_eq_none (by simpa using hi)]
      exact (BitVec.getLsbD_of_ge z i (by omega)).symm
  have hle : LE ((List.range 8).map a.getLsbD) ((List.range 8).map b.getLsbD) := ⟨by simp, fun i hi => by rw [hg] at hi ⊢; exact h i hi⟩
  refine ⟨(cnt_le hle).1, fun hne => (cnt_le hle).2 fun e => hne ?_⟩
  exact BitVec.eq_of_getLsbD_eq fun i _ => by rw [← hg a, ← hg b, e]
theorem pc_8 (z : S8) : pc z ≤ 8 := by
  have := cnt_len ((List.range 8).map z.getLsbD)
  simpa [pc] using this
theorem pc_0 : pc 0 = 0 := by decide
abbrev g (l : List S8) (i : Nat) : S8 := l.getD i 0
def LS (a b : List S8) : Prop := a.length = b.length ∧ ∀ i, Sub (g a i) (g b i)
theorem LS.refl (a : List S8) : LS a a := ⟨rfl, fun _ => Sub.refl _⟩
theorem LS.trans {a b c : List S8} (h : LS a b) (k : LS b c) : LS a c := ⟨h.1.trans k.1, fun i => (h.2 i).trans (k.2 i)⟩
theorem g_ext {a b : List S8} (hl : a.length = b.length) (h : ∀ i, g a i = g b i) : a = b := by
  apply List.ext_getElem hl
  intro i h1 h2
  have := h i
  unfold g at this
  rw [List.getD_eq_getElem?_getD, List.getElem?_eq_getElem h1, List.getD_eq_getElem?_getD, List.getElem?_eq_getElem h2] at this
  exact this
theorem LS.anti {a b : List S8} (h : LS a b) (k : LS b a) : a = b := g_ext h.1 fun i => (h.2 i).anti (k.2 i)
theorem g_set (a : List S8) (n i : Nat) (v : S8) : g (a.set n v) i = if i = n ∧ n < a.length then v else g a i := by
  unfold g
  rw [List.getD_eq_getElem?_getD, List.getElem?_set]
  by_cases h : n = i
  · subst h
    by_cases hl : n < a.length
    · rw [if_pos rfl, if_pos hl, if_pos ⟨rfl, hl⟩]
      rfl
    · rw [if_pos rfl, if_neg hl, if_neg (fun e => hl e.2), List.getD_eq_getElem?_getD, List.getElem?_eq_none (by omega)]
  · rw [if_neg h, if_neg (fun e => h e.1.symm), List.getD_eq_getElem?_getD]
theorem g_rep (M i : Nat) : g (List.replicate M 0) i = 0 := by
  unfold g
  rw [List.getD_eq_getElem?_getD, List.getElem?_replicate]
  split <;> rfl
theorem g_out {a : List S8} {i : Nat} (h : a.length ≤ i) : g a i = 0 := by
  unfold g
  rw [List.getD_eq_getElem?_getD, List.getElem?_eq_none h]
  rfl
def tot (l : List S8) : Nat := (l.map pc).sum
theorem tot_cons (x : S8) (l : List S8) : tot (x :: l) = pc x + tot l := by simp [tot]
theorem tot_le : ∀ {a b : List S8}, LS a b → tot a ≤ tot b ∧ (a ≠ b → tot a < tot b) := by
  intro a
  induction a with
  | nil =>
    intro b h
    have : b = [] := List.length_eq_zero_iff.1 h.1.symm
    subst this
    exact ⟨Nat.le_refl _, fun h => absurd rfl h⟩
  | cons x a ih =>
    intro b h
    cases b with
    | nil => cases h.1
    | cons y b =>
      have ht : LS a b := ⟨by have := h.1; simpa using this, fun i => h.2 (i + 1)⟩
      have h0 : Sub x y := h.2 0
      obtain ⟨i1, i2⟩ := ih ht
      obtain ⟨p1, p2⟩ := pc_le h0
      rw [tot_cons, tot_cons]
      refine ⟨by omega, fun hne => ?_⟩
      by_cases hxy : x = y
      · subst hxy
        have := i2 fun e => hne (by rw [e])
        omega
      · have := p2 hxy
        omega
theorem tot_8 : ∀ l : List S8, tot l ≤ 8 * l.length
  | [] => Nat.le_refl _
  | x :: l => by
    have := tot_8 l
    have := pc_8 x
    rw [tot_cons, List.length_cons]
    omega
theorem tot_last : ∀ (l : List S8) (N : Nat), l.length = N + 1 → g l N = 0 → tot l ≤ 8 * N
  | [], N, h, _ => by cases h
  | [x], N, h, h0 => by
    obtain rfl : N = 0 := by simpa using h.symm
    have : x = 0 := h0
    subst this
    rw [tot_cons, pc_0]
    exact Nat.le_refl _
  | x :: y :: l, N, h, h0 => by
    obtain ⟨n, rfl⟩ : ∃ n, N = n + 1 := ⟨l.length, by simpa using h.symm⟩
    have := tot_last (y :: l) n (by simpa using h) h0
    have := pc_8 x
    rw [tot_cons]
    omega
section
variable (nx : Int → List Int) (N : Nat) (st us : Nat → S8)
def lor (out : List S8) (k : Nat) : S8 := (nx k).foldl (fun n t => n ||| g out t.toNat) 0
theorem fold_or_bit (out : List S8) (i : Nat) : ∀ (l : List Int) (n : S8), (l.foldl (fun n t => n ||| g out t.toNat) n).getLsbD i = true ↔ n.getLsbD i = true ∨ ∃ t ∈ l, (g out t.toNat).getLsbD i = true
  | [], n => by simp
  | t :: l, n => by
    rw [List.foldl_cons, fold_or_bit out i l, BitVec.getLsbD_or, Bool.or_eq_true]
    simp only [List.mem_cons, exists_eq_or_imp]
    exact or_assoc
theorem lor_bit (out : List S8) (k i : Nat) : (lor nx out k).getLsbD i = true ↔ ∃ t ∈ nx k, (g out t.toNat).getLsbD i = true := by
  unfold lor
  rw [fold_or_bit]
  simp
def lst (out : List S8) (k : Nat) : S8 := lor nx out k &&& ~~~ st k ||| us k
theorem lst_bit (out : List S8) (k i : Nat) : (lst nx st us out k).getLsbD i = true ↔ ((∃ t ∈ nx k, (g out t.toNat).getLsbD i = true) ∧ (st k).getLsbD i = false) ∨ (us k).getLsbD i = true := by
  unfold lst
  rw [BitVec.getLsbD_or, Bool.or_eq_true, not_bit, lor_bit]
theorem lst_mono {a b : List S8} (h : ∀ i, Sub (g a i) (g b i)) (k : Nat) : Sub (lst nx st us a k) (lst nx st us b k) := by
  intro i hi
  rw [lst_bit] at hi ⊢
  exact hi.imp (fun ⟨⟨t, ht, hb⟩, hs⟩ => ⟨⟨t, ht, h _ i hb⟩, hs⟩) id
def Pre (o : List S8) : Prop := o.length = N + 1 ∧ ∀ k, k < N → Sub (lst nx st us o k) (g o k)
structure LInv (out : List S8) : Prop where
  len : out.length = N + 1
  last : g out N = 0
  up : ∀ k, k < N → Sub (g out k) (lst nx st us out k)
  least : ∀ o, Pre nx N st us o → LS out o
def LFix (out : List S8) : Prop := ∀ k, k < N → g out k = lst nx st us out k
theorem LInv.start : LInv nx N st us (List.replicate (N + 1) 0) :=
  ⟨by simp, g_rep .., fun k _ => by rw [g_rep]; exact Sub.zero _, fun o ho => ⟨by simp [ho.1], fun i => by rw [g_rep]; exact Sub.zero _⟩⟩
variable {nx N st us}
theorem LInv.ls {out : List S8} (h : LInv nx N st us out) {k : Nat} (hk : k < N) : LS out (out.set k (lst nx st us out k)) := by
  refine ⟨by simp, fun i => ?_⟩
  rw [g_set]
  split
  · rename_i e
    rw [e.1]
    exact h.up k hk
  · exact Sub.refl _
theorem LInv.set {out : List S8} (h : LInv nx N st us out) {k : Nat} (hk : k < N) : LInv nx N st us (out.set k (lst nx st us out k)) := by
  have hm : ∀ j, Sub (lst nx st us out j) (lst nx st us (out.set k (lst nx st us out k)) j) := fun j => lst_mono _ _ _ (h.ls hk).2 j
  refine ⟨by rw [List.length_set, h.len], ?_, fun j hj => ?_, fun o ho => ⟨by rw [List.length_set, h.len, ho.1], fun j => ?_⟩⟩
  · rw [g_set, if_neg (by omega)]
    exact h.last
  · rw [g_set]
    split
    · rename_i e
      rw [e.1]
      exact hm k
    · exact (h.up j hj).trans (hm j)
  · rw [g_set]
    split
    · rename_i e
      rw [e.1]
      exact (lst_mono _ _ _ (h.least o ho).2 k).trans (ho.2 k hk)
    · exact (h.least o ho).2 j
theorem LInv.eq {a b : List S8} (h : LInv nx N st us a) (k : LInv nx N st us b) (fa : LFix nx N st us a) (fb : LFix nx N st us b) : a = b :=
  (h.least b ⟨k.len, fun j hj => by rw [fb j hj]; exact Sub.refl _⟩).anti (k.least a ⟨h.len, fun j hj => by rw [fa j hj]; exact Sub.refl _⟩)
variable (nx N st us)
def sw : Nat → List S8 → List S8
  | 0, out => out
  | k + 1, out => sw k (out.set k (lst nx st us out k))
def rnd : Nat → List S8
  | 0 => List.replicate (N + 1) 0
  | r + 1 => sw nx st us N (rnd r)
variable {nx N st us}
theorem sw_inv : ∀ (k : Nat) (out : List S8), k ≤ N → LInv nx N st us out → LInv nx N st us (sw nx st us k out) ∧ LS out (sw nx st us k out)
  | 0, out, _, h => ⟨h, LS.refl _⟩
  | k + 1, out, hk, h => by
    obtain ⟨a, b⟩ := sw_inv k (out.set k (lst nx st us out k)) (by omega) (h.set hk)
    exact ⟨a, (h.ls hk).trans b⟩
theorem sw_same : ∀ (k : Nat) (out : List S8), k ≤ N → LInv nx N st us out → sw nx st us k out = out → ∀ j, j < k → g out j = lst nx st us out j
  | 0, out, _, _, _, j, hj => by omega
  | k + 1, out, hk, h, e, j, hj => by
    obtain ⟨_, b⟩ := sw_inv k (out.set k (lst nx st us out k)) (by omega) (h.set hk)
    have e0 : sw nx st us k (out.set k (lst nx st us out k)) = out := e
    rw [e0] at b
    have e1 : out.set k (lst nx st us out k) = out := b.anti (h.ls hk)
    rcases Nat.lt_succ_iff_lt_or_eq.1 hj with hlt | rfl
    · rw [e1] at e0
      exact sw_same k out (by omega) h e0 j hlt
    · have := g_set out j j (lst nx st us out j)
      rw [e1, if_pos ⟨rfl, by rw [h.len]; omega⟩] at this
      exact this
theorem rnd_inv : ∀ r, LInv nx N st us (rnd nx N st us r)
  | 0 => LInv.start ..
  | r + 1 => (sw_inv N _ (Nat.le_refl _) (rnd_inv r)).1
theorem rnd_fix : sw nx st us N (rnd nx N st us (8 * N)) = rnd nx N st us (8 * N) := by
  refine iter_fix (sw nx st us N) tot (rnd nx N st us) (fun i => rfl) (8 * N) (fun i => tot_last _ N (rnd_inv i).len (rnd_inv i).last) (fun i => ?_) (8 * N) (by omega)
  by_cases h : sw nx st us N (rnd nx N st us i) = rnd nx N st us i
  · exact .inl h
  · exact .inr ((tot_le (sw_inv N _ (Nat.le_refl _) (rnd_inv i)).2).2 fun e => h e.symm)
variable (nx N st us)
def lv : List S8 := rnd nx N st us (8 * N + 1)
theorem lv_inv : LInv nx N st us (lv nx N st us) := rnd_inv _
theorem lv_fix : LFix nx N st us (lv nx N st us) := by
  have e : lv nx N st us = rnd nx N st us (8 * N) := rnd_fix
  intro k hk
  rw [e]
  exact sw_same N _ (Nat.le_refl _) (rnd_inv _) rnd_fix k hk
variable {nx N st us}
theorem lv_of {out : List S8} (h : LInv nx N st us out) (f : LFix nx N st us out) : out = lv nx N st us := h.eq (lv_inv nx N st us) f (fun j hj => lv_fix nx N st us j hj)
end
section
variable (nx : Int → List Int) (N : Nat) (F : Nat → S8 → S8)
def Sol (s : List S8) : Prop := s.length = N + 1 ∧ ∀ k, k ≤ N → ∀ t ∈ nx k, Sub (g s t.toNat) (F k (g s k))
structure GInv (l : List S8) : Prop where
  len : l.length = N + 1
  great : ∀ s, Sol nx N F s → LS s l
variable {nx N F}
theorem GInv.eq {a b : List S8} (h : GInv nx N F a) (k : GInv nx N F b) (fa : Sol nx N F a) (fb : Sol nx N F b) : a = b := (k.great a fa).anti (h.great b fb)
theorem GInv.start : GInv nx N F (List.replicate (N + 1) 255) := by
  refine ⟨by simp, fun s hs => ⟨by simp [hs.1], fun i => ?_⟩⟩
  by_cases hi : i < N + 1
  · have e : g (List.replicate (N + 1) (255 : S8)) i = 255 := by
      unfold g
      rw [List.getD_eq_getElem?_getD, List.getElem?_replicate, if_pos hi]
      rfl
    rw [e]
    exact Sub.all _
  · rw [g_out (by rw [hs.1]; omega)]
    exact Sub.zero _
def cut (l : List S8) (n : S8) (t : Nat) : List S8 := l.set t (g l t &&& n)
theorem cut_get (l : List S8) (n : S8) (t i : Nat) : g (cut l n t) i = if i = t ∧ t < l.length then g l t &&& n else g l i := g_set ..
theorem cut_ls (l : List S8) (n : S8) (t : Nat) : LS (cut l n t) l := by
  refine ⟨by simp [cut], fun i => ?_⟩
  rw [cut_get]
  split
  · rename_i e
    rw [e.1]
    exact (sub_and_r.1 (Sub.refl _)).1
  · exact Sub.refl _
theorem GInv.cut {l : List S8} (h : GInv nx N F l) {n : S8} {k : Nat} (hk : k ≤ N) {t : Int} (ht : t ∈ nx k) (hn : ∀ s, Sol nx N F s → Sub (F k (g s k)) n) : GInv nx N F (cut l n t.toNat) := by
  refine ⟨by rw [← h.len]; exact (cut_ls ..).1, fun s hs => ⟨by rw [hs.1, ← h.len]; exact (cut_ls ..).1.symm, fun i => ?_⟩⟩
  rw [cut_get]
  split
  · rename_i e
    rw [e.1]
    exact sub_and_r.2 ⟨(h.great s hs).2 _, (hs.2 k hk t ht).trans (hn s hs)⟩
  · exact (h.great s hs).2 i
end
end Go.Proofs.YtkmkfiidlbhcgaaDoor.B8

namespace Go.Proofs.YtkmkfiidlbhcgaaDoor.LB
open Go.RowKit Go.Proofs.YtkmkfiidlbhcgaaDoorW.PrintWords Go.Proofs.YtkmkfiidlbhcgaaDoorW.PrintMore Go.Proofs.YtkmkfiidlbhcgaaDoor.Scan Go.Proofs.YtkmkfiidlbhcgaaDoor.F Go.Proofs.YtkmkfiidlbhcgaaDoor.TT Go.Proofs.YtkmkfiidlbhcgaaDoor.NX Go.Proofs.YtkmkfiidlbhcgaaDoor.FP Go.Proofs.YtkmkfiidlbhcgaaDoor.B8 Go.Proofs.YtkmkfiidlbhcgaaDoor.V
set_option linter.unusedVariables false
def own (a : Int) : S8 := BitVec.twoPow 8 a.toNat
theorem own_bit (a : Int) (i : Nat) : (own a).getLsbD i = true ↔ a.toNat = i ∧ i < 8 := by
  unfold own
  rw [BitVec.getLsbD_twoPow, Bool.and_eq_true, decide_eq_true_iff, decide_eq_true_iff]
  omega
theorem iv_own (n : Nat) (h : n < 8) : iv (own (n : Int)) = 2 ^ n := by
  unfold iv own
  rw [BitVec.toNat_twoPow, Int.toNat_natCast, Nat.mod_eq_of_lt (Nat.pow_lt_pow_right (by decide) h)]
  exact Int.natCast_pow 2 n
theorem pow_lt {n : Nat} (h : n < 8) : (2 : Int) ^ n < 256 := by
  have h1 : 2 ^ n < 2 ^ 8 := Nat.pow_lt_pow_right (by decide) h
  have h2 : ((2 ^ n : Nat) : Int) = (2 : Int) ^ n := Int.natCast_pow 2 n
  rw [← h2]
  exact Int.ofNat_lt.2 h1
theorem own_out {a : Int} (h : a > 7) : own a = 0 := by
  refine BitVec.eq_of_getLsbD_eq fun i hi => ?_
  rw [Bool.eq_iff_iff, own_bit]
  simp
  omega
theorem shl_own {a : Int} (h : 0 ≤ a) : shl .u8 1 a = iv (own a) := by
  obtain ⟨n, rfl⟩ := Int.eq_ofNat_of_zero_le h
  unfold shl
  rw [IntKind.wrap_u8, Int.toNat_natCast]
  by_cases hn : n < 8
  · rw [iv_own n hn, show min n IntKind.u8.bits = n from Nat.min_eq_left (Nat.le_of_lt hn), Int.one_mul]
    have := pow_lt hn
    have : (0 : Int) ≤ 2 ^ n := Int.pow_nonneg (by decide)
    omega
  · rw [own_out (by omega), show min n IntKind.u8.bits = 8 from Nat.min_eq_right (by show 8 ≤ n; omega)]
    rfl
theorem zero_or (a : S8) : bits .or .u8 0 (iv a) = iv a := by
  rw [show (0 : Int) = iv 0 from rfl, bits_or]
  exact congrArg iv BitVec.zero_or
theorem ww1 : wrap64 (0 + 1) = 1 := by unfold wrap64; omega
theorem ww2 : wrap64 (1 + 1) = 2 := by unfold wrap64; omega
theorem bits1 {a : Int} (h : 0 ≤ a) : Ev (fun k => live_bits.f k [a]) (iv (own a)) := by
  have hl : (([a] : List Int).length : Int) = 1 := rfl
  have L1 : Ev (fun k => live_bits.l0 k (iv (own a)) [a] 1 1) (iv (own a)) := ev_step (fun k => live_bits.l0.eq_2 ..) (Ev.congr (fun k => if_neg (by omega)) ev_const)
  have L0 : Ev (fun k => live_bits.l0 k 0 [a] 1 0) (iv (own a)) := by
    refine ev_step (fun k => live_bits.l0.eq_2 ..) (Ev.congr (fun k => if_pos (by omega)) (Ev.congr (fun k => if_pos (by omega)) (Ev.congr (fun k => if_pos (by rw [hl]; omega)) (Ev.congr (fun k => if_pos h) ?_))))
    rw [ww1, show rd [a] 0 = a from rfl, shl_own h, zero_or]
    exact L1
  exact L0
theorem bits2 {a b : Int} (h : 0 ≤ a) (h' : 0 ≤ b) : Ev (fun k => live_bits.f k [a, b]) (iv (own a ||| own b)) := by
  have hl : (([a, b] : List Int).length : Int) = 2 := rfl
  have L2 : Ev (fun k => live_bits.l0 k (iv (own a ||| own b)) [a, b] 2 2) (iv (own a ||| own b)) := ev_step (fun k => live_bits.l0.eq_2 ..) (Ev.congr (fun k => if_neg (by omega)) ev_const)
  have L1 : Ev (fun k => live_bits.l0 k (iv (own a)) [a, b] 2 1) (iv (own a ||| own b)) := by
    refine ev_step (fun k => live_bits.l0.eq_2 ..) (Ev.congr (fun k => if_pos (by omega)) (Ev.congr (fun k => if_pos (by omega)) (Ev.congr (fun k => if_pos (by rw [hl]; omega)) (Ev.congr (fun k => if_pos h') ?_))))
    rw [ww2, show rd [a, b] 1 = b from rfl, shl_own h', bits_or]
    exact L2
  have L0 : Ev (fun k => live_bits.l0 k 0 [a, b] 2 0) (iv (own a ||| own b)) := by
    refine ev_step (fun k => live_bits.l0.eq_2 ..) (Ev.congr (fun k => if_pos (by omega)) (Ev.congr (fun k => if_pos (by omega)) (Ev.congr (fun k => if_pos (by rw [hl]; omega)) (Ev.congr (fun k => if_pos h) ?_))))
    rw [ww1, show rd [a, b] 0 = a from rfl, shl_own h, zero_or]
    exact L1
  exact L0
theorem bit_ev {a : Int} (h : 0 ≤ a) : Ev (fun k => lockstitchref08_bit.f k a) (iv (own a)) := by
  obtain ⟨n, rfl⟩ := Int.eq_ofNat_of_zero_le h
  by_cases h7 : (n : Int) > 7
  · rw [own_out h7]
    exact Ev.congr (fun k => if_pos h7) ev_const
  · refine Ev.congr (fun k => if_neg h7) ?_
    rw [iv_own n (by omega)]
    have L : ∀ d i : Nat, i + d = n → Ev (fun k => lockstitchref08_bit.l0 k (n : Int) (2 ^ i) (i : Int)) (2 ^ n) := by
      intro d
      induction d with
      | zero =>
        intro i hi
        obtain rfl : i = n := by omega
        exact ev_step (fun k => lockstitchref08_bit.l0.eq_2 ..) (Ev.congr (fun k => if_neg (by omega)) ev_const)
      | succ d ih =>
        intro i hi
        have ih := ih (i + 1) (by omega)
        have h2 : (2 : Int) ^ i * 2 % 256 = 2 ^ (i + 1) := by
          have a1 : (2 : Int) ^ (i + 1) = 2 ^ i * 2 := Int.pow_succ ..
          have a2 : (2 : Int) ^ (i + 1) < 256 := pow_lt (by omega)
          have a3 : (0 : Int) ≤ 2 ^ (i + 1) := Int.pow_nonneg (by decide)
          omega
        have h3 : ((i : Int) + 1) % 256 = ((i + 1 : Nat) : Int) := by omega
        have hlt : (i : Int) < (n : Int) := by omega
        refine ev_step (fun k => lockstitchref08_bit.l0.eq_2 ..) (Ev.congr (fun k => if_pos hlt) ?_)
        rw [h2, h3]
        exact ih
    exact L n 0 (Nat.zero_add _)
def usesB (x0 x1 x2 x3 : Int) : S8 := if x0 = 7 ∨ x0 = 8 ∨ x0 = 10 ∨ x0 = 13 then own x2 else if x0 = 9 then own x1 else if x0 = 11 then own x1 ||| own x2 else if x0 = 15 then own x2 ||| own x3 else 0
def setsB (x0 x1 : Int) : S8 := if x0 = 5 ∨ x0 = 6 ∨ x0 = 7 ∨ x0 = 10 ∨ x0 = 12 then own x1 else 0
section
variable {x0 x1 x2 x3 x4 : Int} (hw : WfI x0 x1 x2 x3 x4)
include hw
theorem uses_ev : Ev (fun k => live_Uses.f k x0 x1 x2 x3 x4) (iv (usesB x0 x1 x2 x3)) := by
  obtain ⟨_, ⟨h1, _⟩, ⟨h2, _⟩, ⟨h3, _⟩, _⟩ := hw
  have J : ∀ q : Bool, (q = true ↔ x0 = 7 ∨ x0 = 8 ∨ x0 = 10 ∨ x0 = 13) → Ev (fun k => live_Uses.j0 k x0 q x0 x1 x2 x3 x4) (iv (usesB x0 x1 x2 x3)) := by
    intro q hq
    refine ev_step (fun k => live_Uses.j0.eq_2 ..) ?_
    unfold usesB
    by_cases hb : q = true
    · rw [if_pos (hq.1 hb)]
      exact Ev.congr (fun k => if_pos hb) (ev_bind (bits1 h2) ev_const)
    · rw [if_neg (fun e => hb (hq.2 e))]
      refine Ev.congr (fun k => if_neg hb) ?_
      by_cases h9 : x0 = 9
      · rw [if_pos h9]
        exact Ev.congr (fun k => if_pos h9) (ev_bind (bits1 h1) ev_const)
      · rw [if_neg h9]
        refine Ev.congr (fun k => if_neg h9) ?_
        by_cases h11 : x0 = 11
        · rw [if_pos h11]
          exact Ev.congr (fun k => if_pos h11) (ev_bind (bits2 h1 h2) ev_const)
        · rw [if_neg h11]
          refine Ev.congr (fun k => if_neg h11) ?_
          by_cases h15 : x0 = 15
          · rw [if_pos h15]
            exact Ev.congr (fun k => if_pos h15) (ev_bind (bits2 h2 h3) ev_const)
          · rw [if_neg h15]
            exact Ev.congr (fun k => if_neg h15) ev_const
  by_cases h7 : x0 = 7
  · exact Ev.congr (fun k => if_pos h7) (J _ (by simp [h7]))
  · refine Ev.congr (fun k => if_neg h7) ?_
    by_cases h8 : x0 = 8
    · exact Ev.congr (fun k => if_pos h8) (J _ (by simp [h8]))
    · refine Ev.congr (fun k => if_neg h8) ?_
      by_cases h10 : x0 = 10
      · exact Ev.congr (fun k => if_pos h10) (J _ (by simp [h10]))
      · exact Ev.congr (fun k => if_neg h10) (J _ (by simp [h7, h8, h10]))
theorem ref_uses_ev : Ev (fun k => lockstitchref08_Uses.f k x0 x1 x2 x3 x4) (iv (usesB x0 x1 x2 x3)) := by
  obtain ⟨_, ⟨h1, _⟩, ⟨h2, _⟩, ⟨h3, _⟩, _⟩ := hw
  have J : ∀ q : Bool, (q = true ↔ x0 = 7 ∨ x0 = 8 ∨ x0 = 10 ∨ x0 = 13) → Ev (fun k => lockstitchref08_Uses.j0 k x0 q x0 x1 x2 x3 x4) (iv (usesB x0 x1 x2 x3)) := by
    intro q hq
    refine ev_step (fun k => lockstitchref08_Uses.j0.eq_2 ..) ?_
    unfold usesB
    by_cases hb : q = true
    · rw [if_pos (hq.1 hb)]
      exact Ev.congr (fun k => if_pos hb) (ev_bind (bit_ev h2) ev_const)
    · rw [if_neg (fun e => hb (hq.2 e))]
      refine Ev.congr (fun k => if_neg hb) ?_
      by_cases h9 : x0 = 9
      · rw [if_pos h9]
        exact Ev.congr (fun k => if_pos h9) (ev_bind (bit_ev h1) ev_const)
      · rw [if_neg h9]
        refine Ev.congr (fun k => if_neg h9) ?_
        by_cases h11 : x0 = 11
        · rw [if_pos h11, ← bits_or]
          exact Ev.congr (fun k => if_pos h11) (ev_bind (bit_ev h1) (ev_bind (bit_ev h2) ev_const))
        · rw [if_neg h11]
          refine Ev.congr (fun k => if_neg h11) ?_
          by_cases h15 : x0 = 15
          · rw [if_pos h15, ← bits_or]
            exact Ev.congr (fun k => if_pos h15) (ev_bind (bit_ev h2) (ev_bind (bit_ev h3) ev_const))
          · rw [if_neg h15]
            exact Ev.congr (fun k => if_neg h15) ev_const
  by_cases h7 : x0 = 7
  · exact Ev.congr (fun k => if_pos h7) (J _ (by simp [h7]))
  · refine Ev.congr (fun k => if_neg h7) ?_
    by_cases h8 : x0 = 8
    · exact Ev.congr (fun k => if_pos h8) (J _ (by simp [h8]))
    · refine Ev.congr (fun k => if_neg h8) ?_
      by_cases h10 : x0 = 10
      · exact Ev.congr (fun k => if_pos h10) (J _ (by simp [h10]))
      · exact Ev.congr (fun k => if_neg h10) (J _ (by simp [h7, h8, h10]))
theorem sets_ev : Ev (fun k => live_Sets.f k x0 x1 x2 x3 x4) (iv (setsB x0 x1)) := by
  obtain ⟨_, ⟨h1, _⟩, _⟩ := hw
  have hs : x0 = 5 ∨ x0 = 6 ∨ x0 = 7 ∨ x0 = 10 ∨ x0 = 12 → setsB x0 x1 = own x1 := fun h => if_pos h
  by_cases h5 : x0 = 5
  · rw [hs (by omega)]
    exact Ev.congr (fun k => if_pos h5) (ev_bind (bits1 h1) ev_const)
  · refine Ev.congr (fun k => if_neg h5) ?_
    by_cases h6 : x0 = 6
    · rw [hs (by omega)]
      exact Ev.congr (fun k => if_pos h6) (ev_bind (bits1 h1) ev_const)
    · refine Ev.congr (fun k => if_neg h6) ?_
      by_cases h7 : x0 = 7
      · rw [hs (by omega)]
        exact Ev.congr (fun k => if_pos h7) (ev_bind (bits1 h1) ev_const)
      · refine Ev.congr (fun k => if_neg h7) ?_
        by_cases h10 : x0 = 10
        · rw [hs (by omega)]
          exact Ev.congr (fun k => if_pos h10) (ev_bind (bits1 h1) ev_const)
        · refine Ev.congr (fun k => if_neg h10) ?_
          by_cases h12 : x0 = 12
          · rw [hs (by omega)]
            exact Ev.congr (fun k => if_pos h12) (ev_bind (bits1 h1) ev_const)
          · rw [show setsB x0 x1 = 0 from if_neg (by omega)]
            exact Ev.congr (fun k => if_neg h12) ev_const
theorem ref_sets_ev : Ev (fun k => lockstitchref08_Sets.f k x0 x1 x2 x3 x4) (iv (setsB x0 x1)) := by
  obtain ⟨_, ⟨h1, _⟩, _⟩ := hw
  have hs : x0 = 5 ∨ x0 = 6 ∨ x0 = 7 ∨ x0 = 10 ∨ x0 = 12 → setsB x0 x1 = own x1 := fun h => if_pos h
  by_cases h5 : x0 = 5
  · rw [hs (by omega)]
    exact Ev.congr (fun k => if_pos h5) (ev_bind (bit_ev h1) ev_const)
  · refine Ev.congr (fun k => if_neg h5) ?_
    by_cases h6 : x0 = 6
    · rw [hs (by omega)]
      exact Ev.congr (fun k => if_pos h6) (ev_bind (bit_ev h1) ev_const)
    · refine Ev.congr (fun k => if_neg h6) ?_
      by_cases h7 : x0 = 7
      · rw [hs (by omega)]
        exact Ev.congr (fun k => if_pos h7) (ev_bind (bit_ev h1) ev_const)
      · refine Ev.congr (fun k => if_neg h7) ?_
        by_cases h10 : x0 = 10
        · rw [hs (by omega)]
          exact Ev.congr (fun k => if_pos h10) (ev_bind (bit_ev h1) ev_const)
        · refine Ev.congr (fun k => if_neg h10) ?_
          by_cases h12 : x0 = 12
          · rw [hs (by omega)]
            exact Ev.congr (fun k => if_pos h12) (ev_bind (bit_ev h1) ev_const)
          · rw [show setsB x0 x1 = 0 from if_neg (by omega)]
            exact Ev.congr (fun k => if_neg h12) ev_const
end
def stB (code : List S36) (k : Nat) : S8 := setsB (rd_T36 code k).f0 (rd_T36 code k).f1
def usB (code : List S36) (k : Nat) : S8 := usesB (rd_T36 code k).f0 (rd_T36 code k).f1 (rd_T36 code k).f2 (rd_T36 code k).f3
def lvB (code : List S36) : List S8 := lv (nxt code) code.length (stB code) (usB code)
def lvI (code : List S36) : List Int := (lvB code).map iv
def lorj (nx : Int → List Int) (out : List S8) (k j : Nat) : S8 := ((nx k).take j).foldl (fun n t => n ||| g out t.toNat) 0
theorem lorj_succ (nx : Int → List Int) (out : List S8) (k j : Nat) (h : j < (nx k).length) : lorj nx out k (j + 1) = lorj nx out k j ||| g out ((nx k)[j]).toNat := by
  unfold lorj
  rw [List.take_add_one, List.getElem?_eq_getElem h, Option.toList_some, List.foldl_append]
  rfl
theorem lorj_all (nx : Int → List Int) (out : List S8) (k : Nat) : lorj nx out k (nx k).length = lor nx out k := by
  unfold lorj lor
  rw [List.take_length]
theorem rd_iv (l : List S8) (i : Int) : rd (l.map iv) i = iv (g l i.toNat) := by
  unfold rd g
  rw [List.getD_eq_getElem?_getD, List.getElem?_map, List.getD_eq_getElem?_getD]
  cases l[i.toNat]? <;> rfl
end Go.Proofs.YtkmkfiidlbhcgaaDoor.LB

namespace Go.Proofs.YtkmkfiidlbhcgaaDoor.LB
open Go.RowKit Go.Proofs.YtkmkfiidlbhcgaaDoorW.PrintWords Go.Proofs.YtkmkfiidlbhcgaaDoor.Scan Go.Proofs.YtkmkfiidlbhcgaaDoor.F Go.Proofs.YtkmkfiidlbhcgaaDoor.TT Go.Proofs.YtkmkfiidlbhcgaaDoor.NX Go.Proofs.YtkmkfiidlbhcgaaDoor.FP Go.Proofs.YtkmkfiidlbhcgaaDoor.FL Go.Proofs.YtkmkfiidlbhcgaaDoor.B8 Go.Proofs.YtkmkfiidlbhcgaaDoor.V
set_option linter.unusedVariables false
set_option linter.unusedSectionVars false
section
variable {ts : List ByteArray} {la gl : ByteArray} {code : List S36} (hI : InR (nxt code) (code.length + 1)) (hsm : code.length ≤ 1000000) (hw : WfC code)
include hI hsm hw
theorem ref_l2 (r k : Nat) (out : List S8) (hl : out.length = code.length + 1) (hk : k < code.length) (q : List Int)
    (hq : Ev (fun n => lockstitchref08_In.l1 n ((out.set k (lst (nxt code) (stB code) (usB code) out k)).map iv) (r : Int) ((k : Int) - 1) ts la gl code) q) :
    ∀ (d j : Nat), j + d = (nxt code k).length → Ev (fun n => lockstitchref08_In.l2 n (out.map iv) (r : Int) (k : Int) (iv (lorj (nxt code) out k j)) (nxt code k) (j : Int) ts la gl code) q := by
  have h2 := nxt_two code k
  intro d
  induction d with
  | zero =>
    intro j hj
    obtain rfl : j = (nxt code k).length := by omega
    have hx := hw.rd k hk
    have z0 : (0 : Int) ≤ (k : Int) := Int.natCast_nonneg k
    have z1 : (k : Int) < (code.length : Int) := by omega
    have z2 : (k : Int) < ((out.map iv).length : Int) := by rw [List.length_map]; omega
    have ew : wrap64 ((k : Int) - 1) = (k : Int) - 1 := by unfold wrap64; omega
    refine ev_step (fun n => lockstitchref08_In.l2.eq_2 ..) (Ev.congr (fun n => if_neg (by omega)) (Ev.congr (fun n => if_pos z0) (Ev.congr (fun n => if_pos z1) (ev_bind (ref_sets_ev hx) (ev_bind (ref_uses_ev hx) (Ev.congr (fun n => if_pos z2) ?_))))))
    rw [lorj_all, bits_not, bits_or, Int.toNat_natCast, ew, ← List.map_set]
    exact hq
  | succ d ih =>
    intro j hj
    have ih := ih (j + 1) (by omega)
    have hjl : j < (nxt code k).length := by omega
    have hrd : rd (nxt code k) j = (nxt code k)[j] := by
      unfold rd
      rw [Int.toNat_natCast, List.getD_eq_getElem?_getD, List.getElem?_eq_getElem hjl]
      rfl
    have hr := hI _ _ (List.getElem_mem hjl)
    rw [← hrd] at hr
    have ew : wrap64 ((j : Int) + 1) = ((j + 1 : Nat) : Int) := by unfold wrap64; omega
    have z0 : (0 : Int) ≤ (j : Int) := Int.natCast_nonneg j
    have z2 : rd (nxt code k) j < ((out.map iv).length : Int) := by rw [List.length_map, hl]; exact hr.2
    have z5 : (j : Int) < ((nxt code k).length : Int) := by omega
    refine ev_step (fun n => lockstitchref08_In.l2.eq_2 ..) (Ev.congr (fun n => if_pos z5) (Ev.congr (fun n => if_pos z0) (Ev.congr (fun n => if_pos hr.1) (Ev.congr (fun n => if_pos z2) ?_))))
    rw [ew, rd_iv, bits_or]
    rw [lorj_succ _ _ _ _ hjl, ← hrd] at ih
    exact ih
end
end Go.Proofs.YtkmkfiidlbhcgaaDoor.LB

namespace Go.Proofs.YtkmkfiidlbhcgaaDoor.LB
open Go.RowKit Go.Proofs.YtkmkfiidlbhcgaaDoorW.PrintWords Go.Proofs.YtkmkfiidlbhcgaaDoor.Scan Go.Proofs.YtkmkfiidlbhcgaaDoor.F Go.Proofs.YtkmkfiidlbhcgaaDoor.TT Go.Proofs.YtkmkfiidlbhcgaaDoor.NX Go.Proofs.YtkmkfiidlbhcgaaDoor.FP Go.Proofs.YtkmkfiidlbhcgaaDoor.FL Go.Proofs.YtkmkfiidlbhcgaaDoor.FG Go.Proofs.YtkmkfiidlbhcgaaDoor.B8 Go.Proofs.YtkmkfiidlbhcgaaDoor.V Go.Proofs.YtkmkfiidlbhcgaaDoor.XD
set_option linter.unusedVariables false
set_option linter.unusedSectionVars false
section
variable {ts : List ByteArray} {la gl : ByteArray} {code : List S36} (hI : InR (nxt code) (code.length + 1)) (hsm : code.length ≤ 1000000) (hw : WfC code)
include hI hsm hw
theorem in_l1 (k : Nat) (out : List S8) (hl : out.length = code.length + 1) (hk : k < code.length) (q : List Int)
    (hq1 : lst (nxt code) (stB code) (usB code) out k = g out k → Ev (fun n => live_In.l0 n (out.map iv) ((k : Int) - 1) ts la gl code) q)
    (hq2 : lst (nxt code) (stB code) (usB code) out k ≠ g out k → Ev (fun n => live_In.l0 n ((out.set k (lst (nxt code) (stB code) (usB code) out k)).map iv) ((code.length : Int) - 1) ts la gl code) q) :
    ∀ (d j : Nat), j + d = (nxt code k).length → Ev (fun n => live_In.l1 n (out.map iv) (k : Int) (iv (lorj (nxt code) out k j)) (nxt code k) ((nxt code k).length : Int) (j : Int) ts la gl code) q := by
  have h2 := nxt_two code k
  intro d
  induction d with
  | zero =>
    intro j hj
    obtain rfl : j = (nxt code k).length := by omega
    have hx := hw.rd k hk
    have z0 : (0 : Int) ≤ (k : Int) := Int.natCast_nonneg k
    have z1 : (k : Int) < (code.length : Int) := by omega
    have z2 : (k : Int) < ((out.map iv).length : Int) := by rw [List.length_map]; omega
    have ew : wrap64 ((k : Int) - 1) = (k : Int) - 1 := by unfold wrap64; omega
    have ew1 : wrap64 ((code.length : Int) - 1) = (code.length : Int) - 1 := by unfold wrap64; omega
    have e0 : bits .or .u8 (bits .andNot .u8 (iv (lorj (nxt code) out k (nxt code k).length)) (iv (stB code k))) (iv (usB code k)) = iv (lst (nxt code) (stB code) (usB code) out k) := by
      rw [lorj_all, bits_not, bits_or]
      rfl
    refine ev_step (fun n => live_In.l1.eq_2 ..) (Ev.congr (fun n => if_neg (by omega)) (Ev.congr (fun n => if_pos z0) (Ev.congr (fun n => if_pos z1) (ev_bind (sets_ev hx) (ev_bind (uses_ev hx) (Ev.congr (fun n => if_pos z2) ?_))))))
    rw [show iv (setsB (rd_T36 code k).f0 (rd_T36 code k).f1) = iv (stB code k) from rfl, show iv (usesB (rd_T36 code k).f0 (rd_T36 code k).f1 (rd_T36 code k).f2 (rd_T36 code k).f3) = iv (usB code k) from rfl, e0, rd_iv, Int.toNat_natCast, ew, ew1, ← List.map_set]
    by_cases e : lst (nxt code) (stB code) (usB code) out k = g out k
    · exact Ev.congr (fun n => if_pos (by rw [e])) (hq1 e)
    · exact Ev.congr (fun n => if_neg (fun h => e (iv_inj h))) (hq2 e)
  | succ d ih =>
    intro j hj
    have ih := ih (j + 1) (by omega)
    have hjl : j < (nxt code k).length := by omega
    have hrd : rd (nxt code k) j = (nxt code k)[j] := by
      unfold rd
      rw [Int.toNat_natCast, List.getD_eq_getElem?_getD, List.getElem?_eq_getElem hjl]
      rfl
    have hr := hI _ _ (List.getElem_mem hjl)
    rw [← hrd] at hr
    have ew : wrap64 ((j : Int) + 1) = ((j + 1 : Nat) : Int) := by unfold wrap64; omega
    have z0 : (0 : Int) ≤ (j : Int) := Int.natCast_nonneg j
    have z1 : rd (nxt code k) j ≥ 0 := hr.1
    have z2 : rd (nxt code k) j < ((out.map iv).length : Int) := by rw [List.length_map, hl]; exact hr.2
    have z5 : (j : Int) < ((nxt code k).length : Int) := by omega
    refine ev_step (fun n => live_In.l1.eq_2 ..) (Ev.congr (fun n => if_pos z5) (Ev.congr (fun n => if_pos z0) (Ev.congr (fun n => if_pos z5) (Ev.congr (fun n => if_pos z1) (Ev.congr (fun n => if_pos z2) (Ev.congr (fun n => if_pos hr.1) ?_))))))
    rw [ew, rd_iv, bits_or]
    rw [lorj_succ _ _ _ _ hjl, ← hrd] at ih
    exact ih
theorem in_l0 : ∀ (d : Nat) (out : List S8), 8 * (code.length + 1) - tot out = d → LInv (nxt code) code.length (stB code) (usB code) out → ∀ k : Nat, k ≤ code.length → (∀ j, k ≤ j → j < code.length → g out j = lst (nxt code) (stB code) (usB code) out j) →
    Ev (fun n => live_In.l0 n (out.map iv) ((k : Int) - 1) ts la gl code) (lvI code) := by
  intro d
  induction d using Nat.strongRecOn with
  | _ d IH =>
    intro out hd hv k
    induction k with
    | zero =>
      intro _ hf
      have e : out = lvB code := lv_of hv fun j hj => hf j (Nat.zero_le _) hj
      refine ev_step (fun n => live_In.l0.eq_2 ..) (Ev.congr (fun n => if_neg (by omega)) ?_)
      rw [e]
      exact ev_const
    | succ k ih =>
      intro hk hf
      have e1 : ((k + 1 : Nat) : Int) - 1 = (k : Int) := by omega
      have z0 : (k : Int) ≥ 0 := Int.natCast_nonneg k
      rw [e1]
      refine ev_step (fun n => live_In.l0.eq_2 ..) (Ev.congr (fun n => if_pos z0) (ev_bind (next_ev ts la gl code k) ?_))
      refine in_l1 hI hsm hw k out hv.len (by omega) _ (fun e => ih (by omega) fun j hj hjl => ?_) (fun e => ?_) _ 0 (Nat.zero_add _)
      · rcases Nat.lt_or_eq_of_le hj with h | rfl
        · exact hf j h hjl
        · exact e.symm
      · have hls := hv.ls (k := k) (by omega)
        have hlt := (tot_le hls).2 fun e' => e (by
          have := g_set out k k (lst (nxt code) (stB code) (usB code) out k)
          rw [← e', if_pos ⟨rfl, by rw [hv.len]; omega⟩] at this
          exact this.symm)
        have hmx := tot_8 (out.set k (lst (nxt code) (stB code) (usB code) out k))
        rw [List.length_set, hv.len] at hmx
        exact IH _ (by omega) _ rfl (hv.set (by omega)) code.length (Nat.le_refl _) fun j h1 h2 => by omega
theorem in_ev' : Ev (fun k => XD.live_In.f k ts la gl code) (lvI code) := by
  have ew : wrap64 ((code.length : Int) + 1) = ((code.length + 1 : Nat) : Int) := by unfold wrap64; omega
  have ew1 : wrap64 ((code.length : Int) - 1) = (code.length : Int) - 1 := by unfold wrap64; omega
  have h := in_l0 (ts := ts) (la := la) (gl := gl) hI hsm hw _ _ rfl (LInv.start ..) code.length (Nat.le_refl _) fun j h1 h2 => by omega
  have e : (List.replicate (code.length + 1) (0 : S8)).map iv = List.replicate (code.length + 1) 0 := by
    rw [List.map_replicate]
    rfl
  rw [e] at h
  unfold XD.live_In.f
  rw [ew, ew1, Int.toNat_natCast]
  exact Ev.congr (fun k => if_pos (by omega)) (Ev.congr (fun k => if_pos (by omega)) h)
end
end Go.Proofs.YtkmkfiidlbhcgaaDoor.LB

namespace Go.Proofs.YtkmkfiidlbhcgaaDoor.LG
open Go.RowKit Go.Proofs.YtkmkfiidlbhcgaaDoorW.PrintWords Go.Proofs.YtkmkfiidlbhcgaaDoorW.PrintLast Go.Proofs.YtkmkfiidlbhcgaaDoorW.PrintMore Go.Proofs.YtkmkfiidlbhcgaaDoor.F Go.Proofs.YtkmkfiidlbhcgaaDoor.TT Go.Proofs.YtkmkfiidlbhcgaaDoor.Srt Go.Proofs.YtkmkfiidlbhcgaaDoor.NX Go.Proofs.YtkmkfiidlbhcgaaDoor.FP Go.Proofs.YtkmkfiidlbhcgaaDoor.B8 Go.Proofs.YtkmkfiidlbhcgaaDoor.Scan Go.Proofs.YtkmkfiidlbhcgaaDoor.LB
set_option linter.unusedVariables false
open Classical in
noncomputable def live_In.f (l0_0 : List ByteArray) (a0_1 : ByteArray) (a0_2 : ByteArray) (l0_3 : List S36) : Option (List Int) := if InR (nxt l0_3) (l0_3.length + 1) ∧ l0_3.length ≤ 1000000 ∧ WfC l0_3 then some (lvI l0_3) else none
theorem live_In.calls (A0_0 : Option Addr) (c0_0 : Nat) (l0_0 : List ByteArray) (a0_1 : ByteArray) (a0_2 : ByteArray) (A0_3 : Option Addr) (c0_3 : Nat) (l0_3 : List (S36)) (r : List Int) (w : World) (_hr0_0 : Kd.C Kd.string w A0_0 l0_0.length l0_0) (_hc0_0 : l0_0.length ≤ c0_0) (hr0_3 : Kd.C k36 w A0_3 l0_3.length l0_3) (_hc0_3 : l0_3.length ≤ c0_3) (h : live_In.f l0_0 a0_1 a0_2 l0_3 = some r) :
    Calls Tryd.prog 34 #[.agg #[.slice A0_0 l0_0.length c0_0, .string a0_1, .string a0_2, .slice A0_3 l0_3.length c0_3]] w fun e w' => ∃ v0_ : Value, e = .returned (v0_) ∧ Kd.R (Kd.int .u8) 5 w' w.heap.size (fun _ => True) v0_ r ∧ Below w.heap.size w w' := by
  unfold live_In.f at h
  split at h
  · rename_i hh
    obtain rfl := Option.some.inj h
    obtain ⟨k, hk⟩ := ev_at (in_ev' (ts := l0_0) (la := a0_1) (gl := a0_2) hh.1 hh.2.1 hh.2.2)
    exact XD.live_In.calls k A0_0 c0_0 l0_0 a0_1 a0_2 A0_3 c0_3 l0_3 _ w _hr0_0 _hc0_0 hr0_3 _hc0_3 hk
  · cases h
end Go.Proofs.YtkmkfiidlbhcgaaDoor.LG

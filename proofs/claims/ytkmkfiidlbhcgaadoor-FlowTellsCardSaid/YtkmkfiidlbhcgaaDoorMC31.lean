/- Texts of this claim, pruned to what it needs and laid together by prune.py. -/
import Derived.Test.YtkmkfiidlbhcgaaDoorMC29
import Derived.Test.YtkmkfiidlbhcgaaDoorMC30
import Derived.Lib.ItoaLen
import Derived.Test.YtkmkfiidlbhcgaaDoorMC25
namespace Go.Proofs.YtkmkfiidlbhcgaaDoor.TT
open Go.RowKit Go.Proofs.YtkmkfiidlbhcgaaDoorW.PrintWords Go.Proofs.YtkmkfiidlbhcgaaDoor.Scan Go.Proofs.YtkmkfiidlbhcgaaDoor.F Go.Proofs.YtkmkfiidlbhcgaaDoor.KP Go.Proofs.YtkmkfiidlbhcgaaDoor.FM Go.Proofs.YtkmkfiidlbhcgaaDoor.H
set_option linter.unusedVariables false
def Tot {α : Type} (g : Nat → Option α) : Prop := ∃ r, Ev g r
theorem tot_ev {α : Type} {g : Nat → Option α} {r : α} (h : Ev g r) : Tot g := ⟨r, h⟩
theorem tot_const {α : Type} {r : α} : Tot (fun _ => some r) := ⟨r, ev_const⟩
theorem tot_step {α : Type} {g f : Nat → Option α} (h : ∀ k, g (k + 1) = f k) (k : Tot f) : Tot g := k.elim fun r hr => ⟨r, ev_step h hr⟩
theorem tot_bind {α β : Type} {g : Nat → Option α} {f : Nat → α → Option β} (h : Tot g) (k : ∀ a, Tot (fun n => f n a)) : Tot (fun n => (g n).bind (f n)) := by
  obtain ⟨a, ha⟩ := h
  obtain ⟨r, hr⟩ := k a
  exact ⟨r, ev_bind ha hr⟩
theorem tot_bind1 {α β : Type} {g : Nat → Option α} {f : Nat → α → Option β} {a : α} (h : Ev g a) (k : Tot (fun n => f n a)) : Tot (fun n => (g n).bind (f n)) := by
  obtain ⟨r, hr⟩ := k
  exact ⟨r, ev_bind h hr⟩
theorem tot_ite {α : Type} {c : Prop} [Decidable c] {f g : Nat → Option α} (hf : c → Tot f) (hg : ¬ c → Tot g) : Tot (fun k => if c then f k else g k) := by
  by_cases h : c
  · obtain ⟨r, hr⟩ := hf h
    exact ⟨r, Ev.congr (fun k => if_pos h) hr⟩
  · obtain ⟨r, hr⟩ := hg h
    exact ⟨r, Ev.congr (fun k => if_neg h) hr⟩
theorem tot_pos {α : Type} {c : Prop} [Decidable c] {f g : Nat → Option α} (h : c) (hf : Tot f) : Tot (fun k => if c then f k else g k) := tot_ite (fun _ => hf) (fun h' => absurd h h')
theorem tot_neg {α : Type} {c : Prop} [Decidable c] {f g : Nat → Option α} (h : ¬ c) (hg : Tot g) : Tot (fun k => if c then f k else g k) := tot_ite (fun h' => absurd h' h) (fun _ => hg)
abbrev Fit (s : ByteArray) : Prop := (s.size : Int) ≤ 9223372036854775807
theorem w1 {i n : Nat} (h : i < n) (hn : (n : Int) ≤ 9223372036854775807) : wrap64 ((i : Int) + 1) = ((i + 1 : Nat) : Int) := by unfold wrap64; omega
theorem extract_fit {s : ByteArray} (h : Fit s) (a b : Nat) : Fit (s.extract a b) := by
  unfold Fit
  rw [ByteArray.size_extract]
  omega
theorem digits_l0 (s : ByteArray) (hz : Fit s) : ∀ (d i : Nat), i + d = s.size → Tot (fun k => lockstitchref02_digits.l0 k s (i : Int)) := by
  intro d
  induction d with
  | zero =>
    intro i hi
    exact tot_step (fun k => lockstitchref02_digits.l0.eq_2 ..) (tot_neg (by omega) tot_const)
  | succ d ih =>
    intro i hi
    have ih := ih (i + 1) (by omega)
    refine tot_step (fun k => lockstitchref02_digits.l0.eq_2 ..) (tot_pos (by omega) (tot_pos (by omega) (tot_ite (fun _ => tot_const) fun _ => tot_ite (fun _ => tot_const) fun _ => ?_)))
    rw [w1 (n := s.size) (by omega) hz]
    exact ih
theorem digits_j2 (s : ByteArray) (hz : Fit s) (q : Bool) : Tot (fun k => lockstitchref02_digits.j2 k s q) :=
  tot_step (fun k => lockstitchref02_digits.j2.eq_2 ..) (tot_ite (fun _ => tot_const) fun _ => digits_l0 s hz s.size 0 (Nat.zero_add _))
theorem digits_j1 (s0 s : ByteArray) (hz : Fit s) : Tot (fun k => lockstitchref02_digits.j1 k s0 s) := by
  refine tot_step (fun k => lockstitchref02_digits.j1.eq_2 ..) (tot_ite (fun _ => digits_j2 s hz _) fun h => tot_pos ?_ (tot_ite (fun _ => tot_ite (fun _ => digits_j2 s hz _) fun _ => digits_j2 s hz _) fun _ => digits_j2 s hz _))
  have : s.size ≠ 0 := fun e => h ((toList_nil s).2 e)
  omega
theorem digits_j0 (s0 s : ByteArray) (h0 : Fit s0) (hz : Fit s) (q : Bool) (hq : q = true → 1 ≤ s0.size) : Tot (fun k => lockstitchref02_digits.j0 k s0 s q) :=
  tot_step (fun k => lockstitchref02_digits.j0.eq_2 ..) (tot_ite (fun h => tot_pos (by have := hq h; omega) (digits_j1 s0 _ (extract_fit h0 _ _))) fun _ => digits_j1 s0 s hz)
theorem digits_tot (s : ByteArray) (hz : Fit s) : Tot (fun k => lockstitchref02_digits.f k s) :=
  tot_ite (fun h => tot_pos (by omega) (digits_j0 s s hz hz _ fun _ => by omega)) fun _ => digits_j0 s s hz hz _ fun h => by cases h
theorem digits_nil (s : ByteArray) (h : s.size = 0) : Ev (fun k => lockstitchref02_digits.f k s) false := by
  refine Ev.congr (fun k => if_neg (by omega)) (ev_step (fun k => lockstitchref02_digits.j0.eq_2 ..) (Ev.congr (fun k => if_neg (by decide)) (ev_step (fun k => lockstitchref02_digits.j1.eq_2 ..) (Ev.congr (fun k => if_pos ((toList_nil s).2 h)) (ev_step (fun k => lockstitchref02_digits.j2.eq_2 ..) (Ev.congr (fun k => if_pos rfl) ev_const))))))
theorem number_j3 (a : Bool) (b : Int) (c : Bool) : Tot (fun k => lockstitchref02_Number.j3 k a b c) :=
  tot_step (fun k => lockstitchref02_Number.j3.eq_2 ..) (tot_ite (fun _ => tot_const) fun _ => tot_ite (fun _ => tot_const) fun _ => tot_const)
theorem number_j2 (s : ByteArray) (a : Bool) (b : Int) : Tot (fun k => lockstitchref02_Number.j2 k s a b) :=
  tot_step (fun k => lockstitchref02_Number.j2.eq_2 ..) (tot_ite (fun _ => number_j3 ..) fun _ => tot_ite (fun _ => number_j3 ..) fun _ => tot_ite (fun _ => number_j3 ..) fun _ => number_j3 ..)
theorem number_l0 (s : ByteArray) (hz : Fit s) (a : Bool) : ∀ (d i : Nat) (b : Int), i + d = s.size → Tot (fun k => lockstitchref02_Number.l0 k s a b (i : Int)) := by
  intro d
  induction d with
  | zero =>
    intro i b hi
    exact tot_step (fun k => lockstitchref02_Number.l0.eq_2 ..) (tot_neg (by omega) (number_j2 ..))
  | succ d ih =>
    intro i b hi
    refine tot_step (fun k => lockstitchref02_Number.l0.eq_2 ..) (tot_pos (by omega) (tot_ite (fun _ => tot_pos (by omega) ?_) fun _ => number_j2 ..))
    rw [w1 (n := s.size) (by omega) hz]
    exact ih (i + 1) _ (by omega)
theorem number_j0 (s : ByteArray) (hz : Fit s) (a : Bool) : Tot (fun k => lockstitchref02_Number.j0 k s a) :=
  tot_step (fun k => lockstitchref02_Number.j0.eq_2 ..) (number_l0 s hz a s.size 0 0 (Nat.zero_add _))
theorem number_tot (s : ByteArray) (hz : Fit s) : Tot (fun k => lockstitchref02_Number.f k s) := by
  by_cases h : s.size = 0
  · exact tot_bind1 (digits_nil s h) (tot_neg (by decide) tot_const)
  · exact tot_bind (digits_tot s hz) fun q => tot_ite (fun _ => tot_pos (by omega) (tot_ite (fun _ => tot_pos (by omega) (number_j0 _ (extract_fit hz _ _) _)) fun _ => number_j0 s hz _)) fun _ => tot_const
theorem shape_ok (a : Int) : ∃ n s, lockstitchref04_shape.f a = some (n, s) ∧ s.size ≤ 3 ∧ (n.toList = [] ∨ 1 ≤ a ∧ a ≤ 15) := by
  by_cases h : 1 ≤ a ∧ a ≤ 15
  · obtain rfl | rfl | rfl | rfl | rfl | rfl | rfl | rfl | rfl | rfl | rfl | rfl | rfl | rfl | rfl : a = 1 ∨ a = 2 ∨ a = 3 ∨ a = 4 ∨ a = 5 ∨ a = 6 ∨ a = 7 ∨ a = 8 ∨ a = 9 ∨ a = 10 ∨ a = 11 ∨ a = 12 ∨ a = 13 ∨ a = 14 ∨ a = 15 := by omega
    all_goals exact ⟨_, _, rfl, by decide, .inr (by decide)⟩
  · refine ⟨⟨#[]⟩, ⟨#[]⟩, ?_, by decide, .inl ((toList_nil _).2 rfl)⟩
    unfold lockstitchref04_shape.f lockstitchref04_rest.f
    repeat rw [if_neg (by omega)]
    rfl
theorem with_j0 (a b : Int) (q : Bool) (x0 x1 x2 x3 x4 : Int) : Tot (fun k => lockstitchref04_with.j0 k a b q x0 x1 x2 x3 x4) :=
  tot_step (fun k => lockstitchref04_with.j0.eq_2 ..) (tot_ite (fun _ => tot_const) fun _ => tot_ite (fun _ => tot_const) fun _ => tot_ite (fun _ => tot_const) fun _ => tot_const)
theorem with_tot (x0 x1 x2 x3 x4 a b : Int) : Tot (fun k => lockstitchref04_with.f k x0 x1 x2 x3 x4 a b) :=
  tot_ite (fun _ => tot_const) fun _ => tot_ite (fun _ => with_j0 ..) fun _ => with_j0 ..
theorem read_l1 (l : List ByteArray) (hl : ∀ s ∈ l, Fit s) (s : ByteArray) (h3 : s.size ≤ 3) (hn : l.length = s.size + 1) :
    ∀ (d i : Nat) (x0 x1 x2 x3 x4 : Int), i + d = s.size → Tot (fun k => lockstitchref04_read.l1 k l s (i : Int) x0 x1 x2 x3 x4) := by
  intro d
  induction d with
  | zero =>
    intro i x0 x1 x2 x3 x4 hi
    exact tot_step (fun k => lockstitchref04_read.l1.eq_2 ..) (tot_neg (by omega) tot_const)
  | succ d ih =>
    intro i x0 x1 x2 x3 x4 hi
    refine tot_step (fun k => lockstitchref04_read.l1.eq_2 ..) (tot_pos (by omega) ?_)
    rw [w1 (n := s.size) (by omega) (by omega)]
    refine tot_pos (by omega) (tot_pos (by omega) (tot_bind (number_tot _ (rd_size l hl _)) fun n => tot_pos (by omega) (tot_bind (with_tot ..) fun r => tot_ite (fun _ => tot_ite (fun _ => ?_) fun _ => tot_const) fun _ => tot_const)))
    exact ih (i + 1) _ _ _ _ _ (by omega)
theorem read_l0 (l : List ByteArray) (hl : ∀ s ∈ l, Fit s) (h1 : 0 < l.length) (hm : (l.length : Int) ≤ 9223372036854775807) : ∀ (d i : Nat), i + d = 16 → Tot (fun k => lockstitchref04_read.l0 k l (i : Int)) := by
  intro d
  induction d with
  | zero =>
    intro i hi
    exact tot_step (fun k => lockstitchref04_read.l0.eq_2 ..) (tot_neg (by omega) tot_const)
  | succ d ih =>
    intro i hi
    have ih := ih (i + 1) (by omega)
    obtain ⟨n, s, e, h3, _⟩ := shape_ok i
    have J : ∀ q : Bool, (q = false → l.length = s.size + 1) → Tot (fun k => lockstitchref04_read.j1 k l (i : Int) s q) := by
      intro q hq
      refine tot_step (fun k => lockstitchref04_read.j1.eq_2 ..) (tot_ite (fun _ => ?_) fun h => ?_)
      · rw [show ((i : Int) + 1) % 256 = ((i + 1 : Nat) : Int) by omega]
        exact ih
      · exact read_l1 l hl s h3 (hq (by simpa using h)) s.size 0 _ _ _ _ _ (Nat.zero_add _)
    refine tot_step (fun k => lockstitchref04_read.l0.eq_2 ..) (tot_pos (by omega) (tot_bind1 (ev_all fun _ => e) (tot_pos (by omega) (tot_ite (fun _ => J _ fun h => ?_) fun _ => J _ fun h => by cases h))))
    have h' : (l.length : Int) = wrap64 ((s.size : Int) + 1) := bne_eq_false_iff_eq.1 h
    have : wrap64 ((s.size : Int) + 1) = (s.size : Int) + 1 := by unfold wrap64; omega
    omega
theorem read_tot (l : List ByteArray) (hl : ∀ s ∈ l, Fit s) (h1 : 0 < l.length) (hm : (l.length : Int) ≤ 9223372036854775807) : Tot (fun k => lockstitchref04_read.f k l) := read_l0 l hl h1 hm 15 1 rfl
def WfI (x0 x1 x2 x3 x4 : Int) : Prop := (0 ≤ x0 ∧ x0 ≤ 255) ∧ (0 ≤ x1 ∧ x1 ≤ 255) ∧ (0 ≤ x2 ∧ x2 ≤ 255) ∧ (0 ≤ x3 ∧ x3 ≤ 255) ∧ -9223372036854775808 ≤ x4 ∧ x4 ≤ 9223372036854775807
theorem part_ok {x0 x1 x2 x3 x4 : Int} (h : WfI x0 x1 x2 x3 x4) (c : Int) : ∃ r, lockstitchref04_part.f x0 x1 x2 x3 x4 c = some r ∧ -9223372036854775808 ≤ r ∧ r ≤ 9223372036854775807 := by
  obtain ⟨_, h1, h2, h3, h4⟩ := h
  unfold lockstitchref04_part.f
  repeat' split
  · exact ⟨_, rfl, by unfold wrap64; omega, by unfold wrap64; omega⟩
  · exact ⟨_, rfl, by unfold wrap64; omega, by unfold wrap64; omega⟩
  · exact ⟨_, rfl, by unfold wrap64; omega, by unfold wrap64; omega⟩
  · exact ⟨_, rfl, h4.1, h4.2⟩
theorem num_fit (n : Int) (h0 : -9223372036854775808 ≤ n) (h1 : n ≤ 9223372036854775807) : Fit (num n) := by
  have := Lib.itoa_length_le n h0 h1
  have e : (num n).size = (Lib.itoa n).length := by simp [num, ByteArray.size]
  unfold Fit
  omega
section
variable {x0 x1 x2 x3 x4 : Int} (hw : WfI x0 x1 x2 x3 x4)
include hw
theorem line_l0 (s : ByteArray) (h3 : s.size ≤ 3) : ∀ (d i : Nat) (acc : List ByteArray), i + d = s.size → acc.length = i + 1 → (∀ x ∈ acc, Fit x) →
    ∃ l, Ev (fun k => lockstitchref04_line.l0 k s acc (i : Int) x0 x1 x2 x3 x4) l ∧ l.length = s.size + 1 ∧ ∀ x ∈ l, Fit x := by
  intro d
  induction d with
  | zero =>
    intro i acc hi ha hf
    exact ⟨acc, ev_step (fun k => lockstitchref04_line.l0.eq_2 ..) (Ev.congr (fun k => if_neg (by omega)) ev_const), by omega, hf⟩
  | succ d ih =>
    intro i acc hi ha hf
    obtain ⟨n, hn, a, b⟩ := part_ok hw (bt s i)
    obtain ⟨l, h1, h2⟩ := ih (i + 1) (acc ++ [num n]) (by omega) (by simp [ha]) (fun x hx => by
      rcases List.mem_append.1 hx with h | h
      · exact hf x h
      · rw [List.mem_singleton] at h
        subst h
        exact num_fit n a b)
    refine ⟨l, ev_step (fun k => lockstitchref04_line.l0.eq_2 ..) (Ev.congr (fun k => if_pos (by omega)) (Ev.congr (fun k => if_pos (by omega)) (ev_bind (ev_all fun _ => hn) (ev_bind (ev_all fun _ => if_pos ⟨rfl, a, b⟩) (Ev.congr (fun k => if_pos (by omega)) ?_))))), h2⟩
    rw [w1 (n := s.size) (by omega) (by omega)]
    exact h1
theorem line_tot : ∃ l, Ev (fun k => lockstitchref04_line.f k x0 x1 x2 x3 x4) l ∧ 1 ≤ l.length ∧ l.length ≤ 4 ∧ ∀ x ∈ l, Fit x := by
  obtain ⟨n, s, e, h3, hn⟩ := shape_ok x0
  have hnf : Fit n := by
    rcases hn with h | h
    · have := (toList_nil n).1 h
      unfold Fit
      omega
    · obtain ⟨h1, h2⟩ := h
      obtain rfl | rfl | rfl | rfl | rfl | rfl | rfl | rfl | rfl | rfl | rfl | rfl | rfl | rfl | rfl : x0 = 1 ∨ x0 = 2 ∨ x0 = 3 ∨ x0 = 4 ∨ x0 = 5 ∨ x0 = 6 ∨ x0 = 7 ∨ x0 = 8 ∨ x0 = 9 ∨ x0 = 10 ∨ x0 = 11 ∨ x0 = 12 ∨ x0 = 13 ∨ x0 = 14 ∨ x0 = 15 := by omega
      all_goals
        have e1 := congrArg Prod.fst (Option.some.inj e)
        simp only at e1
        rw [← e1]
        decide
  obtain ⟨l, h1, h2, h4⟩ := line_l0 hw s h3 s.size 0 [n] (Nat.zero_add _) rfl (fun x hx => by rw [List.mem_singleton] at hx; subst hx; exact hnf)
  exact ⟨l, ev_bind (ev_all fun _ => e) h1, by omega, by omega, h4⟩
theorem right_tot : ∃ b, Ev (fun k => lockstitchref04_Right.f k x0 x1 x2 x3 x4) b ∧ (b = true → 1 ≤ x0 ∧ x0 ≤ 15) := by
  obtain ⟨n, s, e, h3, hn⟩ := shape_ok x0
  by_cases h : n.toList = []
  · exact ⟨false, ev_bind (ev_all fun _ => e) (Ev.congr (fun k => if_pos h) ev_const), fun h => by cases h⟩
  · obtain ⟨l, h1, h2, h4, hf⟩ := line_tot hw
    obtain ⟨r, hr⟩ := read_tot l hf (by omega) (by omega)
    have hop := hn.resolve_left h
    by_cases hb : r.2.2.2.2.2 = true
    · exact ⟨_, ev_bind (ev_all fun _ => e) (Ev.congr (fun k => if_neg h) (ev_bind h1 (ev_bind hr (Ev.congr (fun k => if_pos hb) ev_const)))), fun _ => hop⟩
    · exact ⟨_, ev_bind (ev_all fun _ => e) (Ev.congr (fun k => if_neg h) (ev_bind h1 (ev_bind hr (Ev.congr (fun k => if_neg hb) ev_const)))), fun _ => hop⟩
omit hw in
theorem ints_tot (x0 x1 x2 x3 x4 : Int) : Tot (fun k => lockstitchref05_ints.f k x0 x1 x2 x3 x4) := by
  have J : ∀ (q : Bool) (a y0 y1 y2 y3 y4 : Int), Tot (fun k => lockstitchref05_ints.j0 k a q y0 y1 y2 y3 y4) := fun q a y0 y1 y2 y3 y4 =>
    tot_step (fun k => lockstitchref05_ints.j0.eq_2 ..) (tot_ite (fun _ => tot_const) fun _ => tot_ite (fun _ => tot_ite (fun _ => tot_ite (fun _ => tot_const) fun _ => tot_const) fun _ => tot_const) fun _ => tot_ite (fun _ => tot_const) fun _ => tot_const)
  exact tot_ite (fun _ => J ..) fun _ => tot_ite (fun _ => J ..) fun _ => tot_ite (fun _ => J ..) fun _ => tot_ite (fun _ => J ..) fun _ => J ..
end
section
variable (ts : List ByteArray) (hl : (ts.length : Int) ≤ 9223372036854775807) (hs : ∀ s ∈ ts, (s.size : Int) ≤ 9223372036854775807) (la gl : ByteArray) (hla : Fit la) (hgl : Fit gl) (code : List S36)
include hl hs
theorem at_ok (s : ByteArray) (hz : Fit s) (a : Int) (h0 : 0 ≤ a) (h255 : a ≤ 255) : ∃ r, Ev (fun k => lockstitchref05_at.f k ts s a) r ∧ (0 ≤ r → a < s.size) := by
  have e : wrap64 a = a := by unfold wrap64; omega
  have e1 : wrap64 (a + 1) = a + 1 := by unfold wrap64; omega
  unfold lockstitchref05_at.f
  simp only [e, e1]
  by_cases h : a ≥ (s.size : Int)
  · exact ⟨-1, Ev.congr (fun k => if_pos h) ev_const, by omega⟩
  · have hr := ref_Refs_ev ts (s.extract a.toNat (a + 1).toNat) hl hs (extract_fit hz _ _)
    cases hb : refs ts (s.extract a.toNat (a + 1).toNat) with
    | false =>
      rw [hb] at hr
      exact ⟨-1, Ev.congr (fun k => if_neg h) (Ev.congr (fun k => if_pos h0) (Ev.congr (fun k => if_pos (by omega)) (Ev.congr (fun k => if_pos (by omega)) (ev_bind hr (Ev.congr (fun k => if_neg (by decide)) ev_const))))), by omega⟩
    | true =>
      rw [hb] at hr
      exact ⟨_, Ev.congr (fun k => if_neg h) (Ev.congr (fun k => if_pos h0) (Ev.congr (fun k => if_pos (by omega)) (Ev.congr (fun k => if_pos (by omega)) (ev_bind hr (Ev.congr (fun k => if_pos rfl) (Ev.congr (fun k => if_pos h0) (Ev.congr (fun k => if_pos (by omega)) ev_const))))))), fun _ => by omega⟩
include hla hgl
omit hgl in
theorem local_ok (a : Int) (h0 : 0 ≤ a) (h255 : a ≤ 255) : ∃ r, Ev (fun k => lockstitchref05_Local.f k ts la gl code a) r ∧ (0 ≤ r → a < la.size) := by
  obtain ⟨r, h1, h2⟩ := at_ok ts hl hs la hla a h0 h255
  exact ⟨r, ev_bind h1 ev_const, h2⟩
omit hla in
theorem glob_ok (a : Int) (h0 : 0 ≤ a) (h255 : a ≤ 255) : ∃ r, Ev (fun k => lockstitchref05_Glob.f k ts la gl code a) r ∧ (0 ≤ r → a < gl.size) := by
  obtain ⟨r, h1, h2⟩ := at_ok ts hl hs gl hgl a h0 h255
  exact ⟨r, ev_bind h1 ev_const, h2⟩
omit hla hgl in
theorem number_ok (t n : Int) : Tot (fun k => lockstitchref05_number.f k ts la gl code t n) :=
  tot_ite (fun _ => tot_const) fun _ => tot_bind (tot_ev (ref_Size_ev ts hl hs t)) fun a => tot_ite (fun _ => tot_const) fun _ => tot_bind (tot_ev (ref_To_ev ts hl hs t n)) fun _ => tot_const
omit hla hgl in
theorem to_ok (t n : Int) : Tot (fun k => lockstitchref05_to.f k ts la gl code t n) :=
  tot_ite (fun _ => tot_const) fun _ => tot_ite (fun _ => tot_const) fun _ => tot_bind (tot_ev (ref_To_ev ts hl hs t n)) fun _ => tot_const
omit hl hs hla hgl in
theorem one_ok (a b : Int) : ∀ _k : Nat, ∃ r, lockstitchref05_one.f a b = some r ∧ (r = true → 0 ≤ a ∧ 0 ≤ b) := by
  intro _
  unfold lockstitchref05_one.f
  by_cases h : a ≥ 0
  · rw [if_pos h]
    exact ⟨_, rfl, fun e => by have := beq_iff_eq.1 e; omega⟩
  · rw [if_neg h]
    exact ⟨_, rfl, fun e => by cases e⟩
theorem kinds_tot {x0 x1 x2 x3 x4 : Int} (hw : WfI x0 x1 x2 x3 x4) : Tot (fun k => lockstitchref05_kinds.f k ts la gl code x0 x1 x2 x3 x4) := by
  obtain ⟨a, ha, _⟩ := local_ok ts hl hs la gl hla code x1 hw.2.1.1 hw.2.1.2
  obtain ⟨b, hb, _⟩ := local_ok ts hl hs la gl hla code x2 hw.2.2.1.1 hw.2.2.1.2
  obtain ⟨c, hc, _⟩ := local_ok ts hl hs la gl hla code x3 hw.2.2.2.1.1 hw.2.2.2.1.2
  obtain ⟨ga, hga, _⟩ := glob_ok ts hl hs la gl hgl code x1 hw.2.1.1 hw.2.1.2
  obtain ⟨gb, hgb, _⟩ := glob_ok ts hl hs la gl hgl code x2 hw.2.2.1.1 hw.2.2.1.2
  have one : ∀ p q : Int, Tot (fun _ => (lockstitchref05_one.f p q).bind fun t => some t) := fun p q => by
    obtain ⟨r, e, _⟩ := one_ok p q 0
    exact tot_bind1 (ev_all fun _ => e) tot_const
  have J : ∀ q : Bool, Tot (fun k => lockstitchref05_kinds.j0 k a b x0 q ts la gl code x0 x1 x2 x3 x4) := fun q =>
    tot_step (fun k => lockstitchref05_kinds.j0.eq_2 ..) (tot_ite (fun _ => tot_const) fun _ => tot_ite (fun _ => one _ _) fun _ => tot_ite (fun _ => tot_bind1 hc (one _ _)) fun _ =>
      tot_ite (fun _ => tot_ite (fun _ => tot_bind (number_ok ts hl hs la gl code _ _) fun _ => tot_const) fun _ => tot_const) fun _ => tot_ite (fun _ => tot_ite (fun _ => tot_bind (number_ok ts hl hs la gl code _ _) fun _ => tot_const) fun _ => tot_const) fun _ =>
      tot_ite (fun _ => tot_ite (fun _ => tot_bind (to_ok ts hl hs la gl code _ _) fun _ => one _ _) fun _ => tot_const) fun _ => tot_ite (fun _ => tot_ite (fun _ => tot_bind (to_ok ts hl hs la gl code _ _) fun _ => one _ _) fun _ => tot_const) fun _ =>
      tot_ite (fun _ => tot_bind1 hgb (one _ _)) fun _ => tot_ite (fun _ => tot_bind1 hga (one _ _)) fun _ => tot_const)
  exact tot_bind1 ha (tot_bind1 hb (tot_ite (fun _ => J _) fun _ => J _))
end
end Go.Proofs.YtkmkfiidlbhcgaaDoor.TT

namespace Go.Proofs.YtkmkfiidlbhcgaaDoor.TT
open Go.RowKit Go.Proofs.YtkmkfiidlbhcgaaDoorW.PrintWords Go.Proofs.YtkmkfiidlbhcgaaDoor.Scan Go.Proofs.YtkmkfiidlbhcgaaDoor.F Go.Proofs.YtkmkfiidlbhcgaaDoor.KP Go.Proofs.YtkmkfiidlbhcgaaDoor.FM Go.Proofs.YtkmkfiidlbhcgaaDoor.H
structure PI (ts : List ByteArray) (la gl : ByteArray) (code : List S36) (j : Nat) : Prop where
  jump : (rd_T36 code j).f0 = 3 ∨ (rd_T36 code j).f0 = 4 → 0 ≤ (rd_T36 code j).f4 ∧ (rd_T36 code j).f4 ≤ code.length
  op : 1 ≤ (rd_T36 code j).f0 ∧ (rd_T36 code j).f0 ≤ 15
  ints : Ev (fun k => lockstitchref05_ints.f k (rd_T36 code j).f0 (rd_T36 code j).f1 (rd_T36 code j).f2 (rd_T36 code j).f3 (rd_T36 code j).f4) true
  kinds : Ev (fun k => lockstitchref05_kinds.f k ts la gl code (rd_T36 code j).f0 (rd_T36 code j).f1 (rd_T36 code j).f2 (rd_T36 code j).f3 (rd_T36 code j).f4) true
structure SP (ts : List ByteArray) (la gl : ByteArray) (code : List S36) : Prop where
  pos : 1 ≤ code.length
  small : code.length ≤ 60
  locals : la.size ≤ 8
  globals : gl.size ≤ 4
  all : ∀ j, j < code.length → PI ts la gl code j
def WfC (code : List S36) : Prop := ∀ x ∈ code, WfI x.f0 x.f1 x.f2 x.f3 x.f4
theorem WfC.rd {code : List S36} (h : WfC code) (i : Nat) (hi : i < code.length) : WfI (rd_T36 code i).f0 (rd_T36 code i).f1 (rd_T36 code i).f2 (rd_T36 code i).f3 (rd_T36 code i).f4 := by
  have e : rd_T36 code i = code[i] := by
    unfold rd_T36
    rw [Int.toNat_natCast, List.getD_eq_getElem?_getD, List.getElem?_eq_getElem hi]
    rfl
  rw [e]
  exact h _ (List.getElem_mem hi)
section
variable (ts : List ByteArray) (hl : (ts.length : Int) ≤ 9223372036854775807) (hs : ∀ s ∈ ts, (s.size : Int) ≤ 9223372036854775807) (la gl : ByteArray) (hla : Fit la) (hgl : Fit gl) (code : List S36) (hc : (code.length : Int) ≤ 9223372036854775807) (hw : WfC code)
include hl hs hla hgl hc hw
theorem check_l0 : ∀ (d i : Nat), i + d = code.length → (∀ j, j < i → PI ts la gl code j) →
    ∃ r : Int × Int, Ev (fun k => lockstitchref05_Check.l0 k (i : Int) ts la gl code) r ∧ (r.2 = 0 → ∀ j, j < code.length → PI ts la gl code j) := by
  intro d
  induction d with
  | zero =>
    intro i hi h
    exact ⟨_, ev_step (fun k => lockstitchref05_Check.l0.eq_2 ..) (Ev.congr (fun k => if_neg (by omega)) ev_const), fun _ j hj => h j (by omega)⟩
  | succ d ih =>
    intro i hi h
    have hx := hw.rd i (by omega)
    obtain ⟨b, hb, hop⟩ := right_tot hx
    obtain ⟨q, hq⟩ := ints_tot (rd_T36 code i).f0 (rd_T36 code i).f1 (rd_T36 code i).f2 (rd_T36 code i).f3 (rd_T36 code i).f4
    obtain ⟨z, hz⟩ := kinds_tot ts hl hs la gl hla hgl code hx
    have J4 : ∀ p : Bool, b = true → (p = false → (rd_T36 code i).f0 = 3 ∨ (rd_T36 code i).f0 = 4 → 0 ≤ (rd_T36 code i).f4 ∧ (rd_T36 code i).f4 ≤ code.length) →
        ∃ r : Int × Int, Ev (fun k => lockstitchref05_Check.j4 k (i : Int) p ts la gl code (rd_T36 code i).f0 (rd_T36 code i).f1 (rd_T36 code i).f2 (rd_T36 code i).f3 (rd_T36 code i).f4) r ∧ (r.2 = 0 → ∀ j, j < code.length → PI ts la gl code j) := by
      intro p hbt hp
      cases p with
      | true => exact ⟨_, ev_step (fun k => lockstitchref05_Check.j4.eq_2 ..) (Ev.congr (fun k => if_pos rfl) ev_const), fun e => by simp at e⟩
      | false =>
        cases q with
        | false => exact ⟨_, ev_step (fun k => lockstitchref05_Check.j4.eq_2 ..) (Ev.congr (fun k => if_neg (by decide)) (ev_bind hq (Ev.congr (fun k => if_neg (by decide)) ev_const))), fun e => by simp at e⟩
        | true =>
          cases z with
          | false => exact ⟨_, ev_step (fun k => lockstitchref05_Check.j4.eq_2 ..) (Ev.congr (fun k => if_neg (by decide)) (ev_bind hq (Ev.congr (fun k => if_pos rfl) (ev_bind hz (Ev.congr (fun k => if_neg (by decide)) ev_const))))), fun e => by simp at e⟩
          | true =>
            obtain ⟨r, h1, h2⟩ := ih (i + 1) (by omega) (fun j hj => by
              rcases Nat.lt_succ_iff_lt_or_eq.1 hj with hlt | rfl
              · exact h j hlt
              · exact ⟨hp rfl, hop hbt, hq, hz⟩)
            refine ⟨r, ev_step (fun k => lockstitchref05_Check.j4.eq_2 ..) (Ev.congr (fun k => if_neg (by decide)) (ev_bind hq (Ev.congr (fun k => if_pos rfl) (ev_bind hz (Ev.congr (fun k => if_pos rfl) ?_))))), h2⟩
            rw [w1 (n := code.length) (by omega) hc]
            exact h1
    have J3 : ∀ p : Bool, (p = false → ¬ ((rd_T36 code i).f0 = 3 ∨ (rd_T36 code i).f0 = 4)) →
        ∃ r : Int × Int, Ev (fun k => lockstitchref05_Check.j3 k (i : Int) p ts la gl code (rd_T36 code i).f0 (rd_T36 code i).f1 (rd_T36 code i).f2 (rd_T36 code i).f3 (rd_T36 code i).f4) r ∧ (r.2 = 0 → ∀ j, j < code.length → PI ts la gl code j) := by
      intro p hp
      cases b with
      | false => exact ⟨_, ev_step (fun k => lockstitchref05_Check.j3.eq_2 ..) (ev_bind hb (Ev.congr (fun k => if_neg (by decide)) ev_const)), fun e => by simp at e⟩
      | true =>
        cases p with
        | false =>
          obtain ⟨r, h1, h2⟩ := J4 false rfl (fun _ e => absurd e (hp rfl))
          exact ⟨r, ev_step (fun k => lockstitchref05_Check.j3.eq_2 ..) (ev_bind hb (Ev.congr (fun k => if_pos rfl) (Ev.congr (fun k => if_neg (by decide)) h1))), h2⟩
        | true =>
          by_cases h0 : (rd_T36 code i).f4 < 0
          · obtain ⟨r, h1, h2⟩ := J4 true rfl (fun e => by cases e)
            exact ⟨r, ev_step (fun k => lockstitchref05_Check.j3.eq_2 ..) (ev_bind hb (Ev.congr (fun k => if_pos rfl) (Ev.congr (fun k => if_pos rfl) (Ev.congr (fun k => if_pos h0) h1)))), h2⟩
          · obtain ⟨r, h1, h2⟩ := J4 (decide ((rd_T36 code i).f4 > (code.length : Int))) rfl (fun e _ => by have := of_decide_eq_false e; omega)
            exact ⟨r, ev_step (fun k => lockstitchref05_Check.j3.eq_2 ..) (ev_bind hb (Ev.congr (fun k => if_pos rfl) (Ev.congr (fun k => if_pos rfl) (Ev.congr (fun k => if_neg h0) h1)))), h2⟩
    by_cases h3 : (rd_T36 code i).f0 = 3
    · obtain ⟨r, h1, h2⟩ := J3 true (fun e => by cases e)
      exact ⟨r, ev_step (fun k => lockstitchref05_Check.l0.eq_2 ..) (Ev.congr (fun k => if_pos (by omega)) (Ev.congr (fun k => if_pos (by omega)) (Ev.congr (fun k => if_pos h3) h1))), h2⟩
    · obtain ⟨r, h1, h2⟩ := J3 ((rd_T36 code i).f0 == 4) (fun e h => by have := beq_eq_false_iff_ne.1 e; omega)
      exact ⟨r, ev_step (fun k => lockstitchref05_Check.l0.eq_2 ..) (Ev.congr (fun k => if_pos (by omega)) (Ev.congr (fun k => if_pos (by omega)) (Ev.congr (fun k => if_neg h3) h1))), h2⟩
theorem check_tot : ∃ r : Int × Int, Ev (fun k => lockstitchref05_Check.f k ts la gl code) r ∧ (r.2 = 0 → 1 ≤ code.length ∧ la.size ≤ 8 ∧ gl.size ≤ 4 ∧ ∀ j, j < code.length → PI ts la gl code j) := by
  obtain ⟨r0, hr0, hp0⟩ := check_l0 ts hl hs la gl hla hgl code hc hw code.length 0 (Nat.zero_add _) (fun j hj => by omega)
  have J1 : ∀ q : Bool, (q = false → 1 ≤ code.length) → ∃ r : Int × Int, Ev (fun k => lockstitchref05_Check.j1 k q ts la gl code) r ∧ (r.2 = 0 → 1 ≤ code.length ∧ ∀ j, j < code.length → PI ts la gl code j) := by
    intro q hq
    cases q with
    | true => exact ⟨_, ev_step (fun k => lockstitchref05_Check.j1.eq_2 ..) (Ev.congr (fun k => if_pos rfl) ev_const), fun e => by simp at e⟩
    | false => exact ⟨r0, ev_step (fun k => lockstitchref05_Check.j1.eq_2 ..) (Ev.congr (fun k => if_neg (by decide)) hr0), fun e => ⟨hq rfl, hp0 e⟩⟩
  have J0 : ∀ q : Bool, (q = false → la.size ≤ 8 ∧ gl.size ≤ 4) → ∃ r : Int × Int, Ev (fun k => lockstitchref05_Check.j0 k q ts la gl code) r ∧ (r.2 = 0 → 1 ≤ code.length ∧ la.size ≤ 8 ∧ gl.size ≤ 4 ∧ ∀ j, j < code.length → PI ts la gl code j) := by
    intro q hq
    cases q with
    | true => exact ⟨_, ev_step (fun k => lockstitchref05_Check.j0.eq_2 ..) (Ev.congr (fun k => if_pos rfl) ev_const), fun e => by simp at e⟩
    | false =>
      by_cases h : (code.length : Int) < 1
      · obtain ⟨r, h1, h2⟩ := J1 true (fun e => by cases e)
        exact ⟨r, ev_step (fun k => lockstitchref05_Check.j0.eq_2 ..) (Ev.congr (fun k => if_neg (by decide)) (Ev.congr (fun k => if_pos h) h1)), fun e => ⟨(h2 e).1, (hq rfl).1, (hq rfl).2, (h2 e).2⟩⟩
      · obtain ⟨r, h1, h2⟩ := J1 (decide ((code.length : Int) > 200)) (fun _ => by omega)
        exact ⟨r, ev_step (fun k => lockstitchref05_Check.j0.eq_2 ..) (Ev.congr (fun k => if_neg (by decide)) (Ev.congr (fun k => if_neg h) h1)), fun e => ⟨(h2 e).1, (hq rfl).1, (hq rfl).2, (h2 e).2⟩⟩
  have r1 := ref_Refs_ev ts la hl hs hla
  have r2 := ref_Refs_ev ts gl hl hs hgl
  obtain ⟨rt, ht, hpt⟩ := J0 true (fun e => by cases e)
  cases hb1 : refs ts la with
  | false =>
    rw [hb1] at r1
    exact ⟨rt, ev_bind r1 (Ev.congr (fun k => if_neg (by decide)) ht), hpt⟩
  | true =>
    rw [hb1] at r1
    cases hb2 : refs ts gl with
    | false =>
      rw [hb2] at r2
      exact ⟨rt, ev_bind r1 (Ev.congr (fun k => if_pos rfl) (ev_bind r2 (Ev.congr (fun k => if_neg (by decide)) ht))), hpt⟩
    | true =>
      rw [hb2] at r2
      by_cases h8 : (la.size : Int) > 8
      · exact ⟨rt, ev_bind r1 (Ev.congr (fun k => if_pos rfl) (ev_bind r2 (Ev.congr (fun k => if_pos rfl) (Ev.congr (fun k => if_pos h8) ht)))), hpt⟩
      · obtain ⟨r, h1, h2⟩ := J0 (decide ((gl.size : Int) > 4)) (fun e => by have := of_decide_eq_false e; omega)
        exact ⟨r, ev_bind r1 (Ev.congr (fun k => if_pos rfl) (ev_bind r2 (Ev.congr (fun k => if_pos rfl) (Ev.congr (fun k => if_neg h8) h1)))), h2⟩
omit hs hla hgl hc hw in
theorem few_l0 : ∀ (d i : Nat) (a : Int), i + d = ts.length → Tot (fun k => lockstitchlaw04_Few.l0 k a ts (ts.length : Int) (i : Int) ts la gl code) := by
  intro d
  induction d with
  | zero =>
    intro i a hi
    exact tot_step (fun k => lockstitchlaw04_Few.l0.eq_2 ..) (tot_neg (by omega) (tot_ite (fun _ => tot_const) fun _ => tot_const))
  | succ d ih =>
    intro i a hi
    refine tot_step (fun k => lockstitchlaw04_Few.l0.eq_2 ..) (tot_pos (by omega) (tot_pos (by omega) (tot_pos (by omega) ?_)))
    rw [show wrap64 ((i : Int) + 1) = ((i + 1 : Nat) : Int) from w1 (n := ts.length) (by omega) hl]
    exact ih (i + 1) _ (by omega)
theorem sound_tot : ∃ b, Ev (fun k => lockstitchlaw07_Sound.f k ts la gl code) b ∧ (b = true → SP ts la gl code) := by
  obtain ⟨q, hq⟩ : Tot (fun k => lockstitchlaw04_Few.f k ts la gl code) := few_l0 ts hl la gl code ts.length 0 _ (Nat.zero_add _)
  cases q with
  | false => exact ⟨false, ev_bind hq (Ev.congr (fun k => if_neg (by decide)) ev_const), fun e => by cases e⟩
  | true =>
    by_cases h : (code.length : Int) > 60
    · exact ⟨false, ev_bind hq (Ev.congr (fun k => if_pos rfl) (Ev.congr (fun k => if_pos h) ev_const)), fun e => by cases e⟩
    · obtain ⟨r, h1, h2⟩ := check_tot ts hl hs la gl hla hgl code hc hw
      exact ⟨_, ev_bind hq (Ev.congr (fun k => if_pos rfl) (Ev.congr (fun k => if_neg h) (ev_bind h1 ev_const))), fun e => by
        obtain ⟨a, b, c, d⟩ := h2 (beq_iff_eq.1 e)
        exact ⟨a, by omega, b, c, d⟩⟩
end
end Go.Proofs.YtkmkfiidlbhcgaaDoor.TT

namespace Go.Proofs.YtkmkfiidlbhcgaaDoor.FL
open Go.RowKit Go.Proofs.YtkmkfiidlbhcgaaDoorW.PrintWords Go.Proofs.YtkmkfiidlbhcgaaDoor.Scan Go.Proofs.YtkmkfiidlbhcgaaDoor.F Go.Proofs.YtkmkfiidlbhcgaaDoor.FM Go.Proofs.YtkmkfiidlbhcgaaDoor.H Go.Proofs.YtkmkfiidlbhcgaaDoor.TT Go.Proofs.YtkmkfiidlbhcgaaDoor.NX Go.Proofs.YtkmkfiidlbhcgaaDoor.FP Go.Proofs.YtkmkfiidlbhcgaaDoor.FG
set_option linter.unusedVariables false
theorem SP.inR {ts : List ByteArray} {la gl : ByteArray} {code : List S36} (h : SP ts la gl code) : InR (nxt code) (code.length + 1) := by
  intro k m hm
  unfold nxt at hm
  split at hm
  · rename_i hk
    obtain ⟨kn, rfl⟩ := Int.eq_ofNat_of_zero_le hk.1
    have hp := (h.all kn (by omega)).jump
    split at hm
    · rename_i h3
      have := hp (.inl h3)
      rw [List.mem_singleton] at hm
      subst hm
      omega
    · split at hm
      · rename_i h4
        have := hp (.inr h4)
        split at hm
        · simp only [List.mem_cons, List.not_mem_nil, or_false] at hm
          omega
        · split at hm
          · simp only [List.mem_cons, List.not_mem_nil, or_false] at hm
            omega
          · rw [List.mem_singleton] at hm
            omega
      · rw [List.mem_singleton] at hm
        omega
  · cases hm
theorem next_ev (ts : List ByteArray) (la gl : ByteArray) (code : List S36) (a : Int) : Ev (fun _ => flow_Next.f ts la gl code a) (nxt code a) := ev_const
theorem reach_ev {ts : List ByteArray} {la gl : ByteArray} {code : List S36} (h : SP ts la gl code) (a : Int) : Ev (fun _ => flow_Reach.f ts la gl code a) (reachV code a) :=
  ev_all fun _ => if_pos ⟨SP.inR h, by have := h.small; omega⟩
def sf (code : List S36) (a : Int) : Bool := decide ((0 ≤ a ∧ a < code.length) ∧ ((rd_T36 code a).f0 = 5 ∨ ((rd_T36 code a).f0 = 3 ∨ (rd_T36 code a).f0 = 4) ∧ (rd_T36 code a).f4 ≤ a))
theorem safe_ev (ts : List ByteArray) (la gl : ByteArray) (code : List S36) (a : Int) : Ev (fun k => flow_Safe.f k ts la gl code a) (sf code a) := by
  by_cases h : 0 ≤ a ∧ a < code.length
  · refine Ev.congr (fun k => if_neg (by omega)) (ev_step (fun k => flow_Safe.j0.eq_2 ..) (Ev.congr (fun k => if_neg (by rw [decide_eq_true_iff]; omega)) (Ev.congr (fun k => if_pos h.1) (Ev.congr (fun k => if_pos h.2) ?_))))
    by_cases h5 : (rd_T36 code a).f0 = 5
    · refine Ev.congr (fun k => if_pos h5) (ev_all fun k => ?_)
      rw [show sf code a = true from decide_eq_true ⟨h, .inl h5⟩]
    · refine Ev.congr (fun k => if_neg h5) ?_
      by_cases h3 : (rd_T36 code a).f0 = 3
      · refine Ev.congr (fun k => if_pos h3) (ev_all fun k => ?_)
        unfold sf
        congr 1
        exact decide_eq_decide.2 ⟨fun e => ⟨h, .inr ⟨.inl h3, e⟩⟩, fun e => by rcases e.2 with e | e <;> omega⟩
      · refine Ev.congr (fun k => if_neg h3) ?_
        by_cases h4 : (rd_T36 code a).f0 = 4
        · refine Ev.congr (fun k => if_pos h4) (ev_all fun k => ?_)
          unfold sf
          congr 1
          exact decide_eq_decide.2 ⟨fun e => ⟨h, .inr ⟨.inr h4, e⟩⟩, fun e => by rcases e.2 with e | e <;> omega⟩
        · refine Ev.congr (fun k => if_neg h4) (ev_all fun k => ?_)
          rw [show sf code a = false from decide_eq_false fun e => by rcases e.2 with e | e <;> omega]
  · have e : sf code a = false := decide_eq_false fun e => h e.1
    rw [e]
    by_cases h0 : a < 0
    · exact Ev.congr (fun k => if_pos h0) (ev_step (fun k => flow_Safe.j0.eq_2 ..) (Ev.congr (fun k => if_pos rfl) ev_const))
    · exact Ev.congr (fun k => if_neg h0) (ev_step (fun k => flow_Safe.j0.eq_2 ..) (Ev.congr (fun k => if_pos (by rw [decide_eq_true_iff]; omega)) ev_const))
theorem ref_next_ev (ts : List ByteArray) (la gl : ByteArray) (code : List S36) (hc : (code.length : Int) ≤ 9223372036854775807) (a : Int) : Ev (fun k => lockstitchref07_Next.f k ts la gl code a) (nxt code a) := by
  by_cases h : 0 ≤ a ∧ a < code.length
  · have ew : wrap64 (a + 1) = a + 1 := by unfold wrap64; omega
    refine Ev.congr (fun k => if_neg (by omega)) (ev_step (fun k => lockstitchref07_Next.j0.eq_2 ..) (Ev.congr (fun k => if_neg (by rw [decide_eq_true_iff]; omega)) (Ev.congr (fun k => if_pos h.1) (Ev.congr (fun k => if_pos h.2) ?_))))
    unfold nxt
    rw [if_pos h]
    by_cases h3 : (rd_T36 code a).f0 = 3
    · rw [if_pos h3]
      exact Ev.congr (fun k => if_pos h3) ev_const
    · rw [if_neg h3]
      refine Ev.congr (fun k => if_neg h3) ?_
      by_cases h4 : (rd_T36 code a).f0 = 4
      · rw [if_pos h4]
        refine Ev.congr (fun k => if_pos h4) (ev_step (fun k => lockstitchref07_Next.j1.eq_2 ..) ?_)
        rw [ew]
        by_cases hlt : (rd_T36 code a).f4 < a + 1
        · rw [if_pos hlt]
          exact Ev.congr (fun k => if_pos (decide_eq_true hlt)) ev_const
        · rw [if_neg hlt]
          refine Ev.congr (fun k => if_neg (by rw [decide_eq_true_iff]; exact hlt)) (Ev.congr (fun k => if_pos h4) ?_)
          by_cases hgt : (rd_T36 code a).f4 > a + 1
          · exact ev_all fun k => by rw [if_pos hgt, if_pos hgt]
          · exact ev_all fun k => by rw [if_neg hgt, if_neg hgt]
      · rw [if_neg h4]
        refine Ev.congr (fun k => if_neg h4) (ev_step (fun k => lockstitchref07_Next.j1.eq_2 ..) (Ev.congr (fun k => if_neg (by decide)) (Ev.congr (fun k => if_neg h4) ?_)))
        rw [ew]
        exact ev_const
  · have e : nxt code a = [] := by unfold nxt; rw [if_neg h]
    rw [e]
    by_cases h0 : a < 0
    · exact Ev.congr (fun k => if_pos h0) (ev_step (fun k => lockstitchref07_Next.j0.eq_2 ..) (Ev.congr (fun k => if_pos rfl) ev_const))
    · exact Ev.congr (fun k => if_neg h0) (ev_step (fun k => lockstitchref07_Next.j0.eq_2 ..) (Ev.congr (fun k => if_pos (by rw [decide_eq_true_iff]; omega)) ev_const))
theorem ref_safe_ev (ts : List ByteArray) (la gl : ByteArray) (code : List S36) (a : Int) : Ev (fun _ => lockstitchref07_Safe.f ts la gl code a) (sf code a) := by
  refine ev_all fun _ => ?_
  unfold lockstitchref07_Safe.f
  by_cases h : 0 ≤ a ∧ a < code.length
  · rw [if_neg (by omega), if_neg (by omega), if_pos h.1, if_pos h.2]
    by_cases h5 : (rd_T36 code a).f0 = 5
    · rw [if_pos h5, show sf code a = true from decide_eq_true ⟨h, .inl h5⟩]
    · rw [if_neg h5]
      by_cases h3 : (rd_T36 code a).f0 = 3
      · rw [if_pos h3]
        unfold sf
        congr 1
        exact decide_eq_decide.2 ⟨fun e => ⟨h, .inr ⟨.inl h3, e⟩⟩, fun e => by rcases e.2 with e | e <;> omega⟩
      · rw [if_neg h3]
        by_cases h4 : (rd_T36 code a).f0 = 4
        · rw [if_pos h4]
          unfold sf
          congr 1
          exact decide_eq_decide.2 ⟨fun e => ⟨h, .inr ⟨.inr h4, e⟩⟩, fun e => by rcases e.2 with e | e <;> omega⟩
        · rw [if_neg h4, show sf code a = false from decide_eq_false fun e => by rcases e.2 with e | e <;> omega]
  · have e : sf code a = false := decide_eq_false fun e => h e.1
    rw [e]
    by_cases h0 : a < 0
    · rw [if_pos h0]
    · rw [if_neg h0, if_pos (by omega)]
end Go.Proofs.YtkmkfiidlbhcgaaDoor.FL

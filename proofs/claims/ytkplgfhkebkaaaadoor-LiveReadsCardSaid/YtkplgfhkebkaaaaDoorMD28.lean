/- Texts of this claim, pruned to what it needs and laid together by prune.py. -/
import Derived.Test.YtkplgfhkebkaaaaDoorMD26
import Derived.Test.YtkplgfhkebkaaaaDoorMD27
import Derived.Lib.ItoaLen
import Derived.Test.YtkplgfhkebkaaaaDoorMD1
import Derived.Test.YtkplgfhkebkaaaaDoorMD3
import Derived.Test.YtkplgfhkebkaaaaDoorMD13
import Derived.Test.YtkplgfhkebkaaaaDoorProg
import Derived.WalkKit
import Derived.KernelRfl
import Derived.RowKit3
import Derived.Laws.Rows
import Derived.Test.YtkplgfhkebkaaaaDoorMD8
import Derived.OneCell
import Derived.RegionTactic
import Derived.BigRegion
import Derived.OwnWalk
import Derived.StillTailTactics
import Derived.BigQuiet
import Derived.Deep.QuietTactic
import Derived.Deep.DeepCutAuto
import Derived.Deep.CutBlock
import Derived.Outline
import Derived.Deep.RegionHeld3
namespace Go.Proofs.YtkplgfhkebkaaaaDoor.TT
open Go.RowKit Go.Proofs.YtkplgfhkebkaaaaDoorW.PrintWords Go.Proofs.YtkplgfhkebkaaaaDoor.Scan Go.Proofs.YtkplgfhkebkaaaaDoor.F Go.Proofs.YtkplgfhkebkaaaaDoor.KP Go.Proofs.YtkplgfhkebkaaaaDoor.FM Go.Proofs.YtkplgfhkebkaaaaDoor.H
set_option linter.unusedVariables false
def Tot {α : Type} (g : Nat → Option α) : Prop := ∃ r, Ev g r
theorem tot_ev {α : Type} {g : Nat → Option α} {r : α} (h : Ev g r) : Tot g := ⟨r, h⟩
theorem tot_const {α : Type} {r : α} : Tot (fun _ => some r) := ⟨r, ev_const⟩
theorem tot_step {α : Type} {g f : Nat → Option α} (h : ∀ k, g (k + 1) = f k) (k : Tot f) : Tot g := k.elim fun r hr => ⟨r, ev_step h hr⟩
theorem tot_bind {α β : Type} {g : Nat → Option α} {f : Nat → α → Option β} (h : Tot g) (k : ∀ a, Tot (fun n => f n a)) : Tot (fun n => (g n).bind (f n)) := by
  obtain ⟨a, ha⟩ := h
  obtain ⟨r, hr⟩ := k a
  exact ⟨r, ev_bind ha hr⟩
theorem tot_bind1 {α β : Type} {g : Nat → Option α} {f : Nat → α → Option β} {a : α} (h : Ev g a) (k : Tot (fun n => f n a)) : Tot (fun n => (g n).bind (f n)) := by
  obtain ⟨r, hr⟩ := k
  exact ⟨r, ev_bind h hr⟩
theorem tot_ite {α : Type} {c : Prop} [Decidable c] {f g : Nat → Option α} (hf : c → Tot f) (hg : ¬ c → Tot g) : Tot (fun k => if c then f k else g k) := by
  by_cases h : c
  · obtain ⟨r, hr⟩ := hf h
    exact ⟨r, Ev.congr (fun k => if_pos h) hr⟩
  · obtain ⟨r, hr⟩ := hg h
    exact ⟨r, Ev.congr (fun k => if_neg h) hr⟩
theorem tot_pos {α : Type} {c : Prop} [Decidable c] {f g : Nat → Option α} (h : c) (hf : Tot f) : Tot (fun k => if c then f k else g k) := tot_ite (fun _ => hf) (fun h' => absurd h h')
theorem tot_neg {α : Type} {c : Prop} [Decidable c] {f g : Nat → Option α} (h : ¬ c) (hg : Tot g) : Tot (fun k => if c then f k else g k) := tot_ite (fun h' => absurd h' h) (fun _ => hg)
abbrev Fit (s : ByteArray) : Prop := (s.size : Int) ≤ 9223372036854775807
theorem w1 {i n : Nat} (h : i < n) (hn : (n : Int) ≤ 9223372036854775807) : wrap64 ((i : Int) + 1) = ((i + 1 : Nat) : Int) := by unfold wrap64; omega
theorem extract_fit {s : ByteArray} (h : Fit s) (a b : Nat) : Fit (s.extract a b) := by
  unfold Fit
  rw [ByteArray.size_extract]
  omega
theorem digits_l0 (s : ByteArray) (hz : Fit s) : ∀ (d i : Nat), i + d = s.size → Tot (fun k => lockstitchref02_digits.l0 k s (i : Int)) := by
  intro d
  induction d with
  | zero =>
    intro i hi
    exact tot_step (fun k => lockstitchref02_digits.l0.eq_2 ..) (tot_neg (by omega) tot_const)
  | succ d ih =>
    intro i hi
    have ih := ih (i + 1) (by omega)
    refine tot_step (fun k => lockstitchref02_digits.l0.eq_2 ..) (tot_pos (by omega) (tot_pos (by omega) (tot_ite (fun _ => tot_const) fun _ => tot_ite (fun _ => tot_const) fun _ => ?_)))
    rw [w1 (n := s.size) (by omega) hz]
    exact ih
theorem digits_j2 (s : ByteArray) (hz : Fit s) (q : Bool) : Tot (fun k => lockstitchref02_digits.j2 k s q) :=
  tot_step (fun k => lockstitchref02_digits.j2.eq_2 ..) (tot_ite (fun _ => tot_const) fun _ => digits_l0 s hz s.size 0 (Nat.zero_add _))
theorem digits_j1 (s0 s : ByteArray) (hz : Fit s) : Tot (fun k => lockstitchref02_digits.j1 k s0 s) := by
  refine tot_step (fun k => lockstitchref02_digits.j1.eq_2 ..) (tot_ite (fun _ => digits_j2 s hz _) fun h => tot_pos ?_ (tot_ite (fun _ => tot_ite (fun _ => digits_j2 s hz _) fun _ => digits_j2 s hz _) fun _ => digits_j2 s hz _))
  have : s.size ≠ 0 := fun e => h ((toList_nil s).2 e)
  omega
theorem digits_j0 (s0 s : ByteArray) (h0 : Fit s0) (hz : Fit s) (q : Bool) (hq : q = true → 1 ≤ s0.size) : Tot (fun k => lockstitchref02_digits.j0 k s0 s q) :=
  tot_step (fun k => lockstitchref02_digits.j0.eq_2 ..) (tot_ite (fun h => tot_pos (by have := hq h; omega) (digits_j1 s0 _ (extract_fit h0 _ _))) fun _ => digits_j1 s0 s hz)
theorem digits_tot (s : ByteArray) (hz : Fit s) : Tot (fun k => lockstitchref02_digits.f k s) :=
  tot_ite (fun h => tot_pos (by omega) (digits_j0 s s hz hz _ fun _ => by omega)) fun _ => digits_j0 s s hz hz _ fun h => by cases h
theorem digits_nil (s : ByteArray) (h : s.size = 0) : Ev (fun k => lockstitchref02_digits.f k s) false := by
  refine Ev.congr (fun k => if_neg (by omega)) (ev_step (fun k => lockstitchref02_digits.j0.eq_2 ..) (Ev.congr (fun k => if_neg (by decide)) (ev_step (fun k => lockstitchref02_digits.j1.eq_2 ..) (Ev.congr (fun k => if_pos ((toList_nil s).2 h)) (ev_step (fun k => lockstitchref02_digits.j2.eq_2 ..) (Ev.congr (fun k => if_pos rfl) ev_const))))))
theorem number_j3 (a : Bool) (b : Int) (c : Bool) : Tot (fun k => lockstitchref02_Number.j3 k a b c) :=
  tot_step (fun k => lockstitchref02_Number.j3.eq_2 ..) (tot_ite (fun _ => tot_const) fun _ => tot_ite (fun _ => tot_const) fun _ => tot_const)
theorem number_j2 (s : ByteArray) (a : Bool) (b : Int) : Tot (fun k => lockstitchref02_Number.j2 k s a b) :=
  tot_step (fun k => lockstitchref02_Number.j2.eq_2 ..) (tot_ite (fun _ => number_j3 ..) fun _ => tot_ite (fun _ => number_j3 ..) fun _ => tot_ite (fun _ => number_j3 ..) fun _ => number_j3 ..)
theorem number_l0 (s : ByteArray) (hz : Fit s) (a : Bool) : ∀ (d i : Nat) (b : Int), i + d = s.size → Tot (fun k => lockstitchref02_Number.l0 k s a b (i : Int)) := by
  intro d
  induction d with
  | zero =>
    intro i b hi
    exact tot_step (fun k => lockstitchref02_Number.l0.eq_2 ..) (tot_neg (by omega) (number_j2 ..))
  | succ d ih =>
    intro i b hi
    refine tot_step (fun k => lockstitchref02_Number.l0.eq_2 ..) (tot_pos (by omega) (tot_ite (fun _ => tot_pos (by omega) ?_) fun _ => number_j2 ..))
    rw [w1 (n := s.size) (by omega) hz]
    exact ih (i + 1) _ (by omega)
theorem number_j0 (s : ByteArray) (hz : Fit s) (a : Bool) : Tot (fun k => lockstitchref02_Number.j0 k s a) :=
  tot_step (fun k => lockstitchref02_Number.j0.eq_2 ..) (number_l0 s hz a s.size 0 0 (Nat.zero_add _))
theorem number_tot (s : ByteArray) (hz : Fit s) : Tot (fun k => lockstitchref02_Number.f k s) := by
  by_cases h : s.size = 0
  · exact tot_bind1 (digits_nil s h) (tot_neg (by decide) tot_const)
  · exact tot_bind (digits_tot s hz) fun q => tot_ite (fun _ => tot_pos (by omega) (tot_ite (fun _ => tot_pos (by omega) (number_j0 _ (extract_fit hz _ _) _)) fun _ => number_j0 s hz _)) fun _ => tot_const
theorem shape_ok (a : Int) : ∃ n s, lockstitchref04_shape.f a = some (n, s) ∧ s.size ≤ 3 ∧ (n.toList = [] ∨ 1 ≤ a ∧ a ≤ 15) := by
  by_cases h : 1 ≤ a ∧ a ≤ 15
  · obtain rfl | rfl | rfl | rfl | rfl | rfl | rfl | rfl | rfl | rfl | rfl | rfl | rfl | rfl | rfl : a = 1 ∨ a = 2 ∨ a = 3 ∨ a = 4 ∨ a = 5 ∨ a = 6 ∨ a = 7 ∨ a = 8 ∨ a = 9 ∨ a = 10 ∨ a = 11 ∨ a = 12 ∨ a = 13 ∨ a = 14 ∨ a = 15 := by omega
    all_goals exact ⟨_, _, rfl, by decide, .inr (by decide)⟩
  · refine ⟨⟨#[]⟩, ⟨#[]⟩, ?_, by decide, .inl ((toList_nil _).2 rfl)⟩
    unfold lockstitchref04_shape.f lockstitchref04_rest.f
    repeat rw [if_neg (by omega)]
    rfl
theorem with_j0 (a b : Int) (q : Bool) (x0 x1 x2 x3 x4 : Int) : Tot (fun k => lockstitchref04_with.j0 k a b q x0 x1 x2 x3 x4) :=
  tot_step (fun k => lockstitchref04_with.j0.eq_2 ..) (tot_ite (fun _ => tot_const) fun _ => tot_ite (fun _ => tot_const) fun _ => tot_ite (fun _ => tot_const) fun _ => tot_const)
theorem with_tot (x0 x1 x2 x3 x4 a b : Int) : Tot (fun k => lockstitchref04_with.f k x0 x1 x2 x3 x4 a b) :=
  tot_ite (fun _ => tot_const) fun _ => tot_ite (fun _ => with_j0 ..) fun _ => with_j0 ..
theorem read_l1 (l : List ByteArray) (hl : ∀ s ∈ l, Fit s) (s : ByteArray) (h3 : s.size ≤ 3) (hn : l.length = s.size + 1) :
    ∀ (d i : Nat) (x0 x1 x2 x3 x4 : Int), i + d = s.size → Tot (fun k => lockstitchref04_read.l1 k l s (i : Int) x0 x1 x2 x3 x4) := by
  intro d
  induction d with
  | zero =>
    intro i x0 x1 x2 x3 x4 hi
    exact tot_step (fun k => lockstitchref04_read.l1.eq_2 ..) (tot_neg (by omega) tot_const)
  | succ d ih =>
    intro i x0 x1 x2 x3 x4 hi
    refine tot_step (fun k => lockstitchref04_read.l1.eq_2 ..) (tot_pos (by omega) ?_)
    rw [w1 (n := s.size) (by omega) (by omega)]
    refine tot_pos (by omega) (tot_pos (by omega) (tot_bind (number_tot _ (rd_size l hl _)) fun n => tot_pos (by omega) (tot_bind (with_tot ..) fun r => tot_ite (fun _ => tot_ite (fun _ => ?_) fun _ => tot_const) fun _ => tot_const)))
    exact ih (i + 1) _ _ _ _ _ (by omega)
theorem read_l0 (l : List ByteArray) (hl : ∀ s ∈ l, Fit s) (h1 : 0 < l.length) (hm : (l.length : Int) ≤ 9223372036854775807) : ∀ (d i : Nat), i + d = 16 → Tot (fun k => lockstitchref04_read.l0 k l (i : Int)) := by
  intro d
  induction d with
  | zero =>
    intro i hi
    exact tot_step (fun k => lockstitchref04_read.l0.eq_2 ..) (tot_neg (by omega) tot_const)
  | succ d ih =>
    intro i hi
    have ih := ih (i + 1) (by omega)
    obtain ⟨n, s, e, h3, _⟩ := shape_ok i
    have J : ∀ q : Bool, (q = false → l.length = s.size + 1) → Tot (fun k => lockstitchref04_read.j1 k l (i : Int) s q) := by
      intro q hq
      refine tot_step (fun k => lockstitchref04_read.j1.eq_2 ..) (tot_ite (fun _ => ?_) fun h => ?_)
      · rw [show ((i : Int) + 1) % 256 = ((i + 1 : Nat) : Int) by omega]
        exact ih
      · exact read_l1 l hl s h3 (hq (by simpa using h)) s.size 0 _ _ _ _ _ (Nat.zero_add _)
    refine tot_step (fun k => lockstitchref04_read.l0.eq_2 ..) (tot_pos (by omega) (tot_bind1 (ev_all fun _ => e) (tot_pos (by omega) (tot_ite (fun _ => J _ fun h => ?_) fun _ => J _ fun h => by cases h))))
    have h' : (l.length : Int) = wrap64 ((s.size : Int) + 1) := bne_eq_false_iff_eq.1 h
    have : wrap64 ((s.size : Int) + 1) = (s.size : Int) + 1 := by unfold wrap64; omega
    omega
theorem read_tot (l : List ByteArray) (hl : ∀ s ∈ l, Fit s) (h1 : 0 < l.length) (hm : (l.length : Int) ≤ 9223372036854775807) : Tot (fun k => lockstitchref04_read.f k l) := read_l0 l hl h1 hm 15 1 rfl
def WfI (x0 x1 x2 x3 x4 : Int) : Prop := (0 ≤ x0 ∧ x0 ≤ 255) ∧ (0 ≤ x1 ∧ x1 ≤ 255) ∧ (0 ≤ x2 ∧ x2 ≤ 255) ∧ (0 ≤ x3 ∧ x3 ≤ 255) ∧ -9223372036854775808 ≤ x4 ∧ x4 ≤ 9223372036854775807
theorem part_ok {x0 x1 x2 x3 x4 : Int} (h : WfI x0 x1 x2 x3 x4) (c : Int) : ∃ r, lockstitchref04_part.f x0 x1 x2 x3 x4 c = some r ∧ -9223372036854775808 ≤ r ∧ r ≤ 9223372036854775807 := by
  obtain ⟨_, h1, h2, h3, h4⟩ := h
  unfold lockstitchref04_part.f
  repeat' split
  · exact ⟨_, rfl, by unfold wrap64; omega, by unfold wrap64; omega⟩
  · exact ⟨_, rfl, by unfold wrap64; omega, by unfold wrap64; omega⟩
  · exact ⟨_, rfl, by unfold wrap64; omega, by unfold wrap64; omega⟩
  · exact ⟨_, rfl, h4.1, h4.2⟩
theorem num_fit (n : Int) (h0 : -9223372036854775808 ≤ n) (h1 : n ≤ 9223372036854775807) : Fit (num n) := by
  have := Lib.itoa_length_le n h0 h1
  have e : (num n).size = (Lib.itoa n).length := by simp [num, ByteArray.size]
  unfold Fit
  omega
section
variable {x0 x1 x2 x3 x4 : Int} (hw : WfI x0 x1 x2 x3 x4)
include hw
theorem line_l0 (s : ByteArray) (h3 : s.size ≤ 3) : ∀ (d i : Nat) (acc : List ByteArray), i + d = s.size → acc.length = i + 1 → (∀ x ∈ acc, Fit x) →
    ∃ l, Ev (fun k => lockstitchref04_line.l0 k s acc (i : Int) x0 x1 x2 x3 x4) l ∧ l.length = s.size + 1 ∧ ∀ x ∈ l, Fit x := by
  intro d
  induction d with
  | zero =>
    intro i acc hi ha hf
    exact ⟨acc, ev_step (fun k => lockstitchref04_line.l0.eq_2 ..) (Ev.congr (fun k => if_neg (by omega)) ev_const), by omega, hf⟩
  | succ d ih =>
    intro i acc hi ha hf
    obtain ⟨n, hn, a, b⟩ := part_ok hw (bt s i)
    obtain ⟨l, h1, h2⟩ := ih (i + 1) (acc ++ [num n]) (by omega) (by simp [ha]) (fun x hx => by
      rcases List.mem_append.1 hx with h | h
      · exact hf x h
      · rw [List.mem_singleton] at h
        subst h
        exact num_fit n a b)
    refine ⟨l, ev_step (fun k => lockstitchref04_line.l0.eq_2 ..) (Ev.congr (fun k => if_pos (by omega)) (Ev.congr (fun k => if_pos (by omega)) (ev_bind (ev_all fun _ => hn) (ev_bind (ev_all fun _ => if_pos ⟨rfl, a, b⟩) (Ev.congr (fun k => if_pos (by omega)) ?_))))), h2⟩
    rw [w1 (n := s.size) (by omega) (by omega)]
    exact h1
theorem line_tot : ∃ l, Ev (fun k => lockstitchref04_line.f k x0 x1 x2 x3 x4) l ∧ 1 ≤ l.length ∧ l.length ≤ 4 ∧ ∀ x ∈ l, Fit x := by
  obtain ⟨n, s, e, h3, hn⟩ := shape_ok x0
  have hnf : Fit n := by
    rcases hn with h | h
    · have := (toList_nil n).1 h
      unfold Fit
      omega
    · obtain ⟨h1, h2⟩ := h
      obtain rfl | rfl | rfl | rfl | rfl | rfl | rfl | rfl | rfl | rfl | rfl | rfl | rfl | rfl | rfl : x0 = 1 ∨ x0 = 2 ∨ x0 = 3 ∨ x0 = 4 ∨ x0 = 5 ∨ x0 = 6 ∨ x0 = 7 ∨ x0 = 8 ∨ x0 = 9 ∨ x0 = 10 ∨ x0 = 11 ∨ x0 = 12 ∨ x0 = 13 ∨ x0 = 14 ∨ x0 = 15 := by omega
      all_goals
        have e1 := congrArg Prod.fst (Option.some.inj e)
        simp only at e1
        rw [← e1]
        decide
  obtain ⟨l, h1, h2, h4⟩ := line_l0 hw s h3 s.size 0 [n] (Nat.zero_add _) rfl (fun x hx => by rw [List.mem_singleton] at hx; subst hx; exact hnf)
  exact ⟨l, ev_bind (ev_all fun _ => e) h1, by omega, by omega, h4⟩
theorem right_tot : ∃ b, Ev (fun k => lockstitchref04_Right.f k x0 x1 x2 x3 x4) b ∧ (b = true → 1 ≤ x0 ∧ x0 ≤ 15) := by
  obtain ⟨n, s, e, h3, hn⟩ := shape_ok x0
  by_cases h : n.toList = []
  · exact ⟨false, ev_bind (ev_all fun _ => e) (Ev.congr (fun k => if_pos h) ev_const), fun h => by cases h⟩
  · obtain ⟨l, h1, h2, h4, hf⟩ := line_tot hw
    obtain ⟨r, hr⟩ := read_tot l hf (by omega) (by omega)
    have hop := hn.resolve_left h
    by_cases hb : r.2.2.2.2.2 = true
    · exact ⟨_, ev_bind (ev_all fun _ => e) (Ev.congr (fun k => if_neg h) (ev_bind h1 (ev_bind hr (Ev.congr (fun k => if_pos hb) ev_const)))), fun _ => hop⟩
    · exact ⟨_, ev_bind (ev_all fun _ => e) (Ev.congr (fun k => if_neg h) (ev_bind h1 (ev_bind hr (Ev.congr (fun k => if_neg hb) ev_const)))), fun _ => hop⟩
omit hw in
theorem ints_tot (x0 x1 x2 x3 x4 : Int) : Tot (fun k => lockstitchref05_ints.f k x0 x1 x2 x3 x4) := by
  have J : ∀ (q : Bool) (a y0 y1 y2 y3 y4 : Int), Tot (fun k => lockstitchref05_ints.j0 k a q y0 y1 y2 y3 y4) := fun q a y0 y1 y2 y3 y4 =>
    tot_step (fun k => lockstitchref05_ints.j0.eq_2 ..) (tot_ite (fun _ => tot_const) fun _ => tot_ite (fun _ => tot_ite (fun _ => tot_ite (fun _ => tot_const) fun _ => tot_const) fun _ => tot_const) fun _ => tot_ite (fun _ => tot_const) fun _ => tot_const)
  exact tot_ite (fun _ => J ..) fun _ => tot_ite (fun _ => J ..) fun _ => tot_ite (fun _ => J ..) fun _ => tot_ite (fun _ => J ..) fun _ => J ..
end
section
variable (ts : List ByteArray) (hl : (ts.length : Int) ≤ 9223372036854775807) (hs : ∀ s ∈ ts, (s.size : Int) ≤ 9223372036854775807) (la gl : ByteArray) (hla : Fit la) (hgl : Fit gl) (code : List S47)
include hl hs
theorem at_ok (s : ByteArray) (hz : Fit s) (a : Int) (h0 : 0 ≤ a) (h255 : a ≤ 255) : ∃ r, Ev (fun k => lockstitchref05_at.f k ts s a) r ∧ (0 ≤ r → a < s.size) := by
  have e : wrap64 a = a := by unfold wrap64; omega
  have e1 : wrap64 (a + 1) = a + 1 := by unfold wrap64; omega
  unfold lockstitchref05_at.f
  simp only [e, e1]
  by_cases h : a ≥ (s.size : Int)
  · exact ⟨-1, Ev.congr (fun k => if_pos h) ev_const, by omega⟩
  · have hr := ref_Refs_ev ts (s.extract a.toNat (a + 1).toNat) hl hs (extract_fit hz _ _)
    cases hb : refs ts (s.extract a.toNat (a + 1).toNat) with
    | false =>
      rw [hb] at hr
      exact ⟨-1, Ev.congr (fun k => if_neg h) (Ev.congr (fun k => if_pos h0) (Ev.congr (fun k => if_pos (by omega)) (Ev.congr (fun k => if_pos (by omega)) (ev_bind hr (Ev.congr (fun k => if_neg (by decide)) ev_const))))), by omega⟩
    | true =>
      rw [hb] at hr
      exact ⟨_, Ev.congr (fun k => if_neg h) (Ev.congr (fun k => if_pos h0) (Ev.congr (fun k => if_pos (by omega)) (Ev.congr (fun k => if_pos (by omega)) (ev_bind hr (Ev.congr (fun k => if_pos rfl) (Ev.congr (fun k => if_pos h0) (Ev.congr (fun k => if_pos (by omega)) ev_const))))))), fun _ => by omega⟩
include hla hgl
omit hgl in
theorem local_ok (a : Int) (h0 : 0 ≤ a) (h255 : a ≤ 255) : ∃ r, Ev (fun k => lockstitchref05_Local.f k ts la gl code a) r ∧ (0 ≤ r → a < la.size) := by
  obtain ⟨r, h1, h2⟩ := at_ok ts hl hs la hla a h0 h255
  exact ⟨r, ev_bind h1 ev_const, h2⟩
omit hla in
theorem glob_ok (a : Int) (h0 : 0 ≤ a) (h255 : a ≤ 255) : ∃ r, Ev (fun k => lockstitchref05_Glob.f k ts la gl code a) r ∧ (0 ≤ r → a < gl.size) := by
  obtain ⟨r, h1, h2⟩ := at_ok ts hl hs gl hgl a h0 h255
  exact ⟨r, ev_bind h1 ev_const, h2⟩
omit hla hgl in
theorem number_ok (t n : Int) : Tot (fun k => lockstitchref05_number.f k ts la gl code t n) :=
  tot_ite (fun _ => tot_const) fun _ => tot_bind (tot_ev (ref_Size_ev ts hl hs t)) fun a => tot_ite (fun _ => tot_const) fun _ => tot_bind (tot_ev (ref_To_ev ts hl hs t n)) fun _ => tot_const
omit hla hgl in
theorem to_ok (t n : Int) : Tot (fun k => lockstitchref05_to.f k ts la gl code t n) :=
  tot_ite (fun _ => tot_const) fun _ => tot_ite (fun _ => tot_const) fun _ => tot_bind (tot_ev (ref_To_ev ts hl hs t n)) fun _ => tot_const
omit hl hs hla hgl in
theorem one_ok (a b : Int) : ∀ _k : Nat, ∃ r, lockstitchref05_one.f a b = some r ∧ (r = true → 0 ≤ a ∧ 0 ≤ b) := by
  intro _
  unfold lockstitchref05_one.f
  by_cases h : a ≥ 0
  · rw [if_pos h]
    exact ⟨_, rfl, fun e => by have := beq_iff_eq.1 e; omega⟩
  · rw [if_neg h]
    exact ⟨_, rfl, fun e => by cases e⟩
theorem kinds_tot {x0 x1 x2 x3 x4 : Int} (hw : WfI x0 x1 x2 x3 x4) : Tot (fun k => lockstitchref05_kinds.f k ts la gl code x0 x1 x2 x3 x4) := by
  obtain ⟨a, ha, _⟩ := local_ok ts hl hs la gl hla code x1 hw.2.1.1 hw.2.1.2
  obtain ⟨b, hb, _⟩ := local_ok ts hl hs la gl hla code x2 hw.2.2.1.1 hw.2.2.1.2
  obtain ⟨c, hc, _⟩ := local_ok ts hl hs la gl hla code x3 hw.2.2.2.1.1 hw.2.2.2.1.2
  obtain ⟨ga, hga, _⟩ := glob_ok ts hl hs la gl hgl code x1 hw.2.1.1 hw.2.1.2
  obtain ⟨gb, hgb, _⟩ := glob_ok ts hl hs la gl hgl code x2 hw.2.2.1.1 hw.2.2.1.2
  have one : ∀ p q : Int, Tot (fun _ => (lockstitchref05_one.f p q).bind fun t => some t) := fun p q => by
    obtain ⟨r, e, _⟩ := one_ok p q 0
    exact tot_bind1 (ev_all fun _ => e) tot_const
  have J : ∀ q : Bool, Tot (fun k => lockstitchref05_kinds.j0 k a b x0 q ts la gl code x0 x1 x2 x3 x4) := fun q =>
    tot_step (fun k => lockstitchref05_kinds.j0.eq_2 ..) (tot_ite (fun _ => tot_const) fun _ => tot_ite (fun _ => one _ _) fun _ => tot_ite (fun _ => tot_bind1 hc (one _ _)) fun _ =>
      tot_ite (fun _ => tot_ite (fun _ => tot_bind (number_ok ts hl hs la gl code _ _) fun _ => tot_const) fun _ => tot_const) fun _ => tot_ite (fun _ => tot_ite (fun _ => tot_bind (number_ok ts hl hs la gl code _ _) fun _ => tot_const) fun _ => tot_const) fun _ =>
      tot_ite (fun _ => tot_ite (fun _ => tot_bind (to_ok ts hl hs la gl code _ _) fun _ => one _ _) fun _ => tot_const) fun _ => tot_ite (fun _ => tot_ite (fun _ => tot_bind (to_ok ts hl hs la gl code _ _) fun _ => one _ _) fun _ => tot_const) fun _ =>
      tot_ite (fun _ => tot_bind1 hgb (one _ _)) fun _ => tot_ite (fun _ => tot_bind1 hga (one _ _)) fun _ => tot_const)
  exact tot_bind1 ha (tot_bind1 hb (tot_ite (fun _ => J _) fun _ => J _))
end
end Go.Proofs.YtkplgfhkebkaaaaDoor.TT

namespace Go.Proofs.YtkplgfhkebkaaaaDoor.TT
open Go.RowKit Go.Proofs.YtkplgfhkebkaaaaDoorW.PrintWords Go.Proofs.YtkplgfhkebkaaaaDoor.Scan Go.Proofs.YtkplgfhkebkaaaaDoor.F Go.Proofs.YtkplgfhkebkaaaaDoor.KP Go.Proofs.YtkplgfhkebkaaaaDoor.FM Go.Proofs.YtkplgfhkebkaaaaDoor.H
structure PI (ts : List ByteArray) (la gl : ByteArray) (code : List S47) (j : Nat) : Prop where
  jump : (rd_T47 code j).f0 = 3 ∨ (rd_T47 code j).f0 = 4 → 0 ≤ (rd_T47 code j).f4 ∧ (rd_T47 code j).f4 ≤ code.length
  op : 1 ≤ (rd_T47 code j).f0 ∧ (rd_T47 code j).f0 ≤ 15
  ints : Ev (fun k => lockstitchref05_ints.f k (rd_T47 code j).f0 (rd_T47 code j).f1 (rd_T47 code j).f2 (rd_T47 code j).f3 (rd_T47 code j).f4) true
  kinds : Ev (fun k => lockstitchref05_kinds.f k ts la gl code (rd_T47 code j).f0 (rd_T47 code j).f1 (rd_T47 code j).f2 (rd_T47 code j).f3 (rd_T47 code j).f4) true
structure SP (ts : List ByteArray) (la gl : ByteArray) (code : List S47) : Prop where
  pos : 1 ≤ code.length
  small : code.length ≤ 60
  locals : la.size ≤ 8
  globals : gl.size ≤ 4
  all : ∀ j, j < code.length → PI ts la gl code j
def WfC (code : List S47) : Prop := ∀ x ∈ code, WfI x.f0 x.f1 x.f2 x.f3 x.f4
theorem WfC.rd {code : List S47} (h : WfC code) (i : Nat) (hi : i < code.length) : WfI (rd_T47 code i).f0 (rd_T47 code i).f1 (rd_T47 code i).f2 (rd_T47 code i).f3 (rd_T47 code i).f4 := by
  have e : rd_T47 code i = code[i] := by
    unfold rd_T47
    rw [Int.toNat_natCast, List.getD_eq_getElem?_getD, List.getElem?_eq_getElem hi]
    rfl
  rw [e]
  exact h _ (List.getElem_mem hi)
section
variable (ts : List ByteArray) (hl : (ts.length : Int) ≤ 9223372036854775807) (hs : ∀ s ∈ ts, (s.size : Int) ≤ 9223372036854775807) (la gl : ByteArray) (hla : Fit la) (hgl : Fit gl) (code : List S47) (hc : (code.length : Int) ≤ 9223372036854775807) (hw : WfC code)
include hl hs hla hgl hc hw
theorem check_l0 : ∀ (d i : Nat), i + d = code.length → (∀ j, j < i → PI ts la gl code j) →
    ∃ r : Int × Int, Ev (fun k => lockstitchref05_Check.l0 k (i : Int) ts la gl code) r ∧ (r.2 = 0 → ∀ j, j < code.length → PI ts la gl code j) := by
  intro d
  induction d with
  | zero =>
    intro i hi h
    exact ⟨_, ev_step (fun k => lockstitchref05_Check.l0.eq_2 ..) (Ev.congr (fun k => if_neg (by omega)) ev_const), fun _ j hj => h j (by omega)⟩
  | succ d ih =>
    intro i hi h
    have hx := hw.rd i (by omega)
    obtain ⟨b, hb, hop⟩ := right_tot hx
    obtain ⟨q, hq⟩ := ints_tot (rd_T47 code i).f0 (rd_T47 code i).f1 (rd_T47 code i).f2 (rd_T47 code i).f3 (rd_T47 code i).f4
    obtain ⟨z, hz⟩ := kinds_tot ts hl hs la gl hla hgl code hx
    have J4 : ∀ p : Bool, b = true → (p = false → (rd_T47 code i).f0 = 3 ∨ (rd_T47 code i).f0 = 4 → 0 ≤ (rd_T47 code i).f4 ∧ (rd_T47 code i).f4 ≤ code.length) →
        ∃ r : Int × Int, Ev (fun k => lockstitchref05_Check.j4 k (i : Int) p ts la gl code (rd_T47 code i).f0 (rd_T47 code i).f1 (rd_T47 code i).f2 (rd_T47 code i).f3 (rd_T47 code i).f4) r ∧ (r.2 = 0 → ∀ j, j < code.length → PI ts la gl code j) := by
      intro p hbt hp
      cases p with
      | true => exact ⟨_, ev_step (fun k => lockstitchref05_Check.j4.eq_2 ..) (Ev.congr (fun k => if_pos rfl) ev_const), fun e => by simp at e⟩
      | false =>
        cases q with
        | false => exact ⟨_, ev_step (fun k => lockstitchref05_Check.j4.eq_2 ..) (Ev.congr (fun k => if_neg (by decide)) (ev_bind hq (Ev.congr (fun k => if_neg (by decide)) ev_const))), fun e => by simp at e⟩
        | true =>
          cases z with
          | false => exact ⟨_, ev_step (fun k => lockstitchref05_Check.j4.eq_2 ..) (Ev.congr (fun k => if_neg (by decide)) (ev_bind hq (Ev.congr (fun k => if_pos rfl) (ev_bind hz (Ev.congr (fun k => if_neg (by decide)) ev_const))))), fun e => by simp at e⟩
          | true =>
            obtain ⟨r, h1, h2⟩ := ih (i + 1) (by omega) (fun j hj => by
              rcases Nat.lt_succ_iff_lt_or_eq.1 hj with hlt | rfl
              · exact h j hlt
              · exact ⟨hp rfl, hop hbt, hq, hz⟩)
            refine ⟨r, ev_step (fun k => lockstitchref05_Check.j4.eq_2 ..) (Ev.congr (fun k => if_neg (by decide)) (ev_bind hq (Ev.congr (fun k => if_pos rfl) (ev_bind hz (Ev.congr (fun k => if_pos rfl) ?_))))), h2⟩
            rw [w1 (n := code.length) (by omega) hc]
            exact h1
    have J3 : ∀ p : Bool, (p = false → ¬ ((rd_T47 code i).f0 = 3 ∨ (rd_T47 code i).f0 = 4)) →
        ∃ r : Int × Int, Ev (fun k => lockstitchref05_Check.j3 k (i : Int) p ts la gl code (rd_T47 code i).f0 (rd_T47 code i).f1 (rd_T47 code i).f2 (rd_T47 code i).f3 (rd_T47 code i).f4) r ∧ (r.2 = 0 → ∀ j, j < code.length → PI ts la gl code j) := by
      intro p hp
      cases b with
      | false => exact ⟨_, ev_step (fun k => lockstitchref05_Check.j3.eq_2 ..) (ev_bind hb (Ev.congr (fun k => if_neg (by decide)) ev_const)), fun e => by simp at e⟩
      | true =>
        cases p with
        | false =>
          obtain ⟨r, h1, h2⟩ := J4 false rfl (fun _ e => absurd e (hp rfl))
          exact ⟨r, ev_step (fun k => lockstitchref05_Check.j3.eq_2 ..) (ev_bind hb (Ev.congr (fun k => if_pos rfl) (Ev.congr (fun k => if_neg (by decide)) h1))), h2⟩
        | true =>
          by_cases h0 : (rd_T47 code i).f4 < 0
          · obtain ⟨r, h1, h2⟩ := J4 true rfl (fun e => by cases e)
            exact ⟨r, ev_step (fun k => lockstitchref05_Check.j3.eq_2 ..) (ev_bind hb (Ev.congr (fun k => if_pos rfl) (Ev.congr (fun k => if_pos rfl) (Ev.congr (fun k => if_pos h0) h1)))), h2⟩
          · obtain ⟨r, h1, h2⟩ := J4 (decide ((rd_T47 code i).f4 > (code.length : Int))) rfl (fun e _ => by have := of_decide_eq_false e; omega)
            exact ⟨r, ev_step (fun k => lockstitchref05_Check.j3.eq_2 ..) (ev_bind hb (Ev.congr (fun k => if_pos rfl) (Ev.congr (fun k => if_pos rfl) (Ev.congr (fun k => if_neg h0) h1)))), h2⟩
    by_cases h3 : (rd_T47 code i).f0 = 3
    · obtain ⟨r, h1, h2⟩ := J3 true (fun e => by cases e)
      exact ⟨r, ev_step (fun k => lockstitchref05_Check.l0.eq_2 ..) (Ev.congr (fun k => if_pos (by omega)) (Ev.congr (fun k => if_pos (by omega)) (Ev.congr (fun k => if_pos h3) h1))), h2⟩
    · obtain ⟨r, h1, h2⟩ := J3 ((rd_T47 code i).f0 == 4) (fun e h => by have := beq_eq_false_iff_ne.1 e; omega)
      exact ⟨r, ev_step (fun k => lockstitchref05_Check.l0.eq_2 ..) (Ev.congr (fun k => if_pos (by omega)) (Ev.congr (fun k => if_pos (by omega)) (Ev.congr (fun k => if_neg h3) h1))), h2⟩
theorem check_tot : ∃ r : Int × Int, Ev (fun k => lockstitchref05_Check.f k ts la gl code) r ∧ (r.2 = 0 → 1 ≤ code.length ∧ la.size ≤ 8 ∧ gl.size ≤ 4 ∧ ∀ j, j < code.length → PI ts la gl code j) := by
  obtain ⟨r0, hr0, hp0⟩ := check_l0 ts hl hs la gl hla hgl code hc hw code.length 0 (Nat.zero_add _) (fun j hj => by omega)
  have J1 : ∀ q : Bool, (q = false → 1 ≤ code.length) → ∃ r : Int × Int, Ev (fun k => lockstitchref05_Check.j1 k q ts la gl code) r ∧ (r.2 = 0 → 1 ≤ code.length ∧ ∀ j, j < code.length → PI ts la gl code j) := by
    intro q hq
    cases q with
    | true => exact ⟨_, ev_step (fun k => lockstitchref05_Check.j1.eq_2 ..) (Ev.congr (fun k => if_pos rfl) ev_const), fun e => by simp at e⟩
    | false => exact ⟨r0, ev_step (fun k => lockstitchref05_Check.j1.eq_2 ..) (Ev.congr (fun k => if_neg (by decide)) hr0), fun e => ⟨hq rfl, hp0 e⟩⟩
  have J0 : ∀ q : Bool, (q = false → la.size ≤ 8 ∧ gl.size ≤ 4) → ∃ r : Int × Int, Ev (fun k => lockstitchref05_Check.j0 k q ts la gl code) r ∧ (r.2 = 0 → 1 ≤ code.length ∧ la.size ≤ 8 ∧ gl.size ≤ 4 ∧ ∀ j, j < code.length → PI ts la gl code j) := by
    intro q hq
    cases q with
    | true => exact ⟨_, ev_step (fun k => lockstitchref05_Check.j0.eq_2 ..) (Ev.congr (fun k => if_pos rfl) ev_const), fun e => by simp at e⟩
    | false =>
      by_cases h : (code.length : Int) < 1
      · obtain ⟨r, h1, h2⟩ := J1 true (fun e => by cases e)
        exact ⟨r, ev_step (fun k => lockstitchref05_Check.j0.eq_2 ..) (Ev.congr (fun k => if_neg (by decide)) (Ev.congr (fun k => if_pos h) h1)), fun e => ⟨(h2 e).1, (hq rfl).1, (hq rfl).2, (h2 e).2⟩⟩
      · obtain ⟨r, h1, h2⟩ := J1 (decide ((code.length : Int) > 200)) (fun _ => by omega)
        exact ⟨r, ev_step (fun k => lockstitchref05_Check.j0.eq_2 ..) (Ev.congr (fun k => if_neg (by decide)) (Ev.congr (fun k => if_neg h) h1)), fun e => ⟨(h2 e).1, (hq rfl).1, (hq rfl).2, (h2 e).2⟩⟩
  have r1 := ref_Refs_ev ts la hl hs hla
  have r2 := ref_Refs_ev ts gl hl hs hgl
  obtain ⟨rt, ht, hpt⟩ := J0 true (fun e => by cases e)
  cases hb1 : refs ts la with
  | false =>
    rw [hb1] at r1
    exact ⟨rt, ev_bind r1 (Ev.congr (fun k => if_neg (by decide)) ht), hpt⟩
  | true =>
    rw [hb1] at r1
    cases hb2 : refs ts gl with
    | false =>
      rw [hb2] at r2
      exact ⟨rt, ev_bind r1 (Ev.congr (fun k => if_pos rfl) (ev_bind r2 (Ev.congr (fun k => if_neg (by decide)) ht))), hpt⟩
    | true =>
      rw [hb2] at r2
      by_cases h8 : (la.size : Int) > 8
      · exact ⟨rt, ev_bind r1 (Ev.congr (fun k => if_pos rfl) (ev_bind r2 (Ev.congr (fun k => if_pos rfl) (Ev.congr (fun k => if_pos h8) ht)))), hpt⟩
      · obtain ⟨r, h1, h2⟩ := J0 (decide ((gl.size : Int) > 4)) (fun e => by have := of_decide_eq_false e; omega)
        exact ⟨r, ev_bind r1 (Ev.congr (fun k => if_pos rfl) (ev_bind r2 (Ev.congr (fun k => if_pos rfl) (Ev.congr (fun k => if_neg h8) h1)))), h2⟩
omit hs hla hgl hc hw in
theorem few_l0 : ∀ (d i : Nat) (a : Int), i + d = ts.length → Tot (fun k => lockstitchlaw04_Few.l0 k a ts (ts.length : Int) (i : Int) ts la gl code) := by
  intro d
  induction d with
  | zero =>
    intro i a hi
    exact tot_step (fun k => lockstitchlaw04_Few.l0.eq_2 ..) (tot_neg (by omega) (tot_ite (fun _ => tot_const) fun _ => tot_const))
  | succ d ih =>
    intro i a hi
    refine tot_step (fun k => lockstitchlaw04_Few.l0.eq_2 ..) (tot_pos (by omega) (tot_pos (by omega) (tot_pos (by omega) ?_)))
    rw [show wrap64 ((i : Int) + 1) = ((i + 1 : Nat) : Int) from w1 (n := ts.length) (by omega) hl]
    exact ih (i + 1) _ (by omega)
end
end Go.Proofs.YtkplgfhkebkaaaaDoor.TT

namespace Go.Proofs.YtkplgfhkebkaaaaDoor.TT
open Go.RowKit Go.Proofs.YtkplgfhkebkaaaaDoorW.PrintWords Go.Proofs.YtkplgfhkebkaaaaDoor.Scan Go.Proofs.YtkplgfhkebkaaaaDoor.F Go.Proofs.YtkplgfhkebkaaaaDoor.KP Go.Proofs.YtkplgfhkebkaaaaDoor.FM Go.Proofs.YtkplgfhkebkaaaaDoor.H
structure KF (la : ByteArray) (x0 x1 x2 x3 : Int) : Prop where
  a : x0 = 5 ∨ x0 = 6 ∨ x0 = 7 ∨ x0 = 9 ∨ x0 = 10 ∨ x0 = 11 ∨ x0 = 12 → x1 < la.size
  b : x0 = 7 ∨ x0 = 8 ∨ x0 = 10 ∨ x0 = 11 ∨ x0 = 13 ∨ x0 = 15 → x2 < la.size
  c : x0 = 15 → x3 < la.size
theorem one_true {p q : Int} (h : lockstitchref05_one.f p q = some true) : 0 ≤ p ∧ 0 ≤ q := by
  obtain ⟨r, e, hr⟩ := one_ok p q 0
  rw [e] at h
  exact hr (Option.some.inj h)
section
variable (ts : List ByteArray) (hl : (ts.length : Int) ≤ 9223372036854775807) (hs : ∀ s ∈ ts, (s.size : Int) ≤ 9223372036854775807) (la gl : ByteArray) (hla : Fit la) (code : List S47)
include hl hs hla
theorem kinds_kf {x0 x1 x2 x3 x4 : Int} (hw : WfI x0 x1 x2 x3 x4) (h : Ev (fun k => lockstitchref05_kinds.f k ts la gl code x0 x1 x2 x3 x4) true) : KF la x0 x1 x2 x3 := by
  obtain ⟨a, ⟨Ka, hKa⟩, ha⟩ := local_ok ts hl hs la gl hla code x1 hw.2.1.1 hw.2.1.2
  obtain ⟨b, ⟨Kb, hKb⟩, hb⟩ := local_ok ts hl hs la gl hla code x2 hw.2.2.1.1 hw.2.2.1.2
  obtain ⟨c, ⟨Kc, hKc⟩, hc⟩ := local_ok ts hl hs la gl hla code x3 hw.2.2.2.1.1 hw.2.2.2.1.2
  obtain ⟨K, hK⟩ := h
  obtain ⟨k, hk⟩ : ∃ k, k = K + Ka + Kb + Kc := ⟨_, rfl⟩
  have e : lockstitchref05_kinds.f (k + 1) ts la gl code x0 x1 x2 x3 x4 = some true := hK (k + 1) (by omega)
  have e1 : lockstitchref05_Local.f (k + 1) ts la gl code x1 = some a := hKa (k + 1) (by omega)
  have e2 : lockstitchref05_Local.f (k + 1) ts la gl code x2 = some b := hKb (k + 1) (by omega)
  have e3 : lockstitchref05_Local.f k ts la gl code x3 = some c := hKc k (by omega)
  unfold lockstitchref05_kinds.f at e
  rw [e1] at e
  simp only [Option.bind_some] at e
  rw [e2] at e
  simp only [Option.bind_some] at e
  have e' : ∃ q, (q = true ↔ x0 = 5 ∨ x0 = 6) ∧ lockstitchref05_kinds.j0 (k + 1) a b x0 q ts la gl code x0 x1 x2 x3 x4 = some true := by
    by_cases h5 : x0 = 5
    · rw [if_pos h5] at e
      exact ⟨_, by simp [h5], e⟩
    · rw [if_neg h5] at e
      exact ⟨_, by simp [h5], e⟩
  obtain ⟨q, hq, e⟩ := e'
  rw [lockstitchref05_kinds.j0.eq_2, e3] at e
  by_cases h5 : q = true
  · rw [if_pos h5] at e
    have h0 : 0 ≤ a := of_decide_eq_true (Option.some.inj e)
    have := hq.1 h5
    exact ⟨fun _ => ha h0, fun h => by omega, fun h => by omega⟩
  · rw [if_neg h5] at e
    have hn : ¬ (x0 = 5 ∨ x0 = 6) := fun h => h5 (hq.2 h)
    have fin : (x0 = 7 ∨ x0 = 9 ∨ x0 = 10 ∨ x0 = 11 ∨ x0 = 12 → 0 ≤ a) ∧ (x0 = 7 ∨ x0 = 8 ∨ x0 = 10 ∨ x0 = 11 ∨ x0 = 13 ∨ x0 = 15 → 0 ≤ b) ∧ (x0 = 15 → 0 ≤ c) := by
      clear hq hn h5 hK hKa hKb hKc e1 e2 e3
      by_cases h7 : x0 = 7
      · subst h7
        rw [if_pos rfl] at e
        obtain ⟨t, ht, e⟩ := Option.bind_eq_some_iff.1 e
        obtain rfl := Option.some.inj e
        have := one_true ht
        omega
      rw [if_neg h7] at e
      by_cases h15 : x0 = 15
      · subst h15
        rw [if_pos rfl] at e
        simp only [Option.bind_some] at e
        obtain ⟨t, ht, e⟩ := Option.bind_eq_some_iff.1 e
        obtain rfl := Option.some.inj e
        have := one_true ht
        omega
      rw [if_neg h15] at e
      by_cases h8 : x0 = 8
      · subst h8
        rw [if_pos rfl] at e
        by_cases hb : b ≥ 0
        · omega
        · rw [if_neg hb] at e
          cases e
      rw [if_neg h8] at e
      by_cases h9 : x0 = 9
      · subst h9
        rw [if_pos rfl] at e
        by_cases hb : a ≥ 0
        · omega
        · rw [if_neg hb] at e
          cases e
      rw [if_neg h9] at e
      by_cases h10 : x0 = 10
      · subst h10
        rw [if_pos rfl] at e
        by_cases hb : b ≥ 0
        · rw [if_pos hb] at e
          obtain ⟨t, ht, e⟩ := Option.bind_eq_some_iff.1 e
          obtain ⟨u, hu, e⟩ := Option.bind_eq_some_iff.1 e
          obtain rfl := Option.some.inj e
          have := one_true hu
          omega
        · rw [if_neg hb] at e
          cases e
      rw [if_neg h10] at e
      by_cases h11 : x0 = 11
      · subst h11
        rw [if_pos rfl] at e
        by_cases hb : a ≥ 0
        · rw [if_pos hb] at e
          obtain ⟨t, ht, e⟩ := Option.bind_eq_some_iff.1 e
          obtain ⟨u, hu, e⟩ := Option.bind_eq_some_iff.1 e
          obtain rfl := Option.some.inj e
          have := one_true hu
          omega
        · rw [if_neg hb] at e
          cases e
      rw [if_neg h11] at e
      by_cases h12 : x0 = 12
      · subst h12
        rw [if_pos rfl] at e
        obtain ⟨t, ht, e⟩ := Option.bind_eq_some_iff.1 e
        obtain ⟨u, hu, e⟩ := Option.bind_eq_some_iff.1 e
        obtain rfl := Option.some.inj e
        have := one_true hu
        omega
      rw [if_neg h12] at e
      by_cases h13 : x0 = 13
      · subst h13
        rw [if_pos rfl] at e
        obtain ⟨t, ht, e⟩ := Option.bind_eq_some_iff.1 e
        obtain ⟨u, hu, e⟩ := Option.bind_eq_some_iff.1 e
        obtain rfl := Option.some.inj e
        have := one_true hu
        omega
      omega
    exact ⟨fun h => ha (fin.1 (by omega)), fun h => hb (fin.2.1 h), fun h => hc (fin.2.2 h)⟩
end
end Go.Proofs.YtkplgfhkebkaaaaDoor.TT

namespace Go.Proofs.YtkplgfhkebkaaaaDoor.ST
open Go.RowKit Go.Proofs.YtkplgfhkebkaaaaDoorW.PrintWords Go.Proofs.YtkplgfhkebkaaaaDoor.F
set_option linter.unusedVariables false
structure PS where
  n : Nat → Int
  objs : List (List Int)
  out : List Int
  pc : Int
  steps : Int
def upd (n : Nat → Int) (k : Nat) (v : Int) : Nat → Int := fun j => if j = k then v else n j
theorem upd_same (n : Nat → Int) (k : Nat) (v : Int) : upd n k v k = v := if_pos rfl
theorem upd_ne (n : Nat → Int) {k j : Nat} (v : Int) (h : j ≠ k) : upd n k v j = n j := if_neg h
def fld (l : List (List Int)) (o f : Int) : Int := (l.getD (o - 1).toNat []).getD f.toNat 0
def putF (l : List (List Int)) (o f v : Int) : List (List Int) := l.set (o - 1).toNat ((l.getD (o - 1).toNat []).set f.toNat v)
def stepN (sz loc : Int → Int) (x : S47) (s : PS) : Option PS :=
  if x.f0 = 1 then some { s with n := upd s.n x.f1.toNat x.f4 }
  else if x.f0 = 2 then some { s with n := upd s.n x.f1.toNat (wrap64 (s.n x.f2.toNat + s.n x.f3.toNat)) }
  else if x.f0 = 15 then some { s with n := upd s.n x.f1.toNat (if s.n (8 + x.f2.toNat) = s.n (8 + x.f3.toNat) then 1 else 0) }
  else if x.f0 = 14 then some { s with out := s.out ++ [s.n x.f1.toNat] }
  else if x.f0 = 5 then some { s with objs := s.objs ++ [List.replicate (sz (loc x.f1)).toNat 0], n := upd s.n (8 + x.f1.toNat) ((s.objs.length + 1 : Nat) : Int) }
  else if x.f0 = 6 then some { s with n := upd s.n (8 + x.f1.toNat) 0 }
  else if x.f0 = 7 then some { s with n := upd s.n (8 + x.f1.toNat) (s.n (8 + x.f2.toNat)) }
  else if x.f0 = 12 then some { s with n := upd s.n (8 + x.f1.toNat) (s.n (16 + x.f2.toNat)) }
  else if x.f0 = 13 then some { s with n := upd s.n (16 + x.f1.toNat) (s.n (8 + x.f2.toNat)) }
  else if x.f0 = 8 then (if s.n (8 + x.f2.toNat) = 0 then none else some { s with n := upd s.n x.f1.toNat (fld s.objs (s.n (8 + x.f2.toNat)) x.f4) })
  else if x.f0 = 10 then (if s.n (8 + x.f2.toNat) = 0 then none else some { s with n := upd s.n (8 + x.f1.toNat) (fld s.objs (s.n (8 + x.f2.toNat)) x.f4) })
  else if x.f0 = 9 then (if s.n (8 + x.f1.toNat) = 0 then none else some { s with objs := putF s.objs (s.n (8 + x.f1.toNat)) x.f4 (s.n x.f2.toNat) })
  else (if s.n (8 + x.f1.toNat) = 0 then none else some { s with objs := putF s.objs (s.n (8 + x.f1.toNat)) x.f4 (s.n (8 + x.f2.toNat)) })
def stepP (sz loc : Int → Int) (code : List S47) (s : PS) : PS × Bool × Int :=
  if s.pc = code.length then (s, true, 0)
  else
    if (rd_T47 code s.pc).f0 = 3 ∨ ((rd_T47 code s.pc).f0 = 4 ∧ s.n (rd_T47 code s.pc).f1.toNat = 0) then ({ s with pc := (rd_T47 code s.pc).f4, steps := wrap64 (s.steps + 1) }, false, 0)
    else if (rd_T47 code s.pc).f0 = 4 then ({ s with pc := s.pc + 1, steps := wrap64 (s.steps + 1) }, false, 0)
    else match stepN sz loc (rd_T47 code s.pc) { s with pc := s.pc + 1, steps := wrap64 (s.steps + 1) } with
      | some u => (u, false, 0)
      | none => (s, false, 9)
def Pt (ty : List Int) (t v : Int) : Prop := v = 0 ∨ (1 ≤ v ∧ v ≤ ty.length ∧ ty.getD (v - 1).toNat (-1) = t)
theorem Pt.more {ty : List Int} {t v u : Int} (h : Pt ty t v) : Pt (ty ++ [u]) t v := by
  rcases h with h | ⟨h1, h2, h3⟩
  · exact .inl h
  · refine .inr ⟨h1, by rw [List.length_append]; omega, ?_⟩
    rw [List.getD_eq_getElem?_getD, List.getElem?_append_left (by omega), ← List.getD_eq_getElem?_getD, h3]
theorem Pt.cast {ty : List Int} {t u v : Int} (e : u = v) (h : Pt ty t v) : Pt ty t u := by
  rw [e]
  exact h
structure KK (loc glb sz : Int → Int) (tof : Int → Int → Int) (x : S47) : Prop where
  new : x.f0 = 5 → 0 ≤ loc x.f1
  move : x.f0 = 7 → loc x.f1 = loc x.f2
  loadI : x.f0 = 8 → 0 ≤ loc x.f2 ∧ 0 ≤ x.f4 ∧ x.f4 < sz (loc x.f2)
  loadP : x.f0 = 10 → 0 ≤ x.f4 ∧ x.f4 < sz (loc x.f2) ∧ 0 ≤ tof (loc x.f2) x.f4 ∧ loc x.f1 = tof (loc x.f2) x.f4
  storeI : x.f0 = 9 → 0 ≤ x.f4 ∧ x.f4 < sz (loc x.f1) ∧ tof (loc x.f1) x.f4 < 0
  storeP : x.f0 = 11 → 0 ≤ x.f4 ∧ x.f4 < sz (loc x.f1) ∧ 0 ≤ tof (loc x.f1) x.f4 ∧ loc x.f2 = tof (loc x.f1) x.f4
  loadG : x.f0 = 12 → loc x.f1 = glb x.f2
  storeG : x.f0 = 13 → loc x.f2 = glb x.f1
  ia : x.f0 = 1 ∨ x.f0 = 2 ∨ x.f0 = 4 ∨ x.f0 = 8 ∨ x.f0 = 14 ∨ x.f0 = 15 → x.f1 < 8
  ib : x.f0 = 2 ∨ x.f0 = 9 → x.f2 < 8
  ic : x.f0 = 2 → x.f3 < 8
  pa : x.f0 = 5 ∨ x.f0 = 6 ∨ x.f0 = 7 ∨ x.f0 = 9 ∨ x.f0 = 10 ∨ x.f0 = 11 ∨ x.f0 = 12 → x.f1 < 8
  pb : x.f0 = 7 ∨ x.f0 = 8 ∨ x.f0 = 10 ∨ x.f0 = 11 ∨ x.f0 = 13 ∨ x.f0 = 15 → x.f2 < 8
  pc : x.f0 = 15 → x.f3 < 8
  ga : x.f0 = 13 → x.f1 < 4
  gb : x.f0 = 12 → x.f2 < 4
structure WT (loc glb sz : Int → Int) (tof : Int → Int → Int) (ty : List Int) (s : PS) : Prop where
  len : ty.length = s.objs.length
  ps : ∀ a : Nat, a < 8 → Pt ty (loc a) (s.n (8 + a))
  gs : ∀ a : Nat, a < 4 → Pt ty (glb a) (s.n (16 + a))
  os : ∀ o : Nat, o < s.objs.length → (s.objs.getD o []).length = (sz (ty.getD o (-1))).toNat
  fs : ∀ o : Nat, o < s.objs.length → ∀ f : Nat, 0 ≤ tof (ty.getD o (-1)) f → Pt ty (tof (ty.getD o (-1)) f) ((s.objs.getD o []).getD f 0)
theorem WT.start (loc glb sz : Int → Int) (tof : Int → Int → Int) : WT loc glb sz tof [] ⟨fun _ => 0, [], [], 0, 0⟩ :=
  ⟨rfl, fun _ _ => .inl rfl, fun _ _ => .inl rfl, fun o h => absurd h (by simp), fun o h => absurd h (by simp)⟩
section
variable {loc glb sz : Int → Int} {tof : Int → Int → Int} {ty : List Int} {s : PS}
theorem WT.setX (h : WT loc glb sz tof ty s) {k : Nat} (hk : k < 8) (v : Int) : WT loc glb sz tof ty { s with n := upd s.n k v } :=
  ⟨h.len, fun a ha => Pt.cast (upd_ne s.n v (by omega)) (h.ps a ha), fun a ha => Pt.cast (upd_ne s.n v (by omega)) (h.gs a ha), h.os, h.fs⟩
theorem WT.setP (h : WT loc glb sz tof ty s) {k : Nat} (hk : k < 8) {v : Int} (hv : Pt ty (loc k) v) : WT loc glb sz tof ty { s with n := upd s.n (8 + k) v } := by
  refine ⟨h.len, fun a ha => ?_, fun a ha => Pt.cast (upd_ne s.n v (by omega)) (h.gs a ha), h.os, h.fs⟩
  by_cases e : a = k
  · subst e
    exact Pt.cast (upd_same s.n _ v) hv
  · exact Pt.cast (upd_ne s.n v (by omega)) (h.ps a ha)
theorem WT.setG (h : WT loc glb sz tof ty s) {k : Nat} (hk : k < 4) {v : Int} (hv : Pt ty (glb k) v) : WT loc glb sz tof ty { s with n := upd s.n (16 + k) v } := by
  refine ⟨h.len, fun a ha => Pt.cast (upd_ne s.n v (by omega)) (h.ps a ha), fun a ha => ?_, h.os, h.fs⟩
  by_cases e : a = k
  · subst e
    exact Pt.cast (upd_same s.n _ v) hv
  · exact Pt.cast (upd_ne s.n v (by omega)) (h.gs a ha)
theorem WT.pc (h : WT loc glb sz tof ty s) (p st : Int) (o : List Int) : WT loc glb sz tof ty { s with pc := p, steps := st, out := o } := ⟨h.len, h.ps, h.gs, h.os, h.fs⟩
theorem getD_app {α : Type} (l : List α) (x d : α) (i : Nat) : (l ++ [x]).getD i d = if i < l.length then l.getD i d else if i = l.length then x else d := by
  rw [List.getD_eq_getElem?_getD]
  by_cases h : i < l.length
  · rw [if_pos h, List.getElem?_append_left h, List.getD_eq_getElem?_getD]
  · rw [if_neg h, List.getElem?_append_right (by omega)]
    by_cases e : i = l.length
    · rw [if_pos e, e, Nat.sub_self]
      rfl
    · rw [if_neg e, List.getElem?_eq_none (by simp; omega)]
      rfl
theorem getD_rep (m f : Nat) : (List.replicate m (0 : Int)).getD f 0 = 0 := by
  rw [List.getD_eq_getElem?_getD, List.getElem?_replicate]
  split <;> rfl
theorem WT.more (h : WT loc glb sz tof ty s) (t : Int) : WT loc glb sz tof (ty ++ [t]) { s with objs := s.objs ++ [List.replicate (sz t).toNat 0] } := by
  have hl := h.len
  refine ⟨by rw [List.length_append, List.length_append, hl]; rfl, fun a ha => (h.ps a ha).more, fun a ha => (h.gs a ha).more, fun o ho => ?_, fun o ho f hf => ?_⟩
  · simp only [List.length_append, List.length_singleton] at ho
    show ((s.objs ++ [List.replicate (sz t).toNat 0]).getD o []).length = _
    rw [getD_app, getD_app, hl]
    by_cases e : o < s.objs.length
    · rw [if_pos e, if_pos e]
      exact h.os o e
    · rw [if_neg e, if_neg e, if_pos (by omega), if_pos (by omega), List.length_replicate]
  · simp only [List.length_append, List.length_singleton] at ho
    show Pt _ _ (((s.objs ++ [List.replicate (sz t).toNat 0]).getD o []).getD f 0)
    rw [getD_app, hl] at hf
    rw [getD_app, getD_app, hl]
    by_cases e : o < s.objs.length
    · rw [if_pos e] at hf
      rw [if_pos e, if_pos e]
      exact (h.fs o e f hf).more
    · rw [if_neg e, if_neg e, if_pos (by omega), if_pos (by omega), getD_rep]
      exact .inl rfl
theorem WT.put (h : WT loc glb sz tof ty s) {o f : Int} {t v : Int} (ho : Pt ty t o) (h0 : o ≠ 0) (hf : 0 ≤ f ∧ f < sz t) (hv : 0 ≤ tof t f → Pt ty (tof t f) v) : WT loc glb sz tof ty { s with objs := putF s.objs o f v } := by
  obtain ⟨h1, h2, h3⟩ := ho.resolve_left h0
  have hl := h.len
  have hon : (o - 1).toNat < s.objs.length := by omega
  have hg : ∀ i : Nat, (putF s.objs o f v).getD i [] = if i = (o - 1).toNat then (s.objs.getD (o - 1).toNat []).set f.toNat v else s.objs.getD i [] := by
    intro i
    unfold putF
    rw [List.getD_eq_getElem?_getD, List.getElem?_set]
    by_cases e : (o - 1).toNat = i
    · rw [if_pos e, if_pos (by omega), if_pos e.symm]
      rfl
    · rw [if_neg e, if_neg (fun e' => e e'.symm), List.getD_eq_getElem?_getD]
  have hlen : (putF s.objs o f v).length = s.objs.length := by unfold putF; rw [List.length_set]
  refine ⟨by rw [hl]; exact hlen.symm, h.ps, h.gs, fun i hi => ?_, fun i hi k hk => ?_⟩
  · show ((putF s.objs o f v).getD i []).length = _
    rw [hg]
    have hi' : i < s.objs.length := by rw [← hlen]; exact hi
    split
    · rename_i e
      rw [List.length_set, ← e]
      exact h.os i hi'
    · exact h.os i hi'
  · show Pt _ _ (((putF s.objs o f v).getD i []).getD k 0)
    have hi' : i < s.objs.length := by rw [← hlen]; exact hi
    rw [hg]
    split
    · rename_i e
      rw [e, h3] at hk ⊢
      rw [List.getD_eq_getElem?_getD, List.getElem?_set]
      by_cases ek : f.toNat = k
      · have ef : f = (k : Int) := by omega
        rw [ef] at hv
        rw [if_pos ek]
        split
        · exact hv hk
        · exact .inl rfl
      · rw [if_neg ek, ← List.getD_eq_getElem?_getD]
        have := h.fs (o - 1).toNat hon k
        rw [h3] at this
        exact this hk
    · exact h.fs i hi' k hk
theorem WT.fld (h : WT loc glb sz tof ty s) {o f t : Int} (ho : Pt ty t o) (h0 : o ≠ 0) (hf : 0 ≤ f) (hto : 0 ≤ tof t f) : Pt ty (tof t f) (fld s.objs o f) := by
  obtain ⟨h1, h2, h3⟩ := ho.resolve_left h0
  have hl := h.len
  have := h.fs (o - 1).toNat (by omega) f.toNat
  rw [h3, show ((f.toNat : Nat) : Int) = f by omega] at this
  exact this hto
end
section
variable {loc glb sz : Int → Int} {tof : Int → Int → Int} {x : S47} (hx : KK loc glb sz tof x) (h1 : 0 ≤ x.f1) (h2 : 0 ≤ x.f2) (hop : 1 ≤ x.f0 ∧ x.f0 ≤ 15) (hj : x.f0 ≠ 3 ∧ x.f0 ≠ 4)
include hx h1 h2 hop hj
theorem stepN_wt {ty : List Int} {s u : PS} (h : WT loc glb sz tof ty s) (e : stepN sz loc x s = some u) : ∃ ty', WT loc glb sz tof ty' u := by
  have e1 : ((x.f1.toNat : Nat) : Int) = x.f1 := by omega
  have e2 : ((x.f2.toNat : Nat) : Int) = x.f2 := by omega
  have P1 : x.f1 < 8 → Pt ty (loc x.f1) (s.n (8 + x.f1.toNat)) := fun hl => by have := h.ps x.f1.toNat (by omega); rwa [e1] at this
  have P2 : x.f2 < 8 → Pt ty (loc x.f2) (s.n (8 + x.f2.toNat)) := fun hl => by have := h.ps x.f2.toNat (by omega); rwa [e2] at this
  unfold stepN at e
  by_cases o1 : x.f0 = 1
  · rw [if_pos o1] at e
    obtain rfl := Option.some.inj e
    have := hx.ia (by omega)
    exact ⟨ty, h.setX (by omega) _⟩
  rw [if_neg o1] at e
  by_cases o2 : x.f0 = 2
  · rw [if_pos o2] at e
    obtain rfl := Option.some.inj e
    have := hx.ia (by omega)
    exact ⟨ty, h.setX (by omega) _⟩
  rw [if_neg o2] at e
  by_cases o15 : x.f0 = 15
  · rw [if_pos o15] at e
    obtain rfl := Option.some.inj e
    have := hx.ia (by omega)
    exact ⟨ty, h.setX (by omega) _⟩
  rw [if_neg o15] at e
  by_cases o14 : x.f0 = 14
  · rw [if_pos o14] at e
    obtain rfl := Option.some.inj e
    exact ⟨ty, h.pc _ _ _⟩
  rw [if_neg o14] at e
  by_cases o5 : x.f0 = 5
  · rw [if_pos o5] at e
    obtain rfl := Option.some.inj e
    have ha := hx.pa (by omega)
    refine ⟨ty ++ [loc x.f1], (h.more (loc x.f1)).setP (k := x.f1.toNat) (by omega) (.inr ⟨by omega, by rw [List.length_append, h.len]; simp, ?_⟩)⟩
    rw [getD_app, h.len, if_neg (by omega), if_pos (by omega), e1]
  rw [if_neg o5] at e
  by_cases o6 : x.f0 = 6
  · rw [if_pos o6] at e
    obtain rfl := Option.some.inj e
    have ha := hx.pa (by omega)
    exact ⟨ty, h.setP (by omega) (.inl rfl)⟩
  rw [if_neg o6] at e
  by_cases o7 : x.f0 = 7
  · rw [if_pos o7] at e
    obtain rfl := Option.some.inj e
    have ha := hx.pa (by omega)
    have hb := hx.pb (by omega)
    exact ⟨ty, h.setP (by omega) (by rw [e1, hx.move o7]; exact P2 hb)⟩
  rw [if_neg o7] at e
  by_cases o12 : x.f0 = 12
  · rw [if_pos o12] at e
    obtain rfl := Option.some.inj e
    have ha := hx.pa (by omega)
    have hb := hx.gb o12
    exact ⟨ty, h.setP (by omega) (by rw [e1, hx.loadG o12, ← e2]; exact h.gs _ (by omega))⟩
  rw [if_neg o12] at e
  by_cases o13 : x.f0 = 13
  · rw [if_pos o13] at e
    obtain rfl := Option.some.inj e
    have ha := hx.ga o13
    have hb := hx.pb (by omega)
    exact ⟨ty, h.setG (by omega) (by rw [e1, ← hx.storeG o13]; exact P2 hb)⟩
  rw [if_neg o13] at e
  by_cases o8 : x.f0 = 8
  · rw [if_pos o8] at e
    split at e
    · cases e
    · obtain rfl := Option.some.inj e
      have := hx.ia (by omega)
      exact ⟨ty, h.setX (by omega) _⟩
  rw [if_neg o8] at e
  by_cases o10 : x.f0 = 10
  · rw [if_pos o10] at e
    split at e
    · cases e
    · rename_i hz
      obtain rfl := Option.some.inj e
      have ha := hx.pa (by omega)
      have hb := hx.pb (by omega)
      obtain ⟨k1, k2, k3, k4⟩ := hx.loadP o10
      exact ⟨ty, h.setP (by omega) (by rw [e1, k4]; exact h.fld (P2 hb) hz k1 k3)⟩
  rw [if_neg o10] at e
  by_cases o9 : x.f0 = 9
  · rw [if_pos o9] at e
    split at e
    · cases e
    · rename_i hz
      obtain rfl := Option.some.inj e
      have ha := hx.pa (by omega)
      obtain ⟨k1, k2, k3⟩ := hx.storeI o9
      exact ⟨ty, h.put (P1 ha) hz ⟨k1, k2⟩ fun h0 => by omega⟩
  rw [if_neg o9] at e
  have o11 : x.f0 = 11 := by omega
  split at e
  · cases e
  · rename_i hz
    obtain rfl := Option.some.inj e
    have ha := hx.pa (by omega)
    have hb := hx.pb (by omega)
    obtain ⟨k1, k2, k3, k4⟩ := hx.storeP o11
    exact ⟨ty, h.put (P1 ha) hz ⟨k1, k2⟩ fun _ => by rw [← k4]; exact P2 hb⟩
end
end Go.Proofs.YtkplgfhkebkaaaaDoor.ST

namespace Go.Proofs.YtkplgfhkebkaaaaDoor.ST
open Go.RowKit Go.Proofs.YtkplgfhkebkaaaaDoorW.PrintWords
set_option linter.unusedVariables false
theorem row_new (w : World) (cs : Array Value) (t : TypeId) {i : Nat} (h : i = w.heap.size) : (w.alloc (.cells cs t)).heap[i]? = some (.cells cs t (0, 0)) := by
  subst h
  exact heap_alloc_new w _
theorem row_old (w : World) (o p : Obj) {i : Nat} (h : i < w.heap.size) (hp : w.heap[i]? = some p) : (w.alloc o).heap[i]? = some p := by
  rw [← hp]
  show (w.heap.push o)[i]? = w.heap[i]?
  rw [Array.getElem?_push, if_neg (Nat.ne_of_lt h)]
theorem row_drewN {w : World} {n i : Nat} {p : Obj} (hp : w.heap[i]? = some p) : (w.drewN n).heap[i]? = some p := hp
theorem row_drew {w : World} {i : Nat} {p : Obj} (hp : w.heap[i]? = some p) : w.drew.heap[i]? = some p := hp
theorem set_drew {w w1 : World} {i : Nat} {cs : Array Value} (hp : w.setRow i cs = w1) : w.drew.setRow i cs = w1.drew := by
  subst hp
  rfl
theorem set_new (w : World) (c cs : Array Value) (t : TypeId) {i : Nat} (h : i = w.heap.size) : (w.alloc (.cells c t)).setRow i cs = w.alloc (.cells cs t) := by
  subst h
  simp only [World.setRow, World.alloc]
  congr 1
  apply Array.ext_getElem?
  intro i
  rw [Array.getElem?_modify]
  by_cases h : w.heap.size = i
  · subst h
    simp
  · have h' : ¬ i = w.heap.size := fun e => h e.symm
    simp [h, h', Array.getElem?_push]
theorem set_old (w w1 : World) (o : Obj) (cs : Array Value) {i : Nat} (h : i < w.heap.size) (hp : w.setRow i cs = w1) : (w.alloc o).setRow i cs = w1.alloc o := by
  subst hp
  simp only [World.setRow, World.alloc]
  congr 1
  apply Array.ext_getElem?
  intro j
  have hne : ¬ i = w.heap.size := Nat.ne_of_lt h
  by_cases e : i = j
  · subst e
    simp [Array.getElem?_modify, Array.getElem?_push, hne]
  · simp [Array.getElem?_modify, Array.getElem?_push, e]
theorem row_cellO {w : World} {i : Nat} {p : Obj} (a : Addr) (v : Value) (h : i ≠ a.block) (hp : w.heap[i]? = some p) : (w.setCell a v).heap[i]? = some p := (heap_setCell_other w a i v h).trans hp
theorem row_cellS {w : World} {i j : Nat} {c : Array Value} {t : TypeId} (v : Value) (hp : w.heap[i]? = some (.cells c t (0, 0))) : (w.setCell ⟨i, j, none⟩ v).heap[i]? = some (.cells (c.setIfInBounds j v) t (0, 0)) := heap_setCell_same w i j c t v hp
theorem below_row {w W : World} {g : Nat} {cs : Array Value} (h : Below w.heap.size w W) (hg : w.heap.size ≤ g) : Below w.heap.size w (W.setRow g cs) :=
  ⟨h.os, h.tape, h.output, by have := h.size; simpa [World.setRow] using this, fun k hk => (setRow_other W g k cs (by omega)).trans (h.block k hk)⟩
theorem bcell {B : Nat} {W w1 : World} (hb : Below B W w1) : (∀ b o, b < B → w1.cell? ⟨b, o, none⟩ = W.cell? ⟨b, o, none⟩) ∧ (∀ b o, b < B → w1.frozen? ⟨b, o, none⟩ = W.frozen? ⟨b, o, none⟩) :=
  ⟨fun b o h => hb.cell (p := ⟨b, o, none⟩) h, fun b o h => hb.frozen (p := ⟨b, o, none⟩) h⟩
theorem own_le {w : World} {base n c : Nat} {e : TypeId} {k : IntKind} {A : Option Addr} {xs : List Int} (h : w.ownsRow base e 1 (.slice A n c) n (nums k xs)) : n ≤ c := by
  rcases h.2 with ⟨e1, _⟩ | ⟨g, cap, cur, e1, _, _, hc, _⟩
  · injection e1 with _ e2 e3
    omega
  · injection e1 with _ e2 e3
    omega
theorem row_setS {w : World} {i : Nat} {old cs : Array Value} {t : TypeId} (hp : w.heap[i]? = some (.cells old t (0, 0))) : (w.setRow i cs).heap[i]? = some (.cells cs t (0, 0)) := setRow_heap w i old cs t (0, 0) hp
theorem rowT {p : Prop} (h : p := by repeat (first | (with_reducible assumption) | (with_reducible apply row_cellS) | (with_reducible apply row_cellO; focus (first | (simp; done) | (simp <;> omega))) | (with_reducible refine row_new _ _ _ ?_; focus (simp; done)) | (with_reducible refine row_old _ _ _ ?_ ?_; focus (first | omega | (simp <;> omega))) | (with_reducible apply row_drew) | (with_reducible apply row_drewN) | (with_reducible apply row_setS))) : p := h
theorem setT {p : Prop} (h : p := by repeat (first | (with_reducible apply set_new; focus (simp; done)) | (with_reducible apply set_old; focus (simp <;> omega)) | (with_reducible apply set_drew) | (with_reducible rfl))) : p := h
def OutF (w : World) (P : Nat → Prop) (A : Option Addr) (out : List Int) : Prop := ∀ W' : World, (∀ k, P k → k < w.heap.size → W'.heap[k]? = w.heap[k]?) → (Kd.int .i64).C W' A out.length out
theorem OutF.now {w : World} {P : Nat → Prop} {A : Option Addr} {out : List Int} (h : OutF w P A out) : (Kd.int .i64).C w A out.length out := h w fun _ _ _ => rfl
theorem OutF.mono {w : World} {P Q : Nat → Prop} {A : Option Addr} {out : List Int} (h : OutF w P A out) (hp : ∀ k, P k → Q k) : OutF w Q A out := fun W' hW => h W' fun k hk hl => hW k (hp k hk) hl
theorem OutF.bound {w : World} {P : Nat → Prop} {A : Option Addr} {out : List Int} (h : OutF w P A out) : OutF w (fun k => P k ∧ k < w.heap.size) A out := fun W' hW => h W' fun k hp hk => hW k ⟨hp, hk⟩ hk
theorem OutF.step {w w' : World} {P : Nat → Prop} {A : Option Addr} {out : List Int} (h : OutF w P A out) (hb : ∀ k, P k → k < w.heap.size → w'.heap[k]? = w.heap[k]? ∧ k < w'.heap.size) : OutF w' P A out :=
  fun W' hW => h W' fun k hp hk => (hW k hp (hb k hp hk).2).trans (hb k hp hk).1
theorem OutF.below {w w' : World} {P : Nat → Prop} {A : Option Addr} {out : List Int} (h : OutF w P A out) (hb : Below w.heap.size w w') : OutF w' P A out := h.step fun k _ hk => ⟨hb.block k hk, Nat.lt_of_lt_of_le hk hb.size⟩
theorem cell_more2 {w : World} {b j : Nat} {v : Value} (hb : b < w.heap.size) (h : w.cell? ⟨b, j, none⟩ = some v) (q r : Obj) : ((w.alloc q).alloc r).cell? ⟨b, j, none⟩ = some v :=
  ((below_alloc (below_alloc (Below.refl _ _) q) r).cell (p := ⟨b, j, none⟩) hb).trans h
theorem heap_old2 (w : World) (o : Obj) {i : Nat} (h : i < w.heap.size) : (w.alloc o).heap[i]? = w.heap[i]? := by
  show (w.heap.push o)[i]? = w.heap[i]?
  rw [Array.getElem?_push, if_neg (Nat.ne_of_lt h)]
theorem sizeS : (Tryd.prog.info? 34).map (·.size) = some 24 := by kernel_rfl
section
variable {ops : Array Oper} {rest : List Oper} {o : Oper} {a : Act} {w w' : World} {Q : Exit → Act → World → Prop} {x y : Operand} {g : Nat} {cs old : Array Value}
theorem ldS (ho : o.op = .load 34 x) (hgd : o.guard = none) (hx : a.eval x = .pointer (some ⟨g, 0, none⟩)) (hg : w.heap[g]? = some (.cells cs 34 (0, 0))) (hs : cs.size = 24)
    (h : wpList Tryd.prog ops Q rest (a.put o.dst (.agg cs)) w) : wpList Tryd.prog ops Q (o :: rest) a w :=
  wpList_load_row hgd 34 x ho g hx 34 cs (0, 0) _ hg Tryd.underlying34 rfl (by rw [sizeS, hs]) h
theorem srS (ho : o.op = .store 34 x y) (hgd : o.guard = none) (hx : a.eval x = .pointer (some ⟨g, 0, none⟩)) (hy : a.eval y = .agg cs) (hg : w.heap[g]? = some (.cells old 34 (0, 0)))
    (hs : cs.size = 24) (hs' : old.size = 24) (h1 : cs.toList.all (·.oneCell') = true) (hw : w.setRow g cs = w')
    (h : wpList Tryd.prog ops Q rest (a.put o.dst undef) w') : wpList Tryd.prog ops Q (o :: rest) a w := by
  subst hw
  exact wpList_store_row hgd 34 x y ho g cs hx hy 34 old hg (by rw [sizeS, hs]) (by rw [hs, hs']) (by rw [← Array.all_toList]; exact h1) h
end
theorem ldS_run {w : World} {g : Nat} {cs : Array Value} (hg : w.heap[g]? = some (.cells cs 34 (0, 0))) (hs : cs.size = 24) :
    (loadVar 34 ⟨g, 0, none⟩).run Tryd.prog w = .ok (.agg cs) w :=
  run_loadVar_row (P := Tryd.prog) w g 34 34 cs (0, 0) _ hg Tryd.underlying34 rfl (by rw [sizeS, hs])
theorem ret2S {fn : Func} {R : Ending → World → Prop} {a : Act} {w : World} {p q : Tmp} {g : Nat} {cs : Array Value} {v : Value} (h : fn.results = #[.cell p 34, .tmp q]) (hd : a.defers = []) (hp : a.tmps.getD p undef = .pointer (some ⟨g, 0, none⟩))
    (hq : a.tmps.getD q undef = v) (hg : w.heap[g]? = some (.cells cs 34 (0, 0))) (hs : cs.size = 24) (hR : R (.returned (.tuple #[.agg cs, v])) w) : bodyPost Tryd.prog fn R .ret a w := by
  refine bodyPost_ret ?_ hd hR
  have hp' : a.tmps[p]?.getD undef = .pointer (some ⟨g, 0, none⟩) := by simpa using hp
  have hq' : a.tmps[q]?.getD undef = v := by simpa using hq
  simp [results, h, hp', hq', asAddr, ldS_run hg hs]
theorem ret3S {fn : Func} {R : Ending → World → Prop} {a : Act} {w : World} {p q r : Tmp} {g : Nat} {cs : Array Value} {v u : Value} (h : fn.results = #[.cell p 34, .tmp q, .tmp r]) (hd : a.defers = []) (hp : a.tmps.getD p undef = .pointer (some ⟨g, 0, none⟩))
    (hq : a.tmps.getD q undef = v) (hr : a.tmps.getD r undef = u) (hg : w.heap[g]? = some (.cells cs 34 (0, 0))) (hs : cs.size = 24) (hR : R (.returned (.tuple #[.agg cs, v, u])) w) : bodyPost Tryd.prog fn R .ret a w := by
  refine bodyPost_ret ?_ hd hR
  have hp' : a.tmps[p]?.getD undef = .pointer (some ⟨g, 0, none⟩) := by simpa using hp
  have hq' : a.tmps[q]?.getD undef = v := by simpa using hq
  have hr' : a.tmps[r]?.getD undef = u := by simpa using hr
  simp [results, h, hp', hq', hr', asAddr, ldS_run hg hs]
theorem row8 (n : Nat → Int) (b k : Nat) (h : k < 8) : ([.int .i64 (n (b + 0)), .int .i64 (n (b + 1)), .int .i64 (n (b + 2)), .int .i64 (n (b + 3)), .int .i64 (n (b + 4)), .int .i64 (n (b + 5)), .int .i64 (n (b + 6)), .int .i64 (n (b + 7))] : List Value)[k]? = some (.int .i64 (n (b + k))) := by
  match k, h with
  | 0, _ => rfl
  | 1, _ => rfl
  | 2, _ => rfl
  | 3, _ => rfl
  | 4, _ => rfl
  | 5, _ => rfl
  | 6, _ => rfl
  | 7, _ => rfl
theorem rowS (n : Nat → Int) (O T U V : Value) (k : Nat) (h : k < 20) : ([.int .i64 (n 0), .int .i64 (n 1), .int .i64 (n 2), .int .i64 (n 3), .int .i64 (n 4), .int .i64 (n 5), .int .i64 (n 6), .int .i64 (n 7), .int .i64 (n 8), .int .i64 (n 9), .int .i64 (n 10), .int .i64 (n 11), .int .i64 (n 12), .int .i64 (n 13), .int .i64 (n 14), .int .i64 (n 15), .int .i64 (n 16), .int .i64 (n 17), .int .i64 (n 18), .int .i64 (n 19), O, T, U, V] : List Value)[k]? = some (.int .i64 (n k)) := by
  match k, h with
  | 0, _ => rfl
  | 1, _ => rfl
  | 2, _ => rfl
  | 3, _ => rfl
  | 4, _ => rfl
  | 5, _ => rfl
  | 6, _ => rfl
  | 7, _ => rfl
  | 8, _ => rfl
  | 9, _ => rfl
  | 10, _ => rfl
  | 11, _ => rfl
  | 12, _ => rfl
  | 13, _ => rfl
  | 14, _ => rfl
  | 15, _ => rfl
  | 16, _ => rfl
  | 17, _ => rfl
  | 18, _ => rfl
  | 19, _ => rfl
  | m + 20, h => exact absurd h (by omega)
theorem rowSA (n : Nat → Int) (O T U V : Value) (k : Nat) (h : (k : Int) < 8) : (#[.int .i64 (n 0), .int .i64 (n 1), .int .i64 (n 2), .int .i64 (n 3), .int .i64 (n 4), .int .i64 (n 5), .int .i64 (n 6), .int .i64 (n 7), .int .i64 (n 8), .int .i64 (n 9), .int .i64 (n 10), .int .i64 (n 11), .int .i64 (n 12), .int .i64 (n 13), .int .i64 (n 14), .int .i64 (n 15), .int .i64 (n 16), .int .i64 (n 17), .int .i64 (n 18), .int .i64 (n 19), O, T, U, V] : Array Value)[k]? = some (.int .i64 (n k)) :=
  (List.getElem?_toArray ..).trans (rowS n O T U V k (by omega))
theorem upd_upd (n : Nat → Int) (k : Nat) (u v : Int) : upd (upd n k u) k v = upd n k v := by
  funext j
  unfold upd
  split <;> rfl
theorem row4 (n : Nat → Int) (b k : Nat) (h : k < 4) : ([.int .i64 (n (b + 0)), .int .i64 (n (b + 1)), .int .i64 (n (b + 2)), .int .i64 (n (b + 3))] : List Value)[k]? = some (.int .i64 (n (b + k))) := by
  match k, h with
  | 0, _ => rfl
  | 1, _ => rfl
  | 2, _ => rfl
  | 3, _ => rfl
theorem upd_at (n : Nat → Int) (b k j : Nat) (v : Int) : upd n (b + k) v (b + j) = if j = k then v else n (b + j) := by
  unfold upd
  by_cases e : j = k
  · rw [if_pos e, if_pos (by omega)]
  · rw [if_neg e, if_neg (by omega)]
theorem set8 (n : Nat → Int) (b k : Nat) (h : k < 8) (v : Int) : ([.int .i64 (n (b + 0)), .int .i64 (n (b + 1)), .int .i64 (n (b + 2)), .int .i64 (n (b + 3)), .int .i64 (n (b + 4)), .int .i64 (n (b + 5)), .int .i64 (n (b + 6)), .int .i64 (n (b + 7))] : List Value).set k (.int .i64 v) =
   [.int .i64 (upd n (b + k) v (b + 0)), .int .i64 (upd n (b + k) v (b + 1)), .int .i64 (upd n (b + k) v (b + 2)), .int .i64 (upd n (b + k) v (b + 3)), .int .i64 (upd n (b + k) v (b + 4)), .int .i64 (upd n (b + k) v (b + 5)), .int .i64 (upd n (b + k) v (b + 6)), .int .i64 (upd n (b + k) v (b + 7))] := by
  simp only [upd_at]
  match k, h with
  | 0, _ => rfl
  | 1, _ => rfl
  | 2, _ => rfl
  | 3, _ => rfl
  | 4, _ => rfl
  | 5, _ => rfl
  | 6, _ => rfl
  | 7, _ => rfl
theorem set4 (n : Nat → Int) (b k : Nat) (h : k < 4) (v : Int) : ([.int .i64 (n (b + 0)), .int .i64 (n (b + 1)), .int .i64 (n (b + 2)), .int .i64 (n (b + 3))] : List Value).set k (.int .i64 v) =
   [.int .i64 (upd n (b + k) v (b + 0)), .int .i64 (upd n (b + k) v (b + 1)), .int .i64 (upd n (b + k) v (b + 2)), .int .i64 (upd n (b + k) v (b + 3))] := by
  simp only [upd_at]
  match k, h with
  | 0, _ => rfl
  | 1, _ => rfl
  | 2, _ => rfl
  | 3, _ => rfl
end Go.Proofs.YtkplgfhkebkaaaaDoor.ST

namespace Go.Proofs.YtkplgfhkebkaaaaDoor.ST
open Go.RowKit Go.Proofs.YtkplgfhkebkaaaaDoorW.PrintWords
set_option linter.unusedVariables false
structure Hd where
  A : Option Addr
  n : Nat
  c : Nat
instance : Inhabited Hd := ⟨⟨none, 0, 0⟩⟩
def Hd.v (h : Hd) : Value := .slice h.A h.n h.c
theorem Hd.one (h : Hd) : h.v.oneCell' = true := rfl
abbrev KH : Kd Hd := Kd.scalar Hd.v Hd.one
abbrev KI : Kd Int := Kd.int .i64
def Hd.Is (w : World) (h : Hd) (xs : List Int) : Prop := h.n = xs.length ∧ h.n ≤ h.c ∧ KI.C w h.A xs.length xs
structure Objs (w : World) (A : Option Addr) (hs : List Hd) (os : List (List Int)) : Prop where
  row : KH.C w A hs.length hs
  len : hs.length = os.length
  is : ∀ j : Nat, j < hs.length → (hs.getD j default).Is w (os.getD j [])
theorem Objs.none (w : World) : Objs w none [] [] := ⟨Kd.C_nil _ _, rfl, fun j hj => absurd hj (by simp)⟩
def ObF (w : World) (P : Nat → Prop) (A : Option Addr) (hs : List Hd) (os : List (List Int)) : Prop := ∀ W' : World, (∀ k, P k → k < w.heap.size → W'.heap[k]? = w.heap[k]?) → Objs W' A hs os
theorem ObF.now {w : World} {P : Nat → Prop} {A : Option Addr} {hs : List Hd} {os : List (List Int)} (h : ObF w P A hs os) : Objs w A hs os := h w fun _ _ _ => rfl
theorem ObF.step {w w' : World} {P : Nat → Prop} {A : Option Addr} {hs : List Hd} {os : List (List Int)} (h : ObF w P A hs os) (hb : ∀ k, P k → k < w.heap.size → w'.heap[k]? = w.heap[k]? ∧ k < w'.heap.size) : ObF w' P A hs os :=
  fun W' hW => h W' fun k hp hk => (hW k hp (hb k hp hk).2).trans (hb k hp hk).1
theorem ObF.bound {w : World} {P : Nat → Prop} {A : Option Addr} {hs : List Hd} {os : List (List Int)} (h : ObF w P A hs os) : ObF w (fun k => P k ∧ k < w.heap.size) A hs os := fun W' hW => h W' fun k hp hk => hW k ⟨hp, hk⟩ hk
theorem ObF.mono {w : World} {P Q : Nat → Prop} {A : Option Addr} {hs : List Hd} {os : List (List Int)} (h : ObF w P A hs os) (hp : ∀ k, P k → Q k) : ObF w Q A hs os := fun W' hW => h W' fun k hk hl => hW k (hp k hk) hl
theorem ObF.below {w w' : World} {P : Nat → Prop} {A : Option Addr} {hs : List Hd} {os : List (List Int)} (h : ObF w P A hs os) (hb : Below w.heap.size w w') : ObF w' P A hs os := h.step fun k _ hk => ⟨hb.block k hk, Nat.lt_of_lt_of_le hk hb.size⟩
theorem own_other_world {α : Type} {enc : α → Value} {h1 : ∀ x, (enc x).oneCell' = true} {e base g n cap : Nat} {W W' : World} {ok : Nat → Prop} {xs : List α} (h : (Kd.scalar enc h1).R e W base ok (.slice (some ⟨g, 0, none⟩) n cap) xs) (hg : W'.heap[g]? = W.heap[g]?) : (Kd.scalar enc h1).C W' (some ⟨g, 0, none⟩) xs.length xs := by
  have e1 : n = xs.length := (Kd.R_reads' h).1
  subst e1
  have h2 := own_move (Kd.own_of_R h) (w1 := W') fun k hk => by
    injection hk with hk
    subst hk
    exact hg
  exact (Kd.R_reads' (Kd.R_of_own (h1 := h1) (ok := fun _ => True) h2 fun _ _ => trivial)).2.2
theorem info_h : (Tryd.prog.info? 32).map (fun i => (i.zero, i.size, i.bytes)) = some (some (.slice none 0 0), 1, 24) := by kernel_rfl
theorem info_i : (Tryd.prog.info? 2).map (fun i => (i.zero, i.size, i.bytes)) = some (some (.int .i64 0), 1, 8) := by kernel_rfl
theorem own_empty {α : Type} {enc : α → Value} {h1 : ∀ x, (enc x).oneCell' = true} (W : World) (B e g : Nat) (hg : g = W.heap.size) (hB : B ≤ W.heap.size) : (Kd.scalar enc h1).R e (W.alloc (.cells #[] e)) B (fun _ => True) (.slice (some ⟨g, 0, none⟩) 0 0) [] := by
  subst hg
  exact Kd.R_of_own (own_lit_of (enc := enc) W B e [] hB (by simp)) fun _ _ => trivial
theorem put_get {α : Type} (l : List α) (i j : Nat) (x d : α) (h : i < l.length) : (l.set i x).getD j d = if j = i then x else l.getD j d := by
  rw [List.getD_eq_getElem?_getD, List.getElem?_set]
  by_cases e : i = j
  · rw [if_pos e, if_pos (by omega), if_pos e.symm]
    rfl
  · rw [if_neg e, if_neg (fun e' => e e'.symm), List.getD_eq_getElem?_getD]
theorem Kd.R_tightg {α : Type} {enc : α → Value} {h1 : ∀ x, (enc x).oneCell' = true} {e base g n cap : Nat} {W : World} {ok : Nat → Prop} {xs : List α} (h : (Kd.scalar enc h1).R e W base ok (.slice (some ⟨g, 0, none⟩) n cap) xs) : (Kd.scalar enc h1).R e W base (fun k => k = g) (.slice (some ⟨g, 0, none⟩) n cap) xs := by
  have e1 : n = xs.length := (Kd.R_reads' h).1
  subst e1
  exact Kd.R_of_own (Kd.own_of_R h) fun k hk => by injection hk with hk; exact hk.symm
theorem region_tail {P : Program} {id : Nat} {Q : Exit → Act → World → Prop} {a : Act} {w : World} {l : List Oper} (n : Nat) (hm : P.follows .mixedOrders = true) (hB : Region.lexTailB .any l.toArray n = true)
    (h : wpStill P l.toArray w.drew (fun a' => wpList P l.toArray Q (l.drop n) a' w.drew) (l.take n) a) : (Code.region id l.toArray true).wp P Q a w := wp_region_still_tail n hm hB h
theorem cell_more {w : World} {a : Addr} {v : Value} (h : w.cell? a = some v) (p q r s : Obj) : ((((w.alloc p).alloc q).alloc r).alloc s).cell? a = some v :=
  ((below_alloc (below_alloc (below_alloc (below_alloc (Below.refl _ _) p) q) r) s).cell (World.block_lt_of_cell? w _ h)).trans h
theorem Objs.reads {w : World} {A : Option Addr} {hs : List Hd} {os : List (List Int)} (h : Objs w A hs os) {o f : Nat} (ho : o < hs.length) (hf : f < (os.getD o []).length) :
    ∃ ad had, A = some ad ∧ (hs.getD o default).A = some had ∧ w.cell? (ad.add o) = some (.slice (some had) (os.getD o []).length (hs.getD o default).c) ∧ w.cell? (had.add f) = some (.int .i64 ((os.getD o []).getD f 0)) := by
  obtain ⟨_, _, h3⟩ := Kd.reads_of_C (d := default) h.row
  obtain ⟨ad, e, h4⟩ := h3 (by omega)
  obtain ⟨i1, i2, i3⟩ := h.is o ho
  obtain ⟨_, _, j3⟩ := Kd.reads_of_C (d := (0 : Int)) i3
  obtain ⟨had, e2, j4⟩ := j3 (by omega)
  refine ⟨ad, had, e, e2, ?_, j4 f hf⟩
  have := h4 o ho
  rw [this]
  show some (Value.slice (hs.getD o default).A (hs.getD o default).n (hs.getD o default).c) = _
  rw [e2, i1]
theorem objs_append {w w3 : World} {P : Nat → Prop} {oA An : Option Addr} {hs : List Hd} {os : List (List Int)} {e B g m n cn : Nat} {t : TypeId} {ok : Nat → Prop} (hF : ObF w P oA hs os) (hb : Below w.heap.size w w3)
    (hR : KH.R e w3 B ok (.slice An n cn) (hs ++ [⟨some ⟨g, 0, none⟩, m, m⟩])) (hg : w3.heap[g]? = some (.cells (madeCells #[.int .i64 0] m) t (0, 0))) (hgB : B ≤ g) (hm : m ≤ 1000000) :
    ObF w3 (fun k => (P k ∧ k < w.heap.size) ∨ B ≤ k) An (hs ++ [⟨some ⟨g, 0, none⟩, m, m⟩]) (os ++ [List.replicate m 0]) := by
  intro W' hW'
  have hO : Objs W' oA hs os := hF W' fun k hp hk => (hW' k (.inl ⟨hp, hk⟩) (Nat.lt_of_lt_of_le hk hb.size)).trans (hb.block k hk)
  have hgl : g < w3.heap.size := (Array.getElem?_eq_some_iff.1 hg).1
  have hn : n = (hs ++ [(⟨some ⟨g, 0, none⟩, m, m⟩ : Hd)]).length := (Kd.R_reads' hR).1
  subst hn
  have hown := Kd.own_of_R hR
  have h2 := own_move hown (w1 := W') fun k hk => hW' k (.inr (own_base hown k hk)) (own_lt hown k hk)
  refine ⟨(Kd.R_reads' (Kd.R_of_own (h1 := Hd.one) (ok := fun _ => True) h2 fun _ _ => trivial)).2.2, by simp [hO.len], fun j hj => ?_⟩
  rw [List.length_append, List.length_singleton] at hj
  rw [getD_app, getD_app, ← hO.len]
  by_cases e1 : j < hs.length
  · rw [if_pos e1, if_pos e1]
    exact hO.is j e1
  · rw [if_neg e1, if_neg e1, if_pos (by omega), if_pos (by omega)]
    refine ⟨by simp, Nat.le_refl _, Kd.C_of_reads (d := (0 : Int)) ⟨rfl, by simp; omega, fun hp => ⟨⟨g, 0, none⟩, rfl, fun i hi => ?_⟩⟩⟩
    have ha : (⟨g, 0, none⟩ : Addr).add i = ⟨g, i, none⟩ := by unfold Addr.add; split <;> simp_all
    rw [ha, cell_of_row W' g i _ t (0, 0) ((hW' g (.inr hgB) hgl).trans hg)]
    have hi' : i < m := by simpa using hi
    rw [getD_rep]
    simp [madeCells, hi', Nat.mod_one]
section
variable (w : World) (A : Option Addr) (c : Nat) (hs : List Hd) (os : List (List Int)) (o f : Nat) (v : Int)
set_option maxHeartbeats 1000000 in
set_option maxRecDepth 100000 in
theorem put_calls (P : Nat → Prop) (hF : ObF w P A hs os) (hc : hs.length ≤ c) (ho : o < hs.length) (hf : f < (os.getD o []).length) (hl1 : hs.length ≤ 1000000) (hl2 : (os.getD o []).length ≤ 1000000) :
    Calls Tryd.prog 43 #[.slice A hs.length c, .int .i64 ((o : Int) + 1), .int .i64 f, .int .i64 v] w fun e w' => ∃ A' c' hs', e = .returned (.slice A' hs'.length c') ∧ hs'.length ≤ c' ∧ ObF w' (fun k => P k ∨ w.heap.size ≤ k) A' hs' (os.set o ((os.getD o []).set f v)) ∧ Below w.heap.size w w' := by
  have hO := hF.now
  have HF := Aside0.mk hF
  clear hF
  have hH := Aside0.mk hO
  have HB := Aside0.mk (Below.refl w.heap.size w)
  have hm1 := hO.row.2.1
  obtain ⟨hd, ehd⟩ : ∃ hd, hd = hs.getD o default := ⟨_, rfl⟩
  have hI := Aside0.mk (show hd.Is w (os.getD o []) by rw [ehd]; exact hO.is o ho)
  have hcell : ∃ ad, A = some ad ∧ w.cell? (ad.add o) = some (.slice hd.A hd.n hd.c) := by
    obtain ⟨_, _, h3⟩ := Kd.reads_of_C (d := default) hO.row
    obtain ⟨ad, e, h4⟩ := h3 (by omega)
    exact ⟨ad, e, by rw [ehd]; exact h4 o ho⟩
  obtain ⟨ad, rfl, hcell⟩ := hcell
  have hcell' := Aside0.mk hcell
  clear hcell hO
  obtain ⟨xs, exs⟩ : ∃ xs, xs = os.getD o [] := ⟨_, rfl⟩
  rw [← exs] at hI hf hl2 ⊢
  have hn : hd.n = xs.length := hI.out.1
  obtain ⟨hA, hnn, hcc⟩ := hd
  obtain rfl : hnn = xs.length := hn
  have EX := Aside0.mk exs
  have ED := Aside0.mk ehd
  clear exs ehd
  have i0 : (0 : Int) ≤ o := by omega
  have i1 : (o : Int) < hs.length := by omega
  have f0 : (0 : Int) ≤ f := by omega
  have f1 : (f : Int) < xs.length := by omega
  go_enter Tryd.func43, Tryd.ntmps43
  go_wp2_with (first
    | (at_builtin; refine Kd.R_append_row (w0 := w) Hd.v default w.heap.size rfl (.tmp 11) (.tmp 12) 31 32 _ 24 rfl Tryd.underlying31 info_h rfl (by decide) (.slice (some ⟨w.heap.size, 0, none⟩) 0 0) [] hs (some ad) hs.length c (fun _ => True) rfl rfl (fun _ _ => trivial) (own_empty w _ _ _ rfl (Nat.le_refl _)) (Kd.C_alloc hH.out.row _) (below_alloc HB.out _) (by simp) (by simp; omega) ?_; intro v1 w1 hr1 hb1 hg1 _; obtain ⟨g1, c1, e1, hg1a, hg1b, _⟩ := Kd.R_form hr1 (by simp; omega); subst e1; have HR1 := Aside0.mk hr1; have HB1 := Aside0.mk hb1; have HG1 := Aside0.mk (And.intro hg1a hg1b); have hx1 : (w1.alloc (Obj.cells #[] 2)).cell? (ad.add o) = some (.slice hA xs.length hcc) := ((below_alloc HB1.out (Obj.cells #[] 2)).cell (World.block_lt_of_cell? w _ hcell'.out)).trans hcell'.out; clear hr1 hb1 hg1 hg1a hg1b)
    | (at_builtin; refine Kd.R_append_row (w0 := w1) (Value.int .i64) 0 w1.heap.size rfl (.tmp 14) (.tmp 19) 32 2 _ 8 rfl Tryd.underlying32 info_i rfl (by decide) (.slice (some ⟨w1.heap.size, 0, none⟩) 0 0) [] xs hA xs.length hcc (fun _ => True) rfl rfl (fun _ _ => trivial) (own_empty w1 _ _ _ rfl (Nat.le_refl _)) (Kd.C_below hI.out.2.2 (below_alloc HB1.out _)) (below_alloc (Below.refl _ _) _) (by simp) (by simp; omega) ?_; intro v2 w2 hr2 hb2 hg2 _; obtain ⟨g2, c2, e2, hg2a, hg2b, _⟩ := Kd.R_form hr2 (by simp; omega); subst e2; obtain ⟨y1, y2⟩ := Kd.R_cell 0 hr2 f f0 f1; obtain ⟨z1, z2⟩ := Kd.R_cell default (Kd.R_far (ok := fun k => k = g1) (Kd.R_tightg (Kd.R_below HR1.out hb2)) (p := ⟨g2, f, none⟩) (fun k hk => show k ≠ g2 by have := HG1.out.2; omega) (.int .i64 v)) o i0 i1; rw [Int.toNat_natCast] at y1 y2 z1 z2; have HR2 := Aside0.mk hr2; have HB2 := Aside0.mk hb2; have HG2 := Aside0.mk (And.intro hg2a hg2b); clear hr2 hb2 hg2 hg2a hg2b))
  go_ret
  refine ⟨some ⟨g1, 0, none⟩, c1, hs.set o ⟨some ⟨g2, 0, none⟩, xs.length, c2⟩, by rw [List.length_set]; rfl, ?_, ?_, ?_⟩
  · rw [List.length_set]
    exact (Kd.R_reads' HR1.out).2.1
  · have hb3 : Below w1.heap.size w1 (w2.setCell ⟨g2, f, none⟩ (.int .i64 v)) := below_set HB2.out HG2.out.1
    have hR3 : KH.R 32 (w2.setCell ⟨g2, f, none⟩ (.int .i64 v)) w.heap.size (fun k => k = g1) (.slice (some ⟨g1, 0, none⟩) hs.length c1) hs := Kd.R_far (Kd.R_tightg (Kd.R_below HR1.out HB2.out)) (fun k hk => show k ≠ g2 by have := HG1.out.2; have := HG2.out.1; omega) _
    have hR4 := Kd.R_put hR3 o ⟨some ⟨g2, 0, none⟩, xs.length, c2⟩
    have hr2' := Kd.R_put HR2.out f v
    have hI4 : KI.R 2 ((w2.setCell ⟨g2, f, none⟩ (.int .i64 v)).setCell ⟨g1, o, none⟩ (.slice (some ⟨g2, 0, none⟩) xs.length c2)) w1.heap.size (fun k => k = g2) (.slice (some ⟨g2, 0, none⟩) xs.length c2) (xs.set f v) :=
      Kd.R_far (Kd.R_tightg hr2'.1) (fun k hk => show k ≠ g1 by have := HG1.out.2; have := HG2.out.1; omega) _
    have hb4 : Below w.heap.size w ((w2.setCell ⟨g2, f, none⟩ (.int .i64 v)).setCell ⟨g1, o, none⟩ (.slice (some ⟨g2, 0, none⟩) xs.length c2)) := below_set (below_step HB1.out hb3) HG1.out.1
    have hsz : w2.heap.size ≤ ((w2.setCell ⟨g2, f, none⟩ (.int .i64 v)).setCell ⟨g1, o, none⟩ (.slice (some ⟨g2, 0, none⟩) xs.length c2)).heap.size := by simp [World.setCell]
    have q1 := HG1.out
    have q2 := HG2.out
    have q3 := HB1.out.size
    intro W' hW'
    have hO' : Objs W' (some ad) hs os := HF.out W' fun k hp hk => (hW' k (.inl hp) (Nat.lt_of_lt_of_le hk hb4.size)).trans (hb4.block k hk)
    refine ⟨?_, by rw [List.length_set, List.length_set]; exact hH.out.len, fun j hj => ?_⟩
    · exact own_other_world hR4.1 (hW' g1 (.inr q1.1) (by have := HB2.out.size; omega))
    · rw [List.length_set] at hj
      rw [put_get _ _ _ _ _ ho, put_get _ _ _ _ _ (by rw [← hH.out.len]; exact ho)]
      by_cases e : j = o
      · rw [if_pos e, if_pos e]
        exact ⟨by rw [List.length_set], (Kd.R_reads' HR2.out).2.1, own_other_world hI4 (hW' g2 (.inr (by omega)) (by omega))⟩
      · rw [if_neg e, if_neg e]
        exact hO'.is j hj
  · exact below_set (below_set (below_step HB1.out HB2.out) (Nat.le_trans (Nat.le_trans HG1.out.1 (Nat.le_of_lt HG1.out.2)) HG2.out.1)) HG1.out.1
end
end Go.Proofs.YtkplgfhkebkaaaaDoor.ST

namespace Go.Proofs.YtkplgfhkebkaaaaDoor.ST
open Go.RowKit Go.Proofs.YtkplgfhkebkaaaaDoorW.PrintWords
set_option linter.unusedVariables false
set_option linter.unusedSimpArgs false
section
variable (w : World) (n : Nat → Int) (oA tA : Option Addr) (ol oc tl tc : Nat) (pc st : Int) (a b c : Nat) (o N : Int)
set_option maxHeartbeats 1000000 in
set_option maxRecDepth 100000 in
theorem num_set (ha : (a : Int) < 8) :
    Calls Tryd.prog 27 #[.agg #[.int .i64 (n 0), .int .i64 (n 1), .int .i64 (n 2), .int .i64 (n 3), .int .i64 (n 4), .int .i64 (n 5), .int .i64 (n 6), .int .i64 (n 7), .int .i64 (n 8), .int .i64 (n 9), .int .i64 (n 10), .int .i64 (n 11), .int .i64 (n 12), .int .i64 (n 13), .int .i64 (n 14), .int .i64 (n 15), .int .i64 (n 16), .int .i64 (n 17), .int .i64 (n 18), .int .i64 (n 19), .slice oA ol oc, .slice tA tl tc, .int .i64 pc, .int .i64 st], .agg #[.int .u8 1, .int .u8 a, .int .u8 b, .int .u8 c, .int .i64 N]] w fun e w' => e = .returned (.tuple #[.agg #[.int .i64 (upd n a (N) 0), .int .i64 (upd n a (N) 1), .int .i64 (upd n a (N) 2), .int .i64 (upd n a (N) 3), .int .i64 (upd n a (N) 4), .int .i64 (upd n a (N) 5), .int .i64 (upd n a (N) 6), .int .i64 (upd n a (N) 7), .int .i64 (n 8), .int .i64 (n 9), .int .i64 (n 10), .int .i64 (n 11), .int .i64 (n 12), .int .i64 (n 13), .int .i64 (n 14), .int .i64 (n 15), .int .i64 (n 16), .int .i64 (n 17), .int .i64 (n 18), .int .i64 (n 19), .slice oA ol oc, .slice tA tl tc, .int .i64 pc, .int .i64 st], .bool true]) ∧ Below w.heap.size w w' := by
  have ra := row8 n 0 a (by omega)
  simp only [Nat.zero_add, Nat.reduceAdd] at ra
  have s8 := set8 n 0 a (by omega) (N)
  simp only [Nat.zero_add, Nat.reduceAdd] at s8
  have a0 : (0 : Int) ≤ a := by omega
  go_enter Tryd.func27, Tryd.ntmps27
  go_wp2_with (first
    | (apply ldS; (with_reducible rfl); rfl; rfl; exact rowT; rfl)
    | (apply srS; (with_reducible rfl); rfl; rfl; rfl; exact rowT; rfl; rfl; rfl; exact setT))
  refine ret2S rfl rfl rfl rfl rowT rfl ⟨rfl, ?_⟩
  repeat (first | exact Below.refl _ _ | refine below_alloc ?_ _ | refine below_drew1 ?_ | refine pw_below_drewN ?_ _)
set_option maxHeartbeats 1000000 in
set_option maxRecDepth 100000 in
theorem num_add (ha : (a : Int) < 8) (hb : (b : Int) < 8) (hc : (c : Int) < 8) :
    Calls Tryd.prog 27 #[.agg #[.int .i64 (n 0), .int .i64 (n 1), .int .i64 (n 2), .int .i64 (n 3), .int .i64 (n 4), .int .i64 (n 5), .int .i64 (n 6), .int .i64 (n 7), .int .i64 (n 8), .int .i64 (n 9), .int .i64 (n 10), .int .i64 (n 11), .int .i64 (n 12), .int .i64 (n 13), .int .i64 (n 14), .int .i64 (n 15), .int .i64 (n 16), .int .i64 (n 17), .int .i64 (n 18), .int .i64 (n 19), .slice oA ol oc, .slice tA tl tc, .int .i64 pc, .int .i64 st], .agg #[.int .u8 2, .int .u8 a, .int .u8 b, .int .u8 c, .int .i64 N]] w fun e w' => e = .returned (.tuple #[.agg #[.int .i64 (upd n a (wrap64 (n b + n c)) 0), .int .i64 (upd n a (wrap64 (n b + n c)) 1), .int .i64 (upd n a (wrap64 (n b + n c)) 2), .int .i64 (upd n a (wrap64 (n b + n c)) 3), .int .i64 (upd n a (wrap64 (n b + n c)) 4), .int .i64 (upd n a (wrap64 (n b + n c)) 5), .int .i64 (upd n a (wrap64 (n b + n c)) 6), .int .i64 (upd n a (wrap64 (n b + n c)) 7), .int .i64 (n 8), .int .i64 (n 9), .int .i64 (n 10), .int .i64 (n 11), .int .i64 (n 12), .int .i64 (n 13), .int .i64 (n 14), .int .i64 (n 15), .int .i64 (n 16), .int .i64 (n 17), .int .i64 (n 18), .int .i64 (n 19), .slice oA ol oc, .slice tA tl tc, .int .i64 pc, .int .i64 st], .bool true]) ∧ Below w.heap.size w w' := by
  have ra := row8 n 0 a (by omega)
  simp only [Nat.zero_add, Nat.reduceAdd] at ra
  have rb := row8 n 0 b (by omega)
  simp only [Nat.zero_add, Nat.reduceAdd] at rb
  have rc := row8 n 0 c (by omega)
  simp only [Nat.zero_add, Nat.reduceAdd] at rc
  have s8 := set8 n 0 a (by omega) (wrap64 (n b + n c))
  simp only [Nat.zero_add, Nat.reduceAdd] at s8
  have a0 : (0 : Int) ≤ a := by omega
  have b0 : (0 : Int) ≤ b := by omega
  have c0 : (0 : Int) ≤ c := by omega
  go_enter Tryd.func27, Tryd.ntmps27
  go_upto_region 7 with (fail)
  go_region
  go_wp2_with (first
    | (apply ldS; (with_reducible rfl); rfl; rfl; exact rowT; rfl)
    | (apply srS; (with_reducible rfl); rfl; rfl; rfl; exact rowT; rfl; rfl; rfl; exact setT))
  refine ret2S rfl rfl rfl rfl rowT rfl ⟨rfl, ?_⟩
  repeat (first | exact Below.refl _ _ | refine below_alloc ?_ _ | refine below_drew1 ?_ | refine pw_below_drewN ?_ _)
set_option maxHeartbeats 1000000 in
set_option maxRecDepth 100000 in
theorem num_same_eq (ha : (a : Int) < 8) (hb : (b : Int) < 8) (hc : (c : Int) < 8) (hh : n (8 + b) = n (8 + c)) :
    Calls Tryd.prog 27 #[.agg #[.int .i64 (n 0), .int .i64 (n 1), .int .i64 (n 2), .int .i64 (n 3), .int .i64 (n 4), .int .i64 (n 5), .int .i64 (n 6), .int .i64 (n 7), .int .i64 (n 8), .int .i64 (n 9), .int .i64 (n 10), .int .i64 (n 11), .int .i64 (n 12), .int .i64 (n 13), .int .i64 (n 14), .int .i64 (n 15), .int .i64 (n 16), .int .i64 (n 17), .int .i64 (n 18), .int .i64 (n 19), .slice oA ol oc, .slice tA tl tc, .int .i64 pc, .int .i64 st], .agg #[.int .u8 15, .int .u8 a, .int .u8 b, .int .u8 c, .int .i64 N]] w fun e w' => e = .returned (.tuple #[.agg #[.int .i64 (upd n a (1) 0), .int .i64 (upd n a (1) 1), .int .i64 (upd n a (1) 2), .int .i64 (upd n a (1) 3), .int .i64 (upd n a (1) 4), .int .i64 (upd n a (1) 5), .int .i64 (upd n a (1) 6), .int .i64 (upd n a (1) 7), .int .i64 (n 8), .int .i64 (n 9), .int .i64 (n 10), .int .i64 (n 11), .int .i64 (n 12), .int .i64 (n 13), .int .i64 (n 14), .int .i64 (n 15), .int .i64 (n 16), .int .i64 (n 17), .int .i64 (n 18), .int .i64 (n 19), .slice oA ol oc, .slice tA tl tc, .int .i64 pc, .int .i64 st], .bool true]) ∧ Below w.heap.size w w' := by
  have ra := row8 n 0 a (by omega)
  simp only [Nat.zero_add, Nat.reduceAdd] at ra
  have rb := rowS n (.slice oA ol oc) (.slice tA tl tc) (.int .i64 pc) (.int .i64 st) (8 + b) (by omega)
  have rc := rowS n (.slice oA ol oc) (.slice tA tl tc) (.int .i64 pc) (.int .i64 st) (8 + c) (by omega)
  have s8 := set8 n 0 a (by omega) (0)
  simp only [Nat.zero_add, Nat.reduceAdd] at s8
  have s9 := set8 (upd n a 0) 0 a (by omega) 1
  simp only [Nat.zero_add, upd_upd] at s9
  have ra2 := row8 (upd n a 0) 0 a (by omega)
  simp only [Nat.zero_add] at ra2
  have a0 : (0 : Int) ≤ a := by omega
  have b0 : (0 : Int) ≤ b := by omega
  have c0 : (0 : Int) ≤ c := by omega
  have hd : (n (8 + b) == n (8 + c)) = true := by simpa using hh
  clear hh
  go_enter Tryd.func27, Tryd.ntmps27
  go_upto_region 10 with (fail)
  go_region
  go_wp2_with (first
    | (apply ldS; (with_reducible rfl); rfl; rfl; exact rowT; rfl)
    | (apply srS; (with_reducible rfl); rfl; rfl; rfl; exact rowT; rfl; rfl; rfl; exact setT))
  refine ret2S rfl rfl rfl rfl rowT rfl ⟨rfl, ?_⟩
  repeat (first | exact Below.refl _ _ | refine below_alloc ?_ _ | refine below_drew1 ?_ | refine pw_below_drewN ?_ _)
set_option maxHeartbeats 1000000 in
set_option maxRecDepth 100000 in
theorem num_same_ne (ha : (a : Int) < 8) (hb : (b : Int) < 8) (hc : (c : Int) < 8) (hh : ¬ n (8 + b) = n (8 + c)) :
    Calls Tryd.prog 27 #[.agg #[.int .i64 (n 0), .int .i64 (n 1), .int .i64 (n 2), .int .i64 (n 3), .int .i64 (n 4), .int .i64 (n 5), .int .i64 (n 6), .int .i64 (n 7), .int .i64 (n 8), .int .i64 (n 9), .int .i64 (n 10), .int .i64 (n 11), .int .i64 (n 12), .int .i64 (n 13), .int .i64 (n 14), .int .i64 (n 15), .int .i64 (n 16), .int .i64 (n 17), .int .i64 (n 18), .int .i64 (n 19), .slice oA ol oc, .slice tA tl tc, .int .i64 pc, .int .i64 st], .agg #[.int .u8 15, .int .u8 a, .int .u8 b, .int .u8 c, .int .i64 N]] w fun e w' => e = .returned (.tuple #[.agg #[.int .i64 (upd n a (0) 0), .int .i64 (upd n a (0) 1), .int .i64 (upd n a (0) 2), .int .i64 (upd n a (0) 3), .int .i64 (upd n a (0) 4), .int .i64 (upd n a (0) 5), .int .i64 (upd n a (0) 6), .int .i64 (upd n a (0) 7), .int .i64 (n 8), .int .i64 (n 9), .int .i64 (n 10), .int .i64 (n 11), .int .i64 (n 12), .int .i64 (n 13), .int .i64 (n 14), .int .i64 (n 15), .int .i64 (n 16), .int .i64 (n 17), .int .i64 (n 18), .int .i64 (n 19), .slice oA ol oc, .slice tA tl tc, .int .i64 pc, .int .i64 st], .bool true]) ∧ Below w.heap.size w w' := by
  have ra := row8 n 0 a (by omega)
  simp only [Nat.zero_add, Nat.reduceAdd] at ra
  have rb := rowS n (.slice oA ol oc) (.slice tA tl tc) (.int .i64 pc) (.int .i64 st) (8 + b) (by omega)
  have rc := rowS n (.slice oA ol oc) (.slice tA tl tc) (.int .i64 pc) (.int .i64 st) (8 + c) (by omega)
  have s8 := set8 n 0 a (by omega) (0)
  simp only [Nat.zero_add, Nat.reduceAdd] at s8
  have a0 : (0 : Int) ≤ a := by omega
  have b0 : (0 : Int) ≤ b := by omega
  have c0 : (0 : Int) ≤ c := by omega
  have hd : (n (8 + b) == n (8 + c)) = false := by simpa using hh
  clear hh
  go_enter Tryd.func27, Tryd.ntmps27
  go_upto_region 10 with (fail)
  go_region
  go_wp2_with (first
    | (apply ldS; (with_reducible rfl); rfl; rfl; exact rowT; rfl)
    | (apply srS; (with_reducible rfl); rfl; rfl; rfl; exact rowT; rfl; rfl; rfl; exact setT))
  refine ret2S rfl rfl rfl rfl rowT rfl ⟨rfl, ?_⟩
  repeat (first | exact Below.refl _ _ | refine below_alloc ?_ _ | refine below_drew1 ?_ | refine pw_below_drewN ?_ _)
set_option maxHeartbeats 1000000 in
set_option maxRecDepth 100000 in
theorem num_other (h1 : ¬ o = 1) (h2 : ¬ o = 2) (h14 : ¬ o = 14) (h15 : ¬ o = 15) :
    Calls Tryd.prog 27 #[.agg #[.int .i64 (n 0), .int .i64 (n 1), .int .i64 (n 2), .int .i64 (n 3), .int .i64 (n 4), .int .i64 (n 5), .int .i64 (n 6), .int .i64 (n 7), .int .i64 (n 8), .int .i64 (n 9), .int .i64 (n 10), .int .i64 (n 11), .int .i64 (n 12), .int .i64 (n 13), .int .i64 (n 14), .int .i64 (n 15), .int .i64 (n 16), .int .i64 (n 17), .int .i64 (n 18), .int .i64 (n 19), .slice oA ol oc, .slice tA tl tc, .int .i64 pc, .int .i64 st], .agg #[.int .u8 o, .int .u8 a, .int .u8 b, .int .u8 c, .int .i64 N]] w fun e w' => e = .returned (.tuple #[.agg #[.int .i64 (n 0), .int .i64 (n 1), .int .i64 (n 2), .int .i64 (n 3), .int .i64 (n 4), .int .i64 (n 5), .int .i64 (n 6), .int .i64 (n 7), .int .i64 (n 8), .int .i64 (n 9), .int .i64 (n 10), .int .i64 (n 11), .int .i64 (n 12), .int .i64 (n 13), .int .i64 (n 14), .int .i64 (n 15), .int .i64 (n 16), .int .i64 (n 17), .int .i64 (n 18), .int .i64 (n 19), .slice oA ol oc, .slice tA tl tc, .int .i64 pc, .int .i64 st], .bool false]) ∧ Below w.heap.size w w' := by
  go_enter Tryd.func27, Tryd.ntmps27
  go_wp2_with (first
    | (apply ldS; (with_reducible rfl); rfl; rfl; exact rowT; rfl)
    | (apply srS; (with_reducible rfl); rfl; rfl; rfl; exact rowT; rfl; rfl; rfl; exact setT))
  refine ret2S rfl rfl rfl rfl rowT rfl ⟨rfl, ?_⟩
  repeat (first | exact Below.refl _ _ | refine below_alloc ?_ _ | refine below_drew1 ?_ | refine pw_below_drewN ?_ _)
set_option maxHeartbeats 1000000 in
set_option maxRecDepth 100000 in
theorem num_print (out : List Int) (etl : tl = out.length) (htc : out.length ≤ tc) (hT : KI.C w tA out.length out) (hl : out.length ≤ 1000000) (ha : (a : Int) < 8) :
    Calls Tryd.prog 27 #[.agg #[.int .i64 (n 0), .int .i64 (n 1), .int .i64 (n 2), .int .i64 (n 3), .int .i64 (n 4), .int .i64 (n 5), .int .i64 (n 6), .int .i64 (n 7), .int .i64 (n 8), .int .i64 (n 9), .int .i64 (n 10), .int .i64 (n 11), .int .i64 (n 12), .int .i64 (n 13), .int .i64 (n 14), .int .i64 (n 15), .int .i64 (n 16), .int .i64 (n 17), .int .i64 (n 18), .int .i64 (n 19), .slice oA ol oc, .slice tA tl tc, .int .i64 pc, .int .i64 st], .agg #[.int .u8 14, .int .u8 a, .int .u8 b, .int .u8 c, .int .i64 N]] w fun e w' => ∃ A' c', e = .returned (.tuple #[.agg #[.int .i64 (n 0), .int .i64 (n 1), .int .i64 (n 2), .int .i64 (n 3), .int .i64 (n 4), .int .i64 (n 5), .int .i64 (n 6), .int .i64 (n 7), .int .i64 (n 8), .int .i64 (n 9), .int .i64 (n 10), .int .i64 (n 11), .int .i64 (n 12), .int .i64 (n 13), .int .i64 (n 14), .int .i64 (n 15), .int .i64 (n 16), .int .i64 (n 17), .int .i64 (n 18), .int .i64 (n 19), .slice oA ol oc, .slice A' (out.length + 1) c', .int .i64 pc, .int .i64 st], .bool true]) ∧ out.length + 1 ≤ c' ∧ OutF w' (fun k => w.heap.size ≤ k) A' (out ++ [n a]) ∧ Below w.heap.size w w' := by
  subst etl
  have HT := Aside0.mk hT
  clear hT
  have ra := row8 n 0 a (by omega)
  simp only [Nat.zero_add] at ra
  have a0 : (0 : Int) ≤ a := by omega
  go_enter Tryd.func27, Tryd.ntmps27
  go_upto_region 16 with (first
    | (apply ldS; (with_reducible rfl); rfl; rfl; exact rowT; rfl)
    | (apply srS; (with_reducible rfl); rfl; rfl; rfl; exact rowT; rfl; rfl; rfl; exact setT)
    | (at_builtin; refine Kd.R_append_row (w0 := _) (Value.int .i64) 0 (w.heap.size + 1 + 1 + 1 + 1) rfl (.tmp 55) (.tmp 57) 32 2 _ 8 rfl Tryd.underlying32 info_i rfl (by decide) (.slice (some ⟨w.heap.size + 1 + 1 + 1 + 1, 0, none⟩) 0 0) [] out tA out.length tc (fun _ => True) rfl rfl (fun _ _ => trivial) (own_empty _ _ _ _ (by simp) (by simp)) (Kd.C_below HT.out (by repeat (first | exact Below.refl _ _ | refine below_alloc ?_ _))) (Below.alloc (Below.refl _ _) (by simp) _) (by simp) (by simp; omega) ?_; intro v1 w1 hr1 hb1 hg1 _; obtain ⟨hc1, hf1⟩ := bcell hb1; have hz1 : w.heap.size + 1 + 1 + 1 + 1 ≤ w1.heap.size := Nat.le_trans (by simp) hb1.size; have HR1 := Aside0.mk hr1; clear hr1 hg1)
    | (at_builtin; refine print_append_num (w0 := w1) (w.heap.size + 1 + 1 + 1 + 1) rfl (.tmp 59) (.tmp 64) 32 2 .i64 8 rfl Tryd.underlying32 info_i (by decide) v1 ([] ++ out) (n a) rfl rfl (Kd.own_of_R HR1.out) (Below.refl _ _) hz1 (by simp; omega) ?_; intro v2 w2 hr2 hb2 hg2 _; obtain ⟨hc2, hf2⟩ := bcell hb2; have b0 := (hb2.block w.heap.size (by omega)).trans ((hb1.block w.heap.size (by omega)).trans (rowT (p := _ = some (.cells _ 34 (0, 0))))); have b2 := (hb2.block (w.heap.size + 1 + 1) (by omega)).trans ((hb1.block (w.heap.size + 1 + 1) (by omega)).trans (rowT (p := _ = some (.cells _ 34 (0, 0))))); obtain ⟨A2, c2, e2, hc2'⟩ := own_reads hr2; subst e2; have HR2 := Aside0.mk hr2; have HB2 := Aside0.mk hb2; clear hr2 hg2))
  have HC2 := Aside0.mk hc2'
  have LC2 := Aside0.mk (own_le HR2.out)
  generalize hW : World.setCell _ _ _ = W
  have r0 : W.heap[w.heap.size]? = some (.cells #[.int .i64 (n 0), .int .i64 (n 1), .int .i64 (n 2), .int .i64 (n 3), .int .i64 (n 4), .int .i64 (n 5), .int .i64 (n 6), .int .i64 (n 7), .int .i64 (n 8), .int .i64 (n 9), .int .i64 (n 10), .int .i64 (n 11), .int .i64 (n 12), .int .i64 (n 13), .int .i64 (n 14), .int .i64 (n 15), .int .i64 (n 16), .int .i64 (n 17), .int .i64 (n 18), .int .i64 (n 19), .slice oA ol oc, .slice A2 (out.length + 1) c2, .int .i64 pc, .int .i64 st] 34 (0, 0)) := by
    rw [← hW]
    refine Eq.trans (rowT (p := _ = some (.cells _ 34 (0, 0)))) ?_
    simp
  have r2 : W.heap[w.heap.size + 1 + 1]? = some (.cells #[.int .i64 0, .int .i64 0, .int .i64 0, .int .i64 0, .int .i64 0, .int .i64 0, .int .i64 0, .int .i64 0, .int .i64 0, .int .i64 0, .int .i64 0, .int .i64 0, .int .i64 0, .int .i64 0, .int .i64 0, .int .i64 0, .int .i64 0, .int .i64 0, .int .i64 0, .int .i64 0, .slice none 0 0, .slice none 0 0, .int .i64 0, .int .i64 0] 34 (0, 0)) := by
    rw [← hW]
    exact rowT
  have hRW : W.ownsRow (w.heap.size + 1 + 1 + 1 + 1) 2 1 (.slice A2 ([] ++ out ++ [n a]).length c2) ([] ++ out ++ [n a]).length (nums .i64 ([] ++ out ++ [n a])) := by
    have hne : (Value.slice A2 ([] ++ out ++ [n a]).length c2).ownBlock ≠ some w.heap.size := fun e => by
      have := own_base HR2.out _ e
      omega
    rw [← hW]
    repeat (first | (with_reducible refine ownsRow_setCell_other ?_ hne _) | exact HR2.out)
  have hBW : Below w.heap.size w W := by
    rw [← hW]
    repeat (first | (with_reducible refine below_set ?_ (Nat.le_refl _)) | exact ((Below.refl w.heap.size w).alloc (Nat.le_refl _) _ |>.alloc (by simp) _ |>.alloc (by simp; omega) _ |>.alloc (by simp; omega) _).trans ((hb1.mono (by omega)).trans (hb2.mono (by omega))))
  have HBW := Aside0.mk hBW
  have HRW := Aside0.mk hRW
  clear hW hBW b0 b2 hb1 hc1 hf1 hb2 hc2 hf2 hc2' hRW
  go_wp2_with (first
    | (apply ldS; (with_reducible rfl); rfl; rfl; exact rowT; rfl)
    | (apply srS; (with_reducible rfl); rfl; rfl; rfl; exact rowT; rfl; rfl; rfl; rfl))
  have H3 : ∀ cs, OutF (W.setRow (w.heap.size + 1 + 1) cs) (fun k => w.heap.size ≤ k) A2 (out ++ [n a]) := fun cs W' hW' => by
    have hne : (Value.slice A2 ([] ++ out ++ [n a]).length c2).ownBlock ≠ some (w.heap.size + 1 + 1) := fun e => by
      have := own_base HRW.out _ e
      omega
    have h1 := Kd.R_of_own (h1 := fun _ => rfl) (ok := fun _ => True) (own_move HRW.out (w1 := W') fun k hk => (hW' k (by have := own_base HRW.out k hk; omega) (by have := own_lt HRW.out k hk; simpa using this)).trans (setRow_other W (w.heap.size + 1 + 1) k cs (fun e => hne (by rw [← e]; exact hk)))) fun _ _ => trivial
    exact (Kd.R_reads' h1).2.2
  refine ret2S rfl rfl rfl rfl (setRow_heap _ _ _ _ _ _ r2) rfl ⟨A2, c2, rfl, ?_, H3 _, below_row HBW.out (by omega)⟩
  have := own_le HRW.out
  simpa using this
end
end Go.Proofs.YtkplgfhkebkaaaaDoor.ST

namespace Go.Proofs.YtkplgfhkebkaaaaDoor.ST
open Go.RowKit Go.Proofs.YtkplgfhkebkaaaaDoorW.PrintWords
set_option linter.unusedVariables false
set_option linter.unusedSimpArgs false
section
variable (w : World) (n : Nat → Int) (oA tA : Option Addr) (ol oc tl tc : Nat) (pc st : Int) (a b c : Nat) (N : Int)
set_option maxHeartbeats 1000000 in
set_option maxRecDepth 100000 in
theorem mem_loadI (hs : List Hd) (os : List (List Int)) (eol : ol = hs.length) (hO : Objs w oA hs os) (o f : Nat) (ho : o < hs.length) (hf : f < (os.getD o []).length) (hp : n (8 + b) = (o : Int) + 1) (ha : (a : Int) < 8) (hb : (b : Int) < 8) :
    Calls Tryd.prog 29 #[.agg #[.int .i64 (n 0), .int .i64 (n 1), .int .i64 (n 2), .int .i64 (n 3), .int .i64 (n 4), .int .i64 (n 5), .int .i64 (n 6), .int .i64 (n 7), .int .i64 (n 8), .int .i64 (n 9), .int .i64 (n 10), .int .i64 (n 11), .int .i64 (n 12), .int .i64 (n 13), .int .i64 (n 14), .int .i64 (n 15), .int .i64 (n 16), .int .i64 (n 17), .int .i64 (n 18), .int .i64 (n 19), .slice oA ol oc, .slice tA tl tc, .int .i64 pc, .int .i64 st], .agg #[.int .u8 8, .int .u8 a, .int .u8 b, .int .u8 c, .int .i64 (f : Int)]] w fun e w' => e = .returned (.tuple #[.agg #[.int .i64 (upd n a ((os.getD o []).getD f 0) 0), .int .i64 (upd n a ((os.getD o []).getD f 0) 1), .int .i64 (upd n a ((os.getD o []).getD f 0) 2), .int .i64 (upd n a ((os.getD o []).getD f 0) 3), .int .i64 (upd n a ((os.getD o []).getD f 0) 4), .int .i64 (upd n a ((os.getD o []).getD f 0) 5), .int .i64 (upd n a ((os.getD o []).getD f 0) 6), .int .i64 (upd n a ((os.getD o []).getD f 0) 7), .int .i64 (n 8), .int .i64 (n 9), .int .i64 (n 10), .int .i64 (n 11), .int .i64 (n 12), .int .i64 (n 13), .int .i64 (n 14), .int .i64 (n 15), .int .i64 (n 16), .int .i64 (n 17), .int .i64 (n 18), .int .i64 (n 19), .slice oA ol oc, .slice tA tl tc, .int .i64 pc, .int .i64 st], .int .i64 0]) ∧ Below w.heap.size w w' := by
  subst eol
  obtain ⟨ad, had, eA, eH, h1, h2⟩ := hO.reads ho hf
  subst eA
  have hm1 := hO.row.2.1
  have hm2 := (hO.is o ho).2.2.2.1
  have hw1 : wrap64 (o : Int) = o := by unfold wrap64; omega
  have hx1 : ∀ p q r s : Obj, ((((w.alloc p).alloc q).alloc r).alloc s).cell? (ad.add o) = some (.slice (some had) (os.getD o []).length (hs.getD o default).c) := fun p q r s => cell_more h1 p q r s
  have hx2 : ∀ p q r s : Obj, ((((w.alloc p).alloc q).alloc r).alloc s).cell? (had.add f) = some (.int .i64 ((os.getD o []).getD f 0)) := fun p q r s => cell_more h2 p q r s
  obtain ⟨v, ev⟩ : ∃ v, v = (os.getD o []).getD f 0 := ⟨_, rfl⟩
  obtain ⟨m, em⟩ : ∃ m, m = (os.getD o []).length := ⟨_, rfl⟩
  rw [← ev] at hx2 ⊢
  rw [← em] at hf hx1
  have i0 : (0 : Int) ≤ o := by omega
  have i1 : (o : Int) < hs.length := by omega
  have f0 : (0 : Int) ≤ f := by omega
  have f1 : (f : Int) < m := by omega
  have hne : (((o : Int) + 1) == 0) = false := by
    rw [beq_eq_false_iff_ne]
    omega
  clear h1 h2 ev em eH hO
  have rb := rowS n (.slice (some ad) hs.length oc) (.slice tA tl tc) (.int .i64 pc) (.int .i64 st) (8 + b) (by omega)
  rw [hp] at rb
  clear hp
  have ra := row8 n 0 a (by omega)
  simp only [Nat.zero_add, Nat.reduceAdd] at ra
  have s8 := set8 n 0 a (by omega) (v)
  simp only [Nat.zero_add, Nat.reduceAdd] at s8
  have a0 : (0 : Int) ≤ a := by omega
  have b0 : (0 : Int) ≤ b := by omega
  go_enter Tryd.func29, Tryd.ntmps29
  go_upto_region 11 with (fail)
  go_region
  go_wp2_with (first
    | (apply ldS; (with_reducible rfl); rfl; rfl; exact rowT; rfl)
    | (apply srS; (with_reducible rfl); rfl; rfl; rfl; exact rowT; rfl; rfl; rfl; exact setT))
  refine ret2S rfl rfl rfl rfl rowT rfl ⟨rfl, ?_⟩
  repeat (first | exact Below.refl _ _ | refine below_alloc ?_ _ | refine below_drew1 ?_ | refine pw_below_drewN ?_ _)
set_option maxHeartbeats 1000000 in
set_option maxRecDepth 100000 in
theorem mem_loadP (hs : List Hd) (os : List (List Int)) (eol : ol = hs.length) (hO : Objs w oA hs os) (o f : Nat) (ho : o < hs.length) (hf : f < (os.getD o []).length) (hp : n (8 + b) = (o : Int) + 1) (ha : (a : Int) < 8) (hb : (b : Int) < 8) :
    Calls Tryd.prog 29 #[.agg #[.int .i64 (n 0), .int .i64 (n 1), .int .i64 (n 2), .int .i64 (n 3), .int .i64 (n 4), .int .i64 (n 5), .int .i64 (n 6), .int .i64 (n 7), .int .i64 (n 8), .int .i64 (n 9), .int .i64 (n 10), .int .i64 (n 11), .int .i64 (n 12), .int .i64 (n 13), .int .i64 (n 14), .int .i64 (n 15), .int .i64 (n 16), .int .i64 (n 17), .int .i64 (n 18), .int .i64 (n 19), .slice oA ol oc, .slice tA tl tc, .int .i64 pc, .int .i64 st], .agg #[.int .u8 10, .int .u8 a, .int .u8 b, .int .u8 c, .int .i64 (f : Int)]] w fun e w' => e = .returned (.tuple #[.agg #[.int .i64 (n 0), .int .i64 (n 1), .int .i64 (n 2), .int .i64 (n 3), .int .i64 (n 4), .int .i64 (n 5), .int .i64 (n 6), .int .i64 (n 7), .int .i64 (upd n (8 + a) ((os.getD o []).getD f 0) 8), .int .i64 (upd n (8 + a) ((os.getD o []).getD f 0) 9), .int .i64 (upd n (8 + a) ((os.getD o []).getD f 0) 10), .int .i64 (upd n (8 + a) ((os.getD o []).getD f 0) 11), .int .i64 (upd n (8 + a) ((os.getD o []).getD f 0) 12), .int .i64 (upd n (8 + a) ((os.getD o []).getD f 0) 13), .int .i64 (upd n (8 + a) ((os.getD o []).getD f 0) 14), .int .i64 (upd n (8 + a) ((os.getD o []).getD f 0) 15), .int .i64 (n 16), .int .i64 (n 17), .int .i64 (n 18), .int .i64 (n 19), .slice oA ol oc, .slice tA tl tc, .int .i64 pc, .int .i64 st], .int .i64 0]) ∧ Below w.heap.size w w' := by
  subst eol
  obtain ⟨ad, had, eA, eH, h1, h2⟩ := hO.reads ho hf
  subst eA
  have hm1 := hO.row.2.1
  have hm2 := (hO.is o ho).2.2.2.1
  have hw1 : wrap64 (o : Int) = o := by unfold wrap64; omega
  have hx1 : ∀ p q r s : Obj, ((((w.alloc p).alloc q).alloc r).alloc s).cell? (ad.add o) = some (.slice (some had) (os.getD o []).length (hs.getD o default).c) := fun p q r s => cell_more h1 p q r s
  have hx2 : ∀ p q r s : Obj, ((((w.alloc p).alloc q).alloc r).alloc s).cell? (had.add f) = some (.int .i64 ((os.getD o []).getD f 0)) := fun p q r s => cell_more h2 p q r s
  obtain ⟨v, ev⟩ : ∃ v, v = (os.getD o []).getD f 0 := ⟨_, rfl⟩
  obtain ⟨m, em⟩ : ∃ m, m = (os.getD o []).length := ⟨_, rfl⟩
  rw [← ev] at hx2 ⊢
  rw [← em] at hf hx1
  have i0 : (0 : Int) ≤ o := by omega
  have i1 : (o : Int) < hs.length := by omega
  have f0 : (0 : Int) ≤ f := by omega
  have f1 : (f : Int) < m := by omega
  have hne : (((o : Int) + 1) == 0) = false := by
    rw [beq_eq_false_iff_ne]
    omega
  clear h1 h2 ev em eH hO
  have rb := rowS n (.slice (some ad) hs.length oc) (.slice tA tl tc) (.int .i64 pc) (.int .i64 st) (8 + b) (by omega)
  rw [hp] at rb
  clear hp
  have ra := row8 n 8 a (by omega)
  simp only [Nat.zero_add, Nat.reduceAdd] at ra
  have s8 := set8 n 8 a (by omega) (v)
  simp only [Nat.zero_add, Nat.reduceAdd] at s8
  have a0 : (0 : Int) ≤ a := by omega
  have b0 : (0 : Int) ≤ b := by omega
  go_enter Tryd.func29, Tryd.ntmps29
  go_upto_region 15 with (fail)
  go_region
  go_wp2_with (first
    | (apply ldS; (with_reducible rfl); rfl; rfl; exact rowT; rfl)
    | (apply srS; (with_reducible rfl); rfl; rfl; rfl; exact rowT; rfl; rfl; rfl; exact setT))
  refine ret2S rfl rfl rfl rfl rowT rfl ⟨rfl, ?_⟩
  repeat (first | exact Below.refl _ _ | refine below_alloc ?_ _ | refine below_drew1 ?_ | refine pw_below_drewN ?_ _)
set_option maxHeartbeats 1000000 in
set_option maxRecDepth 100000 in
theorem mem_none8 (hb : (b : Int) < 8) (hp : n (8 + b) = 0) :
    Calls Tryd.prog 29 #[.agg #[.int .i64 (n 0), .int .i64 (n 1), .int .i64 (n 2), .int .i64 (n 3), .int .i64 (n 4), .int .i64 (n 5), .int .i64 (n 6), .int .i64 (n 7), .int .i64 (n 8), .int .i64 (n 9), .int .i64 (n 10), .int .i64 (n 11), .int .i64 (n 12), .int .i64 (n 13), .int .i64 (n 14), .int .i64 (n 15), .int .i64 (n 16), .int .i64 (n 17), .int .i64 (n 18), .int .i64 (n 19), .slice oA ol oc, .slice tA tl tc, .int .i64 pc, .int .i64 st], .agg #[.int .u8 8, .int .u8 a, .int .u8 b, .int .u8 c, .int .i64 N]] w fun e w' => e = .returned (.tuple #[.agg #[.int .i64 (n 0), .int .i64 (n 1), .int .i64 (n 2), .int .i64 (n 3), .int .i64 (n 4), .int .i64 (n 5), .int .i64 (n 6), .int .i64 (n 7), .int .i64 (n 8), .int .i64 (n 9), .int .i64 (n 10), .int .i64 (n 11), .int .i64 (n 12), .int .i64 (n 13), .int .i64 (n 14), .int .i64 (n 15), .int .i64 (n 16), .int .i64 (n 17), .int .i64 (n 18), .int .i64 (n 19), .slice oA ol oc, .slice tA tl tc, .int .i64 pc, .int .i64 st], .int .i64 9]) ∧ Below w.heap.size w w' := by
  have rb := rowS n (.slice oA ol oc) (.slice tA tl tc) (.int .i64 pc) (.int .i64 st) (8 + b) (by omega)
  rw [hp] at rb
  clear hp
  have b0 : (0 : Int) ≤ b := by omega
  go_enter Tryd.func29, Tryd.ntmps29
  go_wp2_with (first
    | (apply ldS; (with_reducible rfl); rfl; rfl; exact rowT; rfl)
    | (apply srS; (with_reducible rfl); rfl; rfl; rfl; exact rowT; rfl; rfl; rfl; exact setT))
  refine ret2S rfl rfl rfl rfl rowT rfl ⟨rfl, ?_⟩
  repeat (first | exact Below.refl _ _ | refine below_alloc ?_ _ | refine below_drew1 ?_ | refine pw_below_drewN ?_ _)
set_option maxHeartbeats 1000000 in
set_option maxRecDepth 100000 in
theorem mem_none10 (hb : (b : Int) < 8) (hp : n (8 + b) = 0) :
    Calls Tryd.prog 29 #[.agg #[.int .i64 (n 0), .int .i64 (n 1), .int .i64 (n 2), .int .i64 (n 3), .int .i64 (n 4), .int .i64 (n 5), .int .i64 (n 6), .int .i64 (n 7), .int .i64 (n 8), .int .i64 (n 9), .int .i64 (n 10), .int .i64 (n 11), .int .i64 (n 12), .int .i64 (n 13), .int .i64 (n 14), .int .i64 (n 15), .int .i64 (n 16), .int .i64 (n 17), .int .i64 (n 18), .int .i64 (n 19), .slice oA ol oc, .slice tA tl tc, .int .i64 pc, .int .i64 st], .agg #[.int .u8 10, .int .u8 a, .int .u8 b, .int .u8 c, .int .i64 N]] w fun e w' => e = .returned (.tuple #[.agg #[.int .i64 (n 0), .int .i64 (n 1), .int .i64 (n 2), .int .i64 (n 3), .int .i64 (n 4), .int .i64 (n 5), .int .i64 (n 6), .int .i64 (n 7), .int .i64 (n 8), .int .i64 (n 9), .int .i64 (n 10), .int .i64 (n 11), .int .i64 (n 12), .int .i64 (n 13), .int .i64 (n 14), .int .i64 (n 15), .int .i64 (n 16), .int .i64 (n 17), .int .i64 (n 18), .int .i64 (n 19), .slice oA ol oc, .slice tA tl tc, .int .i64 pc, .int .i64 st], .int .i64 9]) ∧ Below w.heap.size w w' := by
  have rb := rowS n (.slice oA ol oc) (.slice tA tl tc) (.int .i64 pc) (.int .i64 st) (8 + b) (by omega)
  rw [hp] at rb
  clear hp
  have b0 : (0 : Int) ≤ b := by omega
  go_enter Tryd.func29, Tryd.ntmps29
  go_wp2_with (first
    | (apply ldS; (with_reducible rfl); rfl; rfl; exact rowT; rfl)
    | (apply srS; (with_reducible rfl); rfl; rfl; rfl; exact rowT; rfl; rfl; rfl; exact setT))
  refine ret2S rfl rfl rfl rfl rowT rfl ⟨rfl, ?_⟩
  repeat (first | exact Below.refl _ _ | refine below_alloc ?_ _ | refine below_drew1 ?_ | refine pw_below_drewN ?_ _)
set_option maxHeartbeats 1000000 in
set_option maxRecDepth 100000 in
theorem mem_none9 (ha : (a : Int) < 8) (hp : n (8 + a) = 0) :
    Calls Tryd.prog 29 #[.agg #[.int .i64 (n 0), .int .i64 (n 1), .int .i64 (n 2), .int .i64 (n 3), .int .i64 (n 4), .int .i64 (n 5), .int .i64 (n 6), .int .i64 (n 7), .int .i64 (n 8), .int .i64 (n 9), .int .i64 (n 10), .int .i64 (n 11), .int .i64 (n 12), .int .i64 (n 13), .int .i64 (n 14), .int .i64 (n 15), .int .i64 (n 16), .int .i64 (n 17), .int .i64 (n 18), .int .i64 (n 19), .slice oA ol oc, .slice tA tl tc, .int .i64 pc, .int .i64 st], .agg #[.int .u8 9, .int .u8 a, .int .u8 b, .int .u8 c, .int .i64 N]] w fun e w' => e = .returned (.tuple #[.agg #[.int .i64 (n 0), .int .i64 (n 1), .int .i64 (n 2), .int .i64 (n 3), .int .i64 (n 4), .int .i64 (n 5), .int .i64 (n 6), .int .i64 (n 7), .int .i64 (n 8), .int .i64 (n 9), .int .i64 (n 10), .int .i64 (n 11), .int .i64 (n 12), .int .i64 (n 13), .int .i64 (n 14), .int .i64 (n 15), .int .i64 (n 16), .int .i64 (n 17), .int .i64 (n 18), .int .i64 (n 19), .slice oA ol oc, .slice tA tl tc, .int .i64 pc, .int .i64 st], .int .i64 9]) ∧ Below w.heap.size w w' := by
  have rb := rowS n (.slice oA ol oc) (.slice tA tl tc) (.int .i64 pc) (.int .i64 st) (8 + a) (by omega)
  rw [hp] at rb
  clear hp
  have a0 : (0 : Int) ≤ a := by omega
  go_enter Tryd.func29, Tryd.ntmps29
  go_wp2_with (first
    | (apply ldS; (with_reducible rfl); rfl; rfl; exact rowT; rfl)
    | (apply srS; (with_reducible rfl); rfl; rfl; rfl; exact rowT; rfl; rfl; rfl; exact setT))
  refine ret2S rfl rfl rfl rfl rowT rfl ⟨rfl, ?_⟩
  repeat (first | exact Below.refl _ _ | refine below_alloc ?_ _ | refine below_drew1 ?_ | refine pw_below_drewN ?_ _)
set_option maxHeartbeats 1000000 in
set_option maxRecDepth 100000 in
theorem mem_none11 (ha : (a : Int) < 8) (hp : n (8 + a) = 0) :
    Calls Tryd.prog 29 #[.agg #[.int .i64 (n 0), .int .i64 (n 1), .int .i64 (n 2), .int .i64 (n 3), .int .i64 (n 4), .int .i64 (n 5), .int .i64 (n 6), .int .i64 (n 7), .int .i64 (n 8), .int .i64 (n 9), .int .i64 (n 10), .int .i64 (n 11), .int .i64 (n 12), .int .i64 (n 13), .int .i64 (n 14), .int .i64 (n 15), .int .i64 (n 16), .int .i64 (n 17), .int .i64 (n 18), .int .i64 (n 19), .slice oA ol oc, .slice tA tl tc, .int .i64 pc, .int .i64 st], .agg #[.int .u8 11, .int .u8 a, .int .u8 b, .int .u8 c, .int .i64 N]] w fun e w' => e = .returned (.tuple #[.agg #[.int .i64 (n 0), .int .i64 (n 1), .int .i64 (n 2), .int .i64 (n 3), .int .i64 (n 4), .int .i64 (n 5), .int .i64 (n 6), .int .i64 (n 7), .int .i64 (n 8), .int .i64 (n 9), .int .i64 (n 10), .int .i64 (n 11), .int .i64 (n 12), .int .i64 (n 13), .int .i64 (n 14), .int .i64 (n 15), .int .i64 (n 16), .int .i64 (n 17), .int .i64 (n 18), .int .i64 (n 19), .slice oA ol oc, .slice tA tl tc, .int .i64 pc, .int .i64 st], .int .i64 9]) ∧ Below w.heap.size w w' := by
  have rb := rowS n (.slice oA ol oc) (.slice tA tl tc) (.int .i64 pc) (.int .i64 st) (8 + a) (by omega)
  rw [hp] at rb
  clear hp
  have a0 : (0 : Int) ≤ a := by omega
  go_enter Tryd.func29, Tryd.ntmps29
  go_wp2_with (first
    | (apply ldS; (with_reducible rfl); rfl; rfl; exact rowT; rfl)
    | (apply srS; (with_reducible rfl); rfl; rfl; rfl; exact rowT; rfl; rfl; rfl; exact setT))
  refine ret2S rfl rfl rfl rfl rowT rfl ⟨rfl, ?_⟩
  repeat (first | exact Below.refl _ _ | refine below_alloc ?_ _ | refine below_drew1 ?_ | refine pw_below_drewN ?_ _)
set_option maxHeartbeats 1000000 in
set_option maxRecDepth 100000 in
theorem mem_storeI (P : Nat → Prop) (hs : List Hd) (os : List (List Int)) (hO : ObF w P oA hs os) (hoc : hs.length ≤ oc) (o f : Nat) (ho : o < hs.length) (hf : f < (os.getD o []).length) (hl1 : hs.length ≤ 1000000) (hl2 : (os.getD o []).length ≤ 1000000) (hp : n (8 + a) = (o : Int) + 1) (ha : (a : Int) < 8) (hb : (b : Int) < 8) :
    Calls Tryd.prog 29 #[.agg #[.int .i64 (n 0), .int .i64 (n 1), .int .i64 (n 2), .int .i64 (n 3), .int .i64 (n 4), .int .i64 (n 5), .int .i64 (n 6), .int .i64 (n 7), .int .i64 (n 8), .int .i64 (n 9), .int .i64 (n 10), .int .i64 (n 11), .int .i64 (n 12), .int .i64 (n 13), .int .i64 (n 14), .int .i64 (n 15), .int .i64 (n 16), .int .i64 (n 17), .int .i64 (n 18), .int .i64 (n 19), .slice oA hs.length oc, .slice tA tl tc, .int .i64 pc, .int .i64 st], .agg #[.int .u8 9, .int .u8 a, .int .u8 b, .int .u8 c, .int .i64 (f : Int)]] w fun e w' => ∃ A' c' hs', e = .returned (.tuple #[.agg #[.int .i64 (n 0), .int .i64 (n 1), .int .i64 (n 2), .int .i64 (n 3), .int .i64 (n 4), .int .i64 (n 5), .int .i64 (n 6), .int .i64 (n 7), .int .i64 (n 8), .int .i64 (n 9), .int .i64 (n 10), .int .i64 (n 11), .int .i64 (n 12), .int .i64 (n 13), .int .i64 (n 14), .int .i64 (n 15), .int .i64 (n 16), .int .i64 (n 17), .int .i64 (n 18), .int .i64 (n 19), .slice A' hs'.length c', .slice tA tl tc, .int .i64 pc, .int .i64 st], .int .i64 0]) ∧ hs'.length ≤ c' ∧ ObF w' (fun k => P k ∨ w.heap.size ≤ k) A' hs' (os.set o ((os.getD o []).set f (n b))) ∧ Below w.heap.size w w' := by
  have HO := Aside0.mk hO
  have i0 : (0 : Int) ≤ o := by omega
  have hne : (((o : Int) + 1) == 0) = false := by
    rw [beq_eq_false_iff_ne]
    omega
  clear hO
  have ra := rowS n (.slice oA hs.length oc) (.slice tA tl tc) (.int .i64 pc) (.int .i64 st) (8 + a) (by omega)
  rw [hp] at ra
  clear hp
  have rb := rowS n (.slice oA hs.length oc) (.slice tA tl tc) (.int .i64 pc) (.int .i64 st) (b) (by omega)
  have a0 : (0 : Int) ≤ a := by omega
  have b0 : (0 : Int) ≤ b := by omega
  go_enter Tryd.func29, Tryd.ntmps29
  go_upto_region 18 with (fail)
  refine region_tail 10 (by kernel_rfl) (by kernel_rfl) ?_
  simp only [List.take_succ_cons, List.take_zero, List.drop_succ_cons, List.drop_zero]
  repeat still_step
  refine wpStill_nil ?_
  go_upto_region 19 with (first
    | (go_at_call 43; (with_reducible refine (put_calls _ oA oc hs os o f (n b) (fun k => P k ∧ k < w.heap.size) (HO.out.bound.below (by repeat (first | exact Below.refl _ _ | refine below_alloc ?_ _ | refine below_drew1 ?_ | refine pw_below_drewN ?_ _))) hoc ho hf hl1 hl2).mono ?_); rintro e w1 ⟨A1, c1, hs1, rfl, hc1, hO1, hb1⟩; obtain ⟨hcc, hff⟩ := bcell (B := w.heap.size + 1 + 1 + 1) (hb1.mono (by simp)); have b0 := (hb1.block w.heap.size (by simp; omega)).trans (rowT (p := _ = some (.cells _ 34 (0, 0)))); have b2 := (hb1.block (w.heap.size + 1 + 1) (by simp)).trans (rowT (p := _ = some (.cells _ 34 (0, 0)))); have HO1 := Aside0.mk hO1; have HB1 := Aside0.mk hb1; have HC1 := Aside0.mk hc1; clear hO1 hb1 hc1))
  generalize hW : World.setCell _ _ _ = W
  have r0 : W.heap[w.heap.size]? = some (.cells #[.int .i64 (n 0), .int .i64 (n 1), .int .i64 (n 2), .int .i64 (n 3), .int .i64 (n 4), .int .i64 (n 5), .int .i64 (n 6), .int .i64 (n 7), .int .i64 (n 8), .int .i64 (n 9), .int .i64 (n 10), .int .i64 (n 11), .int .i64 (n 12), .int .i64 (n 13), .int .i64 (n 14), .int .i64 (n 15), .int .i64 (n 16), .int .i64 (n 17), .int .i64 (n 18), .int .i64 (n 19), .slice A1 hs1.length c1, .slice tA tl tc, .int .i64 pc, .int .i64 st] 34 (0, 0)) := by
    rw [← hW]
    refine Eq.trans (rowT (p := _ = some (.cells _ 34 (0, 0)))) ?_
    simp
  have r2 : W.heap[w.heap.size + 1 + 1]? = some (.cells #[.int .i64 0, .int .i64 0, .int .i64 0, .int .i64 0, .int .i64 0, .int .i64 0, .int .i64 0, .int .i64 0, .int .i64 0, .int .i64 0, .int .i64 0, .int .i64 0, .int .i64 0, .int .i64 0, .int .i64 0, .int .i64 0, .int .i64 0, .int .i64 0, .int .i64 0, .int .i64 0, .slice none 0 0, .slice none 0 0, .int .i64 0, .int .i64 0] 34 (0, 0)) := by
    rw [← hW]
    exact rowT
  have hBW : Below w.heap.size w W := by
    rw [← hW]
    refine below_set ?_ (Nat.le_refl _)
    exact Below.trans (by repeat (first | exact Below.refl _ _ | refine below_alloc ?_ _ | refine below_drew1 ?_ | refine pw_below_drewN ?_ _)) (HB1.out.mono (by simp; try omega))
  have hOW : ∀ cs, ObF (W.setRow (w.heap.size + 1 + 1) cs) (fun k => P k ∨ w.heap.size ≤ k) A1 hs1 (os.set o ((os.getD o []).set f (n b))) := by
    intro cs
    refine ObF.mono (P := fun k => (P k ∧ k < w.heap.size) ∨ w.heap.size + 1 + 1 + 1 ≤ k) (ObF.step (ObF.mono HO1.out fun k hk => hk.imp id fun hk => by simpa using hk) fun k hk hl => ⟨?_, ?_⟩) fun k hk => hk.imp (fun h => h.1) fun h => by omega
    · rw [setRow_other W (w.heap.size + 1 + 1) k cs (by omega), ← hW]
      exact heap_setCell_other _ _ _ _ (show k ≠ w.heap.size by omega)
    · rw [← hW]
      simpa [World.setRow, World.setCell] using hl
  have HBW := Aside0.mk hBW
  have HOW := Aside0.mk hOW
  clear hW hBW hOW b0 b2 hcc hff
  go_wp2_with (first
    | (apply ldS; (with_reducible rfl); rfl; rfl; exact rowT; rfl)
    | (apply srS; (with_reducible rfl); rfl; rfl; rfl; exact rowT; rfl; rfl; rfl; rfl))
  refine ret2S rfl rfl rfl rfl (setRow_heap _ _ _ _ _ _ r2) rfl ⟨A1, c1, hs1, rfl, HC1.out, HOW.out _, below_row HBW.out (by omega)⟩
set_option maxHeartbeats 1000000 in
set_option maxRecDepth 100000 in
theorem mem_storeP (P : Nat → Prop) (hs : List Hd) (os : List (List Int)) (hO : ObF w P oA hs os) (hoc : hs.length ≤ oc) (o f : Nat) (ho : o < hs.length) (hf : f < (os.getD o []).length) (hl1 : hs.length ≤ 1000000) (hl2 : (os.getD o []).length ≤ 1000000) (hp : n (8 + a) = (o : Int) + 1) (ha : (a : Int) < 8) (hb : (b : Int) < 8) :
    Calls Tryd.prog 29 #[.agg #[.int .i64 (n 0), .int .i64 (n 1), .int .i64 (n 2), .int .i64 (n 3), .int .i64 (n 4), .int .i64 (n 5), .int .i64 (n 6), .int .i64 (n 7), .int .i64 (n 8), .int .i64 (n 9), .int .i64 (n 10), .int .i64 (n 11), .int .i64 (n 12), .int .i64 (n 13), .int .i64 (n 14), .int .i64 (n 15), .int .i64 (n 16), .int .i64 (n 17), .int .i64 (n 18), .int .i64 (n 19), .slice oA hs.length oc, .slice tA tl tc, .int .i64 pc, .int .i64 st], .agg #[.int .u8 11, .int .u8 a, .int .u8 b, .int .u8 c, .int .i64 (f : Int)]] w fun e w' => ∃ A' c' hs', e = .returned (.tuple #[.agg #[.int .i64 (n 0), .int .i64 (n 1), .int .i64 (n 2), .int .i64 (n 3), .int .i64 (n 4), .int .i64 (n 5), .int .i64 (n 6), .int .i64 (n 7), .int .i64 (n 8), .int .i64 (n 9), .int .i64 (n 10), .int .i64 (n 11), .int .i64 (n 12), .int .i64 (n 13), .int .i64 (n 14), .int .i64 (n 15), .int .i64 (n 16), .int .i64 (n 17), .int .i64 (n 18), .int .i64 (n 19), .slice A' hs'.length c', .slice tA tl tc, .int .i64 pc, .int .i64 st], .int .i64 0]) ∧ hs'.length ≤ c' ∧ ObF w' (fun k => P k ∨ w.heap.size ≤ k) A' hs' (os.set o ((os.getD o []).set f (n (8 + b)))) ∧ Below w.heap.size w w' := by
  have HO := Aside0.mk hO
  have i0 : (0 : Int) ≤ o := by omega
  have hne : (((o : Int) + 1) == 0) = false := by
    rw [beq_eq_false_iff_ne]
    omega
  clear hO
  have ra := rowS n (.slice oA hs.length oc) (.slice tA tl tc) (.int .i64 pc) (.int .i64 st) (8 + a) (by omega)
  rw [hp] at ra
  clear hp
  have rb := rowS n (.slice oA hs.length oc) (.slice tA tl tc) (.int .i64 pc) (.int .i64 st) (8 + b) (by omega)
  have a0 : (0 : Int) ≤ a := by omega
  have b0 : (0 : Int) ≤ b := by omega
  go_enter Tryd.func29, Tryd.ntmps29
  go_upto_region 8 with (fail)
  refine region_tail 10 (by kernel_rfl) (by kernel_rfl) ?_
  simp only [List.take_succ_cons, List.take_zero, List.drop_succ_cons, List.drop_zero]
  repeat still_step
  refine wpStill_nil ?_
  go_upto_region 19 with (first
    | (go_at_call 43; (with_reducible refine (put_calls _ oA oc hs os o f (n (8 + b)) (fun k => P k ∧ k < w.heap.size) (HO.out.bound.below (by repeat (first | exact Below.refl _ _ | refine below_alloc ?_ _ | refine below_drew1 ?_ | refine pw_below_drewN ?_ _))) hoc ho hf hl1 hl2).mono ?_); rintro e w1 ⟨A1, c1, hs1, rfl, hc1, hO1, hb1⟩; obtain ⟨hcc, hff⟩ := bcell (B := w.heap.size + 1 + 1 + 1) (hb1.mono (by simp)); have b0 := (hb1.block w.heap.size (by simp; omega)).trans (rowT (p := _ = some (.cells _ 34 (0, 0)))); have b2 := (hb1.block (w.heap.size + 1 + 1) (by simp)).trans (rowT (p := _ = some (.cells _ 34 (0, 0)))); have HO1 := Aside0.mk hO1; have HB1 := Aside0.mk hb1; have HC1 := Aside0.mk hc1; clear hO1 hb1 hc1))
  generalize hW : World.setCell _ _ _ = W
  have r0 : W.heap[w.heap.size]? = some (.cells #[.int .i64 (n 0), .int .i64 (n 1), .int .i64 (n 2), .int .i64 (n 3), .int .i64 (n 4), .int .i64 (n 5), .int .i64 (n 6), .int .i64 (n 7), .int .i64 (n 8), .int .i64 (n 9), .int .i64 (n 10), .int .i64 (n 11), .int .i64 (n 12), .int .i64 (n 13), .int .i64 (n 14), .int .i64 (n 15), .int .i64 (n 16), .int .i64 (n 17), .int .i64 (n 18), .int .i64 (n 19), .slice A1 hs1.length c1, .slice tA tl tc, .int .i64 pc, .int .i64 st] 34 (0, 0)) := by
    rw [← hW]
    refine Eq.trans (rowT (p := _ = some (.cells _ 34 (0, 0)))) ?_
    simp
  have r2 : W.heap[w.heap.size + 1 + 1]? = some (.cells #[.int .i64 0, .int .i64 0, .int .i64 0, .int .i64 0, .int .i64 0, .int .i64 0, .int .i64 0, .int .i64 0, .int .i64 0, .int .i64 0, .int .i64 0, .int .i64 0, .int .i64 0, .int .i64 0, .int .i64 0, .int .i64 0, .int .i64 0, .int .i64 0, .int .i64 0, .int .i64 0, .slice none 0 0, .slice none 0 0, .int .i64 0, .int .i64 0] 34 (0, 0)) := by
    rw [← hW]
    exact rowT
  have hBW : Below w.heap.size w W := by
    rw [← hW]
    refine below_set ?_ (Nat.le_refl _)
    exact Below.trans (by repeat (first | exact Below.refl _ _ | refine below_alloc ?_ _ | refine below_drew1 ?_ | refine pw_below_drewN ?_ _)) (HB1.out.mono (by simp; try omega))
  have hOW : ∀ cs, ObF (W.setRow (w.heap.size + 1 + 1) cs) (fun k => P k ∨ w.heap.size ≤ k) A1 hs1 (os.set o ((os.getD o []).set f (n (8 + b)))) := by
    intro cs
    refine ObF.mono (P := fun k => (P k ∧ k < w.heap.size) ∨ w.heap.size + 1 + 1 + 1 ≤ k) (ObF.step (ObF.mono HO1.out fun k hk => hk.imp id fun hk => by simpa using hk) fun k hk hl => ⟨?_, ?_⟩) fun k hk => hk.imp (fun h => h.1) fun h => by omega
    · rw [setRow_other W (w.heap.size + 1 + 1) k cs (by omega), ← hW]
      exact heap_setCell_other _ _ _ _ (show k ≠ w.heap.size by omega)
    · rw [← hW]
      simpa [World.setRow, World.setCell] using hl
  have HBW := Aside0.mk hBW
  have HOW := Aside0.mk hOW
  clear hW hBW hOW b0 b2 hcc hff
  go_wp2_with (first
    | (apply ldS; (with_reducible rfl); rfl; rfl; exact rowT; rfl)
    | (apply srS; (with_reducible rfl); rfl; rfl; rfl; exact rowT; rfl; rfl; rfl; rfl))
  refine ret2S rfl rfl rfl rfl (setRow_heap _ _ _ _ _ _ r2) rfl ⟨A1, c1, hs1, rfl, HC1.out, HOW.out _, below_row HBW.out (by omega)⟩
end
end Go.Proofs.YtkplgfhkebkaaaaDoor.ST

namespace Go.Proofs.YtkplgfhkebkaaaaDoor.ST
open Go.RowKit Go.Proofs.YtkplgfhkebkaaaaDoorW.PrintWords Go.Proofs.YtkplgfhkebkaaaaDoor.F
set_option linter.unusedVariables false
set_option linter.unusedSimpArgs false
section
variable (w : World) (n : Nat → Int) (oA tA : Option Addr) (ol oc tl tc : Nat) (pc st : Int) (a b c : Nat) (o N : Int) (A0 : Option Addr) (c0 : Nat) (ts : List ByteArray) (la gl : ByteArray) (A3 : Option Addr) (c3 : Nat) (code : List S47)
set_option maxHeartbeats 1000000 in
set_option maxRecDepth 100000 in
theorem ptr_nil (ha : (a : Int) < 8) :
    Calls Tryd.prog 28 #[.agg #[.slice A0 ts.length c0, .string la, .string gl, .slice A3 code.length c3], .agg #[.int .i64 (n 0), .int .i64 (n 1), .int .i64 (n 2), .int .i64 (n 3), .int .i64 (n 4), .int .i64 (n 5), .int .i64 (n 6), .int .i64 (n 7), .int .i64 (n 8), .int .i64 (n 9), .int .i64 (n 10), .int .i64 (n 11), .int .i64 (n 12), .int .i64 (n 13), .int .i64 (n 14), .int .i64 (n 15), .int .i64 (n 16), .int .i64 (n 17), .int .i64 (n 18), .int .i64 (n 19), .slice oA ol oc, .slice tA tl tc, .int .i64 pc, .int .i64 st], .agg #[.int .u8 6, .int .u8 a, .int .u8 b, .int .u8 c, .int .i64 N]] w fun e w' => e = .returned (.tuple #[.agg #[.int .i64 (n 0), .int .i64 (n 1), .int .i64 (n 2), .int .i64 (n 3), .int .i64 (n 4), .int .i64 (n 5), .int .i64 (n 6), .int .i64 (n 7), .int .i64 (upd n (8 + a) (0) 8), .int .i64 (upd n (8 + a) (0) 9), .int .i64 (upd n (8 + a) (0) 10), .int .i64 (upd n (8 + a) (0) 11), .int .i64 (upd n (8 + a) (0) 12), .int .i64 (upd n (8 + a) (0) 13), .int .i64 (upd n (8 + a) (0) 14), .int .i64 (upd n (8 + a) (0) 15), .int .i64 (n 16), .int .i64 (n 17), .int .i64 (n 18), .int .i64 (n 19), .slice oA ol oc, .slice tA tl tc, .int .i64 pc, .int .i64 st], .bool true]) ∧ Below w.heap.size w w' := by
  have ra := row8 n 8 a (by omega)
  simp only [Nat.zero_add, Nat.reduceAdd] at ra
  have s8 := set8 n 8 a (by omega) (0)
  simp only [Nat.zero_add, Nat.reduceAdd] at s8
  have a0 : (0 : Int) ≤ a := by omega
  go_enter Tryd.func28, Tryd.ntmps28
  go_upto_region 1 with (fail)
  go_region
  go_wp2_with (first
    | (apply ldS; (with_reducible rfl); rfl; rfl; exact rowT; rfl)
    | (apply srS; (with_reducible rfl); rfl; rfl; rfl; exact rowT; rfl; rfl; rfl; exact setT))
  all_goals
    refine ret2S rfl rfl rfl rfl rowT rfl ⟨rfl, ?_⟩
    repeat (first | exact Below.refl _ _ | refine below_alloc ?_ _ | refine below_drew1 ?_ | refine pw_below_drewN ?_ _)
set_option maxHeartbeats 1000000 in
set_option maxRecDepth 100000 in
theorem ptr_move (ha : (a : Int) < 8) (hb : (b : Int) < 8) :
    Calls Tryd.prog 28 #[.agg #[.slice A0 ts.length c0, .string la, .string gl, .slice A3 code.length c3], .agg #[.int .i64 (n 0), .int .i64 (n 1), .int .i64 (n 2), .int .i64 (n 3), .int .i64 (n 4), .int .i64 (n 5), .int .i64 (n 6), .int .i64 (n 7), .int .i64 (n 8), .int .i64 (n 9), .int .i64 (n 10), .int .i64 (n 11), .int .i64 (n 12), .int .i64 (n 13), .int .i64 (n 14), .int .i64 (n 15), .int .i64 (n 16), .int .i64 (n 17), .int .i64 (n 18), .int .i64 (n 19), .slice oA ol oc, .slice tA tl tc, .int .i64 pc, .int .i64 st], .agg #[.int .u8 7, .int .u8 a, .int .u8 b, .int .u8 c, .int .i64 N]] w fun e w' => e = .returned (.tuple #[.agg #[.int .i64 (n 0), .int .i64 (n 1), .int .i64 (n 2), .int .i64 (n 3), .int .i64 (n 4), .int .i64 (n 5), .int .i64 (n 6), .int .i64 (n 7), .int .i64 (upd n (8 + a) (n (8 + b)) 8), .int .i64 (upd n (8 + a) (n (8 + b)) 9), .int .i64 (upd n (8 + a) (n (8 + b)) 10), .int .i64 (upd n (8 + a) (n (8 + b)) 11), .int .i64 (upd n (8 + a) (n (8 + b)) 12), .int .i64 (upd n (8 + a) (n (8 + b)) 13), .int .i64 (upd n (8 + a) (n (8 + b)) 14), .int .i64 (upd n (8 + a) (n (8 + b)) 15), .int .i64 (n 16), .int .i64 (n 17), .int .i64 (n 18), .int .i64 (n 19), .slice oA ol oc, .slice tA tl tc, .int .i64 pc, .int .i64 st], .bool true]) ∧ Below w.heap.size w w' := by
  have ra := row8 n 8 a (by omega)
  simp only [Nat.zero_add, Nat.reduceAdd] at ra
  have rb := row8 n 8 b (by omega)
  simp only [Nat.zero_add, Nat.reduceAdd] at rb
  have s8 := set8 n 8 a (by omega) (n (8 + b))
  simp only [Nat.zero_add, Nat.reduceAdd] at s8
  have a0 : (0 : Int) ≤ a := by omega
  have b0 : (0 : Int) ≤ b := by omega
  go_enter Tryd.func28, Tryd.ntmps28
  go_upto_region 1 with (fail)
  go_region
  all_goals
    go_upto_region 12 with (fail)
  all_goals
    go_region
  go_wp2_with (first
    | (apply ldS; (with_reducible rfl); rfl; rfl; exact rowT; rfl)
    | (apply srS; (with_reducible rfl); rfl; rfl; rfl; exact rowT; rfl; rfl; rfl; exact setT))
  all_goals
    refine ret2S rfl rfl rfl rfl rowT rfl ⟨rfl, ?_⟩
    repeat (first | exact Below.refl _ _ | refine below_alloc ?_ _ | refine below_drew1 ?_ | refine pw_below_drewN ?_ _)
set_option maxHeartbeats 1000000 in
set_option maxRecDepth 100000 in
theorem ptr_loadG (ha : (a : Int) < 8) (hb : (b : Int) < 4) :
    Calls Tryd.prog 28 #[.agg #[.slice A0 ts.length c0, .string la, .string gl, .slice A3 code.length c3], .agg #[.int .i64 (n 0), .int .i64 (n 1), .int .i64 (n 2), .int .i64 (n 3), .int .i64 (n 4), .int .i64 (n 5), .int .i64 (n 6), .int .i64 (n 7), .int .i64 (n 8), .int .i64 (n 9), .int .i64 (n 10), .int .i64 (n 11), .int .i64 (n 12), .int .i64 (n 13), .int .i64 (n 14), .int .i64 (n 15), .int .i64 (n 16), .int .i64 (n 17), .int .i64 (n 18), .int .i64 (n 19), .slice oA ol oc, .slice tA tl tc, .int .i64 pc, .int .i64 st], .agg #[.int .u8 12, .int .u8 a, .int .u8 b, .int .u8 c, .int .i64 N]] w fun e w' => e = .returned (.tuple #[.agg #[.int .i64 (n 0), .int .i64 (n 1), .int .i64 (n 2), .int .i64 (n 3), .int .i64 (n 4), .int .i64 (n 5), .int .i64 (n 6), .int .i64 (n 7), .int .i64 (upd n (8 + a) (n (16 + b)) 8), .int .i64 (upd n (8 + a) (n (16 + b)) 9), .int .i64 (upd n (8 + a) (n (16 + b)) 10), .int .i64 (upd n (8 + a) (n (16 + b)) 11), .int .i64 (upd n (8 + a) (n (16 + b)) 12), .int .i64 (upd n (8 + a) (n (16 + b)) 13), .int .i64 (upd n (8 + a) (n (16 + b)) 14), .int .i64 (upd n (8 + a) (n (16 + b)) 15), .int .i64 (n 16), .int .i64 (n 17), .int .i64 (n 18), .int .i64 (n 19), .slice oA ol oc, .slice tA tl tc, .int .i64 pc, .int .i64 st], .bool true]) ∧ Below w.heap.size w w' := by
  have ra := row8 n 8 a (by omega)
  simp only [Nat.zero_add, Nat.reduceAdd] at ra
  have gb := row4 n 16 b (by omega)
  simp only [Nat.reduceAdd, Nat.add_zero] at gb
  have s8 := set8 n 8 a (by omega) (n (16 + b))
  simp only [Nat.zero_add, Nat.reduceAdd] at s8
  have a0 : (0 : Int) ≤ a := by omega
  have b0 : (0 : Int) ≤ b := by omega
  go_enter Tryd.func28, Tryd.ntmps28
  go_upto_region 1 with (fail)
  go_region
  all_goals
    go_upto_region 14 with (fail)
  all_goals
    go_region
  go_wp2_with (first
    | (apply ldS; (with_reducible rfl); rfl; rfl; exact rowT; rfl)
    | (apply srS; (with_reducible rfl); rfl; rfl; rfl; exact rowT; rfl; rfl; rfl; exact setT))
  all_goals
    refine ret2S rfl rfl rfl rfl rowT rfl ⟨rfl, ?_⟩
    repeat (first | exact Below.refl _ _ | refine below_alloc ?_ _ | refine below_drew1 ?_ | refine pw_below_drewN ?_ _)
set_option maxHeartbeats 1000000 in
set_option maxRecDepth 100000 in
theorem ptr_storeG (ha : (a : Int) < 4) (hb : (b : Int) < 8) :
    Calls Tryd.prog 28 #[.agg #[.slice A0 ts.length c0, .string la, .string gl, .slice A3 code.length c3], .agg #[.int .i64 (n 0), .int .i64 (n 1), .int .i64 (n 2), .int .i64 (n 3), .int .i64 (n 4), .int .i64 (n 5), .int .i64 (n 6), .int .i64 (n 7), .int .i64 (n 8), .int .i64 (n 9), .int .i64 (n 10), .int .i64 (n 11), .int .i64 (n 12), .int .i64 (n 13), .int .i64 (n 14), .int .i64 (n 15), .int .i64 (n 16), .int .i64 (n 17), .int .i64 (n 18), .int .i64 (n 19), .slice oA ol oc, .slice tA tl tc, .int .i64 pc, .int .i64 st], .agg #[.int .u8 13, .int .u8 a, .int .u8 b, .int .u8 c, .int .i64 N]] w fun e w' => e = .returned (.tuple #[.agg #[.int .i64 (n 0), .int .i64 (n 1), .int .i64 (n 2), .int .i64 (n 3), .int .i64 (n 4), .int .i64 (n 5), .int .i64 (n 6), .int .i64 (n 7), .int .i64 (n 8), .int .i64 (n 9), .int .i64 (n 10), .int .i64 (n 11), .int .i64 (n 12), .int .i64 (n 13), .int .i64 (n 14), .int .i64 (n 15), .int .i64 (upd n (16 + a) (n (8 + b)) 16), .int .i64 (upd n (16 + a) (n (8 + b)) 17), .int .i64 (upd n (16 + a) (n (8 + b)) 18), .int .i64 (upd n (16 + a) (n (8 + b)) 19), .slice oA ol oc, .slice tA tl tc, .int .i64 pc, .int .i64 st], .bool true]) ∧ Below w.heap.size w w' := by
  have rb := row8 n 8 b (by omega)
  simp only [Nat.zero_add, Nat.reduceAdd] at rb
  have ga := row4 n 16 a (by omega)
  simp only [Nat.reduceAdd, Nat.add_zero] at ga
  have s4 := set4 n 16 a (by omega) (n (8 + b))
  simp only [Nat.reduceAdd, Nat.add_zero] at s4
  have a0 : (0 : Int) ≤ a := by omega
  have b0 : (0 : Int) ≤ b := by omega
  go_enter Tryd.func28, Tryd.ntmps28
  go_upto_region 1 with (fail)
  go_region
  all_goals
    go_upto_region 16 with (fail)
  all_goals
    go_region
  go_wp2_with (first
    | (apply ldS; (with_reducible rfl); rfl; rfl; exact rowT; rfl)
    | (apply srS; (with_reducible rfl); rfl; rfl; rfl; exact rowT; rfl; rfl; rfl; exact setT))
  all_goals
    refine ret2S rfl rfl rfl rfl rowT rfl ⟨rfl, ?_⟩
    repeat (first | exact Below.refl _ _ | refine below_alloc ?_ _ | refine below_drew1 ?_ | refine pw_below_drewN ?_ _)
set_option maxHeartbeats 1000000 in
set_option maxRecDepth 100000 in
theorem ptr_other (h5 : ¬ o = 5) (h6 : ¬ o = 6) (h7 : ¬ o = 7) (h12 : ¬ o = 12) (h13 : ¬ o = 13) :
    Calls Tryd.prog 28 #[.agg #[.slice A0 ts.length c0, .string la, .string gl, .slice A3 code.length c3], .agg #[.int .i64 (n 0), .int .i64 (n 1), .int .i64 (n 2), .int .i64 (n 3), .int .i64 (n 4), .int .i64 (n 5), .int .i64 (n 6), .int .i64 (n 7), .int .i64 (n 8), .int .i64 (n 9), .int .i64 (n 10), .int .i64 (n 11), .int .i64 (n 12), .int .i64 (n 13), .int .i64 (n 14), .int .i64 (n 15), .int .i64 (n 16), .int .i64 (n 17), .int .i64 (n 18), .int .i64 (n 19), .slice oA ol oc, .slice tA tl tc, .int .i64 pc, .int .i64 st], .agg #[.int .u8 o, .int .u8 a, .int .u8 b, .int .u8 c, .int .i64 N]] w fun e w' => e = .returned (.tuple #[.agg #[.int .i64 (n 0), .int .i64 (n 1), .int .i64 (n 2), .int .i64 (n 3), .int .i64 (n 4), .int .i64 (n 5), .int .i64 (n 6), .int .i64 (n 7), .int .i64 (n 8), .int .i64 (n 9), .int .i64 (n 10), .int .i64 (n 11), .int .i64 (n 12), .int .i64 (n 13), .int .i64 (n 14), .int .i64 (n 15), .int .i64 (n 16), .int .i64 (n 17), .int .i64 (n 18), .int .i64 (n 19), .slice oA ol oc, .slice tA tl tc, .int .i64 pc, .int .i64 st], .bool false]) ∧ Below w.heap.size w w' := by
  go_enter Tryd.func28, Tryd.ntmps28
  go_upto_region 1 with (fail)
  go_region
  go_wp2_with (first
    | (apply ldS; (with_reducible rfl); rfl; rfl; exact rowT; rfl)
    | (apply srS; (with_reducible rfl); rfl; rfl; rfl; exact rowT; rfl; rfl; rfl; exact setT))
  all_goals
    refine ret2S rfl rfl rfl rfl rowT rfl ⟨rfl, ?_⟩
    repeat (first | exact Below.refl _ _ | refine below_alloc ?_ _ | refine below_drew1 ?_ | refine pw_below_drewN ?_ _)
end
end Go.Proofs.YtkplgfhkebkaaaaDoor.ST

namespace Go.Proofs.YtkplgfhkebkaaaaDoor.ST
open Go.RowKit Go.Proofs.YtkplgfhkebkaaaaDoorW.PrintWords Go.Proofs.YtkplgfhkebkaaaaDoor.F
set_option linter.unusedVariables false
set_option linter.unusedSimpArgs false
section
variable (w : World) (n : Nat → Int) (oA tA : Option Addr) (ol oc tl tc : Nat) (pc st : Int) (a b c : Nat) (N : Int) (A0 : Option Addr) (c0 : Nat) (ts : List ByteArray) (la gl : ByteArray) (A3 : Option Addr) (c3 : Nat) (code : List S47)
set_option maxHeartbeats 4000000 in
set_option maxRecDepth 100000 in
theorem ptr_new (P : Nat → Prop) (hs : List Hd) (os : List (List Int)) (hO : ObF w P oA hs os) (hoc : hs.length ≤ oc) (hl1 : hs.length ≤ 1000000) (ha : (a : Int) < 8)
    (hT : Kd.C Kd.string w A0 ts.length ts) (hc0 : ts.length ≤ c0) (hC : Kd.C k47 w A3 code.length code) (hc3 : code.length ≤ c3) (k1 k2 : Nat) (t0 : Int) (m : Nat) (hm : m ≤ 1000000)
    (hL : lockstitchref05_Local.f k1 ts la gl code a = some t0) (hS : lockstitchref03_Size.f k2 ts t0 = some (m : Int)) :
    Calls Tryd.prog 28 #[.agg #[.slice A0 ts.length c0, .string la, .string gl, .slice A3 code.length c3], .agg #[.int .i64 (n 0), .int .i64 (n 1), .int .i64 (n 2), .int .i64 (n 3), .int .i64 (n 4), .int .i64 (n 5), .int .i64 (n 6), .int .i64 (n 7), .int .i64 (n 8), .int .i64 (n 9), .int .i64 (n 10), .int .i64 (n 11), .int .i64 (n 12), .int .i64 (n 13), .int .i64 (n 14), .int .i64 (n 15), .int .i64 (n 16), .int .i64 (n 17), .int .i64 (n 18), .int .i64 (n 19), .slice oA hs.length oc, .slice tA tl tc, .int .i64 pc, .int .i64 st], .agg #[.int .u8 5, .int .u8 a, .int .u8 b, .int .u8 c, .int .i64 N]] w fun e w' => ∃ A' c' hs', e = .returned (.tuple #[.agg #[.int .i64 (n 0), .int .i64 (n 1), .int .i64 (n 2), .int .i64 (n 3), .int .i64 (n 4), .int .i64 (n 5), .int .i64 (n 6), .int .i64 (n 7), .int .i64 (upd n (8 + a) ((hs.length : Int) + 1) 8), .int .i64 (upd n (8 + a) ((hs.length : Int) + 1) 9), .int .i64 (upd n (8 + a) ((hs.length : Int) + 1) 10), .int .i64 (upd n (8 + a) ((hs.length : Int) + 1) 11), .int .i64 (upd n (8 + a) ((hs.length : Int) + 1) 12), .int .i64 (upd n (8 + a) ((hs.length : Int) + 1) 13), .int .i64 (upd n (8 + a) ((hs.length : Int) + 1) 14), .int .i64 (upd n (8 + a) ((hs.length : Int) + 1) 15), .int .i64 (n 16), .int .i64 (n 17), .int .i64 (n 18), .int .i64 (n 19), .slice A' hs'.length c', .slice tA tl tc, .int .i64 pc, .int .i64 st], .bool true]) ∧ hs'.length ≤ c' ∧ ObF w' (fun k => P k ∨ w.heap.size ≤ k) A' hs' (os ++ [List.replicate m 0]) ∧ Below w.heap.size w w' := by
  have HO := Aside0.mk hO
  have HT := Aside0.mk hT
  have HC := Aside0.mk hC
  have HL := Aside0.mk hL
  have HS := Aside0.mk hS
  clear hO hT hC hL hS
  have ra := row8 n 8 a (by omega)
  have s8 := set8 n 8 a (by omega) ((hs.length : Int) + 1)
  simp only [Nat.reduceAdd, Nat.add_zero] at ra s8
  have a0 : (0 : Int) ≤ a := by omega
  go_enter Tryd.func28, Tryd.ntmps28
  go_upto_region 1 with (fail)
  go_region
  ·
    go_upto_region 5 with (fail)
    generalize hW0 : World.drew _ = W0
    have R0 : W0.heap[w.heap.size]? = some (.cells #[.slice A0 ts.length c0, .string la, .string gl, .slice A3 code.length c3] 25 (0, 0)) := by
      rw [← hW0]
      exact rowT
    have R1 : W0.heap[w.heap.size + 1]? = some (.cells #[.int .i64 (n 0), .int .i64 (n 1), .int .i64 (n 2), .int .i64 (n 3), .int .i64 (n 4), .int .i64 (n 5), .int .i64 (n 6), .int .i64 (n 7), .int .i64 (n 8), .int .i64 (n 9), .int .i64 (n 10), .int .i64 (n 11), .int .i64 (n 12), .int .i64 (n 13), .int .i64 (n 14), .int .i64 (n 15), .int .i64 (n 16), .int .i64 (n 17), .int .i64 (n 18), .int .i64 (n 19), .slice oA hs.length oc, .slice tA tl tc, .int .i64 pc, .int .i64 st] 34 (0, 0)) := by
      rw [← hW0]
      exact rowT
    have R2 : W0.heap[w.heap.size + 1 + 1]? = some (.cells #[.int .u8 5, .int .u8 a, .int .u8 b, .int .u8 c, .int .i64 N] 47 (0, 0)) := by
      rw [← hW0]
      exact rowT
    have R3 : W0.heap[w.heap.size + 1 + 1 + 1]? = some (.cells #[.int .i64 0, .int .i64 0, .int .i64 0, .int .i64 0, .int .i64 0, .int .i64 0, .int .i64 0, .int .i64 0, .int .i64 0, .int .i64 0, .int .i64 0, .int .i64 0, .int .i64 0, .int .i64 0, .int .i64 0, .int .i64 0, .int .i64 0, .int .i64 0, .int .i64 0, .int .i64 0, .slice none 0 0, .slice none 0 0, .int .i64 0, .int .i64 0] 34 (0, 0)) := by
      rw [← hW0]
      exact rowT
    have Rq : W0.heap[w.heap.size + 1 + 1 + 1 + 1]? = some (.cells #[.int .i64 (n 8), .int .i64 (n 9), .int .i64 (n 10), .int .i64 (n 11), .int .i64 (n 12), .int .i64 (n 13), .int .i64 (n 14), .int .i64 (n 15)] 29 (0, 0)) := by
      rw [← hW0]
      exact rowT
    have Rg : W0.heap[w.heap.size + 1 + 1 + 1 + 1 + 1]? = some (.cells #[.int .i64 (n 16), .int .i64 (n 17), .int .i64 (n 18), .int .i64 (n 19)] 30 (0, 0)) := by
      rw [← hW0]
      exact rowT
    have hB0 : Below w.heap.size w W0 := by
      rw [← hW0]
      repeat (first | exact Below.refl _ _ | refine below_alloc ?_ _ | refine below_drew1 ?_)
    have hz0 : W0.heap.size = w.heap.size + 1 + 1 + 1 + 1 + 1 + 1 := by
      rw [← hW0]
      simp
    have HB0 := Aside0.mk hB0
    clear hW0 hB0
    have e0 : W0.cell? ⟨w.heap.size, 0, none⟩ = some (.slice A0 ts.length c0) := (cell_of_row _ _ 0 _ _ _ R0).trans rfl
    have e1 : W0.cell? ⟨w.heap.size, 1, none⟩ = some (.string la) := (cell_of_row _ _ 1 _ _ _ R0).trans rfl
    have e2 : W0.cell? ⟨w.heap.size, 2, none⟩ = some (.string gl) := (cell_of_row _ _ 2 _ _ _ R0).trans rfl
    have e3 : W0.cell? ⟨w.heap.size, 3, none⟩ = some (.slice A3 code.length c3) := (cell_of_row _ _ 3 _ _ _ R0).trans rfl
    have e5 : W0.cell? ⟨w.heap.size + 1 + 1, 1, none⟩ = some (.int .u8 a) := (cell_of_row _ _ 1 _ _ _ R2).trans rfl
    go_region_held3 (fun w' => w'.cell? ⟨w.heap.size, 0, none⟩ = some (.slice A0 ts.length c0) ∧ w'.cell? ⟨w.heap.size, 1, none⟩ = some (.string la) ∧ w'.cell? ⟨w.heap.size, 2, none⟩ = some (.string gl) ∧ w'.cell? ⟨w.heap.size, 3, none⟩ = some (.slice A3 code.length c3) ∧ w'.cell? ⟨w.heap.size + 1 + 1, 1, none⟩ = some (.int .u8 a))
      (first
        | (refine ⟨(hq1 _ _ (by omega)).trans e0, (hq1 _ _ (by omega)).trans e1, (hq1 _ _ (by omega)).trans e2, (hq1 _ _ (by omega)).trans e3, (hq1 _ _ (by omega)).trans e5⟩)
        | go_keep)
      ((first
        | (go_at_call 42; (with_reducible refine (lockstitchref05_Local.calls k1 A0 c0 ts la gl A3 c3 code a t0 _ (Kd.C_below HT.out (by repeat (first | exact HB0.out | exact Below.refl _ _ | refine below_alloc ?_ _ | refine below_drew1 ?_ | refine pw_below_drewN ?_ _))) hc0 (Kd.C_below HC.out (by repeat (first | exact HB0.out | exact Below.refl _ _ | refine below_alloc ?_ _ | refine below_drew1 ?_ | refine pw_below_drewN ?_ _))) hc3 HL.out).mono ?_); rintro e w1 ⟨rfl, hb1⟩; obtain ⟨hq1, hf1⟩ := bcell (B := w.heap.size + 1 + 1 + 1 + 1 + 1 + 1) (hb1.mono (show _ ≤ W0.heap.size by omega)); have HB1 := Aside0.mk (show Below w.heap.size w w1 from below_step (show Below w.heap.size w W0.drew from (by repeat (first | exact HB0.out | exact Below.refl _ _ | refine below_alloc ?_ _ | refine below_drew1 ?_ | refine pw_below_drewN ?_ _))) hb1); have HR1 := Aside0.mk (show ∀ k, k < w.heap.size + 1 + 1 + 1 + 1 + 1 + 1 → w1.heap[k]? = W0.heap[k]? from fun k hk => hb1.block k (show k < W0.heap.size by omega)); have hz1 : w.heap.size + 1 + 1 + 1 + 1 + 1 + 1 ≤ w1.heap.size := Nat.le_trans (show _ ≤ W0.heap.size by omega) hb1.size; clear hb1)
        | (go_at_call 41; (with_reducible refine (lockstitchref03_Size.calls k2 A0 c0 ts t0 m _ (Kd.C_below HT.out HB1.out) hc0 HS.out).mono ?_); rintro e w1' ⟨rfl, hd1⟩; obtain ⟨dr, rfl⟩ := hd1)))
    generalize hW1 : World.drewN _ _ = W1
    have R11 : W1.heap[w.heap.size + 1]? = some (.cells #[.int .i64 (n 0), .int .i64 (n 1), .int .i64 (n 2), .int .i64 (n 3), .int .i64 (n 4), .int .i64 (n 5), .int .i64 (n 6), .int .i64 (n 7), .int .i64 (n 8), .int .i64 (n 9), .int .i64 (n 10), .int .i64 (n 11), .int .i64 (n 12), .int .i64 (n 13), .int .i64 (n 14), .int .i64 (n 15), .int .i64 (n 16), .int .i64 (n 17), .int .i64 (n 18), .int .i64 (n 19), .slice oA hs.length oc, .slice tA tl tc, .int .i64 pc, .int .i64 st] 34 (0, 0)) := by rw [← hW1]; exact (HR1.out _ (by omega)).trans R1
    have R21 : W1.heap[w.heap.size + 1 + 1]? = some (.cells #[.int .u8 5, .int .u8 a, .int .u8 b, .int .u8 c, .int .i64 N] 47 (0, 0)) := by rw [← hW1]; exact (HR1.out _ (by omega)).trans R2
    have R31 : W1.heap[w.heap.size + 1 + 1 + 1]? = some (.cells #[.int .i64 0, .int .i64 0, .int .i64 0, .int .i64 0, .int .i64 0, .int .i64 0, .int .i64 0, .int .i64 0, .int .i64 0, .int .i64 0, .int .i64 0, .int .i64 0, .int .i64 0, .int .i64 0, .int .i64 0, .int .i64 0, .int .i64 0, .int .i64 0, .int .i64 0, .int .i64 0, .slice none 0 0, .slice none 0 0, .int .i64 0, .int .i64 0] 34 (0, 0)) := by rw [← hW1]; exact (HR1.out _ (by omega)).trans R3
    have Rq1 : W1.heap[w.heap.size + 1 + 1 + 1 + 1]? = some (.cells #[.int .i64 (n 8), .int .i64 (n 9), .int .i64 (n 10), .int .i64 (n 11), .int .i64 (n 12), .int .i64 (n 13), .int .i64 (n 14), .int .i64 (n 15)] 29 (0, 0)) := by rw [← hW1]; exact (HR1.out _ (by omega)).trans Rq
    have Rg1 : W1.heap[w.heap.size + 1 + 1 + 1 + 1 + 1]? = some (.cells #[.int .i64 (n 16), .int .i64 (n 17), .int .i64 (n 18), .int .i64 (n 19)] 30 (0, 0)) := by rw [← hW1]; exact (HR1.out _ (by omega)).trans Rg
    have HW1 : Aside0 (Below w.heap.size w W1) := by
      constructor
      rw [← hW1]
      exact pw_below_drewN HB1.out _
    have hz2 : w.heap.size + 1 + 1 + 1 + 1 + 1 + 1 ≤ W1.heap.size := by
      rw [← hW1]
      exact hz1
    clear hW1 HR1 hq1 hf1 hz1 hz0 R0 R1 R2 R3 Rq Rg e0 e1 e2 e3 e5
    have c20 : ∀ o, (W1.alloc o).cell? ⟨w.heap.size + 1, 20, none⟩ = some (.slice oA hs.length oc) := fun o => (World.cell?_alloc_lt _ _ _ (show w.heap.size + 1 < W1.heap.size by omega)).trans ((cell_of_row _ _ 20 _ _ _ R11).trans rfl)
    have hmk := print_make_of 32 2 (.int .i64 0) 8 Tryd.underlying32 info_i rfl (by decide) m (by omega)
    go_upto_region 8 with (first
        | (at_builtin; refine Kd.R_append_row (w0 := W1) Hd.v default (w.heap.size + 1 + 1 + 1 + 1 + 1 + 1) rfl (.tmp 28) (.tmp 30) 31 32 _ 24 rfl Tryd.underlying31 info_h rfl (by decide) (.slice (some ⟨W1.heap.size, 0, none⟩) 0 0) [] hs oA hs.length oc (fun _ => True) rfl rfl (fun _ _ => trivial) (own_empty W1 _ _ _ rfl hz2) (Kd.C_below HO.out.now.row (below_alloc HW1.out _)) (Below.alloc (Below.refl _ _) hz2 _) (by simp; omega) (by simp; omega) ?_; intro v2 w2 hr2 hb2 hg2 _; have R12 := (hb2.block (w.heap.size + 1) (by omega)).trans R11; have R22 := (hb2.block (w.heap.size + 1 + 1) (by omega)).trans R21; have R32 := (hb2.block (w.heap.size + 1 + 1 + 1) (by omega)).trans R31; have Rq2 := (hb2.block (w.heap.size + 1 + 1 + 1 + 1) (by omega)).trans Rq1; have Rg2 := (hb2.block (w.heap.size + 1 + 1 + 1 + 1 + 1) (by omega)).trans Rg1; replace R12 := Aside0.mk R12; replace R22 := Aside0.mk R22; replace R32 := Aside0.mk R32; replace Rq2 := Aside0.mk Rq2; replace Rg2 := Aside0.mk Rg2; have hz3 : w.heap.size + 1 + 1 + 1 + 1 + 1 + 1 ≤ w2.heap.size := Nat.le_trans hz2 hb2.size; have HR2 := Aside0.mk hr2; have HB2 := Aside0.mk hb2; clear hr2 hb2 hg2)
        | (at_builtin; refine print_append_of (w0 := w2) Hd.v (w.heap.size + 1 + 1 + 1 + 1 + 1 + 1) rfl (.tmp 32) (.tmp 35) 31 32 _ 24 rfl Tryd.underlying31 info_h rfl (by decide) v2 ([] ++ hs) ⟨some ⟨w2.heap.size, 0, none⟩, m, m⟩ rfl (by first | (go_simp; done) | (simp [go_sem]; done)) rfl (pw_own_below (Kd.own_of_R HR2.out) (below_alloc (Below.refl _ _) _)) (Below.alloc (Below.refl _ _) hz3 _) (by simp; omega) (by simp; omega) ?_; intro v3 w3 hr3 hb3 hg3 _; have R13 := (hb3.block (w.heap.size + 1) (by omega)).trans (R12.out); have R23 := (hb3.block (w.heap.size + 1 + 1) (by omega)).trans (R22.out); have R33 := (hb3.block (w.heap.size + 1 + 1 + 1) (by omega)).trans (R32.out); have Rq3 := (hb3.block (w.heap.size + 1 + 1 + 1 + 1) (by omega)).trans (Rq2.out); have Rg3 := (hb3.block (w.heap.size + 1 + 1 + 1 + 1 + 1) (by omega)).trans (Rg2.out); replace R13 := Aside0.mk R13; replace R23 := Aside0.mk R23; replace R33 := Aside0.mk R33; replace Rq3 := Aside0.mk Rq3; replace Rg3 := Aside0.mk Rg3; have kk := (cell_of_row _ _ 20 _ _ _ R13.out).trans rfl; have kf := frozen_of_row w3 (w.heap.size + 1) 20 _ _ R13.out; have HN3 := Aside0.mk (hg3.block w2.heap.size); have hr3' := Kd.R_of_own (h1 := Hd.one) (ok := fun _ => True) hr3 fun _ _ => trivial; obtain ⟨An, cn, en, hcn, _⟩ := Kd.R_reads hr3'; subst en; have HCn := Aside0.mk hcn; have HR3 := Aside0.mk hr3'; clear hr3' hcn; have HB3 := Aside0.mk hb3; clear hr3 hb3 hg3))
    have HOB3 : Aside0 (ObF w3 (fun k => (P k ∧ k < w.heap.size) ∨ w.heap.size + 1 + 1 + 1 + 1 + 1 + 1 ≤ k) An (hs ++ [(⟨some ⟨w2.heap.size, 0, none⟩, m, m⟩ : Hd)]) (os ++ [List.replicate m 0])) := by
      constructor
      refine objs_append HO.out (Below.trans HW1.out (Below.trans (HB2.out.mono (by omega)) (HB3.out.mono (by omega)))) HR3.out ((HN3.out (by simp) fun e => ?_).trans (heap_alloc_new w2 _)) hz3 hm
      first | (have := Kd.R_lt HR2.out _ e; omega) | (have := Kd.R_lt HR2.out _ e.symm; omega)
    have HBw3 : Aside0 (Below w.heap.size w w3) := ⟨Below.trans HW1.out (Below.trans (HB2.out.mono (by omega)) (HB3.out.mono (by omega)))⟩
    have hz4 : w.heap.size + 1 + 1 + 1 + 1 + 1 + 1 ≤ w3.heap.size := Nat.le_trans hz3 HB3.out.size
    have HCn' : hs.length + 1 ≤ cn := by
      have := HCn.out
      simpa using this
    generalize hW4 : World.setCell _ _ _ = W4
    have R14 : W4.heap[w.heap.size + 1]? = some (.cells #[.int .i64 (n 0), .int .i64 (n 1), .int .i64 (n 2), .int .i64 (n 3), .int .i64 (n 4), .int .i64 (n 5), .int .i64 (n 6), .int .i64 (n 7), .int .i64 (n 8), .int .i64 (n 9), .int .i64 (n 10), .int .i64 (n 11), .int .i64 (n 12), .int .i64 (n 13), .int .i64 (n 14), .int .i64 (n 15), .int .i64 (n 16), .int .i64 (n 17), .int .i64 (n 18), .int .i64 (n 19), .slice An (hs.length + 1) cn, .slice tA tl tc, .int .i64 pc, .int .i64 st] 34 (0, 0)) := by
      rw [← hW4]
      refine Eq.trans (row_cellS _ R13.out) ?_
      simp
    have R24 : W4.heap[w.heap.size + 1 + 1]? = some (.cells #[.int .u8 5, .int .u8 a, .int .u8 b, .int .u8 c, .int .i64 N] 47 (0, 0)) := by rw [← hW4]; exact row_cellO _ _ (show w.heap.size + 1 + 1 ≠ w.heap.size + 1 by omega) R23.out
    have R34 : W4.heap[w.heap.size + 1 + 1 + 1]? = some (.cells #[.int .i64 0, .int .i64 0, .int .i64 0, .int .i64 0, .int .i64 0, .int .i64 0, .int .i64 0, .int .i64 0, .int .i64 0, .int .i64 0, .int .i64 0, .int .i64 0, .int .i64 0, .int .i64 0, .int .i64 0, .int .i64 0, .int .i64 0, .int .i64 0, .int .i64 0, .int .i64 0, .slice none 0 0, .slice none 0 0, .int .i64 0, .int .i64 0] 34 (0, 0)) := by rw [← hW4]; exact row_cellO _ _ (show w.heap.size + 1 + 1 + 1 ≠ w.heap.size + 1 by omega) R33.out
    have Rq4 : W4.heap[w.heap.size + 1 + 1 + 1 + 1]? = some (.cells #[.int .i64 (n 8), .int .i64 (n 9), .int .i64 (n 10), .int .i64 (n 11), .int .i64 (n 12), .int .i64 (n 13), .int .i64 (n 14), .int .i64 (n 15)] 29 (0, 0)) := by rw [← hW4]; exact row_cellO _ _ (show w.heap.size + 1 + 1 + 1 + 1 ≠ w.heap.size + 1 by omega) Rq3.out
    have Rg4 : W4.heap[w.heap.size + 1 + 1 + 1 + 1 + 1]? = some (.cells #[.int .i64 (n 16), .int .i64 (n 17), .int .i64 (n 18), .int .i64 (n 19)] 30 (0, 0)) := by rw [← hW4]; exact row_cellO _ _ (show w.heap.size + 1 + 1 + 1 + 1 + 1 ≠ w.heap.size + 1 by omega) Rg3.out
    have k1 := (cell_of_row W4 _ 1 _ _ _ R24).trans rfl
    have k2 := (cell_of_row W4 _ 20 _ _ _ R14).trans rfl
    have k3 : W4.cell? ⟨w.heap.size + 1 + 1 + 1 + 1, a, none⟩ = some (.int .i64 (n (8 + a))) := (cell_of_row W4 _ a _ _ _ Rq4).trans (by simpa using ra)
    have k4 := frozen_of_row W4 (w.heap.size + 1 + 1 + 1 + 1) a _ _ Rq4
    clear R12 R22 R32 Rq2 Rg2 R13 R23 R33 Rq3 Rg3 R11 R21 R31 Rq1 Rg1 c20 hmk kk kf HN3 HR3 HR2
    go_upto_region 17 with (fail)
    generalize hW5 : World.setCell _ _ _ = W5
    have R15 : W5.heap[w.heap.size + 1]? = some (.cells #[.int .i64 (n 0), .int .i64 (n 1), .int .i64 (n 2), .int .i64 (n 3), .int .i64 (n 4), .int .i64 (n 5), .int .i64 (n 6), .int .i64 (n 7), .int .i64 (n 8), .int .i64 (n 9), .int .i64 (n 10), .int .i64 (n 11), .int .i64 (n 12), .int .i64 (n 13), .int .i64 (n 14), .int .i64 (n 15), .int .i64 (n 16), .int .i64 (n 17), .int .i64 (n 18), .int .i64 (n 19), .slice An (hs.length + 1) cn, .slice tA tl tc, .int .i64 pc, .int .i64 st] 34 (0, 0)) := by rw [← hW5]; exact row_cellO _ _ (show w.heap.size + 1 ≠ w.heap.size + 1 + 1 + 1 + 1 by omega) R14
    have R25 : W5.heap[w.heap.size + 1 + 1]? = some (.cells #[.int .u8 5, .int .u8 a, .int .u8 b, .int .u8 c, .int .i64 N] 47 (0, 0)) := by rw [← hW5]; exact row_cellO _ _ (show w.heap.size + 1 + 1 ≠ w.heap.size + 1 + 1 + 1 + 1 by omega) R24
    have R35 : W5.heap[w.heap.size + 1 + 1 + 1]? = some (.cells #[.int .i64 0, .int .i64 0, .int .i64 0, .int .i64 0, .int .i64 0, .int .i64 0, .int .i64 0, .int .i64 0, .int .i64 0, .int .i64 0, .int .i64 0, .int .i64 0, .int .i64 0, .int .i64 0, .int .i64 0, .int .i64 0, .int .i64 0, .int .i64 0, .int .i64 0, .int .i64 0, .slice none 0 0, .slice none 0 0, .int .i64 0, .int .i64 0] 34 (0, 0)) := by rw [← hW5]; exact row_cellO _ _ (show w.heap.size + 1 + 1 + 1 ≠ w.heap.size + 1 + 1 + 1 + 1 by omega) R34
    have Rq5 : W5.heap[w.heap.size + 1 + 1 + 1 + 1]? = some (.cells #[.int .i64 (upd n (8 + a) ((hs.length : Int) + 1) 8), .int .i64 (upd n (8 + a) ((hs.length : Int) + 1) 9), .int .i64 (upd n (8 + a) ((hs.length : Int) + 1) 10), .int .i64 (upd n (8 + a) ((hs.length : Int) + 1) 11), .int .i64 (upd n (8 + a) ((hs.length : Int) + 1) 12), .int .i64 (upd n (8 + a) ((hs.length : Int) + 1) 13), .int .i64 (upd n (8 + a) ((hs.length : Int) + 1) 14), .int .i64 (upd n (8 + a) ((hs.length : Int) + 1) 15)] 29 (0, 0)) := by
      rw [← hW5]
      refine Eq.trans (row_cellS _ Rq4) ?_
      simp only [List.setIfInBounds_toArray, s8]
    have Rg5 : W5.heap[w.heap.size + 1 + 1 + 1 + 1 + 1]? = some (.cells #[.int .i64 (n 16), .int .i64 (n 17), .int .i64 (n 18), .int .i64 (n 19)] 30 (0, 0)) := by rw [← hW5]; exact row_cellO _ _ (show w.heap.size + 1 + 1 + 1 + 1 + 1 ≠ w.heap.size + 1 + 1 + 1 + 1 by omega) Rg4
    have kq := fun j => cell_of_row W5 (w.heap.size + 1 + 1 + 1 + 1) j _ _ _ Rq5
    have kg := fun j => cell_of_row W5 (w.heap.size + 1 + 1 + 1 + 1 + 1) j _ _ _ Rg5
    have ks := fun j => cell_of_row W5 (w.heap.size + 1) j _ _ _ R15
    have fs := fun j => frozen_of_row W5 (w.heap.size + 1) j _ _ R15
    clear k1 k2 k3 k4 R14 R24 R34 Rq4 Rg4 Rq5 Rg5 R25
    go_upto_region 19 with (fail)
    generalize hW6 : World.setCell _ _ _ = W6
    have R16 : W6.heap[w.heap.size + 1]? = some (.cells #[.int .i64 (n 0), .int .i64 (n 1), .int .i64 (n 2), .int .i64 (n 3), .int .i64 (n 4), .int .i64 (n 5), .int .i64 (n 6), .int .i64 (n 7), .int .i64 (upd n (8 + a) ((hs.length : Int) + 1) 8), .int .i64 (upd n (8 + a) ((hs.length : Int) + 1) 9), .int .i64 (upd n (8 + a) ((hs.length : Int) + 1) 10), .int .i64 (upd n (8 + a) ((hs.length : Int) + 1) 11), .int .i64 (upd n (8 + a) ((hs.length : Int) + 1) 12), .int .i64 (upd n (8 + a) ((hs.length : Int) + 1) 13), .int .i64 (upd n (8 + a) ((hs.length : Int) + 1) 14), .int .i64 (upd n (8 + a) ((hs.length : Int) + 1) 15), .int .i64 (n 16), .int .i64 (n 17), .int .i64 (n 18), .int .i64 (n 19), .slice An (hs.length + 1) cn, .slice tA tl tc, .int .i64 pc, .int .i64 st] 34 (0, 0)) := by
      rw [← hW6]
      refine Eq.trans (rowT (p := _ = some (.cells _ 34 (0, 0)))) ?_
      simp
    have R36 : W6.heap[w.heap.size + 1 + 1 + 1]? = some (.cells #[.int .i64 0, .int .i64 0, .int .i64 0, .int .i64 0, .int .i64 0, .int .i64 0, .int .i64 0, .int .i64 0, .int .i64 0, .int .i64 0, .int .i64 0, .int .i64 0, .int .i64 0, .int .i64 0, .int .i64 0, .int .i64 0, .int .i64 0, .int .i64 0, .int .i64 0, .int .i64 0, .slice none 0 0, .slice none 0 0, .int .i64 0, .int .i64 0] 34 (0, 0)) := by
      rw [← hW6]
      exact rowT
    have HOB : ∀ cs, ObF (W6.setRow (w.heap.size + 1 + 1 + 1) cs) (fun k => P k ∨ w.heap.size ≤ k) An (hs ++ [(⟨some ⟨w2.heap.size, 0, none⟩, m, m⟩ : Hd)]) (os ++ [List.replicate m 0]) := by
      intro cs
      refine ObF.mono (P := (fun k => (P k ∧ k < w.heap.size) ∨ w.heap.size + 1 + 1 + 1 + 1 + 1 + 1 ≤ k)) (ObF.step HOB3.out fun k hk hl => ⟨?_, ?_⟩) fun k hk => hk.imp (fun h => h.1) fun h => by omega
      · rw [setRow_other W6 (w.heap.size + 1 + 1 + 1) k cs (by omega), ← hW6, ← hW5, ← hW4]
        repeat (first | (with_reducible rfl) | (with_reducible refine (heap_setCell_other _ _ _ _ ?_).trans ?_; focus (first | (show k ≠ w.heap.size + 1; omega) | (show k ≠ w.heap.size + 1 + 1 + 1 + 1; omega))))
      · rw [← hW6, ← hW5, ← hW4]
        simpa [World.setRow, World.setCell] using hl
    have HBW : Aside0 (Below w.heap.size w W6) := by
      constructor
      rw [← hW6, ← hW5, ← hW4]
      repeat (first | (with_reducible exact HBw3.out) | (with_reducible refine below_set ?_ ?_; rotate_left; focus omega))
    have HOB' := Aside0.mk HOB
    clear HOB hW6 hW5 hW4 kq kg ks fs R15 R35
    go_wp2_with (first
        | (apply ldS; (with_reducible rfl); rfl; rfl; exact rowT; rfl)
        | (apply srS; (with_reducible rfl); rfl; rfl; rfl; exact rowT; rfl; rfl; rfl; rfl))
    refine ret2S rfl rfl rfl rfl (setRow_heap _ _ _ _ _ _ R36) rfl ⟨An, cn, hs ++ [(⟨some ⟨w2.heap.size, 0, none⟩, m, m⟩ : Hd)], ?_, by simpa using HCn', HOB'.out _, below_row HBW.out (by omega)⟩
    simp
  ·
    go_upto_region 5 with (fail)
    generalize hW0 : World.drew _ = W0
    have R0 : W0.heap[w.heap.size]? = some (.cells #[.slice A0 ts.length c0, .string la, .string gl, .slice A3 code.length c3] 25 (0, 0)) := by
      rw [← hW0]
      exact rowT
    have R1 : W0.heap[w.heap.size + 1]? = some (.cells #[.int .i64 (n 0), .int .i64 (n 1), .int .i64 (n 2), .int .i64 (n 3), .int .i64 (n 4), .int .i64 (n 5), .int .i64 (n 6), .int .i64 (n 7), .int .i64 (n 8), .int .i64 (n 9), .int .i64 (n 10), .int .i64 (n 11), .int .i64 (n 12), .int .i64 (n 13), .int .i64 (n 14), .int .i64 (n 15), .int .i64 (n 16), .int .i64 (n 17), .int .i64 (n 18), .int .i64 (n 19), .slice oA hs.length oc, .slice tA tl tc, .int .i64 pc, .int .i64 st] 34 (0, 0)) := by
      rw [← hW0]
      exact rowT
    have R2 : W0.heap[w.heap.size + 1 + 1]? = some (.cells #[.int .u8 5, .int .u8 a, .int .u8 b, .int .u8 c, .int .i64 N] 47 (0, 0)) := by
      rw [← hW0]
      exact rowT
    have R3 : W0.heap[w.heap.size + 1 + 1 + 1]? = some (.cells #[.int .i64 0, .int .i64 0, .int .i64 0, .int .i64 0, .int .i64 0, .int .i64 0, .int .i64 0, .int .i64 0, .int .i64 0, .int .i64 0, .int .i64 0, .int .i64 0, .int .i64 0, .int .i64 0, .int .i64 0, .int .i64 0, .int .i64 0, .int .i64 0, .int .i64 0, .int .i64 0, .slice none 0 0, .slice none 0 0, .int .i64 0, .int .i64 0] 34 (0, 0)) := by
      rw [← hW0]
      exact rowT
    have Rq : W0.heap[w.heap.size + 1 + 1 + 1 + 1 + 1]? = some (.cells #[.int .i64 (n 8), .int .i64 (n 9), .int .i64 (n 10), .int .i64 (n 11), .int .i64 (n 12), .int .i64 (n 13), .int .i64 (n 14), .int .i64 (n 15)] 29 (0, 0)) := by
      rw [← hW0]
      exact rowT
    have Rg : W0.heap[w.heap.size + 1 + 1 + 1 + 1]? = some (.cells #[.int .i64 (n 16), .int .i64 (n 17), .int .i64 (n 18), .int .i64 (n 19)] 30 (0, 0)) := by
      rw [← hW0]
      exact rowT
    have hB0 : Below w.heap.size w W0 := by
      rw [← hW0]
      repeat (first | exact Below.refl _ _ | refine below_alloc ?_ _ | refine below_drew1 ?_)
    have hz0 : W0.heap.size = w.heap.size + 1 + 1 + 1 + 1 + 1 + 1 := by
      rw [← hW0]
      simp
    have HB0 := Aside0.mk hB0
    clear hW0 hB0
    have e0 : W0.cell? ⟨w.heap.size, 0, none⟩ = some (.slice A0 ts.length c0) := (cell_of_row _ _ 0 _ _ _ R0).trans rfl
    have e1 : W0.cell? ⟨w.heap.size, 1, none⟩ = some (.string la) := (cell_of_row _ _ 1 _ _ _ R0).trans rfl
    have e2 : W0.cell? ⟨w.heap.size, 2, none⟩ = some (.string gl) := (cell_of_row _ _ 2 _ _ _ R0).trans rfl
    have e3 : W0.cell? ⟨w.heap.size, 3, none⟩ = some (.slice A3 code.length c3) := (cell_of_row _ _ 3 _ _ _ R0).trans rfl
    have e5 : W0.cell? ⟨w.heap.size + 1 + 1, 1, none⟩ = some (.int .u8 a) := (cell_of_row _ _ 1 _ _ _ R2).trans rfl
    go_region_held3 (fun w' => w'.cell? ⟨w.heap.size, 0, none⟩ = some (.slice A0 ts.length c0) ∧ w'.cell? ⟨w.heap.size, 1, none⟩ = some (.string la) ∧ w'.cell? ⟨w.heap.size, 2, none⟩ = some (.string gl) ∧ w'.cell? ⟨w.heap.size, 3, none⟩ = some (.slice A3 code.length c3) ∧ w'.cell? ⟨w.heap.size + 1 + 1, 1, none⟩ = some (.int .u8 a))
      (first
        | (refine ⟨(hq1 _ _ (by omega)).trans e0, (hq1 _ _ (by omega)).trans e1, (hq1 _ _ (by omega)).trans e2, (hq1 _ _ (by omega)).trans e3, (hq1 _ _ (by omega)).trans e5⟩)
        | go_keep)
      ((first
        | (go_at_call 42; (with_reducible refine (lockstitchref05_Local.calls k1 A0 c0 ts la gl A3 c3 code a t0 _ (Kd.C_below HT.out (by repeat (first | exact HB0.out | exact Below.refl _ _ | refine below_alloc ?_ _ | refine below_drew1 ?_ | refine pw_below_drewN ?_ _))) hc0 (Kd.C_below HC.out (by repeat (first | exact HB0.out | exact Below.refl _ _ | refine below_alloc ?_ _ | refine below_drew1 ?_ | refine pw_below_drewN ?_ _))) hc3 HL.out).mono ?_); rintro e w1 ⟨rfl, hb1⟩; obtain ⟨hq1, hf1⟩ := bcell (B := w.heap.size + 1 + 1 + 1 + 1 + 1 + 1) (hb1.mono (show _ ≤ W0.heap.size by omega)); have HB1 := Aside0.mk (show Below w.heap.size w w1 from below_step (show Below w.heap.size w W0.drew from (by repeat (first | exact HB0.out | exact Below.refl _ _ | refine below_alloc ?_ _ | refine below_drew1 ?_ | refine pw_below_drewN ?_ _))) hb1); have HR1 := Aside0.mk (show ∀ k, k < w.heap.size + 1 + 1 + 1 + 1 + 1 + 1 → w1.heap[k]? = W0.heap[k]? from fun k hk => hb1.block k (show k < W0.heap.size by omega)); have hz1 : w.heap.size + 1 + 1 + 1 + 1 + 1 + 1 ≤ w1.heap.size := Nat.le_trans (show _ ≤ W0.heap.size by omega) hb1.size; clear hb1)
        | (go_at_call 41; (with_reducible refine (lockstitchref03_Size.calls k2 A0 c0 ts t0 m _ (Kd.C_below HT.out HB1.out) hc0 HS.out).mono ?_); rintro e w1' ⟨rfl, hd1⟩; obtain ⟨dr, rfl⟩ := hd1)))
    generalize hW1 : World.drewN _ _ = W1
    have R11 : W1.heap[w.heap.size + 1]? = some (.cells #[.int .i64 (n 0), .int .i64 (n 1), .int .i64 (n 2), .int .i64 (n 3), .int .i64 (n 4), .int .i64 (n 5), .int .i64 (n 6), .int .i64 (n 7), .int .i64 (n 8), .int .i64 (n 9), .int .i64 (n 10), .int .i64 (n 11), .int .i64 (n 12), .int .i64 (n 13), .int .i64 (n 14), .int .i64 (n 15), .int .i64 (n 16), .int .i64 (n 17), .int .i64 (n 18), .int .i64 (n 19), .slice oA hs.length oc, .slice tA tl tc, .int .i64 pc, .int .i64 st] 34 (0, 0)) := by rw [← hW1]; exact (HR1.out _ (by omega)).trans R1
    have R21 : W1.heap[w.heap.size + 1 + 1]? = some (.cells #[.int .u8 5, .int .u8 a, .int .u8 b, .int .u8 c, .int .i64 N] 47 (0, 0)) := by rw [← hW1]; exact (HR1.out _ (by omega)).trans R2
    have R31 : W1.heap[w.heap.size + 1 + 1 + 1]? = some (.cells #[.int .i64 0, .int .i64 0, .int .i64 0, .int .i64 0, .int .i64 0, .int .i64 0, .int .i64 0, .int .i64 0, .int .i64 0, .int .i64 0, .int .i64 0, .int .i64 0, .int .i64 0, .int .i64 0, .int .i64 0, .int .i64 0, .int .i64 0, .int .i64 0, .int .i64 0, .int .i64 0, .slice none 0 0, .slice none 0 0, .int .i64 0, .int .i64 0] 34 (0, 0)) := by rw [← hW1]; exact (HR1.out _ (by omega)).trans R3
    have Rq1 : W1.heap[w.heap.size + 1 + 1 + 1 + 1 + 1]? = some (.cells #[.int .i64 (n 8), .int .i64 (n 9), .int .i64 (n 10), .int .i64 (n 11), .int .i64 (n 12), .int .i64 (n 13), .int .i64 (n 14), .int .i64 (n 15)] 29 (0, 0)) := by rw [← hW1]; exact (HR1.out _ (by omega)).trans Rq
    have Rg1 : W1.heap[w.heap.size + 1 + 1 + 1 + 1]? = some (.cells #[.int .i64 (n 16), .int .i64 (n 17), .int .i64 (n 18), .int .i64 (n 19)] 30 (0, 0)) := by rw [← hW1]; exact (HR1.out _ (by omega)).trans Rg
    have HW1 : Aside0 (Below w.heap.size w W1) := by
      constructor
      rw [← hW1]
      exact pw_below_drewN HB1.out _
    have hz2 : w.heap.size + 1 + 1 + 1 + 1 + 1 + 1 ≤ W1.heap.size := by
      rw [← hW1]
      exact hz1
    clear hW1 HR1 hq1 hf1 hz1 hz0 R0 R1 R2 R3 Rq Rg e0 e1 e2 e3 e5
    have c20 : ∀ o, (W1.alloc o).cell? ⟨w.heap.size + 1, 20, none⟩ = some (.slice oA hs.length oc) := fun o => (World.cell?_alloc_lt _ _ _ (show w.heap.size + 1 < W1.heap.size by omega)).trans ((cell_of_row _ _ 20 _ _ _ R11).trans rfl)
    have hmk := print_make_of 32 2 (.int .i64 0) 8 Tryd.underlying32 info_i rfl (by decide) m (by omega)
    go_upto_region 8 with (first
        | (at_builtin; refine Kd.R_append_row (w0 := W1) Hd.v default (w.heap.size + 1 + 1 + 1 + 1 + 1 + 1) rfl (.tmp 28) (.tmp 30) 31 32 _ 24 rfl Tryd.underlying31 info_h rfl (by decide) (.slice (some ⟨W1.heap.size, 0, none⟩) 0 0) [] hs oA hs.length oc (fun _ => True) rfl rfl (fun _ _ => trivial) (own_empty W1 _ _ _ rfl hz2) (Kd.C_below HO.out.now.row (below_alloc HW1.out _)) (Below.alloc (Below.refl _ _) hz2 _) (by simp; omega) (by simp; omega) ?_; intro v2 w2 hr2 hb2 hg2 _; have R12 := (hb2.block (w.heap.size + 1) (by omega)).trans R11; have R22 := (hb2.block (w.heap.size + 1 + 1) (by omega)).trans R21; have R32 := (hb2.block (w.heap.size + 1 + 1 + 1) (by omega)).trans R31; have Rq2 := (hb2.block (w.heap.size + 1 + 1 + 1 + 1 + 1) (by omega)).trans Rq1; have Rg2 := (hb2.block (w.heap.size + 1 + 1 + 1 + 1) (by omega)).trans Rg1; replace R12 := Aside0.mk R12; replace R22 := Aside0.mk R22; replace R32 := Aside0.mk R32; replace Rq2 := Aside0.mk Rq2; replace Rg2 := Aside0.mk Rg2; have hz3 : w.heap.size + 1 + 1 + 1 + 1 + 1 + 1 ≤ w2.heap.size := Nat.le_trans hz2 hb2.size; have HR2 := Aside0.mk hr2; have HB2 := Aside0.mk hb2; clear hr2 hb2 hg2)
        | (at_builtin; refine print_append_of (w0 := w2) Hd.v (w.heap.size + 1 + 1 + 1 + 1 + 1 + 1) rfl (.tmp 32) (.tmp 35) 31 32 _ 24 rfl Tryd.underlying31 info_h rfl (by decide) v2 ([] ++ hs) ⟨some ⟨w2.heap.size, 0, none⟩, m, m⟩ rfl (by first | (go_simp; done) | (simp [go_sem]; done)) rfl (pw_own_below (Kd.own_of_R HR2.out) (below_alloc (Below.refl _ _) _)) (Below.alloc (Below.refl _ _) hz3 _) (by simp; omega) (by simp; omega) ?_; intro v3 w3 hr3 hb3 hg3 _; have R13 := (hb3.block (w.heap.size + 1) (by omega)).trans (R12.out); have R23 := (hb3.block (w.heap.size + 1 + 1) (by omega)).trans (R22.out); have R33 := (hb3.block (w.heap.size + 1 + 1 + 1) (by omega)).trans (R32.out); have Rq3 := (hb3.block (w.heap.size + 1 + 1 + 1 + 1 + 1) (by omega)).trans (Rq2.out); have Rg3 := (hb3.block (w.heap.size + 1 + 1 + 1 + 1) (by omega)).trans (Rg2.out); replace R13 := Aside0.mk R13; replace R23 := Aside0.mk R23; replace R33 := Aside0.mk R33; replace Rq3 := Aside0.mk Rq3; replace Rg3 := Aside0.mk Rg3; have kk := (cell_of_row _ _ 20 _ _ _ R13.out).trans rfl; have kf := frozen_of_row w3 (w.heap.size + 1) 20 _ _ R13.out; have HN3 := Aside0.mk (hg3.block w2.heap.size); have hr3' := Kd.R_of_own (h1 := Hd.one) (ok := fun _ => True) hr3 fun _ _ => trivial; obtain ⟨An, cn, en, hcn, _⟩ := Kd.R_reads hr3'; subst en; have HCn := Aside0.mk hcn; have HR3 := Aside0.mk hr3'; clear hr3' hcn; have HB3 := Aside0.mk hb3; clear hr3 hb3 hg3))
    have HOB3 : Aside0 (ObF w3 (fun k => (P k ∧ k < w.heap.size) ∨ w.heap.size + 1 + 1 + 1 + 1 + 1 + 1 ≤ k) An (hs ++ [(⟨some ⟨w2.heap.size, 0, none⟩, m, m⟩ : Hd)]) (os ++ [List.replicate m 0])) := by
      constructor
      refine objs_append HO.out (Below.trans HW1.out (Below.trans (HB2.out.mono (by omega)) (HB3.out.mono (by omega)))) HR3.out ((HN3.out (by simp) fun e => ?_).trans (heap_alloc_new w2 _)) hz3 hm
      first | (have := Kd.R_lt HR2.out _ e; omega) | (have := Kd.R_lt HR2.out _ e.symm; omega)
    have HBw3 : Aside0 (Below w.heap.size w w3) := ⟨Below.trans HW1.out (Below.trans (HB2.out.mono (by omega)) (HB3.out.mono (by omega)))⟩
    have hz4 : w.heap.size + 1 + 1 + 1 + 1 + 1 + 1 ≤ w3.heap.size := Nat.le_trans hz3 HB3.out.size
    have HCn' : hs.length + 1 ≤ cn := by
      have := HCn.out
      simpa using this
    generalize hW4 : World.setCell _ _ _ = W4
    have R14 : W4.heap[w.heap.size + 1]? = some (.cells #[.int .i64 (n 0), .int .i64 (n 1), .int .i64 (n 2), .int .i64 (n 3), .int .i64 (n 4), .int .i64 (n 5), .int .i64 (n 6), .int .i64 (n 7), .int .i64 (n 8), .int .i64 (n 9), .int .i64 (n 10), .int .i64 (n 11), .int .i64 (n 12), .int .i64 (n 13), .int .i64 (n 14), .int .i64 (n 15), .int .i64 (n 16), .int .i64 (n 17), .int .i64 (n 18), .int .i64 (n 19), .slice An (hs.length + 1) cn, .slice tA tl tc, .int .i64 pc, .int .i64 st] 34 (0, 0)) := by
      rw [← hW4]
      refine Eq.trans (row_cellS _ R13.out) ?_
      simp
    have R24 : W4.heap[w.heap.size + 1 + 1]? = some (.cells #[.int .u8 5, .int .u8 a, .int .u8 b, .int .u8 c, .int .i64 N] 47 (0, 0)) := by rw [← hW4]; exact row_cellO _ _ (show w.heap.size + 1 + 1 ≠ w.heap.size + 1 by omega) R23.out
    have R34 : W4.heap[w.heap.size + 1 + 1 + 1]? = some (.cells #[.int .i64 0, .int .i64 0, .int .i64 0, .int .i64 0, .int .i64 0, .int .i64 0, .int .i64 0, .int .i64 0, .int .i64 0, .int .i64 0, .int .i64 0, .int .i64 0, .int .i64 0, .int .i64 0, .int .i64 0, .int .i64 0, .int .i64 0, .int .i64 0, .int .i64 0, .int .i64 0, .slice none 0 0, .slice none 0 0, .int .i64 0, .int .i64 0] 34 (0, 0)) := by rw [← hW4]; exact row_cellO _ _ (show w.heap.size + 1 + 1 + 1 ≠ w.heap.size + 1 by omega) R33.out
    have Rq4 : W4.heap[w.heap.size + 1 + 1 + 1 + 1 + 1]? = some (.cells #[.int .i64 (n 8), .int .i64 (n 9), .int .i64 (n 10), .int .i64 (n 11), .int .i64 (n 12), .int .i64 (n 13), .int .i64 (n 14), .int .i64 (n 15)] 29 (0, 0)) := by rw [← hW4]; exact row_cellO _ _ (show w.heap.size + 1 + 1 + 1 + 1 + 1 ≠ w.heap.size + 1 by omega) Rq3.out
    have Rg4 : W4.heap[w.heap.size + 1 + 1 + 1 + 1]? = some (.cells #[.int .i64 (n 16), .int .i64 (n 17), .int .i64 (n 18), .int .i64 (n 19)] 30 (0, 0)) := by rw [← hW4]; exact row_cellO _ _ (show w.heap.size + 1 + 1 + 1 + 1 ≠ w.heap.size + 1 by omega) Rg3.out
    have k1 := (cell_of_row W4 _ 1 _ _ _ R24).trans rfl
    have k2 := (cell_of_row W4 _ 20 _ _ _ R14).trans rfl
    have k3 : W4.cell? ⟨w.heap.size + 1 + 1 + 1 + 1 + 1, a, none⟩ = some (.int .i64 (n (8 + a))) := (cell_of_row W4 _ a _ _ _ Rq4).trans (by simpa using ra)
    have k4 := frozen_of_row W4 (w.heap.size + 1 + 1 + 1 + 1 + 1) a _ _ Rq4
    clear R12 R22 R32 Rq2 Rg2 R13 R23 R33 Rq3 Rg3 R11 R21 R31 Rq1 Rg1 c20 hmk kk kf HN3 HR3 HR2
    go_upto_region 17 with (fail)
    generalize hW5 : World.setCell _ _ _ = W5
    have R15 : W5.heap[w.heap.size + 1]? = some (.cells #[.int .i64 (n 0), .int .i64 (n 1), .int .i64 (n 2), .int .i64 (n 3), .int .i64 (n 4), .int .i64 (n 5), .int .i64 (n 6), .int .i64 (n 7), .int .i64 (n 8), .int .i64 (n 9), .int .i64 (n 10), .int .i64 (n 11), .int .i64 (n 12), .int .i64 (n 13), .int .i64 (n 14), .int .i64 (n 15), .int .i64 (n 16), .int .i64 (n 17), .int .i64 (n 18), .int .i64 (n 19), .slice An (hs.length + 1) cn, .slice tA tl tc, .int .i64 pc, .int .i64 st] 34 (0, 0)) := by rw [← hW5]; exact row_cellO _ _ (show w.heap.size + 1 ≠ w.heap.size + 1 + 1 + 1 + 1 + 1 by omega) R14
    have R25 : W5.heap[w.heap.size + 1 + 1]? = some (.cells #[.int .u8 5, .int .u8 a, .int .u8 b, .int .u8 c, .int .i64 N] 47 (0, 0)) := by rw [← hW5]; exact row_cellO _ _ (show w.heap.size + 1 + 1 ≠ w.heap.size + 1 + 1 + 1 + 1 + 1 by omega) R24
    have R35 : W5.heap[w.heap.size + 1 + 1 + 1]? = some (.cells #[.int .i64 0, .int .i64 0, .int .i64 0, .int .i64 0, .int .i64 0, .int .i64 0, .int .i64 0, .int .i64 0, .int .i64 0, .int .i64 0, .int .i64 0, .int .i64 0, .int .i64 0, .int .i64 0, .int .i64 0, .int .i64 0, .int .i64 0, .int .i64 0, .int .i64 0, .int .i64 0, .slice none 0 0, .slice none 0 0, .int .i64 0, .int .i64 0] 34 (0, 0)) := by rw [← hW5]; exact row_cellO _ _ (show w.heap.size + 1 + 1 + 1 ≠ w.heap.size + 1 + 1 + 1 + 1 + 1 by omega) R34
    have Rq5 : W5.heap[w.heap.size + 1 + 1 + 1 + 1 + 1]? = some (.cells #[.int .i64 (upd n (8 + a) ((hs.length : Int) + 1) 8), .int .i64 (upd n (8 + a) ((hs.length : Int) + 1) 9), .int .i64 (upd n (8 + a) ((hs.length : Int) + 1) 10), .int .i64 (upd n (8 + a) ((hs.length : Int) + 1) 11), .int .i64 (upd n (8 + a) ((hs.length : Int) + 1) 12), .int .i64 (upd n (8 + a) ((hs.length : Int) + 1) 13), .int .i64 (upd n (8 + a) ((hs.length : Int) + 1) 14), .int .i64 (upd n (8 + a) ((hs.length : Int) + 1) 15)] 29 (0, 0)) := by
      rw [← hW5]
      refine Eq.trans (row_cellS _ Rq4) ?_
      simp only [List.setIfInBounds_toArray, s8]
    have Rg5 : W5.heap[w.heap.size + 1 + 1 + 1 + 1]? = some (.cells #[.int .i64 (n 16), .int .i64 (n 17), .int .i64 (n 18), .int .i64 (n 19)] 30 (0, 0)) := by rw [← hW5]; exact row_cellO _ _ (show w.heap.size + 1 + 1 + 1 + 1 ≠ w.heap.size + 1 + 1 + 1 + 1 + 1 by omega) Rg4
    have kq := fun j => cell_of_row W5 (w.heap.size + 1 + 1 + 1 + 1 + 1) j _ _ _ Rq5
    have kg := fun j => cell_of_row W5 (w.heap.size + 1 + 1 + 1 + 1) j _ _ _ Rg5
    have ks := fun j => cell_of_row W5 (w.heap.size + 1) j _ _ _ R15
    have fs := fun j => frozen_of_row W5 (w.heap.size + 1) j _ _ R15
    clear k1 k2 k3 k4 R14 R24 R34 Rq4 Rg4 Rq5 Rg5 R25
    go_upto_region 19 with (fail)
    generalize hW6 : World.setCell _ _ _ = W6
    have R16 : W6.heap[w.heap.size + 1]? = some (.cells #[.int .i64 (n 0), .int .i64 (n 1), .int .i64 (n 2), .int .i64 (n 3), .int .i64 (n 4), .int .i64 (n 5), .int .i64 (n 6), .int .i64 (n 7), .int .i64 (upd n (8 + a) ((hs.length : Int) + 1) 8), .int .i64 (upd n (8 + a) ((hs.length : Int) + 1) 9), .int .i64 (upd n (8 + a) ((hs.length : Int) + 1) 10), .int .i64 (upd n (8 + a) ((hs.length : Int) + 1) 11), .int .i64 (upd n (8 + a) ((hs.length : Int) + 1) 12), .int .i64 (upd n (8 + a) ((hs.length : Int) + 1) 13), .int .i64 (upd n (8 + a) ((hs.length : Int) + 1) 14), .int .i64 (upd n (8 + a) ((hs.length : Int) + 1) 15), .int .i64 (n 16), .int .i64 (n 17), .int .i64 (n 18), .int .i64 (n 19), .slice An (hs.length + 1) cn, .slice tA tl tc, .int .i64 pc, .int .i64 st] 34 (0, 0)) := by
      rw [← hW6]
      refine Eq.trans (rowT (p := _ = some (.cells _ 34 (0, 0)))) ?_
      simp
    have R36 : W6.heap[w.heap.size + 1 + 1 + 1]? = some (.cells #[.int .i64 0, .int .i64 0, .int .i64 0, .int .i64 0, .int .i64 0, .int .i64 0, .int .i64 0, .int .i64 0, .int .i64 0, .int .i64 0, .int .i64 0, .int .i64 0, .int .i64 0, .int .i64 0, .int .i64 0, .int .i64 0, .int .i64 0, .int .i64 0, .int .i64 0, .int .i64 0, .slice none 0 0, .slice none 0 0, .int .i64 0, .int .i64 0] 34 (0, 0)) := by
      rw [← hW6]
      exact rowT
    have HOB : ∀ cs, ObF (W6.setRow (w.heap.size + 1 + 1 + 1) cs) (fun k => P k ∨ w.heap.size ≤ k) An (hs ++ [(⟨some ⟨w2.heap.size, 0, none⟩, m, m⟩ : Hd)]) (os ++ [List.replicate m 0]) := by
      intro cs
      refine ObF.mono (P := (fun k => (P k ∧ k < w.heap.size) ∨ w.heap.size + 1 + 1 + 1 + 1 + 1 + 1 ≤ k)) (ObF.step HOB3.out fun k hk hl => ⟨?_, ?_⟩) fun k hk => hk.imp (fun h => h.1) fun h => by omega
      · rw [setRow_other W6 (w.heap.size + 1 + 1 + 1) k cs (by omega), ← hW6, ← hW5, ← hW4]
        repeat (first | (with_reducible rfl) | (with_reducible refine (heap_setCell_other _ _ _ _ ?_).trans ?_; focus (first | (show k ≠ w.heap.size + 1; omega) | (show k ≠ w.heap.size + 1 + 1 + 1 + 1 + 1; omega))))
      · rw [← hW6, ← hW5, ← hW4]
        simpa [World.setRow, World.setCell] using hl
    have HBW : Aside0 (Below w.heap.size w W6) := by
      constructor
      rw [← hW6, ← hW5, ← hW4]
      repeat (first | (with_reducible exact HBw3.out) | (with_reducible refine below_set ?_ ?_; rotate_left; focus omega))
    have HOB' := Aside0.mk HOB
    clear HOB hW6 hW5 hW4 kq kg ks fs R15 R35
    go_wp2_with (first
        | (apply ldS; (with_reducible rfl); rfl; rfl; exact rowT; rfl)
        | (apply srS; (with_reducible rfl); rfl; rfl; rfl; exact rowT; rfl; rfl; rfl; rfl))
    refine ret2S rfl rfl rfl rfl (setRow_heap _ _ _ _ _ _ R36) rfl ⟨An, cn, hs ++ [(⟨some ⟨w2.heap.size, 0, none⟩, m, m⟩ : Hd)], ?_, by simpa using HCn', HOB'.out _, below_row HBW.out (by omega)⟩
    simp
end
end Go.Proofs.YtkplgfhkebkaaaaDoor.ST

namespace Go.Proofs.YtkplgfhkebkaaaaDoor.ST
open Go.RowKit Go.Proofs.YtkplgfhkebkaaaaDoorW.PrintWords Go.Proofs.YtkplgfhkebkaaaaDoor.F Go.Proofs.YtkplgfhkebkaaaaDoor.FM Go.Proofs.YtkplgfhkebkaaaaDoor.H
set_option linter.unusedVariables false
set_option linter.unusedSimpArgs false
section
variable (w : World) (n : Nat → Int) (oA tA : Option Addr) (ol oc tl tc : Nat) (p : Nat) (st : Int) (A0 : Option Addr) (c0 : Nat) (ts : List ByteArray) (la gl : ByteArray) (A3 : Option Addr) (c3 : Nat) (code : List S47)
  (hT : Kd.C Kd.string w A0 ts.length ts) (hc0 : ts.length ≤ c0) (hC : Kd.C k47 w A3 code.length code) (hc3 : code.length ≤ c3) (kc : Nat) (ck : Int) (hK : lockstitchref05_Check.f kc ts la gl code = some (ck, 0)) (htab : TB w)
include hT hc0 hC hc3 hK htab
set_option maxHeartbeats 2000000 in
set_option maxRecDepth 100000 in
theorem step_end (hp : p = code.length) :
    Calls Tryd.prog 12 #[.agg #[.slice A0 ts.length c0, .string la, .string gl, .slice A3 code.length c3], .agg #[.int .i64 (n 0), .int .i64 (n 1), .int .i64 (n 2), .int .i64 (n 3), .int .i64 (n 4), .int .i64 (n 5), .int .i64 (n 6), .int .i64 (n 7), .int .i64 (n 8), .int .i64 (n 9), .int .i64 (n 10), .int .i64 (n 11), .int .i64 (n 12), .int .i64 (n 13), .int .i64 (n 14), .int .i64 (n 15), .int .i64 (n 16), .int .i64 (n 17), .int .i64 (n 18), .int .i64 (n 19), .slice oA ol oc, .slice tA tl tc, .int .i64 p, .int .i64 st]] w fun e w' => e = .returned (.tuple #[.agg #[.int .i64 (n 0), .int .i64 (n 1), .int .i64 (n 2), .int .i64 (n 3), .int .i64 (n 4), .int .i64 (n 5), .int .i64 (n 6), .int .i64 (n 7), .int .i64 (n 8), .int .i64 (n 9), .int .i64 (n 10), .int .i64 (n 11), .int .i64 (n 12), .int .i64 (n 13), .int .i64 (n 14), .int .i64 (n 15), .int .i64 (n 16), .int .i64 (n 17), .int .i64 (n 18), .int .i64 (n 19), .slice oA ol oc, .slice tA tl tc, .int .i64 p, .int .i64 st], .bool true, .int .i64 0]) ∧ Below w.heap.size w w' := by
  have HT := Aside0.mk hT
  have HC := Aside0.mk hC
  have HK := Aside0.mk hK
  have HTB := Aside0.mk htab
  clear hT hC hK htab
  have p0 : ¬ (p : Int) < 0 := by omega
  have p1 : ¬ (p : Int) > (code.length : Int) := by omega
  have p2 : ((p : Int) == (code.length : Int)) = true := by rw [hp]; exact beq_self_eq_true _
  clear hp
  go_enter Tryd.func12, Tryd.ntmps12
  go_wp2_with (first
    | (go_at_call 25; (with_reducible refine (lockstitchref05_Check.calls kc A0 c0 ts la gl A3 c3 code ck 0 _ (Kd.C_below HT.out (by repeat (first | exact Below.refl _ _ | refine below_alloc ?_ _ | refine below_drew1 ?_ | refine pw_below_drewN ?_ _))) hc0 (Kd.C_below HC.out (by repeat (first | exact Below.refl _ _ | refine below_alloc ?_ _ | refine below_drew1 ?_ | refine pw_below_drewN ?_ _))) hc3 HK.out (TB_below HTB.out (by repeat (first | exact Below.refl _ _ | refine below_alloc ?_ _ | refine below_drew1 ?_ | refine pw_below_drewN ?_ _)))).mono ?_); rintro e w1 ⟨rfl, hb1⟩; have R0 := (hb1.block (w.heap.size) (by simp; try omega)).trans (rowT (p := _ = some (.cells _ 25 (0, 0)))); have R1 := (hb1.block (w.heap.size + 1) (by simp; try omega)).trans (rowT (p := _ = some (.cells _ 34 (0, 0)))); have R3 := (hb1.block (w.heap.size + 1 + 1) (by simp; try omega)).trans (rowT (p := _ = some (.cells _ 34 (0, 0)))); have hz1 : w.heap.size + 1 + 1 + 1 ≤ w1.heap.size := Nat.le_trans (by simp) hb1.size; have HB1 := Aside0.mk (show Below w.heap.size w w1 from Below.trans (by repeat (first | exact Below.refl _ _ | refine below_alloc ?_ _ | refine below_drew1 ?_ | refine pw_below_drewN ?_ _)) (hb1.mono (by simp; try omega))); clear hb1; have kp := fun j => cell_of_row w1 (w.heap.size) j _ _ _ R0; have ks := fun j => cell_of_row w1 (w.heap.size + 1) j _ _ _ R1)
    | (apply ldS; (with_reducible rfl); rfl; rfl; exact rowT; rfl)
    | (apply srS; (with_reducible rfl); rfl; rfl; rfl; exact rowT; rfl; rfl; rfl; rfl))
  refine ret3S rfl rfl rfl rfl rfl (setRow_heap _ _ _ _ _ _ R3) rfl ⟨rfl, below_row HB1.out (by omega)⟩
set_option maxHeartbeats 2000000 in
set_option maxRecDepth 100000 in
theorem step_jump (a b c : Nat) (N : Int) (hp : p < code.length) (x0 : (rd_T47 code p).f0 = 3) (x1 : (rd_T47 code p).f1 = a) (x2 : (rd_T47 code p).f2 = b) (x3 : (rd_T47 code p).f3 = c) (x4 : (rd_T47 code p).f4 = N) :
    Calls Tryd.prog 12 #[.agg #[.slice A0 ts.length c0, .string la, .string gl, .slice A3 code.length c3], .agg #[.int .i64 (n 0), .int .i64 (n 1), .int .i64 (n 2), .int .i64 (n 3), .int .i64 (n 4), .int .i64 (n 5), .int .i64 (n 6), .int .i64 (n 7), .int .i64 (n 8), .int .i64 (n 9), .int .i64 (n 10), .int .i64 (n 11), .int .i64 (n 12), .int .i64 (n 13), .int .i64 (n 14), .int .i64 (n 15), .int .i64 (n 16), .int .i64 (n 17), .int .i64 (n 18), .int .i64 (n 19), .slice oA ol oc, .slice tA tl tc, .int .i64 p, .int .i64 st]] w fun e w' => e = .returned (.tuple #[.agg #[.int .i64 (n 0), .int .i64 (n 1), .int .i64 (n 2), .int .i64 (n 3), .int .i64 (n 4), .int .i64 (n 5), .int .i64 (n 6), .int .i64 (n 7), .int .i64 (n 8), .int .i64 (n 9), .int .i64 (n 10), .int .i64 (n 11), .int .i64 (n 12), .int .i64 (n 13), .int .i64 (n 14), .int .i64 (n 15), .int .i64 (n 16), .int .i64 (n 17), .int .i64 (n 18), .int .i64 (n 19), .slice oA ol oc, .slice tA tl tc, .int .i64 N, .int .i64 (wrap64 (st + 1))], .bool false, .int .i64 0]) ∧ Below w.heap.size w w' := by
  have hmax := Kd.C_max hC
  obtain ⟨ad, eA, _⟩ := at_T47 hC (p : Int) (by omega) (by omega)
  subst eA
  have HT := Aside0.mk hT
  have HC := Aside0.mk hC
  have HK := Aside0.mk hK
  have HTB := Aside0.mk htab
  clear hT hC hK htab
  have p0 : ¬ (p : Int) < 0 := by omega
  have q0 : (0 : Int) ≤ p := by omega
  have q1 : (p : Int) < code.length := by omega
  have p1 : ¬ (p : Int) > (code.length : Int) := by omega
  have p2 : ((p : Int) == (code.length : Int)) = false := by
    rw [beq_eq_false_iff_ne]
    omega
  have X0 := Aside0.mk x0
  have X1 := Aside0.mk x1
  have X2 := Aside0.mk x2
  have X3 := Aside0.mk x3
  have X4 := Aside0.mk x4
  clear x0 x1 x2 x3 x4
  go_enter Tryd.func12, Tryd.ntmps12
  go_wp2_with (first
    | (go_at_call 25; (with_reducible refine (lockstitchref05_Check.calls kc A0 c0 ts la gl (some ad) c3 code ck 0 _ (Kd.C_below HT.out (by repeat (first | exact Below.refl _ _ | refine below_alloc ?_ _ | refine below_drew1 ?_ | refine pw_below_drewN ?_ _))) hc0 (Kd.C_below HC.out (by repeat (first | exact Below.refl _ _ | refine below_alloc ?_ _ | refine below_drew1 ?_ | refine pw_below_drewN ?_ _))) hc3 HK.out (TB_below HTB.out (by repeat (first | exact Below.refl _ _ | refine below_alloc ?_ _ | refine below_drew1 ?_ | refine pw_below_drewN ?_ _)))).mono ?_); rintro e w1 ⟨rfl, hb1⟩; have R0 := (hb1.block (w.heap.size) (by simp; try omega)).trans (rowT (p := _ = some (.cells _ 25 (0, 0)))); have R1 := (hb1.block (w.heap.size + 1) (by simp; try omega)).trans (rowT (p := _ = some (.cells _ 34 (0, 0)))); have R3 := (hb1.block (w.heap.size + 1 + 1) (by simp; try omega)).trans (rowT (p := _ = some (.cells _ 34 (0, 0)))); have hz1 : w.heap.size + 1 + 1 + 1 ≤ w1.heap.size := Nat.le_trans (by simp) hb1.size; have HB1 := Aside0.mk (show Below w.heap.size w w1 from Below.trans (by repeat (first | exact Below.refl _ _ | refine below_alloc ?_ _ | refine below_drew1 ?_ | refine pw_below_drewN ?_ _)) (hb1.mono (by simp; try omega))); clear hb1; have kp := fun j => cell_of_row w1 (w.heap.size) j _ _ _ R0; have ks := fun j => cell_of_row w1 (w.heap.size + 1) j _ _ _ R1; obtain ⟨_, ea, y0, y1, y2, y3, y4⟩ := at_T47 (Kd.C_below HC.out HB1.out) (p : Int) q0 q1; cases ea; rw [Int.toNat_natCast] at y0 y1 y2 y3 y4; rw [X0.out] at y0; rw [X1.out] at y1; rw [X2.out] at y2; rw [X3.out] at y3; rw [X4.out] at y4; have c22 : ∀ q r : Obj, ((w1.alloc q).alloc r).cell? ⟨w.heap.size + 1, 22, none⟩ = some (.int .i64 p) := fun q r => cell_more2 (by omega) ((ks 22).trans rfl) q r; have c23 : ∀ q r : Obj, ((w1.alloc q).alloc r).cell? ⟨w.heap.size + 1, 23, none⟩ = some (.int .i64 st) := fun q r => cell_more2 (by omega) ((ks 23).trans rfl) q r; have R3X : ∀ q r : Obj, ((w1.alloc q).alloc r).heap[w.heap.size + 1 + 1]? = _ := fun q r => row_old _ _ _ (by simp; omega) (row_old _ _ _ (by omega) R3); skip)
    | (apply ldS; (with_reducible rfl); rfl; rfl; exact rowT; rfl)
    | (apply srS; (with_reducible rfl); rfl; rfl; rfl; exact rowT; rfl; rfl; rfl; exact setT))
  refine ret3S rfl rfl rfl rfl rfl rowT rfl ⟨rfl, ?_⟩
  repeat (first | exact HB1.out | refine below_alloc ?_ _ | refine below_row ?_ (by omega))
set_option maxHeartbeats 2000000 in
set_option maxRecDepth 100000 in
theorem step_zero (a b c : Nat) (N : Int) (hp : p < code.length) (x0 : (rd_T47 code p).f0 = 4) (x1 : (rd_T47 code p).f1 = a) (x2 : (rd_T47 code p).f2 = b) (x3 : (rd_T47 code p).f3 = c) (x4 : (rd_T47 code p).f4 = N) (ha : (a : Int) < 8) (hz : n a = 0) :
    Calls Tryd.prog 12 #[.agg #[.slice A0 ts.length c0, .string la, .string gl, .slice A3 code.length c3], .agg #[.int .i64 (n 0), .int .i64 (n 1), .int .i64 (n 2), .int .i64 (n 3), .int .i64 (n 4), .int .i64 (n 5), .int .i64 (n 6), .int .i64 (n 7), .int .i64 (n 8), .int .i64 (n 9), .int .i64 (n 10), .int .i64 (n 11), .int .i64 (n 12), .int .i64 (n 13), .int .i64 (n 14), .int .i64 (n 15), .int .i64 (n 16), .int .i64 (n 17), .int .i64 (n 18), .int .i64 (n 19), .slice oA ol oc, .slice tA tl tc, .int .i64 p, .int .i64 st]] w fun e w' => e = .returned (.tuple #[.agg #[.int .i64 (n 0), .int .i64 (n 1), .int .i64 (n 2), .int .i64 (n 3), .int .i64 (n 4), .int .i64 (n 5), .int .i64 (n 6), .int .i64 (n 7), .int .i64 (n 8), .int .i64 (n 9), .int .i64 (n 10), .int .i64 (n 11), .int .i64 (n 12), .int .i64 (n 13), .int .i64 (n 14), .int .i64 (n 15), .int .i64 (n 16), .int .i64 (n 17), .int .i64 (n 18), .int .i64 (n 19), .slice oA ol oc, .slice tA tl tc, .int .i64 N, .int .i64 (wrap64 (st + 1))], .bool false, .int .i64 0]) ∧ Below w.heap.size w w' := by
  have hmax := Kd.C_max hC
  obtain ⟨ad, eA, _⟩ := at_T47 hC (p : Int) (by omega) (by omega)
  subst eA
  have HT := Aside0.mk hT
  have HC := Aside0.mk hC
  have HK := Aside0.mk hK
  have HTB := Aside0.mk htab
  clear hT hC hK htab
  have p0 : ¬ (p : Int) < 0 := by omega
  have q0 : (0 : Int) ≤ p := by omega
  have q1 : (p : Int) < code.length := by omega
  have p1 : ¬ (p : Int) > (code.length : Int) := by omega
  have p2 : ((p : Int) == (code.length : Int)) = false := by
    rw [beq_eq_false_iff_ne]
    omega
  have X0 := Aside0.mk x0
  have X1 := Aside0.mk x1
  have X2 := Aside0.mk x2
  have X3 := Aside0.mk x3
  have X4 := Aside0.mk x4
  clear x0 x1 x2 x3 x4
  have HZ := Aside0.mk hz
  clear hz
  have a0 : (0 : Int) ≤ a := by omega
  go_enter Tryd.func12, Tryd.ntmps12
  go_wp2_with (first
    | (go_at_call 25; (with_reducible refine (lockstitchref05_Check.calls kc A0 c0 ts la gl (some ad) c3 code ck 0 _ (Kd.C_below HT.out (by repeat (first | exact Below.refl _ _ | refine below_alloc ?_ _ | refine below_drew1 ?_ | refine pw_below_drewN ?_ _))) hc0 (Kd.C_below HC.out (by repeat (first | exact Below.refl _ _ | refine below_alloc ?_ _ | refine below_drew1 ?_ | refine pw_below_drewN ?_ _))) hc3 HK.out (TB_below HTB.out (by repeat (first | exact Below.refl _ _ | refine below_alloc ?_ _ | refine below_drew1 ?_ | refine pw_below_drewN ?_ _)))).mono ?_); rintro e w1 ⟨rfl, hb1⟩; have R0 := (hb1.block (w.heap.size) (by simp; try omega)).trans (rowT (p := _ = some (.cells _ 25 (0, 0)))); have R1 := (hb1.block (w.heap.size + 1) (by simp; try omega)).trans (rowT (p := _ = some (.cells _ 34 (0, 0)))); have R3 := (hb1.block (w.heap.size + 1 + 1) (by simp; try omega)).trans (rowT (p := _ = some (.cells _ 34 (0, 0)))); have hz1 : w.heap.size + 1 + 1 + 1 ≤ w1.heap.size := Nat.le_trans (by simp) hb1.size; have HB1 := Aside0.mk (show Below w.heap.size w w1 from Below.trans (by repeat (first | exact Below.refl _ _ | refine below_alloc ?_ _ | refine below_drew1 ?_ | refine pw_below_drewN ?_ _)) (hb1.mono (by simp; try omega))); clear hb1; have kp := fun j => cell_of_row w1 (w.heap.size) j _ _ _ R0; have ks := fun j => cell_of_row w1 (w.heap.size + 1) j _ _ _ R1; obtain ⟨_, ea, y0, y1, y2, y3, y4⟩ := at_T47 (Kd.C_below HC.out HB1.out) (p : Int) q0 q1; cases ea; rw [Int.toNat_natCast] at y0 y1 y2 y3 y4; rw [X0.out] at y0; rw [X1.out] at y1; rw [X2.out] at y2; rw [X3.out] at y3; rw [X4.out] at y4; have c22 : ∀ q r : Obj, ((w1.alloc q).alloc r).cell? ⟨w.heap.size + 1, 22, none⟩ = some (.int .i64 p) := fun q r => cell_more2 (by omega) ((ks 22).trans rfl) q r; have c23 : ∀ q r : Obj, ((w1.alloc q).alloc r).cell? ⟨w.heap.size + 1, 23, none⟩ = some (.int .i64 st) := fun q r => cell_more2 (by omega) ((ks 23).trans rfl) q r; have R3X : ∀ q r : Obj, ((w1.alloc q).alloc r).heap[w.heap.size + 1 + 1]? = _ := fun q r => row_old _ _ _ (by simp; omega) (row_old _ _ _ (by omega) R3); have cX : ∀ q r : Obj, ((w1.alloc q).alloc r).cell? ⟨w.heap.size + 1, a, none⟩ = some (.int .i64 0) := fun q r => cell_more2 (by omega) ((ks a).trans (by rw [← HZ.out]; exact rowSA _ _ _ _ _ a ha)) q r)
    | (apply ldS; (with_reducible rfl); rfl; rfl; exact rowT; rfl)
    | (apply srS; (with_reducible rfl); rfl; rfl; rfl; exact rowT; rfl; rfl; rfl; exact setT))
  refine ret3S rfl rfl rfl rfl rfl rowT rfl ⟨rfl, ?_⟩
  repeat (first | exact HB1.out | refine below_alloc ?_ _ | refine below_row ?_ (by omega))
set_option maxHeartbeats 2000000 in
set_option maxRecDepth 100000 in
theorem step_pass (a b c : Nat) (N : Int) (hp : p < code.length) (x0 : (rd_T47 code p).f0 = 4) (x1 : (rd_T47 code p).f1 = a) (x2 : (rd_T47 code p).f2 = b) (x3 : (rd_T47 code p).f3 = c) (x4 : (rd_T47 code p).f4 = N) (ha : (a : Int) < 8) (hz : ¬ n a = 0) :
    Calls Tryd.prog 12 #[.agg #[.slice A0 ts.length c0, .string la, .string gl, .slice A3 code.length c3], .agg #[.int .i64 (n 0), .int .i64 (n 1), .int .i64 (n 2), .int .i64 (n 3), .int .i64 (n 4), .int .i64 (n 5), .int .i64 (n 6), .int .i64 (n 7), .int .i64 (n 8), .int .i64 (n 9), .int .i64 (n 10), .int .i64 (n 11), .int .i64 (n 12), .int .i64 (n 13), .int .i64 (n 14), .int .i64 (n 15), .int .i64 (n 16), .int .i64 (n 17), .int .i64 (n 18), .int .i64 (n 19), .slice oA ol oc, .slice tA tl tc, .int .i64 p, .int .i64 st]] w fun e w' => e = .returned (.tuple #[.agg #[.int .i64 (n 0), .int .i64 (n 1), .int .i64 (n 2), .int .i64 (n 3), .int .i64 (n 4), .int .i64 (n 5), .int .i64 (n 6), .int .i64 (n 7), .int .i64 (n 8), .int .i64 (n 9), .int .i64 (n 10), .int .i64 (n 11), .int .i64 (n 12), .int .i64 (n 13), .int .i64 (n 14), .int .i64 (n 15), .int .i64 (n 16), .int .i64 (n 17), .int .i64 (n 18), .int .i64 (n 19), .slice oA ol oc, .slice tA tl tc, .int .i64 ((p : Int) + 1), .int .i64 (wrap64 (st + 1))], .bool false, .int .i64 0]) ∧ Below w.heap.size w w' := by
  have hmax := Kd.C_max hC
  obtain ⟨ad, eA, _⟩ := at_T47 hC (p : Int) (by omega) (by omega)
  subst eA
  have HT := Aside0.mk hT
  have HC := Aside0.mk hC
  have HK := Aside0.mk hK
  have HTB := Aside0.mk htab
  clear hT hC hK htab
  have p0 : ¬ (p : Int) < 0 := by omega
  have q0 : (0 : Int) ≤ p := by omega
  have q1 : (p : Int) < code.length := by omega
  have p1 : ¬ (p : Int) > (code.length : Int) := by omega
  have p2 : ((p : Int) == (code.length : Int)) = false := by
    rw [beq_eq_false_iff_ne]
    omega
  have X0 := Aside0.mk x0
  have X1 := Aside0.mk x1
  have X2 := Aside0.mk x2
  have X3 := Aside0.mk x3
  have X4 := Aside0.mk x4
  clear x0 x1 x2 x3 x4
  have hz' : (n a == 0) = false := by simpa using hz
  clear hz
  have a0 : (0 : Int) ≤ a := by omega
  go_enter Tryd.func12, Tryd.ntmps12
  go_wp2_with (first
    | (go_at_call 25; (with_reducible refine (lockstitchref05_Check.calls kc A0 c0 ts la gl (some ad) c3 code ck 0 _ (Kd.C_below HT.out (by repeat (first | exact Below.refl _ _ | refine below_alloc ?_ _ | refine below_drew1 ?_ | refine pw_below_drewN ?_ _))) hc0 (Kd.C_below HC.out (by repeat (first | exact Below.refl _ _ | refine below_alloc ?_ _ | refine below_drew1 ?_ | refine pw_below_drewN ?_ _))) hc3 HK.out (TB_below HTB.out (by repeat (first | exact Below.refl _ _ | refine below_alloc ?_ _ | refine below_drew1 ?_ | refine pw_below_drewN ?_ _)))).mono ?_); rintro e w1 ⟨rfl, hb1⟩; have R0 := (hb1.block (w.heap.size) (by simp; try omega)).trans (rowT (p := _ = some (.cells _ 25 (0, 0)))); have R1 := (hb1.block (w.heap.size + 1) (by simp; try omega)).trans (rowT (p := _ = some (.cells _ 34 (0, 0)))); have R3 := (hb1.block (w.heap.size + 1 + 1) (by simp; try omega)).trans (rowT (p := _ = some (.cells _ 34 (0, 0)))); have hz1 : w.heap.size + 1 + 1 + 1 ≤ w1.heap.size := Nat.le_trans (by simp) hb1.size; have HB1 := Aside0.mk (show Below w.heap.size w w1 from Below.trans (by repeat (first | exact Below.refl _ _ | refine below_alloc ?_ _ | refine below_drew1 ?_ | refine pw_below_drewN ?_ _)) (hb1.mono (by simp; try omega))); clear hb1; have kp := fun j => cell_of_row w1 (w.heap.size) j _ _ _ R0; have ks := fun j => cell_of_row w1 (w.heap.size + 1) j _ _ _ R1; obtain ⟨_, ea, y0, y1, y2, y3, y4⟩ := at_T47 (Kd.C_below HC.out HB1.out) (p : Int) q0 q1; cases ea; rw [Int.toNat_natCast] at y0 y1 y2 y3 y4; rw [X0.out] at y0; rw [X1.out] at y1; rw [X2.out] at y2; rw [X3.out] at y3; rw [X4.out] at y4; have c22 : ∀ q r : Obj, ((w1.alloc q).alloc r).cell? ⟨w.heap.size + 1, 22, none⟩ = some (.int .i64 p) := fun q r => cell_more2 (by omega) ((ks 22).trans rfl) q r; have c23 : ∀ q r : Obj, ((w1.alloc q).alloc r).cell? ⟨w.heap.size + 1, 23, none⟩ = some (.int .i64 st) := fun q r => cell_more2 (by omega) ((ks 23).trans rfl) q r; have R3X : ∀ q r : Obj, ((w1.alloc q).alloc r).heap[w.heap.size + 1 + 1]? = _ := fun q r => row_old _ _ _ (by simp; omega) (row_old _ _ _ (by omega) R3); have cX : ∀ q r : Obj, ((w1.alloc q).alloc r).cell? ⟨w.heap.size + 1, a, none⟩ = some (.int .i64 (n a)) := fun q r => cell_more2 (by omega) ((ks a).trans (rowSA _ _ _ _ _ a ha)) q r)
    | (apply ldS; (with_reducible rfl); rfl; rfl; exact rowT; rfl)
    | (apply srS; (with_reducible rfl); rfl; rfl; rfl; exact rowT; rfl; rfl; rfl; exact setT))
  refine ret3S rfl rfl rfl rfl rfl rowT rfl ⟨rfl, ?_⟩
  repeat (first | exact HB1.out | refine below_alloc ?_ _ | refine below_row ?_ (by omega))
set_option maxHeartbeats 2000000 in
set_option maxRecDepth 100000 in
theorem step_num (o : Int) (a b c : Nat) (N : Int) (hp : p < code.length) (x0 : (rd_T47 code p).f0 = o) (x1 : (rd_T47 code p).f1 = a) (x2 : (rd_T47 code p).f2 = b) (x3 : (rd_T47 code p).f3 = c) (x4 : (rd_T47 code p).f4 = N) (hj3 : ¬ o = 3) (hj4 : ¬ o = 4) (R : World → World → Array Value → Prop) (hN : ∀ W, Below w.heap.size w W → Calls Tryd.prog 27 #[.agg #[.int .i64 (n 0), .int .i64 (n 1), .int .i64 (n 2), .int .i64 (n 3), .int .i64 (n 4), .int .i64 (n 5), .int .i64 (n 6), .int .i64 (n 7), .int .i64 (n 8), .int .i64 (n 9), .int .i64 (n 10), .int .i64 (n 11), .int .i64 (n 12), .int .i64 (n 13), .int .i64 (n 14), .int .i64 (n 15), .int .i64 (n 16), .int .i64 (n 17), .int .i64 (n 18), .int .i64 (n 19), .slice oA ol oc, .slice tA tl tc, .int .i64 ((p : Int) + 1), .int .i64 (wrap64 (st + 1))], .agg #[.int .u8 o, .int .u8 a, .int .u8 b, .int .u8 c, .int .i64 N]] W fun e w' => ∃ U : Array Value, U.size = 24 ∧ U.toList.all (·.oneCell') = true ∧ e = .returned (.tuple #[.agg U, .bool true]) ∧ R W w' U ∧ Below W.heap.size W w') :
    Calls Tryd.prog 12 #[.agg #[.slice A0 ts.length c0, .string la, .string gl, .slice A3 code.length c3], .agg #[.int .i64 (n 0), .int .i64 (n 1), .int .i64 (n 2), .int .i64 (n 3), .int .i64 (n 4), .int .i64 (n 5), .int .i64 (n 6), .int .i64 (n 7), .int .i64 (n 8), .int .i64 (n 9), .int .i64 (n 10), .int .i64 (n 11), .int .i64 (n 12), .int .i64 (n 13), .int .i64 (n 14), .int .i64 (n 15), .int .i64 (n 16), .int .i64 (n 17), .int .i64 (n 18), .int .i64 (n 19), .slice oA ol oc, .slice tA tl tc, .int .i64 p, .int .i64 st]] w fun e w' => ∃ U W w2, e = .returned (.tuple #[.agg U, .bool false, .int .i64 0]) ∧ U.size = 24 ∧ R W w2 U ∧ Below w.heap.size w W ∧ w.heap.size + 1 + 1 + 1 ≤ W.heap.size ∧ (∀ k, (k < w.heap.size ∨ W.heap.size ≤ k) → k < w2.heap.size → w'.heap[k]? = w2.heap[k]? ∧ k < w'.heap.size) ∧ Below w.heap.size w w' := by
  have hmax := Kd.C_max hC
  obtain ⟨ad, eA, _⟩ := at_T47 hC (p : Int) (by omega) (by omega)
  subst eA
  have HT := Aside0.mk hT
  have HC := Aside0.mk hC
  have HK := Aside0.mk hK
  have HTB := Aside0.mk htab
  clear hT hC hK htab
  have p0 : ¬ (p : Int) < 0 := by omega
  have q0 : (0 : Int) ≤ p := by omega
  have q1 : (p : Int) < code.length := by omega
  have p1 : ¬ (p : Int) > (code.length : Int) := by omega
  have p2 : ((p : Int) == (code.length : Int)) = false := by
    rw [beq_eq_false_iff_ne]
    omega
  have X0 := Aside0.mk x0
  have X1 := Aside0.mk x1
  have X2 := Aside0.mk x2
  have X3 := Aside0.mk x3
  have X4 := Aside0.mk x4
  clear x0 x1 x2 x3 x4
  have e3 : (o == 3) = false := by simpa using hj3
  have e4 : (o == 4) = false := by simpa using hj4
  go_enter Tryd.func12, Tryd.ntmps12
  go_wp2_with (first
    | (go_at_call 25; (with_reducible refine (lockstitchref05_Check.calls kc A0 c0 ts la gl (some ad) c3 code ck 0 _ (Kd.C_below HT.out (by repeat (first | exact Below.refl _ _ | refine below_alloc ?_ _ | refine below_drew1 ?_ | refine pw_below_drewN ?_ _))) hc0 (Kd.C_below HC.out (by repeat (first | exact Below.refl _ _ | refine below_alloc ?_ _ | refine below_drew1 ?_ | refine pw_below_drewN ?_ _))) hc3 HK.out (TB_below HTB.out (by repeat (first | exact Below.refl _ _ | refine below_alloc ?_ _ | refine below_drew1 ?_ | refine pw_below_drewN ?_ _)))).mono ?_); rintro e w1 ⟨rfl, hb1⟩; have R0 := (hb1.block (w.heap.size) (by simp; try omega)).trans (rowT (p := _ = some (.cells _ 25 (0, 0)))); have R1 := (hb1.block (w.heap.size + 1) (by simp; try omega)).trans (rowT (p := _ = some (.cells _ 34 (0, 0)))); have R3 := (hb1.block (w.heap.size + 1 + 1) (by simp; try omega)).trans (rowT (p := _ = some (.cells _ 34 (0, 0)))); have hz1 : w.heap.size + 1 + 1 + 1 ≤ w1.heap.size := Nat.le_trans (by simp) hb1.size; have HB1 := Aside0.mk (show Below w.heap.size w w1 from Below.trans (by repeat (first | exact Below.refl _ _ | refine below_alloc ?_ _ | refine below_drew1 ?_ | refine pw_below_drewN ?_ _)) (hb1.mono (by simp; try omega))); clear hb1; have kp := fun j => cell_of_row w1 (w.heap.size) j _ _ _ R0; have ks := fun j => cell_of_row w1 (w.heap.size + 1) j _ _ _ R1; obtain ⟨_, ea, y0, y1, y2, y3, y4⟩ := at_T47 (Kd.C_below HC.out HB1.out) (p : Int) q0 q1; cases ea; rw [Int.toNat_natCast] at y0 y1 y2 y3 y4; rw [X0.out] at y0; rw [X1.out] at y1; rw [X2.out] at y2; rw [X3.out] at y3; rw [X4.out] at y4; have c22 : ∀ q r : Obj, ((w1.alloc q).alloc r).cell? ⟨w.heap.size + 1, 22, none⟩ = some (.int .i64 p) := fun q r => cell_more2 (by omega) ((ks 22).trans rfl) q r; have c23 : ∀ q r : Obj, ((w1.alloc q).alloc r).cell? ⟨w.heap.size + 1, 23, none⟩ = some (.int .i64 st) := fun q r => cell_more2 (by omega) ((ks 23).trans rfl) q r; have R3X : ∀ q r : Obj, ((w1.alloc q).alloc r).heap[w.heap.size + 1 + 1]? = _ := fun q r => row_old _ _ _ (by simp; omega) (row_old _ _ _ (by omega) R3); skip)
    | (go_at_call 27; (with_reducible refine (hN _ (by repeat (first | exact HB1.out | refine below_alloc ?_ _))).mono ?_); rintro e w2 ⟨U, hU, hU1, rfl, hRU, hb2⟩; have hz2 : w.heap.size + 1 + 1 + 1 ≤ w2.heap.size := Nat.le_trans (by simp; omega) hb2.size; have b3 := (hb2.block (w.heap.size + 1 + 1) (by simp; omega)).trans (R3X _ _); have HB2 := Aside0.mk (show Below w.heap.size w w2 from Below.trans (by repeat (first | exact HB1.out | refine below_alloc ?_ _)) (hb2.mono (by simp; omega))); have HRU := Aside0.mk hRU; clear hb2 hRU)
    | (apply ldS; (with_reducible rfl); rfl; rfl; exact rowT; (first | rfl | assumption))
    | (apply srS; (with_reducible rfl); rfl; rfl; rfl; exact rowT; (first | rfl | assumption); (first | rfl | assumption); (first | rfl | assumption); exact setT))
  refine ret3S rfl rfl rfl rfl rfl rowT hU ⟨U, _, w2, rfl, hU, HRU.out, (by repeat (first | exact HB1.out | refine below_alloc ?_ _)), by simp; omega, fun k hk hl => ⟨?_, ?_⟩, ?_⟩
  · refine (setRow_other _ _ _ _ fun e => ?_).trans (heap_old2 _ _ hl)
    rcases hk with hk | hk
    · omega
    · simp at hk
      omega
  · simp
    omega
  · repeat (first | exact HB2.out | refine below_alloc ?_ _ | refine below_row ?_ (by omega))
set_option maxHeartbeats 2000000 in
set_option maxRecDepth 100000 in
theorem step_ptr (o : Int) (a b c : Nat) (N : Int) (hp : p < code.length) (x0 : (rd_T47 code p).f0 = o) (x1 : (rd_T47 code p).f1 = a) (x2 : (rd_T47 code p).f2 = b) (x3 : (rd_T47 code p).f3 = c) (x4 : (rd_T47 code p).f4 = N) (hj3 : ¬ o = 3) (hj4 : ¬ o = 4) (R : World → World → Array Value → Prop) (hN : ∀ W, Below w.heap.size w W → Calls Tryd.prog 27 #[.agg #[.int .i64 (n 0), .int .i64 (n 1), .int .i64 (n 2), .int .i64 (n 3), .int .i64 (n 4), .int .i64 (n 5), .int .i64 (n 6), .int .i64 (n 7), .int .i64 (n 8), .int .i64 (n 9), .int .i64 (n 10), .int .i64 (n 11), .int .i64 (n 12), .int .i64 (n 13), .int .i64 (n 14), .int .i64 (n 15), .int .i64 (n 16), .int .i64 (n 17), .int .i64 (n 18), .int .i64 (n 19), .slice oA ol oc, .slice tA tl tc, .int .i64 ((p : Int) + 1), .int .i64 (wrap64 (st + 1))], .agg #[.int .u8 o, .int .u8 a, .int .u8 b, .int .u8 c, .int .i64 N]] W fun e w' => e = .returned (.tuple #[.agg #[.int .i64 (n 0), .int .i64 (n 1), .int .i64 (n 2), .int .i64 (n 3), .int .i64 (n 4), .int .i64 (n 5), .int .i64 (n 6), .int .i64 (n 7), .int .i64 (n 8), .int .i64 (n 9), .int .i64 (n 10), .int .i64 (n 11), .int .i64 (n 12), .int .i64 (n 13), .int .i64 (n 14), .int .i64 (n 15), .int .i64 (n 16), .int .i64 (n 17), .int .i64 (n 18), .int .i64 (n 19), .slice oA ol oc, .slice tA tl tc, .int .i64 ((p : Int) + 1), .int .i64 (wrap64 (st + 1))], .bool false]) ∧ Below W.heap.size W w') (hP : ∀ W, Below w.heap.size w W → Calls Tryd.prog 28 #[.agg #[.slice A0 ts.length c0, .string la, .string gl, .slice A3 code.length c3], .agg #[.int .i64 (n 0), .int .i64 (n 1), .int .i64 (n 2), .int .i64 (n 3), .int .i64 (n 4), .int .i64 (n 5), .int .i64 (n 6), .int .i64 (n 7), .int .i64 (n 8), .int .i64 (n 9), .int .i64 (n 10), .int .i64 (n 11), .int .i64 (n 12), .int .i64 (n 13), .int .i64 (n 14), .int .i64 (n 15), .int .i64 (n 16), .int .i64 (n 17), .int .i64 (n 18), .int .i64 (n 19), .slice oA ol oc, .slice tA tl tc, .int .i64 ((p : Int) + 1), .int .i64 (wrap64 (st + 1))], .agg #[.int .u8 o, .int .u8 a, .int .u8 b, .int .u8 c, .int .i64 N]] W fun e w' => ∃ U : Array Value, U.size = 24 ∧ U.toList.all (·.oneCell') = true ∧ e = .returned (.tuple #[.agg U, .bool true]) ∧ R W w' U ∧ Below W.heap.size W w') :
    Calls Tryd.prog 12 #[.agg #[.slice A0 ts.length c0, .string la, .string gl, .slice A3 code.length c3], .agg #[.int .i64 (n 0), .int .i64 (n 1), .int .i64 (n 2), .int .i64 (n 3), .int .i64 (n 4), .int .i64 (n 5), .int .i64 (n 6), .int .i64 (n 7), .int .i64 (n 8), .int .i64 (n 9), .int .i64 (n 10), .int .i64 (n 11), .int .i64 (n 12), .int .i64 (n 13), .int .i64 (n 14), .int .i64 (n 15), .int .i64 (n 16), .int .i64 (n 17), .int .i64 (n 18), .int .i64 (n 19), .slice oA ol oc, .slice tA tl tc, .int .i64 p, .int .i64 st]] w fun e w' => ∃ U W w2, e = .returned (.tuple #[.agg U, .bool false, .int .i64 0]) ∧ U.size = 24 ∧ R W w2 U ∧ Below w.heap.size w W ∧ w.heap.size + 1 + 1 + 1 ≤ W.heap.size ∧ (∀ k, (k < w.heap.size ∨ W.heap.size ≤ k) → k < w2.heap.size → w'.heap[k]? = w2.heap[k]? ∧ k < w'.heap.size) ∧ Below w.heap.size w w' := by
  have hmax := Kd.C_max hC
  obtain ⟨ad, eA, _⟩ := at_T47 hC (p : Int) (by omega) (by omega)
  subst eA
  have HT := Aside0.mk hT
  have HC := Aside0.mk hC
  have HK := Aside0.mk hK
  have HTB := Aside0.mk htab
  clear hT hC hK htab
  have p0 : ¬ (p : Int) < 0 := by omega
  have q0 : (0 : Int) ≤ p := by omega
  have q1 : (p : Int) < code.length := by omega
  have p1 : ¬ (p : Int) > (code.length : Int) := by omega
  have p2 : ((p : Int) == (code.length : Int)) = false := by
    rw [beq_eq_false_iff_ne]
    omega
  have X0 := Aside0.mk x0
  have X1 := Aside0.mk x1
  have X2 := Aside0.mk x2
  have X3 := Aside0.mk x3
  have X4 := Aside0.mk x4
  clear x0 x1 x2 x3 x4
  have e3 : (o == 3) = false := by simpa using hj3
  have e4 : (o == 4) = false := by simpa using hj4
  go_enter Tryd.func12, Tryd.ntmps12
  go_wp2_with (first
    | (go_at_call 25; (with_reducible refine (lockstitchref05_Check.calls kc A0 c0 ts la gl (some ad) c3 code ck 0 _ (Kd.C_below HT.out (by repeat (first | exact Below.refl _ _ | refine below_alloc ?_ _ | refine below_drew1 ?_ | refine pw_below_drewN ?_ _))) hc0 (Kd.C_below HC.out (by repeat (first | exact Below.refl _ _ | refine below_alloc ?_ _ | refine below_drew1 ?_ | refine pw_below_drewN ?_ _))) hc3 HK.out (TB_below HTB.out (by repeat (first | exact Below.refl _ _ | refine below_alloc ?_ _ | refine below_drew1 ?_ | refine pw_below_drewN ?_ _)))).mono ?_); rintro e w1 ⟨rfl, hb1⟩; have R0 := (hb1.block (w.heap.size) (by simp; try omega)).trans (rowT (p := _ = some (.cells _ 25 (0, 0)))); have R1 := (hb1.block (w.heap.size + 1) (by simp; try omega)).trans (rowT (p := _ = some (.cells _ 34 (0, 0)))); have R3 := (hb1.block (w.heap.size + 1 + 1) (by simp; try omega)).trans (rowT (p := _ = some (.cells _ 34 (0, 0)))); have hz1 : w.heap.size + 1 + 1 + 1 ≤ w1.heap.size := Nat.le_trans (by simp) hb1.size; have HB1 := Aside0.mk (show Below w.heap.size w w1 from Below.trans (by repeat (first | exact Below.refl _ _ | refine below_alloc ?_ _ | refine below_drew1 ?_ | refine pw_below_drewN ?_ _)) (hb1.mono (by simp; try omega))); clear hb1; have kp := fun j => cell_of_row w1 (w.heap.size) j _ _ _ R0; have ks := fun j => cell_of_row w1 (w.heap.size + 1) j _ _ _ R1; obtain ⟨_, ea, y0, y1, y2, y3, y4⟩ := at_T47 (Kd.C_below HC.out HB1.out) (p : Int) q0 q1; cases ea; rw [Int.toNat_natCast] at y0 y1 y2 y3 y4; rw [X0.out] at y0; rw [X1.out] at y1; rw [X2.out] at y2; rw [X3.out] at y3; rw [X4.out] at y4; have c22 : ∀ q r : Obj, ((w1.alloc q).alloc r).cell? ⟨w.heap.size + 1, 22, none⟩ = some (.int .i64 p) := fun q r => cell_more2 (by omega) ((ks 22).trans rfl) q r; have c23 : ∀ q r : Obj, ((w1.alloc q).alloc r).cell? ⟨w.heap.size + 1, 23, none⟩ = some (.int .i64 st) := fun q r => cell_more2 (by omega) ((ks 23).trans rfl) q r; have R3X : ∀ q r : Obj, ((w1.alloc q).alloc r).heap[w.heap.size + 1 + 1]? = _ := fun q r => row_old _ _ _ (by simp; omega) (row_old _ _ _ (by omega) R3); skip)
    | (go_at_call 27; (with_reducible refine (hN _ (by repeat (first | exact HB1.out | refine below_alloc ?_ _))).mono ?_); rintro e w2 ⟨rfl, hb2⟩; have hz2 : w1.heap.size + 1 + 1 ≤ w2.heap.size := Nat.le_trans (by simp) hb2.size; have b3 := (hb2.block (w.heap.size + 1 + 1) (by simp; omega)).trans (R3X _ _); have b0 := (hb2.block (w.heap.size) (by simp; omega)).trans (row_old _ _ _ (by simp; omega) (row_old _ _ _ (by omega) R0)); have b1 := (hb2.block (w.heap.size + 1) (by simp; omega)).trans (row_old _ _ _ (by simp; omega) (row_old _ _ _ (by omega) R1)); have bI := (hb2.block (w1.heap.size) (by simp <;> omega)).trans (rowT (p := _ = some (.cells _ 47 (0, 0)))); have bT := (hb2.block (w1.heap.size + 1) (by simp)).trans (rowT (p := _ = some (.cells _ 34 (0, 0)))); have HB2 := Aside0.mk (show Below w.heap.size w w2 from Below.trans (by repeat (first | exact HB1.out | refine below_alloc ?_ _)) (hb2.mono (by simp; omega))); have kp2 := fun q j => cell_of_row (w2.alloc q) _ j _ _ _ (row_old _ q _ (by omega) b0); have kI2 := fun q j => cell_of_row (w2.alloc q) _ j _ _ _ (row_old _ q _ (by omega) bI); clear hb2 R0 R1 R3)
    | (go_at_call 28; (with_reducible refine (hP _ (by repeat (first | exact HB2.out | refine below_alloc ?_ _))).mono ?_); rintro e w3 ⟨U, hU, hU1, rfl, hRU, hb3⟩; have hz3 : w2.heap.size + 1 ≤ w3.heap.size := Nat.le_trans (by simp) hb3.size; have b33 := (hb3.block (w.heap.size + 1 + 1) (by simp; omega)).trans (row_old _ _ _ (by omega) b3); have HB3 := Aside0.mk (show Below w.heap.size w w3 from Below.trans (by repeat (first | exact HB2.out | refine below_alloc ?_ _)) (hb3.mono (by simp; omega))); have HRU := Aside0.mk hRU; clear hb3 hRU)
    | (apply ldS; (with_reducible rfl); rfl; rfl; exact rowT; (first | rfl | assumption))
    | (apply srS; (with_reducible rfl); rfl; rfl; rfl; exact rowT; (first | rfl | assumption); (first | rfl | assumption); (first | rfl | assumption); exact setT))
  refine ret3S rfl rfl rfl rfl rfl rowT hU ⟨U, _, w3, rfl, hU, HRU.out, (by repeat (first | exact HB2.out | refine below_alloc ?_ _)), by simp; omega, fun k hk hl => ⟨?_, ?_⟩, ?_⟩
  · refine (setRow_other _ _ _ _ fun e => ?_).trans (heap_old2 _ _ hl)
    rcases hk with hk | hk
    · omega
    · simp at hk
      omega
  · simp
    omega
  · repeat (first | exact HB3.out | refine below_alloc ?_ _ | refine below_row ?_ (by omega))
set_option maxHeartbeats 2000000 in
set_option maxRecDepth 100000 in
theorem step_mem (o : Int) (a b c : Nat) (N : Int) (hp : p < code.length) (x0 : (rd_T47 code p).f0 = o) (x1 : (rd_T47 code p).f1 = a) (x2 : (rd_T47 code p).f2 = b) (x3 : (rd_T47 code p).f3 = c) (x4 : (rd_T47 code p).f4 = N) (hj3 : ¬ o = 3) (hj4 : ¬ o = 4) (R : World → World → Array Value → Prop) (hN : ∀ W, Below w.heap.size w W → Calls Tryd.prog 27 #[.agg #[.int .i64 (n 0), .int .i64 (n 1), .int .i64 (n 2), .int .i64 (n 3), .int .i64 (n 4), .int .i64 (n 5), .int .i64 (n 6), .int .i64 (n 7), .int .i64 (n 8), .int .i64 (n 9), .int .i64 (n 10), .int .i64 (n 11), .int .i64 (n 12), .int .i64 (n 13), .int .i64 (n 14), .int .i64 (n 15), .int .i64 (n 16), .int .i64 (n 17), .int .i64 (n 18), .int .i64 (n 19), .slice oA ol oc, .slice tA tl tc, .int .i64 ((p : Int) + 1), .int .i64 (wrap64 (st + 1))], .agg #[.int .u8 o, .int .u8 a, .int .u8 b, .int .u8 c, .int .i64 N]] W fun e w' => e = .returned (.tuple #[.agg #[.int .i64 (n 0), .int .i64 (n 1), .int .i64 (n 2), .int .i64 (n 3), .int .i64 (n 4), .int .i64 (n 5), .int .i64 (n 6), .int .i64 (n 7), .int .i64 (n 8), .int .i64 (n 9), .int .i64 (n 10), .int .i64 (n 11), .int .i64 (n 12), .int .i64 (n 13), .int .i64 (n 14), .int .i64 (n 15), .int .i64 (n 16), .int .i64 (n 17), .int .i64 (n 18), .int .i64 (n 19), .slice oA ol oc, .slice tA tl tc, .int .i64 ((p : Int) + 1), .int .i64 (wrap64 (st + 1))], .bool false]) ∧ Below W.heap.size W w') (hP : ∀ W, Below w.heap.size w W → Calls Tryd.prog 28 #[.agg #[.slice A0 ts.length c0, .string la, .string gl, .slice A3 code.length c3], .agg #[.int .i64 (n 0), .int .i64 (n 1), .int .i64 (n 2), .int .i64 (n 3), .int .i64 (n 4), .int .i64 (n 5), .int .i64 (n 6), .int .i64 (n 7), .int .i64 (n 8), .int .i64 (n 9), .int .i64 (n 10), .int .i64 (n 11), .int .i64 (n 12), .int .i64 (n 13), .int .i64 (n 14), .int .i64 (n 15), .int .i64 (n 16), .int .i64 (n 17), .int .i64 (n 18), .int .i64 (n 19), .slice oA ol oc, .slice tA tl tc, .int .i64 ((p : Int) + 1), .int .i64 (wrap64 (st + 1))], .agg #[.int .u8 o, .int .u8 a, .int .u8 b, .int .u8 c, .int .i64 N]] W fun e w' => e = .returned (.tuple #[.agg #[.int .i64 (n 0), .int .i64 (n 1), .int .i64 (n 2), .int .i64 (n 3), .int .i64 (n 4), .int .i64 (n 5), .int .i64 (n 6), .int .i64 (n 7), .int .i64 (n 8), .int .i64 (n 9), .int .i64 (n 10), .int .i64 (n 11), .int .i64 (n 12), .int .i64 (n 13), .int .i64 (n 14), .int .i64 (n 15), .int .i64 (n 16), .int .i64 (n 17), .int .i64 (n 18), .int .i64 (n 19), .slice oA ol oc, .slice tA tl tc, .int .i64 ((p : Int) + 1), .int .i64 (wrap64 (st + 1))], .bool false]) ∧ Below W.heap.size W w') (hM : ∀ W, Below w.heap.size w W → Calls Tryd.prog 29 #[.agg #[.int .i64 (n 0), .int .i64 (n 1), .int .i64 (n 2), .int .i64 (n 3), .int .i64 (n 4), .int .i64 (n 5), .int .i64 (n 6), .int .i64 (n 7), .int .i64 (n 8), .int .i64 (n 9), .int .i64 (n 10), .int .i64 (n 11), .int .i64 (n 12), .int .i64 (n 13), .int .i64 (n 14), .int .i64 (n 15), .int .i64 (n 16), .int .i64 (n 17), .int .i64 (n 18), .int .i64 (n 19), .slice oA ol oc, .slice tA tl tc, .int .i64 ((p : Int) + 1), .int .i64 (wrap64 (st + 1))], .agg #[.int .u8 o, .int .u8 a, .int .u8 b, .int .u8 c, .int .i64 N]] W fun e w' => ∃ U : Array Value, U.size = 24 ∧ U.toList.all (·.oneCell') = true ∧ e = .returned (.tuple #[.agg U, .int .i64 0]) ∧ R W w' U ∧ Below W.heap.size W w') :
    Calls Tryd.prog 12 #[.agg #[.slice A0 ts.length c0, .string la, .string gl, .slice A3 code.length c3], .agg #[.int .i64 (n 0), .int .i64 (n 1), .int .i64 (n 2), .int .i64 (n 3), .int .i64 (n 4), .int .i64 (n 5), .int .i64 (n 6), .int .i64 (n 7), .int .i64 (n 8), .int .i64 (n 9), .int .i64 (n 10), .int .i64 (n 11), .int .i64 (n 12), .int .i64 (n 13), .int .i64 (n 14), .int .i64 (n 15), .int .i64 (n 16), .int .i64 (n 17), .int .i64 (n 18), .int .i64 (n 19), .slice oA ol oc, .slice tA tl tc, .int .i64 p, .int .i64 st]] w fun e w' => ∃ U W w2, e = .returned (.tuple #[.agg U, .bool false, .int .i64 0]) ∧ U.size = 24 ∧ R W w2 U ∧ Below w.heap.size w W ∧ w.heap.size + 1 + 1 + 1 ≤ W.heap.size ∧ (∀ k, (k < w.heap.size ∨ W.heap.size ≤ k) → k < w2.heap.size → w'.heap[k]? = w2.heap[k]? ∧ k < w'.heap.size) ∧ Below w.heap.size w w' := by
  have hmax := Kd.C_max hC
  obtain ⟨ad, eA, _⟩ := at_T47 hC (p : Int) (by omega) (by omega)
  subst eA
  have HT := Aside0.mk hT
  have HC := Aside0.mk hC
  have HK := Aside0.mk hK
  have HTB := Aside0.mk htab
  clear hT hC hK htab
  have p0 : ¬ (p : Int) < 0 := by omega
  have q0 : (0 : Int) ≤ p := by omega
  have q1 : (p : Int) < code.length := by omega
  have p1 : ¬ (p : Int) > (code.length : Int) := by omega
  have p2 : ((p : Int) == (code.length : Int)) = false := by
    rw [beq_eq_false_iff_ne]
    omega
  have X0 := Aside0.mk x0
  have X1 := Aside0.mk x1
  have X2 := Aside0.mk x2
  have X3 := Aside0.mk x3
  have X4 := Aside0.mk x4
  clear x0 x1 x2 x3 x4
  have e3 : (o == 3) = false := by simpa using hj3
  have e4 : (o == 4) = false := by simpa using hj4
  go_enter Tryd.func12, Tryd.ntmps12
  go_wp2_with (first
    | (go_at_call 25; (with_reducible refine (lockstitchref05_Check.calls kc A0 c0 ts la gl (some ad) c3 code ck 0 _ (Kd.C_below HT.out (by repeat (first | exact Below.refl _ _ | refine below_alloc ?_ _ | refine below_drew1 ?_ | refine pw_below_drewN ?_ _))) hc0 (Kd.C_below HC.out (by repeat (first | exact Below.refl _ _ | refine below_alloc ?_ _ | refine below_drew1 ?_ | refine pw_below_drewN ?_ _))) hc3 HK.out (TB_below HTB.out (by repeat (first | exact Below.refl _ _ | refine below_alloc ?_ _ | refine below_drew1 ?_ | refine pw_below_drewN ?_ _)))).mono ?_); rintro e w1 ⟨rfl, hb1⟩; have R0 := (hb1.block (w.heap.size) (by simp; try omega)).trans (rowT (p := _ = some (.cells _ 25 (0, 0)))); have R1 := (hb1.block (w.heap.size + 1) (by simp; try omega)).trans (rowT (p := _ = some (.cells _ 34 (0, 0)))); have R3 := (hb1.block (w.heap.size + 1 + 1) (by simp; try omega)).trans (rowT (p := _ = some (.cells _ 34 (0, 0)))); have hz1 : w.heap.size + 1 + 1 + 1 ≤ w1.heap.size := Nat.le_trans (by simp) hb1.size; have HB1 := Aside0.mk (show Below w.heap.size w w1 from Below.trans (by repeat (first | exact Below.refl _ _ | refine below_alloc ?_ _ | refine below_drew1 ?_ | refine pw_below_drewN ?_ _)) (hb1.mono (by simp; try omega))); clear hb1; have kp := fun j => cell_of_row w1 (w.heap.size) j _ _ _ R0; have ks := fun j => cell_of_row w1 (w.heap.size + 1) j _ _ _ R1; obtain ⟨_, ea, y0, y1, y2, y3, y4⟩ := at_T47 (Kd.C_below HC.out HB1.out) (p : Int) q0 q1; cases ea; rw [Int.toNat_natCast] at y0 y1 y2 y3 y4; rw [X0.out] at y0; rw [X1.out] at y1; rw [X2.out] at y2; rw [X3.out] at y3; rw [X4.out] at y4; have c22 : ∀ q r : Obj, ((w1.alloc q).alloc r).cell? ⟨w.heap.size + 1, 22, none⟩ = some (.int .i64 p) := fun q r => cell_more2 (by omega) ((ks 22).trans rfl) q r; have c23 : ∀ q r : Obj, ((w1.alloc q).alloc r).cell? ⟨w.heap.size + 1, 23, none⟩ = some (.int .i64 st) := fun q r => cell_more2 (by omega) ((ks 23).trans rfl) q r; have R3X : ∀ q r : Obj, ((w1.alloc q).alloc r).heap[w.heap.size + 1 + 1]? = _ := fun q r => row_old _ _ _ (by simp; omega) (row_old _ _ _ (by omega) R3); skip)
    | (go_at_call 27; (with_reducible refine (hN _ (by repeat (first | exact HB1.out | refine below_alloc ?_ _))).mono ?_); rintro e w2 ⟨rfl, hb2⟩; have hz2 : w1.heap.size + 1 + 1 ≤ w2.heap.size := Nat.le_trans (by simp) hb2.size; have b3 := (hb2.block (w.heap.size + 1 + 1) (by simp; omega)).trans (R3X _ _); have b0 := (hb2.block (w.heap.size) (by simp; omega)).trans (row_old _ _ _ (by simp; omega) (row_old _ _ _ (by omega) R0)); have b1 := (hb2.block (w.heap.size + 1) (by simp; omega)).trans (row_old _ _ _ (by simp; omega) (row_old _ _ _ (by omega) R1)); have bI := (hb2.block (w1.heap.size) (by simp <;> omega)).trans (rowT (p := _ = some (.cells _ 47 (0, 0)))); have bT := (hb2.block (w1.heap.size + 1) (by simp)).trans (rowT (p := _ = some (.cells _ 34 (0, 0)))); have HB2 := Aside0.mk (show Below w.heap.size w w2 from Below.trans (by repeat (first | exact HB1.out | refine below_alloc ?_ _)) (hb2.mono (by simp; omega))); have kp2 := fun q j => cell_of_row (w2.alloc q) _ j _ _ _ (row_old _ q _ (by omega) b0); have kI2 := fun q j => cell_of_row (w2.alloc q) _ j _ _ _ (row_old _ q _ (by omega) bI); clear hb2 R0 R1 R3)
    | (go_at_call 28; (with_reducible refine (hP _ (by repeat (first | exact HB2.out | refine below_alloc ?_ _))).mono ?_); rintro e w3 ⟨rfl, hb3⟩; have hz3 : w2.heap.size + 1 ≤ w3.heap.size := Nat.le_trans (by simp) hb3.size; have b33 := (hb3.block (w.heap.size + 1 + 1) (by simp; omega)).trans (row_old _ _ _ (by omega) b3); have b31 := (hb3.block (w.heap.size + 1) (by simp; omega)).trans (row_old _ _ _ (by omega) b1); have bI3 := (hb3.block (w1.heap.size) (by simp; omega)).trans (row_old _ _ _ (by omega) bI); have bT3 := (hb3.block (w1.heap.size + 1) (by simp; omega)).trans (row_old _ _ _ (by omega) bT); have HB3 := Aside0.mk (show Below w.heap.size w w3 from Below.trans (by repeat (first | exact HB2.out | refine below_alloc ?_ _)) (hb3.mono (by simp; omega))); have kI3 := fun q j => cell_of_row (w3.alloc q) _ j _ _ _ (row_old _ q _ (by omega) bI3); clear hb3)
    | (go_at_call 29; (with_reducible refine (hM _ (by repeat (first | exact HB3.out | refine below_alloc ?_ _))).mono ?_); rintro e w4 ⟨U, hU, hU1, rfl, hRU, hb4⟩; have hz4 : w3.heap.size + 1 ≤ w4.heap.size := Nat.le_trans (by simp) hb4.size; have b43 := (hb4.block (w.heap.size + 1 + 1) (by simp; omega)).trans (row_old _ _ _ (by omega) b33); have HB4 := Aside0.mk (show Below w.heap.size w w4 from Below.trans (by repeat (first | exact HB3.out | refine below_alloc ?_ _)) (hb4.mono (by simp; omega))); have HRU := Aside0.mk hRU; clear hb4 hRU)
    | (apply ldS; (with_reducible rfl); rfl; rfl; exact rowT; (first | rfl | assumption))
    | (apply srS; (with_reducible rfl); rfl; rfl; rfl; exact rowT; (first | rfl | assumption); (first | rfl | assumption); (first | rfl | assumption); exact setT))
  refine ret3S rfl rfl rfl rfl rfl rowT hU ⟨U, _, w4, rfl, hU, HRU.out, (by repeat (first | exact HB3.out | refine below_alloc ?_ _)), by simp; omega, fun k hk hl => ⟨?_, ?_⟩, ?_⟩
  · refine (setRow_other _ _ _ _ fun e => ?_).trans (heap_old2 _ _ hl)
    rcases hk with hk | hk
    · omega
    · simp at hk
      omega
  · simp
    omega
  · repeat (first | exact HB4.out | refine below_alloc ?_ _ | refine below_row ?_ (by omega))
set_option maxHeartbeats 2000000 in
set_option maxRecDepth 100000 in
theorem step_err (o : Int) (a b c : Nat) (N : Int) (hp : p < code.length) (x0 : (rd_T47 code p).f0 = o) (x1 : (rd_T47 code p).f1 = a) (x2 : (rd_T47 code p).f2 = b) (x3 : (rd_T47 code p).f3 = c) (x4 : (rd_T47 code p).f4 = N) (hj3 : ¬ o = 3) (hj4 : ¬ o = 4) (hN : ∀ W, Below w.heap.size w W → Calls Tryd.prog 27 #[.agg #[.int .i64 (n 0), .int .i64 (n 1), .int .i64 (n 2), .int .i64 (n 3), .int .i64 (n 4), .int .i64 (n 5), .int .i64 (n 6), .int .i64 (n 7), .int .i64 (n 8), .int .i64 (n 9), .int .i64 (n 10), .int .i64 (n 11), .int .i64 (n 12), .int .i64 (n 13), .int .i64 (n 14), .int .i64 (n 15), .int .i64 (n 16), .int .i64 (n 17), .int .i64 (n 18), .int .i64 (n 19), .slice oA ol oc, .slice tA tl tc, .int .i64 ((p : Int) + 1), .int .i64 (wrap64 (st + 1))], .agg #[.int .u8 o, .int .u8 a, .int .u8 b, .int .u8 c, .int .i64 N]] W fun e w' => e = .returned (.tuple #[.agg #[.int .i64 (n 0), .int .i64 (n 1), .int .i64 (n 2), .int .i64 (n 3), .int .i64 (n 4), .int .i64 (n 5), .int .i64 (n 6), .int .i64 (n 7), .int .i64 (n 8), .int .i64 (n 9), .int .i64 (n 10), .int .i64 (n 11), .int .i64 (n 12), .int .i64 (n 13), .int .i64 (n 14), .int .i64 (n 15), .int .i64 (n 16), .int .i64 (n 17), .int .i64 (n 18), .int .i64 (n 19), .slice oA ol oc, .slice tA tl tc, .int .i64 ((p : Int) + 1), .int .i64 (wrap64 (st + 1))], .bool false]) ∧ Below W.heap.size W w') (hP : ∀ W, Below w.heap.size w W → Calls Tryd.prog 28 #[.agg #[.slice A0 ts.length c0, .string la, .string gl, .slice A3 code.length c3], .agg #[.int .i64 (n 0), .int .i64 (n 1), .int .i64 (n 2), .int .i64 (n 3), .int .i64 (n 4), .int .i64 (n 5), .int .i64 (n 6), .int .i64 (n 7), .int .i64 (n 8), .int .i64 (n 9), .int .i64 (n 10), .int .i64 (n 11), .int .i64 (n 12), .int .i64 (n 13), .int .i64 (n 14), .int .i64 (n 15), .int .i64 (n 16), .int .i64 (n 17), .int .i64 (n 18), .int .i64 (n 19), .slice oA ol oc, .slice tA tl tc, .int .i64 ((p : Int) + 1), .int .i64 (wrap64 (st + 1))], .agg #[.int .u8 o, .int .u8 a, .int .u8 b, .int .u8 c, .int .i64 N]] W fun e w' => e = .returned (.tuple #[.agg #[.int .i64 (n 0), .int .i64 (n 1), .int .i64 (n 2), .int .i64 (n 3), .int .i64 (n 4), .int .i64 (n 5), .int .i64 (n 6), .int .i64 (n 7), .int .i64 (n 8), .int .i64 (n 9), .int .i64 (n 10), .int .i64 (n 11), .int .i64 (n 12), .int .i64 (n 13), .int .i64 (n 14), .int .i64 (n 15), .int .i64 (n 16), .int .i64 (n 17), .int .i64 (n 18), .int .i64 (n 19), .slice oA ol oc, .slice tA tl tc, .int .i64 ((p : Int) + 1), .int .i64 (wrap64 (st + 1))], .bool false]) ∧ Below W.heap.size W w') (hM : ∀ W, Below w.heap.size w W → Calls Tryd.prog 29 #[.agg #[.int .i64 (n 0), .int .i64 (n 1), .int .i64 (n 2), .int .i64 (n 3), .int .i64 (n 4), .int .i64 (n 5), .int .i64 (n 6), .int .i64 (n 7), .int .i64 (n 8), .int .i64 (n 9), .int .i64 (n 10), .int .i64 (n 11), .int .i64 (n 12), .int .i64 (n 13), .int .i64 (n 14), .int .i64 (n 15), .int .i64 (n 16), .int .i64 (n 17), .int .i64 (n 18), .int .i64 (n 19), .slice oA ol oc, .slice tA tl tc, .int .i64 ((p : Int) + 1), .int .i64 (wrap64 (st + 1))], .agg #[.int .u8 o, .int .u8 a, .int .u8 b, .int .u8 c, .int .i64 N]] W fun e w' => e = .returned (.tuple #[.agg #[.int .i64 (n 0), .int .i64 (n 1), .int .i64 (n 2), .int .i64 (n 3), .int .i64 (n 4), .int .i64 (n 5), .int .i64 (n 6), .int .i64 (n 7), .int .i64 (n 8), .int .i64 (n 9), .int .i64 (n 10), .int .i64 (n 11), .int .i64 (n 12), .int .i64 (n 13), .int .i64 (n 14), .int .i64 (n 15), .int .i64 (n 16), .int .i64 (n 17), .int .i64 (n 18), .int .i64 (n 19), .slice oA ol oc, .slice tA tl tc, .int .i64 ((p : Int) + 1), .int .i64 (wrap64 (st + 1))], .int .i64 9]) ∧ Below W.heap.size W w') :
    Calls Tryd.prog 12 #[.agg #[.slice A0 ts.length c0, .string la, .string gl, .slice A3 code.length c3], .agg #[.int .i64 (n 0), .int .i64 (n 1), .int .i64 (n 2), .int .i64 (n 3), .int .i64 (n 4), .int .i64 (n 5), .int .i64 (n 6), .int .i64 (n 7), .int .i64 (n 8), .int .i64 (n 9), .int .i64 (n 10), .int .i64 (n 11), .int .i64 (n 12), .int .i64 (n 13), .int .i64 (n 14), .int .i64 (n 15), .int .i64 (n 16), .int .i64 (n 17), .int .i64 (n 18), .int .i64 (n 19), .slice oA ol oc, .slice tA tl tc, .int .i64 p, .int .i64 st]] w fun e w' => e = .returned (.tuple #[.agg #[.int .i64 (n 0), .int .i64 (n 1), .int .i64 (n 2), .int .i64 (n 3), .int .i64 (n 4), .int .i64 (n 5), .int .i64 (n 6), .int .i64 (n 7), .int .i64 (n 8), .int .i64 (n 9), .int .i64 (n 10), .int .i64 (n 11), .int .i64 (n 12), .int .i64 (n 13), .int .i64 (n 14), .int .i64 (n 15), .int .i64 (n 16), .int .i64 (n 17), .int .i64 (n 18), .int .i64 (n 19), .slice oA ol oc, .slice tA tl tc, .int .i64 p, .int .i64 st], .bool false, .int .i64 9]) ∧ Below w.heap.size w w' := by
  have hmax := Kd.C_max hC
  obtain ⟨ad, eA, _⟩ := at_T47 hC (p : Int) (by omega) (by omega)
  subst eA
  have HT := Aside0.mk hT
  have HC := Aside0.mk hC
  have HK := Aside0.mk hK
  have HTB := Aside0.mk htab
  clear hT hC hK htab
  have p0 : ¬ (p : Int) < 0 := by omega
  have q0 : (0 : Int) ≤ p := by omega
  have q1 : (p : Int) < code.length := by omega
  have p1 : ¬ (p : Int) > (code.length : Int) := by omega
  have p2 : ((p : Int) == (code.length : Int)) = false := by
    rw [beq_eq_false_iff_ne]
    omega
  have X0 := Aside0.mk x0
  have X1 := Aside0.mk x1
  have X2 := Aside0.mk x2
  have X3 := Aside0.mk x3
  have X4 := Aside0.mk x4
  clear x0 x1 x2 x3 x4
  have e3 : (o == 3) = false := by simpa using hj3
  have e4 : (o == 4) = false := by simpa using hj4
  go_enter Tryd.func12, Tryd.ntmps12
  go_wp2_with (first
    | (go_at_call 25; (with_reducible refine (lockstitchref05_Check.calls kc A0 c0 ts la gl (some ad) c3 code ck 0 _ (Kd.C_below HT.out (by repeat (first | exact Below.refl _ _ | refine below_alloc ?_ _ | refine below_drew1 ?_ | refine pw_below_drewN ?_ _))) hc0 (Kd.C_below HC.out (by repeat (first | exact Below.refl _ _ | refine below_alloc ?_ _ | refine below_drew1 ?_ | refine pw_below_drewN ?_ _))) hc3 HK.out (TB_below HTB.out (by repeat (first | exact Below.refl _ _ | refine below_alloc ?_ _ | refine below_drew1 ?_ | refine pw_below_drewN ?_ _)))).mono ?_); rintro e w1 ⟨rfl, hb1⟩; have R0 := (hb1.block (w.heap.size) (by simp; try omega)).trans (rowT (p := _ = some (.cells _ 25 (0, 0)))); have R1 := (hb1.block (w.heap.size + 1) (by simp; try omega)).trans (rowT (p := _ = some (.cells _ 34 (0, 0)))); have R3 := (hb1.block (w.heap.size + 1 + 1) (by simp; try omega)).trans (rowT (p := _ = some (.cells _ 34 (0, 0)))); have hz1 : w.heap.size + 1 + 1 + 1 ≤ w1.heap.size := Nat.le_trans (by simp) hb1.size; have HB1 := Aside0.mk (show Below w.heap.size w w1 from Below.trans (by repeat (first | exact Below.refl _ _ | refine below_alloc ?_ _ | refine below_drew1 ?_ | refine pw_below_drewN ?_ _)) (hb1.mono (by simp; try omega))); clear hb1; have kp := fun j => cell_of_row w1 (w.heap.size) j _ _ _ R0; have ks := fun j => cell_of_row w1 (w.heap.size + 1) j _ _ _ R1; obtain ⟨_, ea, y0, y1, y2, y3, y4⟩ := at_T47 (Kd.C_below HC.out HB1.out) (p : Int) q0 q1; cases ea; rw [Int.toNat_natCast] at y0 y1 y2 y3 y4; rw [X0.out] at y0; rw [X1.out] at y1; rw [X2.out] at y2; rw [X3.out] at y3; rw [X4.out] at y4; have c22 : ∀ q r : Obj, ((w1.alloc q).alloc r).cell? ⟨w.heap.size + 1, 22, none⟩ = some (.int .i64 p) := fun q r => cell_more2 (by omega) ((ks 22).trans rfl) q r; have c23 : ∀ q r : Obj, ((w1.alloc q).alloc r).cell? ⟨w.heap.size + 1, 23, none⟩ = some (.int .i64 st) := fun q r => cell_more2 (by omega) ((ks 23).trans rfl) q r; have R3X : ∀ q r : Obj, ((w1.alloc q).alloc r).heap[w.heap.size + 1 + 1]? = _ := fun q r => row_old _ _ _ (by simp; omega) (row_old _ _ _ (by omega) R3); skip)
    | (go_at_call 27; (with_reducible refine (hN _ (by repeat (first | exact HB1.out | refine below_alloc ?_ _))).mono ?_); rintro e w2 ⟨rfl, hb2⟩; have hz2 : w1.heap.size + 1 + 1 ≤ w2.heap.size := Nat.le_trans (by simp) hb2.size; have b3 := (hb2.block (w.heap.size + 1 + 1) (by simp; omega)).trans (R3X _ _); have b0 := (hb2.block (w.heap.size) (by simp; omega)).trans (row_old _ _ _ (by simp; omega) (row_old _ _ _ (by omega) R0)); have b1 := (hb2.block (w.heap.size + 1) (by simp; omega)).trans (row_old _ _ _ (by simp; omega) (row_old _ _ _ (by omega) R1)); have bI := (hb2.block (w1.heap.size) (by simp <;> omega)).trans (rowT (p := _ = some (.cells _ 47 (0, 0)))); have bT := (hb2.block (w1.heap.size + 1) (by simp)).trans (rowT (p := _ = some (.cells _ 34 (0, 0)))); have HB2 := Aside0.mk (show Below w.heap.size w w2 from Below.trans (by repeat (first | exact HB1.out | refine below_alloc ?_ _)) (hb2.mono (by simp; omega))); have kp2 := fun q j => cell_of_row (w2.alloc q) _ j _ _ _ (row_old _ q _ (by omega) b0); have kI2 := fun q j => cell_of_row (w2.alloc q) _ j _ _ _ (row_old _ q _ (by omega) bI); clear hb2 R0 R1 R3)
    | (go_at_call 28; (with_reducible refine (hP _ (by repeat (first | exact HB2.out | refine below_alloc ?_ _))).mono ?_); rintro e w3 ⟨rfl, hb3⟩; have hz3 : w2.heap.size + 1 ≤ w3.heap.size := Nat.le_trans (by simp) hb3.size; have b33 := (hb3.block (w.heap.size + 1 + 1) (by simp; omega)).trans (row_old _ _ _ (by omega) b3); have b31 := (hb3.block (w.heap.size + 1) (by simp; omega)).trans (row_old _ _ _ (by omega) b1); have bI3 := (hb3.block (w1.heap.size) (by simp; omega)).trans (row_old _ _ _ (by omega) bI); have bT3 := (hb3.block (w1.heap.size + 1) (by simp; omega)).trans (row_old _ _ _ (by omega) bT); have HB3 := Aside0.mk (show Below w.heap.size w w3 from Below.trans (by repeat (first | exact HB2.out | refine below_alloc ?_ _)) (hb3.mono (by simp; omega))); have kI3 := fun q j => cell_of_row (w3.alloc q) _ j _ _ _ (row_old _ q _ (by omega) bI3); clear hb3)
    | (go_at_call 29; (with_reducible refine (hM _ (by repeat (first | exact HB3.out | refine below_alloc ?_ _))).mono ?_); rintro e w4 ⟨rfl, hb4⟩; have hz4 : w3.heap.size + 1 ≤ w4.heap.size := Nat.le_trans (by simp) hb4.size; have b43 := (hb4.block (w.heap.size + 1 + 1) (by simp; omega)).trans (row_old _ _ _ (by omega) b33); have b41 := (hb4.block (w.heap.size + 1) (by simp; omega)).trans (row_old _ _ _ (by omega) b31); have HB4 := Aside0.mk (show Below w.heap.size w w4 from Below.trans (by repeat (first | exact HB3.out | refine below_alloc ?_ _)) (hb4.mono (by simp; omega))); clear hb4)
    | (apply ldS; (with_reducible rfl); rfl; rfl; exact rowT; (first | rfl | assumption))
    | (apply srS; (with_reducible rfl); rfl; rfl; rfl; exact rowT; (first | rfl | assumption); (first | rfl | assumption); (first | rfl | assumption); exact setT))
  refine ret3S rfl rfl rfl rfl rfl rowT rfl ⟨rfl, ?_⟩
  repeat (first | exact HB4.out | refine below_alloc ?_ _ | refine below_row ?_ (by omega))
end
end Go.Proofs.YtkplgfhkebkaaaaDoor.ST

namespace Go.Proofs.YtkplgfhkebkaaaaDoor.ST
open Go.RowKit Go.Proofs.YtkplgfhkebkaaaaDoorW.PrintWords Go.Proofs.YtkplgfhkebkaaaaDoor.Scan Go.Proofs.YtkplgfhkebkaaaaDoor.F Go.Proofs.YtkplgfhkebkaaaaDoor.KP Go.Proofs.YtkplgfhkebkaaaaDoor.FM Go.Proofs.YtkplgfhkebkaaaaDoor.H Go.Proofs.YtkplgfhkebkaaaaDoor.TT
set_option linter.unusedVariables false
set_option linter.unusedSectionVars false
noncomputable def atv (ts : List ByteArray) (s : ByteArray) (a : Int) : Int := if a < s.size ∧ refs ts (s.extract a.toNat (a + 1).toNat) = true then (bt s a - 48) % 256 else -1
theorem atv_lt {ts : List ByteArray} {s : ByteArray} {a : Int} (h : 0 ≤ atv ts s a) : a < s.size := by
  unfold atv at h
  split at h
  · rename_i e
    exact e.1
  · omega
theorem one_eq {p q : Int} (h : lockstitchref05_one.f p q = some true) : 0 ≤ p ∧ p = q := by
  unfold lockstitchref05_one.f at h
  split at h
  · rename_i h0
    exact ⟨h0, beq_iff_eq.1 (Option.some.inj h)⟩
  · cases h
section
variable (ts : List ByteArray) (hl : (ts.length : Int) ≤ 9223372036854775807) (hs : ∀ s ∈ ts, (s.size : Int) ≤ 9223372036854775807) (la gl : ByteArray) (hla : Fit la) (hgl : Fit gl) (code : List S47)
include hl hs
theorem at_ev (s : ByteArray) (hz : Fit s) (a : Int) (h0 : 0 ≤ a) (h255 : a ≤ 255) : Ev (fun k => lockstitchref05_at.f k ts s a) (atv ts s a) := by
  have e : wrap64 a = a := by unfold wrap64; omega
  have e1 : wrap64 (a + 1) = a + 1 := by unfold wrap64; omega
  unfold lockstitchref05_at.f atv
  simp only [e, e1]
  by_cases h : a ≥ (s.size : Int)
  · refine Ev.congr (fun k => if_pos h) ?_
    rw [if_neg (fun hh => by omega)]
    exact ev_const
  · have hr := ref_Refs_ev ts (s.extract a.toNat (a + 1).toNat) hl hs (extract_fit hz _ _)
    refine Ev.congr (fun k => if_neg h) (Ev.congr (fun k => if_pos h0) (Ev.congr (fun k => if_pos (by omega)) (Ev.congr (fun k => if_pos (by omega)) (ev_bind hr ?_))))
    by_cases hb : refs ts (s.extract a.toNat (a + 1).toNat) = true
    · refine Ev.congr (fun k => if_pos hb) (Ev.congr (fun k => if_pos h0) (Ev.congr (fun k => if_pos (by omega)) ?_))
      rw [if_pos ⟨by omega, hb⟩]
      exact ev_const
    · refine Ev.congr (fun k => if_neg hb) ?_
      rw [if_neg (fun hh => hb hh.2)]
      exact ev_const
theorem number_true {t n : Int} (h : Ev (fun k => lockstitchref05_number.f k ts la gl code t n) true) : 0 ≤ n ∧ n < size ts t ∧ to_ ts t n < 0 := by
  by_cases h0 : n < 0
  · have := ev_unique h (Ev.congr (fun k => if_pos h0) ev_const)
    cases this
  · by_cases h1 : n ≥ size ts t
    · have := ev_unique h (Ev.congr (fun k => if_neg h0) (ev_bind (ref_Size_ev ts hl hs t) (Ev.congr (fun k => if_pos h1) ev_const)))
      cases this
    · have := ev_unique h (Ev.congr (fun k => if_neg h0) (ev_bind (ref_Size_ev ts hl hs t) (Ev.congr (fun k => if_neg h1) (ev_bind (ref_To_ev ts hl hs t n) ev_const))))
      exact ⟨by omega, by omega, of_decide_eq_true this.symm⟩
theorem to_ev (t n : Int) : Ev (fun k => lockstitchref05_to.f k ts la gl code t n) (to_ ts t n) := by
  by_cases h0 : n < 0
  · rw [show to_ ts t n = -1 from if_neg (by omega)]
    exact Ev.congr (fun k => if_pos h0) ev_const
  · refine Ev.congr (fun k => if_neg h0) ?_
    by_cases h6 : n > 6
    · have := typ_le ts t
      rw [show to_ ts t n = -1 from if_neg (by unfold size; omega)]
      exact Ev.congr (fun k => if_pos h6) ev_const
    · exact Ev.congr (fun k => if_neg h6) (ev_bind (ref_To_ev ts hl hs t n) ev_const)
omit hl hs in
theorem to_range {t n : Int} (h : 0 ≤ to_ ts t n) : 0 ≤ n ∧ n < size ts t := by
  unfold to_ at h
  split at h
  · assumption
  · omega
include hla hgl
theorem kinds_kk {x : S47} (hw : WfI x.f0 x.f1 x.f2 x.f3 x.f4) (h : Ev (fun k => lockstitchref05_kinds.f k ts la gl code x.f0 x.f1 x.f2 x.f3 x.f4) true) :
    (x.f0 = 5 ∨ x.f0 = 6 → 0 ≤ atv ts la x.f1) ∧ (x.f0 = 7 → 0 ≤ atv ts la x.f1 ∧ atv ts la x.f1 = atv ts la x.f2) ∧ (x.f0 = 15 → 0 ≤ atv ts la x.f2 ∧ atv ts la x.f2 = atv ts la x.f3) ∧
    (x.f0 = 8 → 0 ≤ atv ts la x.f2 ∧ 0 ≤ x.f4 ∧ x.f4 < size ts (atv ts la x.f2) ∧ to_ ts (atv ts la x.f2) x.f4 < 0) ∧ (x.f0 = 9 → 0 ≤ atv ts la x.f1 ∧ 0 ≤ x.f4 ∧ x.f4 < size ts (atv ts la x.f1) ∧ to_ ts (atv ts la x.f1) x.f4 < 0) ∧
    (x.f0 = 10 → 0 ≤ atv ts la x.f2 ∧ 0 ≤ atv ts la x.f1 ∧ atv ts la x.f1 = to_ ts (atv ts la x.f2) x.f4) ∧ (x.f0 = 11 → 0 ≤ atv ts la x.f1 ∧ 0 ≤ atv ts la x.f2 ∧ atv ts la x.f2 = to_ ts (atv ts la x.f1) x.f4) ∧
    (x.f0 = 12 → 0 ≤ atv ts la x.f1 ∧ atv ts la x.f1 = atv ts gl x.f2) ∧ (x.f0 = 13 → 0 ≤ atv ts la x.f2 ∧ atv ts la x.f2 = atv ts gl x.f1) := by
  have la1 : Ev (fun k => lockstitchref05_Local.f k ts la gl code x.f1) (atv ts la x.f1) := ev_bind (at_ev ts hl hs la hla x.f1 hw.2.1.1 hw.2.1.2) ev_const
  have la2 : Ev (fun k => lockstitchref05_Local.f k ts la gl code x.f2) (atv ts la x.f2) := ev_bind (at_ev ts hl hs la hla x.f2 hw.2.2.1.1 hw.2.2.1.2) ev_const
  have la3 : Ev (fun k => lockstitchref05_Local.f k ts la gl code x.f3) (atv ts la x.f3) := ev_bind (at_ev ts hl hs la hla x.f3 hw.2.2.2.1.1 hw.2.2.2.1.2) ev_const
  have gl1 : Ev (fun k => lockstitchref05_Glob.f k ts la gl code x.f1) (atv ts gl x.f1) := ev_bind (at_ev ts hl hs gl hgl x.f1 hw.2.1.1 hw.2.1.2) ev_const
  have gl2 : Ev (fun k => lockstitchref05_Glob.f k ts la gl code x.f2) (atv ts gl x.f2) := ev_bind (at_ev ts hl hs gl hgl x.f2 hw.2.2.1.1 hw.2.2.1.2) ev_const
  have inv : ∀ {g : Nat → Option Bool}, (∀ k, lockstitchref05_kinds.f k ts la gl code x.f0 x.f1 x.f2 x.f3 x.f4 = g k) → Ev g true := fun {g} hg => Ev.congr (fun k => (hg k).symm) h
  have one : ∀ {p q : Int} {g : Nat → Option Bool}, Ev g true → (∀ K : Nat, ∃ k, K ≤ k ∧ (g k = some true → lockstitchref05_one.f p q = some true)) → 0 ≤ p ∧ p = q := by
    intro p q g ⟨K, hK⟩ hg
    obtain ⟨k, hk, e⟩ := hg K
    exact one_eq (e (hK k hk))
  obtain ⟨K, hK⟩ := h
  obtain ⟨K1, h1⟩ := la1
  obtain ⟨K2, h2⟩ := la2
  obtain ⟨K3, h3⟩ := la3
  obtain ⟨K4, h4⟩ := gl1
  obtain ⟨K5, h5⟩ := gl2
  have e : ∀ k, K + K1 + K2 + K3 + K4 + K5 ≤ k → ∃ q, (q = true ↔ x.f0 = 5 ∨ x.f0 = 6) ∧ lockstitchref05_kinds.j0 (k + 1) (atv ts la x.f1) (atv ts la x.f2) x.f0 q ts la gl code x.f0 x.f1 x.f2 x.f3 x.f4 = some true := by
    intro k hk
    have e := hK (k + 1) (by omega)
    have e1 := h1 (k + 1) (by omega)
    have e2 := h2 (k + 1) (by omega)
    simp only at e e1 e2
    unfold lockstitchref05_kinds.f at e
    rw [e1] at e
    simp only [Option.bind_some] at e
    rw [e2] at e
    simp only [Option.bind_some] at e
    by_cases h5 : x.f0 = 5
    · rw [if_pos h5] at e
      exact ⟨_, by simp [h5], e⟩
    · rw [if_neg h5] at e
      exact ⟨_, by simp [h5], e⟩
  have N : ∀ t : Int, (∀ k, K + K1 + K2 + K3 + K4 + K5 ≤ k → lockstitchref05_number.f k ts la gl code t x.f4 = some true) → 0 ≤ x.f4 ∧ x.f4 < size ts t ∧ to_ ts t x.f4 < 0 := fun t hh => number_true ts hl hs la gl code ⟨_, hh⟩
  have T : ∀ (p t : Int), (∀ k, K + K1 + K2 + K3 + K4 + K5 ≤ k → ((lockstitchref05_to.f k ts la gl code t x.f4).bind fun u => (lockstitchref05_one.f p u).bind fun w => some w) = some true) → 0 ≤ p ∧ p = to_ ts t x.f4 := by
    intro p t hh
    obtain ⟨Kt, ht⟩ := to_ev ts hl hs la gl code t x.f4
    have e := hh (K + K1 + K2 + K3 + K4 + K5 + Kt) (by omega)
    have e' := ht (K + K1 + K2 + K3 + K4 + K5 + Kt) (by omega)
    simp only at e'
    rw [e'] at e
    simp only [Option.bind_some] at e
    obtain ⟨u, hu, e⟩ := Option.bind_eq_some_iff.1 e
    obtain rfl := Option.some.inj e
    exact one_eq hu
  have Z := fun k (hk : K + K1 + K2 + K3 + K4 + K5 ≤ k) => e k hk
  refine ⟨fun ho => ?_, fun ho => ?_, fun ho => ?_, fun ho => ?_, fun ho => ?_, fun ho => ?_, fun ho => ?_, fun ho => ?_, fun ho => ?_⟩
  · obtain ⟨q, hq, e⟩ := Z _ (Nat.le_refl _)
    rw [lockstitchref05_kinds.j0.eq_2, if_pos (hq.2 ho)] at e
    exact of_decide_eq_true (Option.some.inj e)
  · obtain ⟨q, hq, e⟩ := Z _ (Nat.le_refl _)
    rw [lockstitchref05_kinds.j0.eq_2, if_neg (fun hh => by have := hq.1 hh; omega), if_pos ho] at e
    obtain ⟨u, hu, e⟩ := Option.bind_eq_some_iff.1 e
    obtain rfl := Option.some.inj e
    exact one_eq hu
  · obtain ⟨q, hq, e⟩ := Z _ (Nat.le_refl _)
    have e3 := h3 (K + K1 + K2 + K3 + K4 + K5) (by omega)
    simp only at e3
    rw [lockstitchref05_kinds.j0.eq_2, if_neg (fun hh => by have := hq.1 hh; omega), if_neg (by omega), if_pos ho, e3] at e
    simp only [Option.bind_some] at e
    obtain ⟨u, hu, e⟩ := Option.bind_eq_some_iff.1 e
    obtain rfl := Option.some.inj e
    exact one_eq hu
  · have hb : 0 ≤ atv ts la x.f2 := by
      obtain ⟨q, hq, e⟩ := Z _ (Nat.le_refl _)
      rw [lockstitchref05_kinds.j0.eq_2, if_neg (fun hh => by have := hq.1 hh; omega), if_neg (by omega), if_neg (by omega), if_pos ho] at e
      by_cases hb : atv ts la x.f2 ≥ 0
      · exact hb
      · rw [if_neg hb] at e
        cases e
    refine ⟨hb, N _ fun k hk => ?_⟩
    obtain ⟨q, hq, e⟩ := Z k hk
    rw [lockstitchref05_kinds.j0.eq_2, if_neg (fun hh => by have := hq.1 hh; omega), if_neg (by omega), if_neg (by omega), if_pos ho, if_pos hb] at e
    obtain ⟨u, hu, e⟩ := Option.bind_eq_some_iff.1 e
    obtain rfl := Option.some.inj e
    exact hu
  · have hb : 0 ≤ atv ts la x.f1 := by
      obtain ⟨q, hq, e⟩ := Z _ (Nat.le_refl _)
      rw [lockstitchref05_kinds.j0.eq_2, if_neg (fun hh => by have := hq.1 hh; omega), if_neg (by omega), if_neg (by omega), if_neg (by omega), if_pos ho] at e
      by_cases hb : atv ts la x.f1 ≥ 0
      · exact hb
      · rw [if_neg hb] at e
        cases e
    refine ⟨hb, N _ fun k hk => ?_⟩
    obtain ⟨q, hq, e⟩ := Z k hk
    rw [lockstitchref05_kinds.j0.eq_2, if_neg (fun hh => by have := hq.1 hh; omega), if_neg (by omega), if_neg (by omega), if_neg (by omega), if_pos ho, if_pos hb] at e
    obtain ⟨u, hu, e⟩ := Option.bind_eq_some_iff.1 e
    obtain rfl := Option.some.inj e
    exact hu
  · have hb : 0 ≤ atv ts la x.f2 := by
      obtain ⟨q, hq, e⟩ := Z _ (Nat.le_refl _)
      rw [lockstitchref05_kinds.j0.eq_2, if_neg (fun hh => by have := hq.1 hh; omega), if_neg (by omega), if_neg (by omega), if_neg (by omega), if_neg (by omega), if_pos ho] at e
      by_cases hb : atv ts la x.f2 ≥ 0
      · exact hb
      · rw [if_neg hb] at e
        cases e
    refine ⟨hb, T _ _ fun k hk => ?_⟩
    obtain ⟨q, hq, e⟩ := Z k hk
    rw [lockstitchref05_kinds.j0.eq_2, if_neg (fun hh => by have := hq.1 hh; omega), if_neg (by omega), if_neg (by omega), if_neg (by omega), if_neg (by omega), if_pos ho, if_pos hb] at e
    exact e
  · have hb : 0 ≤ atv ts la x.f1 := by
      obtain ⟨q, hq, e⟩ := Z _ (Nat.le_refl _)
      rw [lockstitchref05_kinds.j0.eq_2, if_neg (fun hh => by have := hq.1 hh; omega), if_neg (by omega), if_neg (by omega), if_neg (by omega), if_neg (by omega), if_neg (by omega), if_pos ho] at e
      by_cases hb : atv ts la x.f1 ≥ 0
      · exact hb
      · rw [if_neg hb] at e
        cases e
    refine ⟨hb, T _ _ fun k hk => ?_⟩
    obtain ⟨q, hq, e⟩ := Z k hk
    rw [lockstitchref05_kinds.j0.eq_2, if_neg (fun hh => by have := hq.1 hh; omega), if_neg (by omega), if_neg (by omega), if_neg (by omega), if_neg (by omega), if_neg (by omega), if_pos ho, if_pos hb] at e
    exact e
  · obtain ⟨q, hq, e⟩ := Z _ (Nat.le_refl _)
    have e5 := h5 (K + K1 + K2 + K3 + K4 + K5) (by omega)
    simp only at e5
    rw [lockstitchref05_kinds.j0.eq_2, if_neg (fun hh => by have := hq.1 hh; omega), if_neg (by omega), if_neg (by omega), if_neg (by omega), if_neg (by omega), if_neg (by omega), if_neg (by omega), if_pos ho, e5] at e
    simp only [Option.bind_some] at e
    obtain ⟨u, hu, e⟩ := Option.bind_eq_some_iff.1 e
    obtain rfl := Option.some.inj e
    exact one_eq hu
  · obtain ⟨q, hq, e⟩ := Z _ (Nat.le_refl _)
    have e4 := h4 (K + K1 + K2 + K3 + K4 + K5) (by omega)
    simp only at e4
    rw [lockstitchref05_kinds.j0.eq_2, if_neg (fun hh => by have := hq.1 hh; omega), if_neg (by omega), if_neg (by omega), if_neg (by omega), if_neg (by omega), if_neg (by omega), if_neg (by omega), if_neg (by omega), if_pos ho, e4] at e
    simp only [Option.bind_some] at e
    obtain ⟨u, hu, e⟩ := Option.bind_eq_some_iff.1 e
    obtain rfl := Option.some.inj e
    exact one_eq hu
omit hl hs hla hgl in
theorem ints_kk {x0 x1 x2 x3 x4 : Int} (h : Ev (fun k => lockstitchref05_ints.f k x0 x1 x2 x3 x4) true) :
    (x0 = 1 ∨ x0 = 2 ∨ x0 = 4 ∨ x0 = 8 ∨ x0 = 14 ∨ x0 = 15 → x1 < 8) ∧ (x0 = 2 ∨ x0 = 9 → x2 < 8) ∧ (x0 = 2 → x3 < 8) := by
  obtain ⟨K, hK⟩ := h
  have e := hK (K + 1) (by omega)
  simp only at e
  have e' : ∃ q, (q = true ↔ x0 = 1 ∨ x0 = 4 ∨ x0 = 8 ∨ x0 = 14 ∨ x0 = 15) ∧ lockstitchref05_ints.j0 (K + 1) x0 q x0 x1 x2 x3 x4 = some true := by
    unfold lockstitchref05_ints.f at e
    by_cases g1 : x0 = 1
    · rw [if_pos g1] at e
      exact ⟨_, by simp [g1], e⟩
    rw [if_neg g1] at e
    by_cases g2 : x0 = 4
    · rw [if_pos g2] at e
      exact ⟨_, by simp [g2], e⟩
    rw [if_neg g2] at e
    by_cases g3 : x0 = 8
    · rw [if_pos g3] at e
      exact ⟨_, by simp [g3], e⟩
    rw [if_neg g3] at e
    by_cases g4 : x0 = 14
    · rw [if_pos g4] at e
      exact ⟨_, by simp [g4], e⟩
    rw [if_neg g4] at e
    exact ⟨_, by simp [g1, g2, g3, g4], e⟩
  obtain ⟨q, hq, e⟩ := e'
  rw [lockstitchref05_ints.j0.eq_2] at e
  by_cases hq1 : q = true
  · rw [if_pos hq1] at e
    have h8 := of_decide_eq_true (Option.some.inj e)
    have := hq.1 hq1
    exact ⟨fun _ => h8, fun _ => by omega, fun _ => by omega⟩
  · have hn : ¬ (x0 = 1 ∨ x0 = 4 ∨ x0 = 8 ∨ x0 = 14 ∨ x0 = 15) := fun hh => hq1 (hq.2 hh)
    rw [if_neg hq1] at e
    by_cases h2 : x0 = 2
    · rw [if_pos h2] at e
      split at e
      · split at e
        · have h8 := of_decide_eq_true (Option.some.inj e)
          exact ⟨fun _ => by assumption, fun _ => by assumption, fun _ => h8⟩
        · cases e
      · cases e
    · rw [if_neg h2] at e
      by_cases h9 : x0 = 9
      · rw [if_pos h9] at e
        have h8 := of_decide_eq_true (Option.some.inj e)
        exact ⟨fun _ => by omega, fun _ => h8, fun _ => by omega⟩
      · exact ⟨fun _ => by omega, fun _ => by omega, fun _ => by omega⟩
end
theorem SP.kk {ts : List ByteArray} {la gl : ByteArray} {code : List S47} (h : SP ts la gl code) (hl : (ts.length : Int) ≤ 9223372036854775807) (hs : ∀ s ∈ ts, (s.size : Int) ≤ 9223372036854775807) (hla : Fit la) (hgl : Fit gl) (hw : WfC code) (j : Nat) (hj : j < code.length) :
    KK (atv ts la) (atv ts gl) (size ts) (to_ ts) (rd_T47 code j) := by
  have p := h.all j hj
  have hx := hw.rd j hj
  have hL := h.locals
  have hG := h.globals
  obtain ⟨k5, k7, k15, k8, k9, k10, k11, k12, k13⟩ := kinds_kk ts hl hs la gl hla hgl code hx p.kinds
  obtain ⟨ia, ib, ic⟩ := ints_kk p.ints
  have L : ∀ {a : Int}, 0 ≤ atv ts la a → a < 8 := fun h0 => by have := atv_lt h0; omega
  have G : ∀ {a : Int}, 0 ≤ atv ts gl a → a < 4 := fun h0 => by have := atv_lt h0; omega
  refine ⟨fun o => k5 (.inl o), fun o => (k7 o).2, fun o => ⟨(k8 o).1, (k8 o).2.1, (k8 o).2.2.1⟩, fun o => ?_, fun o => (k9 o).2, fun o => ?_, fun o => (k12 o).2, fun o => (k13 o).2, ia, ib, ic, fun o => ?_, fun o => ?_, fun o => ?_, fun o => ?_, fun o => ?_⟩
  · obtain ⟨a, b, c⟩ := k10 o
    have := to_range ts (t := atv ts la (rd_T47 code j).f2) (n := (rd_T47 code j).f4) (by rw [← c]; exact b)
    exact ⟨this.1, this.2, by rw [← c]; exact b, c⟩
  · obtain ⟨a, b, c⟩ := k11 o
    have := to_range ts (t := atv ts la (rd_T47 code j).f1) (n := (rd_T47 code j).f4) (by rw [← c]; exact b)
    exact ⟨this.1, this.2, by rw [← c]; exact b, c⟩
  · rcases o with o | o | o | o | o | o | o
    · exact L (k5 (.inl o))
    · exact L (k5 (.inr o))
    · exact L (k7 o).1
    · exact L (k9 o).1
    · exact L (k10 o).2.1
    · exact L (k11 o).1
    · exact L (k12 o).1
  · rcases o with o | o | o | o | o | o
    · exact L (by rw [← (k7 o).2]; exact (k7 o).1)
    · exact L (k8 o).1
    · exact L (k10 o).1
    · exact L (k11 o).2.1
    · exact L (k13 o).1
    · exact L (k15 o).1
  · exact L (by rw [← (k15 o).2]; exact (k15 o).1)
  · exact G (by rw [← (k13 o).2]; exact (k13 o).1)
  · exact G (by rw [← (k12 o).2]; exact (k12 o).1)
end Go.Proofs.YtkplgfhkebkaaaaDoor.ST

namespace Go.Proofs.YtkplgfhkebkaaaaDoor.ST
open Go.RowKit Go.Proofs.YtkplgfhkebkaaaaDoorW.PrintWords Go.Proofs.YtkplgfhkebkaaaaDoor.Scan Go.Proofs.YtkplgfhkebkaaaaDoor.F Go.Proofs.YtkplgfhkebkaaaaDoor.FM Go.Proofs.YtkplgfhkebkaaaaDoor.H Go.Proofs.YtkplgfhkebkaaaaDoor.KP Go.Proofs.YtkplgfhkebkaaaaDoor.TT
set_option linter.unusedVariables false
set_option linter.unusedSectionVars false
def stA (n : Nat → Int) (O T : Value) (pc st : Int) : Array Value := #[.int .i64 (n 0), .int .i64 (n 1), .int .i64 (n 2), .int .i64 (n 3), .int .i64 (n 4), .int .i64 (n 5), .int .i64 (n 6), .int .i64 (n 7), .int .i64 (n 8), .int .i64 (n 9), .int .i64 (n 10), .int .i64 (n 11), .int .i64 (n 12), .int .i64 (n 13), .int .i64 (n 14), .int .i64 (n 15), .int .i64 (n 16), .int .i64 (n 17), .int .i64 (n 18), .int .i64 (n 19), O, T, .int .i64 pc, .int .i64 st]
theorem stA_X (n : Nat → Int) (k : Nat) (v : Int) (O T : Value) (pc st : Int) (h : k < 8) : #[.int .i64 (upd n k (v) 0), .int .i64 (upd n k (v) 1), .int .i64 (upd n k (v) 2), .int .i64 (upd n k (v) 3), .int .i64 (upd n k (v) 4), .int .i64 (upd n k (v) 5), .int .i64 (upd n k (v) 6), .int .i64 (upd n k (v) 7), .int .i64 (n 8), .int .i64 (n 9), .int .i64 (n 10), .int .i64 (n 11), .int .i64 (n 12), .int .i64 (n 13), .int .i64 (n 14), .int .i64 (n 15), .int .i64 (n 16), .int .i64 (n 17), .int .i64 (n 18), .int .i64 (n 19), O, T, .int .i64 pc, .int .i64 st] = stA (upd n k v) O T pc st := by
  unfold stA
  simp only [upd_ne n (k := k) (j := 8) v (by omega), upd_ne n (k := k) (j := 9) v (by omega), upd_ne n (k := k) (j := 10) v (by omega), upd_ne n (k := k) (j := 11) v (by omega), upd_ne n (k := k) (j := 12) v (by omega), upd_ne n (k := k) (j := 13) v (by omega), upd_ne n (k := k) (j := 14) v (by omega), upd_ne n (k := k) (j := 15) v (by omega), upd_ne n (k := k) (j := 16) v (by omega), upd_ne n (k := k) (j := 17) v (by omega), upd_ne n (k := k) (j := 18) v (by omega), upd_ne n (k := k) (j := 19) v (by omega)]
theorem stA_P (n : Nat → Int) (k : Nat) (v : Int) (O T : Value) (pc st : Int) (h : k < 8) : #[.int .i64 (n 0), .int .i64 (n 1), .int .i64 (n 2), .int .i64 (n 3), .int .i64 (n 4), .int .i64 (n 5), .int .i64 (n 6), .int .i64 (n 7), .int .i64 (upd n (8 + k) (v) 8), .int .i64 (upd n (8 + k) (v) 9), .int .i64 (upd n (8 + k) (v) 10), .int .i64 (upd n (8 + k) (v) 11), .int .i64 (upd n (8 + k) (v) 12), .int .i64 (upd n (8 + k) (v) 13), .int .i64 (upd n (8 + k) (v) 14), .int .i64 (upd n (8 + k) (v) 15), .int .i64 (n 16), .int .i64 (n 17), .int .i64 (n 18), .int .i64 (n 19), O, T, .int .i64 pc, .int .i64 st] = stA (upd n (8 + k) v) O T pc st := by
  unfold stA
  simp only [upd_ne n (k := 8 + k) (j := 0) v (by omega), upd_ne n (k := 8 + k) (j := 1) v (by omega), upd_ne n (k := 8 + k) (j := 2) v (by omega), upd_ne n (k := 8 + k) (j := 3) v (by omega), upd_ne n (k := 8 + k) (j := 4) v (by omega), upd_ne n (k := 8 + k) (j := 5) v (by omega), upd_ne n (k := 8 + k) (j := 6) v (by omega), upd_ne n (k := 8 + k) (j := 7) v (by omega), upd_ne n (k := 8 + k) (j := 16) v (by omega), upd_ne n (k := 8 + k) (j := 17) v (by omega), upd_ne n (k := 8 + k) (j := 18) v (by omega), upd_ne n (k := 8 + k) (j := 19) v (by omega)]
theorem stA_G (n : Nat → Int) (k : Nat) (v : Int) (O T : Value) (pc st : Int) (h : k < 4) : #[.int .i64 (n 0), .int .i64 (n 1), .int .i64 (n 2), .int .i64 (n 3), .int .i64 (n 4), .int .i64 (n 5), .int .i64 (n 6), .int .i64 (n 7), .int .i64 (n 8), .int .i64 (n 9), .int .i64 (n 10), .int .i64 (n 11), .int .i64 (n 12), .int .i64 (n 13), .int .i64 (n 14), .int .i64 (n 15), .int .i64 (upd n (16 + k) (v) 16), .int .i64 (upd n (16 + k) (v) 17), .int .i64 (upd n (16 + k) (v) 18), .int .i64 (upd n (16 + k) (v) 19), O, T, .int .i64 pc, .int .i64 st] = stA (upd n (16 + k) v) O T pc st := by
  unfold stA
  simp only [upd_ne n (k := 16 + k) (j := 0) v (by omega), upd_ne n (k := 16 + k) (j := 1) v (by omega), upd_ne n (k := 16 + k) (j := 2) v (by omega), upd_ne n (k := 16 + k) (j := 3) v (by omega), upd_ne n (k := 16 + k) (j := 4) v (by omega), upd_ne n (k := 16 + k) (j := 5) v (by omega), upd_ne n (k := 16 + k) (j := 6) v (by omega), upd_ne n (k := 16 + k) (j := 7) v (by omega), upd_ne n (k := 16 + k) (j := 8) v (by omega), upd_ne n (k := 16 + k) (j := 9) v (by omega), upd_ne n (k := 16 + k) (j := 10) v (by omega), upd_ne n (k := 16 + k) (j := 11) v (by omega), upd_ne n (k := 16 + k) (j := 12) v (by omega), upd_ne n (k := 16 + k) (j := 13) v (by omega), upd_ne n (k := 16 + k) (j := 14) v (by omega), upd_ne n (k := 16 + k) (j := 15) v (by omega)]
def IsS (w : World) (P : Nat → Prop) (s : PS) (cs : Array Value) : Prop :=
  ∃ oA hs oc tA tc, cs = stA s.n (.slice oA (hs : List Hd).length oc) (.slice tA s.out.length tc) s.pc s.steps ∧ hs.length ≤ oc ∧ s.out.length ≤ tc ∧ ObF w P oA hs s.objs ∧ OutF w P tA s.out
theorem IsS.step {w w' : World} {P : Nat → Prop} {s : PS} {cs : Array Value} (h : IsS w P s cs) (hb : ∀ k, P k → k < w.heap.size → w'.heap[k]? = w.heap[k]? ∧ k < w'.heap.size) : IsS w' P s cs := by
  obtain ⟨oA, hs, oc, tA, tc, e, h1, h2, h3, h4⟩ := h
  exact ⟨oA, hs, oc, tA, tc, e, h1, h2, h3.step hb, h4.step hb⟩
theorem IsS.mono {w : World} {P Q : Nat → Prop} {s : PS} {cs : Array Value} (h : IsS w P s cs) (hp : ∀ k, P k → Q k) : IsS w Q s cs := by
  obtain ⟨oA, hs, oc, tA, tc, e, h1, h2, h3, h4⟩ := h
  exact ⟨oA, hs, oc, tA, tc, e, h1, h2, h3.mono hp, h4.mono hp⟩
theorem IsS.below {w w' : World} {P : Nat → Prop} {s : PS} {cs : Array Value} (h : IsS w P s cs) (hb : Below w.heap.size w w') : IsS w' P s cs := h.step fun k _ hk => ⟨hb.block k hk, Nat.lt_of_lt_of_le hk hb.size⟩
theorem step_fin {w : World} {P : Nat → Prop} {u : PS} {f : Nat} {args : Array Value}
    (h : Calls Tryd.prog f args w fun e w' => ∃ U W w2, e = .returned (.tuple #[.agg U, .bool false, .int .i64 0]) ∧ U.size = 24 ∧ IsS w2 (fun k => (P k ∧ k < w.heap.size) ∨ W.heap.size ≤ k) u U ∧ Below w.heap.size w W ∧ w.heap.size + 1 + 1 + 1 ≤ W.heap.size ∧ (∀ k, (k < w.heap.size ∨ W.heap.size ≤ k) → k < w2.heap.size → w'.heap[k]? = w2.heap[k]? ∧ k < w'.heap.size) ∧ Below w.heap.size w w') :
    Calls Tryd.prog f args w fun e w' => ∃ cs', e = .returned (.tuple #[.agg cs', .bool false, .int .i64 0]) ∧ IsS w' (fun k => P k ∨ w.heap.size ≤ k) u cs' ∧ Below w.heap.size w w' := by
  refine h.mono ?_
  rintro e w' ⟨U, W, w2, rfl, _, hI, hb, hz, hk, hb2⟩
  refine ⟨U, rfl, (hI.step fun k hp hl => hk k (hp.imp (fun h => h.2) id) hl).mono fun k hp => hp.imp (fun h => h.1) fun h => by omega, hb2⟩
section
variable {w : World} {A0 : Option Addr} {c0 : Nat} {ts : List ByteArray} {la gl : ByteArray} {A3 : Option Addr} {c3 : Nat} {code : List S47} {P : Nat → Prop}
  (hT : Kd.C Kd.string w A0 ts.length ts) (hc0 : ts.length ≤ c0) (hC : Kd.C k47 w A3 code.length code) (hc3 : code.length ≤ c3) {kc : Nat} {ck : Int} (hK : lockstitchref05_Check.f kc ts la gl code = some (ck, 0)) (htab : TB w)
  (hLoc : ∀ a : Int, 0 ≤ a → a ≤ 255 → Ev (fun k => lockstitchref05_Local.f k ts la gl code a) (atv ts la a)) (hSz : ∀ x : Int, Ev (fun k => lockstitchref03_Size.f k ts x) (size ts x))
  {n : Nat → Int} {objs : List (List Int)} {out : List Int} {p : Nat} {st : Int} {oA tA : Option Addr} {hs : List Hd} {oc tc : Nat} (hO : ObF w P oA hs objs) (hoc : hs.length ≤ oc) (hTo : OutF w P tA out) (htc : out.length ≤ tc)
include hT hc0 hC hc3 hK htab hLoc hSz hO hoc hTo htc
set_option maxRecDepth 100000 in
theorem ps_end (hp : p = code.length) : Calls Tryd.prog 12 #[.agg #[.slice A0 ts.length c0, .string la, .string gl, .slice A3 code.length c3], .agg (stA n (.slice oA hs.length oc) (.slice tA out.length tc) p st)] w fun e w' => ∃ cs', e = .returned (.tuple #[.agg cs', .bool true, .int .i64 0]) ∧ IsS w' (fun k => P k ∨ w.heap.size ≤ k) ⟨n, objs, out, p, st⟩ cs' ∧ Below w.heap.size w w' := by
  refine (step_end w n oA tA hs.length oc out.length tc p st A0 c0 ts la gl A3 c3 code hT hc0 hC hc3 kc ck hK htab hp).mono ?_
  rintro e w' ⟨rfl, hb⟩
  exact ⟨_, rfl, ⟨oA, hs, oc, tA, tc, rfl, hoc, htc, (hO.below hb).mono fun k h => .inl h, (hTo.below hb).mono fun k h => .inl h⟩, hb⟩
set_option maxRecDepth 100000 in
theorem ps_jump (a b c : Nat) (N : Int) (hp : p < code.length) (x0 : (rd_T47 code p).f0 = 3) (x1 : (rd_T47 code p).f1 = (a : Nat)) (x2 : (rd_T47 code p).f2 = (b : Nat)) (x3 : (rd_T47 code p).f3 = (c : Nat)) (x4 : (rd_T47 code p).f4 = N) : Calls Tryd.prog 12 #[.agg #[.slice A0 ts.length c0, .string la, .string gl, .slice A3 code.length c3], .agg (stA n (.slice oA hs.length oc) (.slice tA out.length tc) p st)] w fun e w' => ∃ cs', e = .returned (.tuple #[.agg cs', .bool false, .int .i64 0]) ∧ IsS w' (fun k => P k ∨ w.heap.size ≤ k) ⟨n, objs, out, N, wrap64 (st + 1)⟩ cs' ∧ Below w.heap.size w w' := by
  refine (step_jump w n oA tA hs.length oc out.length tc p st A0 c0 ts la gl A3 c3 code hT hc0 hC hc3 kc ck hK htab a b c N hp x0 x1 x2 x3 x4).mono ?_
  rintro e w' ⟨rfl, hb⟩
  exact ⟨_, rfl, ⟨oA, hs, oc, tA, tc, rfl, hoc, htc, (hO.below hb).mono fun k h => .inl h, (hTo.below hb).mono fun k h => .inl h⟩, hb⟩
set_option maxRecDepth 100000 in
theorem ps_zero (a b c : Nat) (N : Int) (hp : p < code.length) (x0 : (rd_T47 code p).f0 = 4) (x1 : (rd_T47 code p).f1 = (a : Nat)) (x2 : (rd_T47 code p).f2 = (b : Nat)) (x3 : (rd_T47 code p).f3 = (c : Nat)) (x4 : (rd_T47 code p).f4 = N) (ha : (a : Int) < 8) (hz : n a = 0) : Calls Tryd.prog 12 #[.agg #[.slice A0 ts.length c0, .string la, .string gl, .slice A3 code.length c3], .agg (stA n (.slice oA hs.length oc) (.slice tA out.length tc) p st)] w fun e w' => ∃ cs', e = .returned (.tuple #[.agg cs', .bool false, .int .i64 0]) ∧ IsS w' (fun k => P k ∨ w.heap.size ≤ k) ⟨n, objs, out, N, wrap64 (st + 1)⟩ cs' ∧ Below w.heap.size w w' := by
  refine (step_zero w n oA tA hs.length oc out.length tc p st A0 c0 ts la gl A3 c3 code hT hc0 hC hc3 kc ck hK htab a b c N hp x0 x1 x2 x3 x4 ha hz).mono ?_
  rintro e w' ⟨rfl, hb⟩
  exact ⟨_, rfl, ⟨oA, hs, oc, tA, tc, rfl, hoc, htc, (hO.below hb).mono fun k h => .inl h, (hTo.below hb).mono fun k h => .inl h⟩, hb⟩
set_option maxRecDepth 100000 in
theorem ps_pass (a b c : Nat) (N : Int) (hp : p < code.length) (x0 : (rd_T47 code p).f0 = 4) (x1 : (rd_T47 code p).f1 = (a : Nat)) (x2 : (rd_T47 code p).f2 = (b : Nat)) (x3 : (rd_T47 code p).f3 = (c : Nat)) (x4 : (rd_T47 code p).f4 = N) (ha : (a : Int) < 8) (hz : ¬ n a = 0) : Calls Tryd.prog 12 #[.agg #[.slice A0 ts.length c0, .string la, .string gl, .slice A3 code.length c3], .agg (stA n (.slice oA hs.length oc) (.slice tA out.length tc) p st)] w fun e w' => ∃ cs', e = .returned (.tuple #[.agg cs', .bool false, .int .i64 0]) ∧ IsS w' (fun k => P k ∨ w.heap.size ≤ k) ⟨n, objs, out, (p : Int) + 1, wrap64 (st + 1)⟩ cs' ∧ Below w.heap.size w w' := by
  refine (step_pass w n oA tA hs.length oc out.length tc p st A0 c0 ts la gl A3 c3 code hT hc0 hC hc3 kc ck hK htab a b c N hp x0 x1 x2 x3 x4 ha hz).mono ?_
  rintro e w' ⟨rfl, hb⟩
  exact ⟨_, rfl, ⟨oA, hs, oc, tA, tc, rfl, hoc, htc, (hO.below hb).mono fun k h => .inl h, (hTo.below hb).mono fun k h => .inl h⟩, hb⟩
set_option maxRecDepth 100000 in
theorem ps_set (a b c : Nat) (N : Int) (hp : p < code.length) (x0 : (rd_T47 code p).f0 = 1) (x1 : (rd_T47 code p).f1 = (a : Nat)) (x2 : (rd_T47 code p).f2 = (b : Nat)) (x3 : (rd_T47 code p).f3 = (c : Nat)) (x4 : (rd_T47 code p).f4 = N) (ha : (a : Int) < 8) : Calls Tryd.prog 12 #[.agg #[.slice A0 ts.length c0, .string la, .string gl, .slice A3 code.length c3], .agg (stA n (.slice oA hs.length oc) (.slice tA out.length tc) p st)] w fun e w' => ∃ cs', e = .returned (.tuple #[.agg cs', .bool false, .int .i64 0]) ∧ IsS w' (fun k => P k ∨ w.heap.size ≤ k) ⟨upd n a N, objs, out, (p : Int) + 1, wrap64 (st + 1)⟩ cs' ∧ Below w.heap.size w w' :=
  step_fin (step_num w n oA tA hs.length oc out.length tc p st A0 c0 ts la gl A3 c3 code hT hc0 hC hc3 kc ck hK htab 1 a b c N hp x0 x1 x2 x3 x4 (by decide) (by decide) (fun W w2 U => IsS w2 (fun k => (P k ∧ k < w.heap.size) ∨ W.heap.size ≤ k) ⟨upd n a N, objs, out, (p : Int) + 1, wrap64 (st + 1)⟩ U) fun W hW => (num_set W n oA tA hs.length oc out.length tc ((p : Int) + 1) (wrap64 (st + 1)) a b c N ha).mono (by rintro e w' ⟨rfl, hb⟩; exact ⟨_, rfl, rfl, rfl, ⟨oA, hs, oc, tA, tc, stA_X n a N _ _ _ _ (by omega), hoc, htc, ((hO.bound.below hW).below hb).mono fun k h => .inl h, ((hTo.bound.below hW).below hb).mono fun k h => .inl h⟩, hb⟩))
set_option maxRecDepth 100000 in
theorem ps_add (a b c : Nat) (N : Int) (hp : p < code.length) (x0 : (rd_T47 code p).f0 = 2) (x1 : (rd_T47 code p).f1 = (a : Nat)) (x2 : (rd_T47 code p).f2 = (b : Nat)) (x3 : (rd_T47 code p).f3 = (c : Nat)) (x4 : (rd_T47 code p).f4 = N) (ha : (a : Int) < 8) (hb : (b : Int) < 8) (hc : (c : Int) < 8) : Calls Tryd.prog 12 #[.agg #[.slice A0 ts.length c0, .string la, .string gl, .slice A3 code.length c3], .agg (stA n (.slice oA hs.length oc) (.slice tA out.length tc) p st)] w fun e w' => ∃ cs', e = .returned (.tuple #[.agg cs', .bool false, .int .i64 0]) ∧ IsS w' (fun k => P k ∨ w.heap.size ≤ k) ⟨upd n a (wrap64 (n b + n c)), objs, out, (p : Int) + 1, wrap64 (st + 1)⟩ cs' ∧ Below w.heap.size w w' :=
  step_fin (step_num w n oA tA hs.length oc out.length tc p st A0 c0 ts la gl A3 c3 code hT hc0 hC hc3 kc ck hK htab 2 a b c N hp x0 x1 x2 x3 x4 (by decide) (by decide) (fun W w2 U => IsS w2 (fun k => (P k ∧ k < w.heap.size) ∨ W.heap.size ≤ k) ⟨upd n a (wrap64 (n b + n c)), objs, out, (p : Int) + 1, wrap64 (st + 1)⟩ U) fun W hW => (num_add W n oA tA hs.length oc out.length tc ((p : Int) + 1) (wrap64 (st + 1)) a b c N ha hb hc).mono (by rintro e w' ⟨rfl, hb⟩; exact ⟨_, rfl, rfl, rfl, ⟨oA, hs, oc, tA, tc, stA_X n a _ _ _ _ _ (by omega), hoc, htc, ((hO.bound.below hW).below hb).mono fun k h => .inl h, ((hTo.bound.below hW).below hb).mono fun k h => .inl h⟩, hb⟩))
set_option maxRecDepth 100000 in
theorem ps_same_eq (a b c : Nat) (N : Int) (hp : p < code.length) (x0 : (rd_T47 code p).f0 = 15) (x1 : (rd_T47 code p).f1 = (a : Nat)) (x2 : (rd_T47 code p).f2 = (b : Nat)) (x3 : (rd_T47 code p).f3 = (c : Nat)) (x4 : (rd_T47 code p).f4 = N) (ha : (a : Int) < 8) (hb : (b : Int) < 8) (hc : (c : Int) < 8) (hh : n (8 + b) = n (8 + c)) : Calls Tryd.prog 12 #[.agg #[.slice A0 ts.length c0, .string la, .string gl, .slice A3 code.length c3], .agg (stA n (.slice oA hs.length oc) (.slice tA out.length tc) p st)] w fun e w' => ∃ cs', e = .returned (.tuple #[.agg cs', .bool false, .int .i64 0]) ∧ IsS w' (fun k => P k ∨ w.heap.size ≤ k) ⟨upd n a 1, objs, out, (p : Int) + 1, wrap64 (st + 1)⟩ cs' ∧ Below w.heap.size w w' :=
  step_fin (step_num w n oA tA hs.length oc out.length tc p st A0 c0 ts la gl A3 c3 code hT hc0 hC hc3 kc ck hK htab 15 a b c N hp x0 x1 x2 x3 x4 (by decide) (by decide) (fun W w2 U => IsS w2 (fun k => (P k ∧ k < w.heap.size) ∨ W.heap.size ≤ k) ⟨upd n a 1, objs, out, (p : Int) + 1, wrap64 (st + 1)⟩ U) fun W hW => (num_same_eq W n oA tA hs.length oc out.length tc ((p : Int) + 1) (wrap64 (st + 1)) a b c N ha hb hc hh).mono (by rintro e w' ⟨rfl, hb⟩; exact ⟨_, rfl, rfl, rfl, ⟨oA, hs, oc, tA, tc, stA_X n a _ _ _ _ _ (by omega), hoc, htc, ((hO.bound.below hW).below hb).mono fun k h => .inl h, ((hTo.bound.below hW).below hb).mono fun k h => .inl h⟩, hb⟩))
set_option maxRecDepth 100000 in
theorem ps_same_ne (a b c : Nat) (N : Int) (hp : p < code.length) (x0 : (rd_T47 code p).f0 = 15) (x1 : (rd_T47 code p).f1 = (a : Nat)) (x2 : (rd_T47 code p).f2 = (b : Nat)) (x3 : (rd_T47 code p).f3 = (c : Nat)) (x4 : (rd_T47 code p).f4 = N) (ha : (a : Int) < 8) (hb : (b : Int) < 8) (hc : (c : Int) < 8) (hh : ¬ n (8 + b) = n (8 + c)) : Calls Tryd.prog 12 #[.agg #[.slice A0 ts.length c0, .string la, .string gl, .slice A3 code.length c3], .agg (stA n (.slice oA hs.length oc) (.slice tA out.length tc) p st)] w fun e w' => ∃ cs', e = .returned (.tuple #[.agg cs', .bool false, .int .i64 0]) ∧ IsS w' (fun k => P k ∨ w.heap.size ≤ k) ⟨upd n a 0, objs, out, (p : Int) + 1, wrap64 (st + 1)⟩ cs' ∧ Below w.heap.size w w' :=
  step_fin (step_num w n oA tA hs.length oc out.length tc p st A0 c0 ts la gl A3 c3 code hT hc0 hC hc3 kc ck hK htab 15 a b c N hp x0 x1 x2 x3 x4 (by decide) (by decide) (fun W w2 U => IsS w2 (fun k => (P k ∧ k < w.heap.size) ∨ W.heap.size ≤ k) ⟨upd n a 0, objs, out, (p : Int) + 1, wrap64 (st + 1)⟩ U) fun W hW => (num_same_ne W n oA tA hs.length oc out.length tc ((p : Int) + 1) (wrap64 (st + 1)) a b c N ha hb hc hh).mono (by rintro e w' ⟨rfl, hb⟩; exact ⟨_, rfl, rfl, rfl, ⟨oA, hs, oc, tA, tc, stA_X n a _ _ _ _ _ (by omega), hoc, htc, ((hO.bound.below hW).below hb).mono fun k h => .inl h, ((hTo.bound.below hW).below hb).mono fun k h => .inl h⟩, hb⟩))
set_option maxRecDepth 100000 in
theorem ps_print (a b c : Nat) (N : Int) (hp : p < code.length) (x0 : (rd_T47 code p).f0 = 14) (x1 : (rd_T47 code p).f1 = (a : Nat)) (x2 : (rd_T47 code p).f2 = (b : Nat)) (x3 : (rd_T47 code p).f3 = (c : Nat)) (x4 : (rd_T47 code p).f4 = N) (ha : (a : Int) < 8) (hl : out.length ≤ 1000000) : Calls Tryd.prog 12 #[.agg #[.slice A0 ts.length c0, .string la, .string gl, .slice A3 code.length c3], .agg (stA n (.slice oA hs.length oc) (.slice tA out.length tc) p st)] w fun e w' => ∃ cs', e = .returned (.tuple #[.agg cs', .bool false, .int .i64 0]) ∧ IsS w' (fun k => P k ∨ w.heap.size ≤ k) ⟨n, objs, (out ++ [n a]), (p : Int) + 1, wrap64 (st + 1)⟩ cs' ∧ Below w.heap.size w w' :=
  step_fin (step_num w n oA tA hs.length oc out.length tc p st A0 c0 ts la gl A3 c3 code hT hc0 hC hc3 kc ck hK htab 14 a b c N hp x0 x1 x2 x3 x4 (by decide) (by decide) (fun W w2 U => IsS w2 (fun k => (P k ∧ k < w.heap.size) ∨ W.heap.size ≤ k) ⟨n, objs, (out ++ [n a]), (p : Int) + 1, wrap64 (st + 1)⟩ U) fun W hW => (num_print W n oA tA hs.length oc out.length tc ((p : Int) + 1) (wrap64 (st + 1)) a b c N out rfl htc (hTo.below hW).now hl ha).mono (by rintro e w' ⟨A', c', rfl, hc', hq, hb⟩; exact ⟨_, rfl, rfl, rfl, ⟨oA, hs, oc, A', c', by simp [stA], hoc, by simpa using hc', ((hO.bound.below hW).below hb).mono fun k h => .inl h, hq.mono fun k h => .inr h⟩, hb⟩))
set_option maxRecDepth 100000 in
theorem ps_nil (a b c : Nat) (N : Int) (hp : p < code.length) (x0 : (rd_T47 code p).f0 = 6) (x1 : (rd_T47 code p).f1 = (a : Nat)) (x2 : (rd_T47 code p).f2 = (b : Nat)) (x3 : (rd_T47 code p).f3 = (c : Nat)) (x4 : (rd_T47 code p).f4 = N) (ha : (a : Int) < 8) : Calls Tryd.prog 12 #[.agg #[.slice A0 ts.length c0, .string la, .string gl, .slice A3 code.length c3], .agg (stA n (.slice oA hs.length oc) (.slice tA out.length tc) p st)] w fun e w' => ∃ cs', e = .returned (.tuple #[.agg cs', .bool false, .int .i64 0]) ∧ IsS w' (fun k => P k ∨ w.heap.size ≤ k) ⟨upd n (8 + a) 0, objs, out, (p : Int) + 1, wrap64 (st + 1)⟩ cs' ∧ Below w.heap.size w w' :=
  step_fin (step_ptr w n oA tA hs.length oc out.length tc p st A0 c0 ts la gl A3 c3 code hT hc0 hC hc3 kc ck hK htab 6 a b c N hp x0 x1 x2 x3 x4 (by decide) (by decide) (fun W w2 U => IsS w2 (fun k => (P k ∧ k < w.heap.size) ∨ W.heap.size ≤ k) ⟨upd n (8 + a) 0, objs, out, (p : Int) + 1, wrap64 (st + 1)⟩ U) (fun W hW => (num_other W n oA tA hs.length oc out.length tc ((p : Int) + 1) (wrap64 (st + 1)) a b c 6 N (by decide) (by decide) (by decide) (by decide)).mono fun e w' h => h) fun W hW => (ptr_nil W n oA tA hs.length oc out.length tc ((p : Int) + 1) (wrap64 (st + 1)) a b c N A0 c0 ts la gl A3 c3 code ha).mono (by rintro e w' ⟨rfl, hb⟩; exact ⟨_, rfl, rfl, rfl, ⟨oA, hs, oc, tA, tc, stA_P n a _ _ _ _ _ (by omega), hoc, htc, ((hO.bound.below hW).below hb).mono fun k h => .inl h, ((hTo.bound.below hW).below hb).mono fun k h => .inl h⟩, hb⟩))
set_option maxRecDepth 100000 in
theorem ps_move (a b c : Nat) (N : Int) (hp : p < code.length) (x0 : (rd_T47 code p).f0 = 7) (x1 : (rd_T47 code p).f1 = (a : Nat)) (x2 : (rd_T47 code p).f2 = (b : Nat)) (x3 : (rd_T47 code p).f3 = (c : Nat)) (x4 : (rd_T47 code p).f4 = N) (ha : (a : Int) < 8) (hb : (b : Int) < 8) : Calls Tryd.prog 12 #[.agg #[.slice A0 ts.length c0, .string la, .string gl, .slice A3 code.length c3], .agg (stA n (.slice oA hs.length oc) (.slice tA out.length tc) p st)] w fun e w' => ∃ cs', e = .returned (.tuple #[.agg cs', .bool false, .int .i64 0]) ∧ IsS w' (fun k => P k ∨ w.heap.size ≤ k) ⟨upd n (8 + a) (n (8 + b)), objs, out, (p : Int) + 1, wrap64 (st + 1)⟩ cs' ∧ Below w.heap.size w w' :=
  step_fin (step_ptr w n oA tA hs.length oc out.length tc p st A0 c0 ts la gl A3 c3 code hT hc0 hC hc3 kc ck hK htab 7 a b c N hp x0 x1 x2 x3 x4 (by decide) (by decide) (fun W w2 U => IsS w2 (fun k => (P k ∧ k < w.heap.size) ∨ W.heap.size ≤ k) ⟨upd n (8 + a) (n (8 + b)), objs, out, (p : Int) + 1, wrap64 (st + 1)⟩ U) (fun W hW => (num_other W n oA tA hs.length oc out.length tc ((p : Int) + 1) (wrap64 (st + 1)) a b c 7 N (by decide) (by decide) (by decide) (by decide)).mono fun e w' h => h) fun W hW => (ptr_move W n oA tA hs.length oc out.length tc ((p : Int) + 1) (wrap64 (st + 1)) a b c N A0 c0 ts la gl A3 c3 code ha hb).mono (by rintro e w' ⟨rfl, hb⟩; exact ⟨_, rfl, rfl, rfl, ⟨oA, hs, oc, tA, tc, stA_P n a _ _ _ _ _ (by omega), hoc, htc, ((hO.bound.below hW).below hb).mono fun k h => .inl h, ((hTo.bound.below hW).below hb).mono fun k h => .inl h⟩, hb⟩))
set_option maxRecDepth 100000 in
theorem ps_loadG (a b c : Nat) (N : Int) (hp : p < code.length) (x0 : (rd_T47 code p).f0 = 12) (x1 : (rd_T47 code p).f1 = (a : Nat)) (x2 : (rd_T47 code p).f2 = (b : Nat)) (x3 : (rd_T47 code p).f3 = (c : Nat)) (x4 : (rd_T47 code p).f4 = N) (ha : (a : Int) < 8) (hb : (b : Int) < 4) : Calls Tryd.prog 12 #[.agg #[.slice A0 ts.length c0, .string la, .string gl, .slice A3 code.length c3], .agg (stA n (.slice oA hs.length oc) (.slice tA out.length tc) p st)] w fun e w' => ∃ cs', e = .returned (.tuple #[.agg cs', .bool false, .int .i64 0]) ∧ IsS w' (fun k => P k ∨ w.heap.size ≤ k) ⟨upd n (8 + a) (n (16 + b)), objs, out, (p : Int) + 1, wrap64 (st + 1)⟩ cs' ∧ Below w.heap.size w w' :=
  step_fin (step_ptr w n oA tA hs.length oc out.length tc p st A0 c0 ts la gl A3 c3 code hT hc0 hC hc3 kc ck hK htab 12 a b c N hp x0 x1 x2 x3 x4 (by decide) (by decide) (fun W w2 U => IsS w2 (fun k => (P k ∧ k < w.heap.size) ∨ W.heap.size ≤ k) ⟨upd n (8 + a) (n (16 + b)), objs, out, (p : Int) + 1, wrap64 (st + 1)⟩ U) (fun W hW => (num_other W n oA tA hs.length oc out.length tc ((p : Int) + 1) (wrap64 (st + 1)) a b c 12 N (by decide) (by decide) (by decide) (by decide)).mono fun e w' h => h) fun W hW => (ptr_loadG W n oA tA hs.length oc out.length tc ((p : Int) + 1) (wrap64 (st + 1)) a b c N A0 c0 ts la gl A3 c3 code ha hb).mono (by rintro e w' ⟨rfl, hb⟩; exact ⟨_, rfl, rfl, rfl, ⟨oA, hs, oc, tA, tc, stA_P n a _ _ _ _ _ (by omega), hoc, htc, ((hO.bound.below hW).below hb).mono fun k h => .inl h, ((hTo.bound.below hW).below hb).mono fun k h => .inl h⟩, hb⟩))
set_option maxRecDepth 100000 in
theorem ps_storeG (a b c : Nat) (N : Int) (hp : p < code.length) (x0 : (rd_T47 code p).f0 = 13) (x1 : (rd_T47 code p).f1 = (a : Nat)) (x2 : (rd_T47 code p).f2 = (b : Nat)) (x3 : (rd_T47 code p).f3 = (c : Nat)) (x4 : (rd_T47 code p).f4 = N) (ha : (a : Int) < 4) (hb : (b : Int) < 8) : Calls Tryd.prog 12 #[.agg #[.slice A0 ts.length c0, .string la, .string gl, .slice A3 code.length c3], .agg (stA n (.slice oA hs.length oc) (.slice tA out.length tc) p st)] w fun e w' => ∃ cs', e = .returned (.tuple #[.agg cs', .bool false, .int .i64 0]) ∧ IsS w' (fun k => P k ∨ w.heap.size ≤ k) ⟨upd n (16 + a) (n (8 + b)), objs, out, (p : Int) + 1, wrap64 (st + 1)⟩ cs' ∧ Below w.heap.size w w' :=
  step_fin (step_ptr w n oA tA hs.length oc out.length tc p st A0 c0 ts la gl A3 c3 code hT hc0 hC hc3 kc ck hK htab 13 a b c N hp x0 x1 x2 x3 x4 (by decide) (by decide) (fun W w2 U => IsS w2 (fun k => (P k ∧ k < w.heap.size) ∨ W.heap.size ≤ k) ⟨upd n (16 + a) (n (8 + b)), objs, out, (p : Int) + 1, wrap64 (st + 1)⟩ U) (fun W hW => (num_other W n oA tA hs.length oc out.length tc ((p : Int) + 1) (wrap64 (st + 1)) a b c 13 N (by decide) (by decide) (by decide) (by decide)).mono fun e w' h => h) fun W hW => (ptr_storeG W n oA tA hs.length oc out.length tc ((p : Int) + 1) (wrap64 (st + 1)) a b c N A0 c0 ts la gl A3 c3 code ha hb).mono (by rintro e w' ⟨rfl, hb⟩; exact ⟨_, rfl, rfl, rfl, ⟨oA, hs, oc, tA, tc, stA_G n a _ _ _ _ _ (by omega), hoc, htc, ((hO.bound.below hW).below hb).mono fun k h => .inl h, ((hTo.bound.below hW).below hb).mono fun k h => .inl h⟩, hb⟩))
set_option maxRecDepth 100000 in
theorem ps_new (a b c : Nat) (N : Int) (hp : p < code.length) (x0 : (rd_T47 code p).f0 = 5) (x1 : (rd_T47 code p).f1 = (a : Nat)) (x2 : (rd_T47 code p).f2 = (b : Nat)) (x3 : (rd_T47 code p).f3 = (c : Nat)) (x4 : (rd_T47 code p).f4 = N) (ha : (a : Int) < 8) (hl : hs.length ≤ 1000000) (m k1 k2 : Nat) (t0 : Int) (hm : m ≤ 1000000) (h1 : lockstitchref05_Local.f k1 ts la gl code a = some t0) (h2 : lockstitchref03_Size.f k2 ts t0 = some (m : Int)) : Calls Tryd.prog 12 #[.agg #[.slice A0 ts.length c0, .string la, .string gl, .slice A3 code.length c3], .agg (stA n (.slice oA hs.length oc) (.slice tA out.length tc) p st)] w fun e w' => ∃ cs', e = .returned (.tuple #[.agg cs', .bool false, .int .i64 0]) ∧ IsS w' (fun k => P k ∨ w.heap.size ≤ k) ⟨upd n (8 + a) ((hs.length : Int) + 1), (objs ++ [List.replicate m 0]), out, (p : Int) + 1, wrap64 (st + 1)⟩ cs' ∧ Below w.heap.size w w' :=
  step_fin (step_ptr w n oA tA hs.length oc out.length tc p st A0 c0 ts la gl A3 c3 code hT hc0 hC hc3 kc ck hK htab 5 a b c N hp x0 x1 x2 x3 x4 (by decide) (by decide) (fun W w2 U => IsS w2 (fun k => (P k ∧ k < w.heap.size) ∨ W.heap.size ≤ k) ⟨upd n (8 + a) ((hs.length : Int) + 1), (objs ++ [List.replicate m 0]), out, (p : Int) + 1, wrap64 (st + 1)⟩ U) (fun W hW => (num_other W n oA tA hs.length oc out.length tc ((p : Int) + 1) (wrap64 (st + 1)) a b c 5 N (by decide) (by decide) (by decide) (by decide)).mono fun e w' h => h) fun W hW => (ptr_new W n oA tA oc out.length tc ((p : Int) + 1) (wrap64 (st + 1)) a b c N A0 c0 ts la gl A3 c3 code (fun k => P k ∧ k < w.heap.size) hs objs (hO.bound.below hW) hoc hl ha (Kd.C_below hT hW) hc0 (Kd.C_below hC hW) hc3 k1 k2 t0 m hm h1 h2).mono (by rintro e w' ⟨A', c', hs', rfl, hc', hq, hb⟩; exact ⟨_, rfl, rfl, rfl, ⟨A', hs', c', tA, tc, stA_P n a _ _ _ _ _ (by omega), hc', htc, hq, ((hTo.bound.below hW).below hb).mono fun k h => .inl h⟩, hb⟩))
set_option maxRecDepth 100000 in
theorem ps_loadI (a b c : Nat) (o f : Nat) (hp : p < code.length) (x0 : (rd_T47 code p).f0 = 8) (x1 : (rd_T47 code p).f1 = (a : Nat)) (x2 : (rd_T47 code p).f2 = (b : Nat)) (x3 : (rd_T47 code p).f3 = (c : Nat)) (x4 : (rd_T47 code p).f4 = (f : Nat)) (ho : o < hs.length) (hf : f < (objs.getD o []).length) (hq : n (8 + b) = (o : Int) + 1) (ha : (a : Int) < 8) (hb : (b : Int) < 8) : Calls Tryd.prog 12 #[.agg #[.slice A0 ts.length c0, .string la, .string gl, .slice A3 code.length c3], .agg (stA n (.slice oA hs.length oc) (.slice tA out.length tc) p st)] w fun e w' => ∃ cs', e = .returned (.tuple #[.agg cs', .bool false, .int .i64 0]) ∧ IsS w' (fun k => P k ∨ w.heap.size ≤ k) ⟨upd n a ((objs.getD o []).getD f 0), objs, out, (p : Int) + 1, wrap64 (st + 1)⟩ cs' ∧ Below w.heap.size w w' :=
  step_fin (step_mem w n oA tA hs.length oc out.length tc p st A0 c0 ts la gl A3 c3 code hT hc0 hC hc3 kc ck hK htab 8 a b c f hp x0 x1 x2 x3 x4 (by decide) (by decide) (fun W w2 U => IsS w2 (fun k => (P k ∧ k < w.heap.size) ∨ W.heap.size ≤ k) ⟨upd n a ((objs.getD o []).getD f 0), objs, out, (p : Int) + 1, wrap64 (st + 1)⟩ U) (fun W hW => (num_other W n oA tA hs.length oc out.length tc ((p : Int) + 1) (wrap64 (st + 1)) a b c 8 (f : Int) (by decide) (by decide) (by decide) (by decide)).mono fun e w' h => h) (fun W hW => (ptr_other W n oA tA hs.length oc out.length tc ((p : Int) + 1) (wrap64 (st + 1)) a b c 8 (f : Int) A0 c0 ts la gl A3 c3 code (by decide) (by decide) (by decide) (by decide) (by decide)).mono fun e w' h => h) fun W hW => (mem_loadI W n oA tA hs.length oc out.length tc ((p : Int) + 1) (wrap64 (st + 1)) a b c hs objs rfl (hO.below hW).now o f ho hf hq ha hb).mono (by rintro e w' ⟨rfl, hb⟩; exact ⟨_, rfl, rfl, rfl, ⟨oA, hs, oc, tA, tc, stA_X n a _ _ _ _ _ (by omega), hoc, htc, ((hO.bound.below hW).below hb).mono fun k h => .inl h, ((hTo.bound.below hW).below hb).mono fun k h => .inl h⟩, hb⟩))
set_option maxRecDepth 100000 in
theorem ps_loadP (a b c : Nat) (o f : Nat) (hp : p < code.length) (x0 : (rd_T47 code p).f0 = 10) (x1 : (rd_T47 code p).f1 = (a : Nat)) (x2 : (rd_T47 code p).f2 = (b : Nat)) (x3 : (rd_T47 code p).f3 = (c : Nat)) (x4 : (rd_T47 code p).f4 = (f : Nat)) (ho : o < hs.length) (hf : f < (objs.getD o []).length) (hq : n (8 + b) = (o : Int) + 1) (ha : (a : Int) < 8) (hb : (b : Int) < 8) : Calls Tryd.prog 12 #[.agg #[.slice A0 ts.length c0, .string la, .string gl, .slice A3 code.length c3], .agg (stA n (.slice oA hs.length oc) (.slice tA out.length tc) p st)] w fun e w' => ∃ cs', e = .returned (.tuple #[.agg cs', .bool false, .int .i64 0]) ∧ IsS w' (fun k => P k ∨ w.heap.size ≤ k) ⟨upd n (8 + a) ((objs.getD o []).getD f 0), objs, out, (p : Int) + 1, wrap64 (st + 1)⟩ cs' ∧ Below w.heap.size w w' :=
  step_fin (step_mem w n oA tA hs.length oc out.length tc p st A0 c0 ts la gl A3 c3 code hT hc0 hC hc3 kc ck hK htab 10 a b c f hp x0 x1 x2 x3 x4 (by decide) (by decide) (fun W w2 U => IsS w2 (fun k => (P k ∧ k < w.heap.size) ∨ W.heap.size ≤ k) ⟨upd n (8 + a) ((objs.getD o []).getD f 0), objs, out, (p : Int) + 1, wrap64 (st + 1)⟩ U) (fun W hW => (num_other W n oA tA hs.length oc out.length tc ((p : Int) + 1) (wrap64 (st + 1)) a b c 10 (f : Int) (by decide) (by decide) (by decide) (by decide)).mono fun e w' h => h) (fun W hW => (ptr_other W n oA tA hs.length oc out.length tc ((p : Int) + 1) (wrap64 (st + 1)) a b c 10 (f : Int) A0 c0 ts la gl A3 c3 code (by decide) (by decide) (by decide) (by decide) (by decide)).mono fun e w' h => h) fun W hW => (mem_loadP W n oA tA hs.length oc out.length tc ((p : Int) + 1) (wrap64 (st + 1)) a b c hs objs rfl (hO.below hW).now o f ho hf hq ha hb).mono (by rintro e w' ⟨rfl, hb⟩; exact ⟨_, rfl, rfl, rfl, ⟨oA, hs, oc, tA, tc, stA_P n a _ _ _ _ _ (by omega), hoc, htc, ((hO.bound.below hW).below hb).mono fun k h => .inl h, ((hTo.bound.below hW).below hb).mono fun k h => .inl h⟩, hb⟩))
set_option maxRecDepth 100000 in
theorem ps_storeI (a b c : Nat) (o f : Nat) (hp : p < code.length) (x0 : (rd_T47 code p).f0 = 9) (x1 : (rd_T47 code p).f1 = (a : Nat)) (x2 : (rd_T47 code p).f2 = (b : Nat)) (x3 : (rd_T47 code p).f3 = (c : Nat)) (x4 : (rd_T47 code p).f4 = (f : Nat)) (ho : o < hs.length) (hf : f < (objs.getD o []).length) (hl1 : hs.length ≤ 1000000) (hl2 : (objs.getD o []).length ≤ 1000000) (hq : n (8 + a) = (o : Int) + 1) (ha : (a : Int) < 8) (hb : (b : Int) < 8) : Calls Tryd.prog 12 #[.agg #[.slice A0 ts.length c0, .string la, .string gl, .slice A3 code.length c3], .agg (stA n (.slice oA hs.length oc) (.slice tA out.length tc) p st)] w fun e w' => ∃ cs', e = .returned (.tuple #[.agg cs', .bool false, .int .i64 0]) ∧ IsS w' (fun k => P k ∨ w.heap.size ≤ k) ⟨n, (objs.set o ((objs.getD o []).set f (n b))), out, (p : Int) + 1, wrap64 (st + 1)⟩ cs' ∧ Below w.heap.size w w' :=
  step_fin (step_mem w n oA tA hs.length oc out.length tc p st A0 c0 ts la gl A3 c3 code hT hc0 hC hc3 kc ck hK htab 9 a b c f hp x0 x1 x2 x3 x4 (by decide) (by decide) (fun W w2 U => IsS w2 (fun k => (P k ∧ k < w.heap.size) ∨ W.heap.size ≤ k) ⟨n, (objs.set o ((objs.getD o []).set f (n b))), out, (p : Int) + 1, wrap64 (st + 1)⟩ U) (fun W hW => (num_other W n oA tA hs.length oc out.length tc ((p : Int) + 1) (wrap64 (st + 1)) a b c 9 (f : Int) (by decide) (by decide) (by decide) (by decide)).mono fun e w' h => h) (fun W hW => (ptr_other W n oA tA hs.length oc out.length tc ((p : Int) + 1) (wrap64 (st + 1)) a b c 9 (f : Int) A0 c0 ts la gl A3 c3 code (by decide) (by decide) (by decide) (by decide) (by decide)).mono fun e w' h => h) fun W hW => (mem_storeI W n oA tA oc out.length tc ((p : Int) + 1) (wrap64 (st + 1)) a b c (fun k => P k ∧ k < w.heap.size) hs objs (hO.bound.below hW) hoc o f ho hf hl1 hl2 hq ha hb).mono (by rintro e w' ⟨A', c', hs', rfl, hc', hq, hb⟩; exact ⟨_, rfl, rfl, rfl, ⟨A', hs', c', tA, tc, rfl, hc', htc, hq, ((hTo.bound.below hW).below hb).mono fun k h => .inl h⟩, hb⟩))
set_option maxRecDepth 100000 in
theorem ps_storeP (a b c : Nat) (o f : Nat) (hp : p < code.length) (x0 : (rd_T47 code p).f0 = 11) (x1 : (rd_T47 code p).f1 = (a : Nat)) (x2 : (rd_T47 code p).f2 = (b : Nat)) (x3 : (rd_T47 code p).f3 = (c : Nat)) (x4 : (rd_T47 code p).f4 = (f : Nat)) (ho : o < hs.length) (hf : f < (objs.getD o []).length) (hl1 : hs.length ≤ 1000000) (hl2 : (objs.getD o []).length ≤ 1000000) (hq : n (8 + a) = (o : Int) + 1) (ha : (a : Int) < 8) (hb : (b : Int) < 8) : Calls Tryd.prog 12 #[.agg #[.slice A0 ts.length c0, .string la, .string gl, .slice A3 code.length c3], .agg (stA n (.slice oA hs.length oc) (.slice tA out.length tc) p st)] w fun e w' => ∃ cs', e = .returned (.tuple #[.agg cs', .bool false, .int .i64 0]) ∧ IsS w' (fun k => P k ∨ w.heap.size ≤ k) ⟨n, (objs.set o ((objs.getD o []).set f (n (8 + b)))), out, (p : Int) + 1, wrap64 (st + 1)⟩ cs' ∧ Below w.heap.size w w' :=
  step_fin (step_mem w n oA tA hs.length oc out.length tc p st A0 c0 ts la gl A3 c3 code hT hc0 hC hc3 kc ck hK htab 11 a b c f hp x0 x1 x2 x3 x4 (by decide) (by decide) (fun W w2 U => IsS w2 (fun k => (P k ∧ k < w.heap.size) ∨ W.heap.size ≤ k) ⟨n, (objs.set o ((objs.getD o []).set f (n (8 + b)))), out, (p : Int) + 1, wrap64 (st + 1)⟩ U) (fun W hW => (num_other W n oA tA hs.length oc out.length tc ((p : Int) + 1) (wrap64 (st + 1)) a b c 11 (f : Int) (by decide) (by decide) (by decide) (by decide)).mono fun e w' h => h) (fun W hW => (ptr_other W n oA tA hs.length oc out.length tc ((p : Int) + 1) (wrap64 (st + 1)) a b c 11 (f : Int) A0 c0 ts la gl A3 c3 code (by decide) (by decide) (by decide) (by decide) (by decide)).mono fun e w' h => h) fun W hW => (mem_storeP W n oA tA oc out.length tc ((p : Int) + 1) (wrap64 (st + 1)) a b c (fun k => P k ∧ k < w.heap.size) hs objs (hO.bound.below hW) hoc o f ho hf hl1 hl2 hq ha hb).mono (by rintro e w' ⟨A', c', hs', rfl, hc', hq, hb⟩; exact ⟨_, rfl, rfl, rfl, ⟨A', hs', c', tA, tc, rfl, hc', htc, hq, ((hTo.bound.below hW).below hb).mono fun k h => .inl h⟩, hb⟩))
set_option maxRecDepth 100000 in
theorem ps_none8 (a b c : Nat) (N : Int) (hp : p < code.length) (x0 : (rd_T47 code p).f0 = 8) (x1 : (rd_T47 code p).f1 = (a : Nat)) (x2 : (rd_T47 code p).f2 = (b : Nat)) (x3 : (rd_T47 code p).f3 = (c : Nat)) (x4 : (rd_T47 code p).f4 = N) (hx : (b : Int) < 8) (hq : n (8 + b) = 0) : Calls Tryd.prog 12 #[.agg #[.slice A0 ts.length c0, .string la, .string gl, .slice A3 code.length c3], .agg (stA n (.slice oA hs.length oc) (.slice tA out.length tc) p st)] w fun e w' => ∃ cs', e = .returned (.tuple #[.agg cs', .bool false, .int .i64 9]) ∧ IsS w' (fun k => P k ∨ w.heap.size ≤ k) ⟨n, objs, out, p, st⟩ cs' ∧ Below w.heap.size w w' := by
  refine (step_err w n oA tA hs.length oc out.length tc p st A0 c0 ts la gl A3 c3 code hT hc0 hC hc3 kc ck hK htab 8 a b c N hp x0 x1 x2 x3 x4 (by decide) (by decide) (fun W hW => (num_other W n oA tA hs.length oc out.length tc ((p : Int) + 1) (wrap64 (st + 1)) a b c 8 N (by decide) (by decide) (by decide) (by decide)).mono fun e w' h => h) (fun W hW => (ptr_other W n oA tA hs.length oc out.length tc ((p : Int) + 1) (wrap64 (st + 1)) a b c 8 N A0 c0 ts la gl A3 c3 code (by decide) (by decide) (by decide) (by decide) (by decide)).mono fun e w' h => h) fun W hW => (mem_none8 W n oA tA hs.length oc out.length tc ((p : Int) + 1) (wrap64 (st + 1)) a b c N hx hq).mono fun e w' h => h).mono ?_
  rintro e w' ⟨rfl, hb⟩
  exact ⟨_, rfl, ⟨oA, hs, oc, tA, tc, rfl, hoc, htc, (hO.below hb).mono fun k h => .inl h, (hTo.below hb).mono fun k h => .inl h⟩, hb⟩
set_option maxRecDepth 100000 in
theorem ps_none10 (a b c : Nat) (N : Int) (hp : p < code.length) (x0 : (rd_T47 code p).f0 = 10) (x1 : (rd_T47 code p).f1 = (a : Nat)) (x2 : (rd_T47 code p).f2 = (b : Nat)) (x3 : (rd_T47 code p).f3 = (c : Nat)) (x4 : (rd_T47 code p).f4 = N) (hx : (b : Int) < 8) (hq : n (8 + b) = 0) : Calls Tryd.prog 12 #[.agg #[.slice A0 ts.length c0, .string la, .string gl, .slice A3 code.length c3], .agg (stA n (.slice oA hs.length oc) (.slice tA out.length tc) p st)] w fun e w' => ∃ cs', e = .returned (.tuple #[.agg cs', .bool false, .int .i64 9]) ∧ IsS w' (fun k => P k ∨ w.heap.size ≤ k) ⟨n, objs, out, p, st⟩ cs' ∧ Below w.heap.size w w' := by
  refine (step_err w n oA tA hs.length oc out.length tc p st A0 c0 ts la gl A3 c3 code hT hc0 hC hc3 kc ck hK htab 10 a b c N hp x0 x1 x2 x3 x4 (by decide) (by decide) (fun W hW => (num_other W n oA tA hs.length oc out.length tc ((p : Int) + 1) (wrap64 (st + 1)) a b c 10 N (by decide) (by decide) (by decide) (by decide)).mono fun e w' h => h) (fun W hW => (ptr_other W n oA tA hs.length oc out.length tc ((p : Int) + 1) (wrap64 (st + 1)) a b c 10 N A0 c0 ts la gl A3 c3 code (by decide) (by decide) (by decide) (by decide) (by decide)).mono fun e w' h => h) fun W hW => (mem_none10 W n oA tA hs.length oc out.length tc ((p : Int) + 1) (wrap64 (st + 1)) a b c N hx hq).mono fun e w' h => h).mono ?_
  rintro e w' ⟨rfl, hb⟩
  exact ⟨_, rfl, ⟨oA, hs, oc, tA, tc, rfl, hoc, htc, (hO.below hb).mono fun k h => .inl h, (hTo.below hb).mono fun k h => .inl h⟩, hb⟩
set_option maxRecDepth 100000 in
theorem ps_none9 (a b c : Nat) (N : Int) (hp : p < code.length) (x0 : (rd_T47 code p).f0 = 9) (x1 : (rd_T47 code p).f1 = (a : Nat)) (x2 : (rd_T47 code p).f2 = (b : Nat)) (x3 : (rd_T47 code p).f3 = (c : Nat)) (x4 : (rd_T47 code p).f4 = N) (hx : (a : Int) < 8) (hq : n (8 + a) = 0) : Calls Tryd.prog 12 #[.agg #[.slice A0 ts.length c0, .string la, .string gl, .slice A3 code.length c3], .agg (stA n (.slice oA hs.length oc) (.slice tA out.length tc) p st)] w fun e w' => ∃ cs', e = .returned (.tuple #[.agg cs', .bool false, .int .i64 9]) ∧ IsS w' (fun k => P k ∨ w.heap.size ≤ k) ⟨n, objs, out, p, st⟩ cs' ∧ Below w.heap.size w w' := by
  refine (step_err w n oA tA hs.length oc out.length tc p st A0 c0 ts la gl A3 c3 code hT hc0 hC hc3 kc ck hK htab 9 a b c N hp x0 x1 x2 x3 x4 (by decide) (by decide) (fun W hW => (num_other W n oA tA hs.length oc out.length tc ((p : Int) + 1) (wrap64 (st + 1)) a b c 9 N (by decide) (by decide) (by decide) (by decide)).mono fun e w' h => h) (fun W hW => (ptr_other W n oA tA hs.length oc out.length tc ((p : Int) + 1) (wrap64 (st + 1)) a b c 9 N A0 c0 ts la gl A3 c3 code (by decide) (by decide) (by decide) (by decide) (by decide)).mono fun e w' h => h) fun W hW => (mem_none9 W n oA tA hs.length oc out.length tc ((p : Int) + 1) (wrap64 (st + 1)) a b c N hx hq).mono fun e w' h => h).mono ?_
  rintro e w' ⟨rfl, hb⟩
  exact ⟨_, rfl, ⟨oA, hs, oc, tA, tc, rfl, hoc, htc, (hO.below hb).mono fun k h => .inl h, (hTo.below hb).mono fun k h => .inl h⟩, hb⟩
set_option maxRecDepth 100000 in
theorem ps_none11 (a b c : Nat) (N : Int) (hp : p < code.length) (x0 : (rd_T47 code p).f0 = 11) (x1 : (rd_T47 code p).f1 = (a : Nat)) (x2 : (rd_T47 code p).f2 = (b : Nat)) (x3 : (rd_T47 code p).f3 = (c : Nat)) (x4 : (rd_T47 code p).f4 = N) (hx : (a : Int) < 8) (hq : n (8 + a) = 0) : Calls Tryd.prog 12 #[.agg #[.slice A0 ts.length c0, .string la, .string gl, .slice A3 code.length c3], .agg (stA n (.slice oA hs.length oc) (.slice tA out.length tc) p st)] w fun e w' => ∃ cs', e = .returned (.tuple #[.agg cs', .bool false, .int .i64 9]) ∧ IsS w' (fun k => P k ∨ w.heap.size ≤ k) ⟨n, objs, out, p, st⟩ cs' ∧ Below w.heap.size w w' := by
  refine (step_err w n oA tA hs.length oc out.length tc p st A0 c0 ts la gl A3 c3 code hT hc0 hC hc3 kc ck hK htab 11 a b c N hp x0 x1 x2 x3 x4 (by decide) (by decide) (fun W hW => (num_other W n oA tA hs.length oc out.length tc ((p : Int) + 1) (wrap64 (st + 1)) a b c 11 N (by decide) (by decide) (by decide) (by decide)).mono fun e w' h => h) (fun W hW => (ptr_other W n oA tA hs.length oc out.length tc ((p : Int) + 1) (wrap64 (st + 1)) a b c 11 N A0 c0 ts la gl A3 c3 code (by decide) (by decide) (by decide) (by decide) (by decide)).mono fun e w' h => h) fun W hW => (mem_none11 W n oA tA hs.length oc out.length tc ((p : Int) + 1) (wrap64 (st + 1)) a b c N hx hq).mono fun e w' h => h).mono ?_
  rintro e w' ⟨rfl, hb⟩
  exact ⟨_, rfl, ⟨oA, hs, oc, tA, tc, rfl, hoc, htc, (hO.below hb).mono fun k h => .inl h, (hTo.below hb).mono fun k h => .inl h⟩, hb⟩
end
end Go.Proofs.YtkplgfhkebkaaaaDoor.ST

/- Texts of this claim, pruned to what it needs and laid together by prune.py. -/
import Derived.Test.YtfkfpcciacplkaaDoorMT22
import Derived.Test.YtfkfpcciacplkaaDoorMT23
import Derived.StillTailTactics
namespace Go.Proofs.YtfkfpcciacplkaaDoor.TRP
open Go.RowKit Go.Proofs.YtfkfpcciacplkaaDoorW.PrintWords Go.Proofs.YtfkfpcciacplkaaDoor.Scan Go.Proofs.YtfkfpcciacplkaaDoor.F Go.Proofs.YtfkfpcciacplkaaDoor.T Go.Proofs.YtfkfpcciacplkaaDoor.TRB Go.Proofs.YtfkfpcciacplkaaDoor.TRL Go.Proofs.YtfkfpcciacplkaaDoor.TRA
set_option linter.unusedVariables false
set_option linter.unusedSimpArgs false
abbrev Rs := S31
abbrev Rr := S27
noncomputable abbrev rdS := rd_T31
noncomputable abbrev rdR := rd_T27
def fin (o : Bool) (e : Int) : Bool := o && (e == 0 || e == 9)
theorem ended_val (l : List Int) (o : Bool) (e s c : Int) : trace_Ended.f l o e s c = some (fin o e) := by
  unfold trace_Ended.f fin
  cases o
  · rfl
  · by_cases h : e = 0
    · subst h
      rfl
    · simp [h]
theorem rended_val (l : List Int) (o : Bool) (e s c : Int) : lockstitchref22_Ended.f l o e s c = some (fin o e) := by
  unfold lockstitchref22_Ended.f fin
  cases o
  · rfl
  · by_cases h : e = 0
    · subst h
      rfl
    · simp [h]
def agB (x y : Rs) : Bool := beg x.f0 y.f0 && (if fin x.f1 x.f2 = true ∧ fin y.f1 y.f2 = true then decide (x.f0.length = y.f0.length ∧ x.f2 = y.f2 ∧ x.f3 = y.f3) else if fin x.f1 x.f2 = true then decide (y.f3 ≤ x.f3 ∧ y.f0.length ≤ x.f0.length) else if fin y.f1 y.f2 = true then decide (x.f3 ≤ y.f3 ∧ x.f0.length ≤ y.f0.length) else true)
theorem beg_symm (a b : List Int) : beg a b = beg b a := by
  unfold beg
  rw [decide_eq_decide]
  exact ⟨Eq.symm, Eq.symm⟩
theorem agB_symm (x y : Rs) : agB x y = agB y x := by
  unfold agB
  rw [beg_symm]
  congr 1
  cases fin x.f1 x.f2 <;> cases fin y.f1 y.f2 <;> simp only [Bool.false_eq_true, false_and, and_false, if_false, and_self, if_true]
  rw [decide_eq_decide]
  exact ⟨fun h => ⟨h.1.symm, h.2.1.symm, h.2.2.symm⟩, fun h => ⟨h.1.symm, h.2.1.symm, h.2.2.symm⟩⟩
theorem agree_one (x y : Rs) (h : fin x.f1 x.f2 = true) : Ev (fun k => trace_agree.f k x.f0 x.f1 x.f2 x.f3 x.f4 y.f0 y.f1 y.f2 y.f3 y.f4) (agB x y) := by
  unfold agB
  cases hb : beg x.f0 y.f0 with
  | false => exact ev_some fun k => by rw [trace_agree.f.eq_2]; simp [trace_Begins.f, hb]
  | true =>
    refine ev_step (f := fun k => trace_agree.j0 k (fin y.f1 y.f2) x.f0 x.f1 x.f2 x.f3 x.f4 y.f0 y.f1 y.f2 y.f3 y.f4) (fun k => by rw [trace_agree.f.eq_2]; simp [trace_Begins.f, hb, ended_val, h]) (ev_some fun k => ?_)
    rw [trace_agree.j0.eq_2]
    cases hy : fin y.f1 y.f2 with
    | true =>
      rw [if_pos rfl, if_pos (⟨h, rfl⟩ : _ ∧ _), Bool.true_and]
      by_cases hh : x.f0.length = y.f0.length ∧ x.f2 = y.f2 ∧ x.f3 = y.f3
      · rw [decide_eq_true hh, if_pos (by omega), if_pos hh.2.1, hh.2.2, beq_self_eq_true]
      · rw [decide_eq_false hh]
        split
        · split
          · rename_i a b
            congr 1
            exact beq_eq_false_iff_ne.2 fun e => hh ⟨by omega, b, e⟩
          · rfl
        · rfl
    | false =>
      by_cases h1 : y.f3 ≤ x.f3 <;> simp [h, h1, ended_val]
theorem agree_ev (x y : Rs) : Ev (fun k => trace_agree.f k x.f0 x.f1 x.f2 x.f3 x.f4 y.f0 y.f1 y.f2 y.f3 y.f4) (agB x y) := by
  cases hx : fin x.f1 x.f2 with
  | true => exact agree_one x y hx
  | false =>
    cases hb : beg x.f0 y.f0 with
    | false =>
      have : agB x y = false := by simp [agB, hb]
      rw [this]
      exact ev_some fun k => by rw [trace_agree.f.eq_2]; simp [trace_Begins.f, hb]
    | true =>
      refine ev_step (f := fun k => trace_agree.j0 k false x.f0 x.f1 x.f2 x.f3 x.f4 y.f0 y.f1 y.f2 y.f3 y.f4) (fun k => by rw [trace_agree.f.eq_2]; simp [trace_Begins.f, hb, ended_val, hx]) ?_
      cases hy : fin y.f1 y.f2 with
      | true =>
        rw [agB_symm]
        refine ev_step (f := fun k => (trace_agree.f k y.f0 y.f1 y.f2 y.f3 y.f4 x.f0 x.f1 x.f2 x.f3 x.f4).bind fun t => some t) (fun k => by rw [trace_agree.j0.eq_2]; simp [ended_val, hx, hy]) (ev_bind (agree_one y x hy) ev_const)
      | false =>
        have : agB x y = true := by simp [agB, hb, hx, hy]
        rw [this]
        exact ev_some fun k => by rw [trace_agree.j0.eq_2]; simp [ended_val, hx, hy]
def Ag (L : List Rs) : Prop := ∀ i j : Nat, i < L.length → j < i → agB (rdS L i) (rdS L j) = true
open Classical in
noncomputable def ag (L : List Rs) : Bool := decide (Ag L)
theorem rd_take (L : List Rs) (i j : Nat) (h : j < i) : rdS (L.take i) j = rdS L j := by
  unfold rdS rd_T31
  rw [Int.toNat_natCast, List.getD_eq_getElem?_getD, List.getD_eq_getElem?_getD, List.getElem?_take, if_pos h]
theorem w1 {i : Int} (h0 : 0 ≤ i) (h : i < 9223372036854775807) : wrap64 (i + 1) = i + 1 := by unfold wrap64; omega
theorem Agree_ev (L : List Rs) (hl : (L.length : Int) ≤ 9223372036854775807) : Ev (fun k => trace_Agree.f k L) (ag L) := by
  classical
  let ok : Int → Prop := fun i => ∀ j : Nat, (j : Int) < i → agB (rdS L i) (rdS L j) = true
  have L1 : ∀ (i : Nat), i < L.length → ∀ q : Bool, ((ok i → Ev (fun k => trace_Agree.l0 k L L L.length (i + 1 : Int)) q) ∧ (¬ ok i → q = false)) → Ev (fun k => trace_Agree.l1 k L L L.length i (L.take i) i 0 (rdS L i).f0 (rdS L i).f1 (rdS L i).f2 (rdS L i).f3 (rdS L i).f4) q := by
    intro i hi q hq
    have S1 : ∀ j q, 0 ≤ j → j < (i : Int) → agB (rdS L i) (rdS L j) = true → Ev (fun k => trace_Agree.l1 k L L L.length i (L.take i) i (j + 1) (rdS L i).f0 (rdS L i).f1 (rdS L i).f2 (rdS L i).f3 (rdS L i).f4) q → Ev (fun k => trace_Agree.l1 k L L L.length i (L.take i) i j (rdS L i).f0 (rdS L i).f1 (rdS L i).f2 (rdS L i).f3 (rdS L i).f4) q := by
      intro j q j0 j1 h he
      obtain ⟨n, rfl⟩ := Int.eq_ofNat_of_zero_le j0
      have hln : (L.take i).length = i := by rw [List.length_take]; omega
      refine ev_step (f := fun k => (trace_agree.f k (rdS L i).f0 (rdS L i).f1 (rdS L i).f2 (rdS L i).f3 (rdS L i).f4 (rdS (L.take i) n).f0 (rdS (L.take i) n).f1 (rdS (L.take i) n).f2 (rdS (L.take i) n).f3 (rdS (L.take i) n).f4).bind fun t => if t = true then trace_Agree.l1 k L L L.length i (L.take i) i (n + 1) (rdS L i).f0 (rdS L i).f1 (rdS L i).f2 (rdS L i).f3 (rdS L i).f4 else some false) (fun k => ?_) (ev_bind (agree_ev (rdS L i) (rdS (L.take i) n)) ?_)
      · show trace_Agree.l1 (k + 1) _ _ _ _ _ _ _ _ _ _ _ _ = _
        rw [trace_Agree.l1.eq_2, if_pos j1, if_pos j0, if_pos (by rw [hln]; exact j1), w1 j0 (by omega)]
      · rw [rd_take L i n (by omega), h]
        exact Ev.congr (fun k => if_pos rfl) he
    have S2 : ∀ j, 0 ≤ j → j < (i : Int) → ¬ agB (rdS L i) (rdS L j) = true → Ev (fun k => trace_Agree.l1 k L L L.length i (L.take i) i j (rdS L i).f0 (rdS L i).f1 (rdS L i).f2 (rdS L i).f3 (rdS L i).f4) false := by
      intro j j0 j1 h
      obtain ⟨n, rfl⟩ := Int.eq_ofNat_of_zero_le j0
      have hln : (L.take i).length = i := by rw [List.length_take]; omega
      refine ev_step (f := fun k => (trace_agree.f k (rdS L i).f0 (rdS L i).f1 (rdS L i).f2 (rdS L i).f3 (rdS L i).f4 (rdS (L.take i) n).f0 (rdS (L.take i) n).f1 (rdS (L.take i) n).f2 (rdS (L.take i) n).f3 (rdS (L.take i) n).f4).bind fun t => if t = true then trace_Agree.l1 k L L L.length i (L.take i) i (n + 1) (rdS L i).f0 (rdS L i).f1 (rdS L i).f2 (rdS L i).f3 (rdS L i).f4 else some false) (fun k => ?_) (ev_bind (agree_ev (rdS L i) (rdS (L.take i) n)) ?_)
      · show trace_Agree.l1 (k + 1) _ _ _ _ _ _ _ _ _ _ _ _ = _
        rw [trace_Agree.l1.eq_2, if_pos j1, if_pos j0, if_pos (by rw [hln]; exact j1), w1 j0 (by omega)]
      · rw [rd_take L i n (by omega)]
        exact Ev.congr (fun k => if_neg h) ev_const
    by_cases hk : ok i
    · refine scan0_good (fun k j => trace_Agree.l1 k L L L.length i (L.take i) i j (rdS L i).f0 (rdS L i).f1 (rdS L i).f2 (rdS L i).f3 (rdS L i).f4) i q (fun j => agB (rdS L i) (rdS L j) = true) (by omega) S1 (ev_step (fun k => ?_) (hq.1 hk)) (fun j j0 j1 => ?_)
      · show trace_Agree.l1 (k + 1) _ _ _ _ _ _ _ _ _ _ _ _ = _
        rw [trace_Agree.l1.eq_2, if_neg (by omega), w1 (by omega) (by omega)]
      · obtain ⟨n, rfl⟩ := Int.eq_ofNat_of_zero_le j0
        exact hk n j1
    · rw [hq.2 hk]
      refine scan0_bad (fun k j => trace_Agree.l1 k L L L.length i (L.take i) i j (rdS L i).f0 (rdS L i).f1 (rdS L i).f2 (rdS L i).f3 (rdS L i).f4) i false (fun j => agB (rdS L i) (rdS L j) = true) (by omega) S1 S2 (fun h => hk fun j hj => h j (by omega) hj)
  have L0 : ∀ i : Nat, i < L.length → ∀ q, Ev (fun k => trace_Agree.l1 k L L L.length i (L.take i) i 0 (rdS L i).f0 (rdS L i).f1 (rdS L i).f2 (rdS L i).f3 (rdS L i).f4) q → Ev (fun k => trace_Agree.l0 k L L L.length i) q := by
    intro i hi q he
    refine ev_step (fun k => ?_) he
    have hln : (L.take i).length = i := by rw [List.length_take]; omega
    show trace_Agree.l0 (k + 1) _ _ _ _ = _
    rw [trace_Agree.l0.eq_2, if_pos (by omega), if_pos (by omega), if_pos (by omega), if_pos (by omega), Option.bind_some, Int.toNat_natCast, hln]
  have H1 : ∀ i q, 0 ≤ i → i < (L.length : Int) → ok i → Ev (fun k => trace_Agree.l0 k L L L.length (i + 1)) q → Ev (fun k => trace_Agree.l0 k L L L.length i) q := by
    intro i q i0 i1 hk he
    obtain ⟨n, rfl⟩ := Int.eq_ofNat_of_zero_le i0
    exact L0 n (by omega) q (L1 n (by omega) q ⟨fun _ => he, fun h => absurd hk h⟩)
  have H2 : ∀ i, 0 ≤ i → i < (L.length : Int) → ¬ ok i → Ev (fun k => trace_Agree.l0 k L L L.length i) false := by
    intro i i0 i1 hk
    obtain ⟨n, rfl⟩ := Int.eq_ofNat_of_zero_le i0
    exact L0 n (by omega) false (L1 n (by omega) false ⟨fun h => absurd h hk, fun _ => rfl⟩)
  by_cases h : Ag L
  · rw [show ag L = true from decide_eq_true h]
    refine scan0_good (fun k i => trace_Agree.l0 k L L L.length i) L.length true ok (by omega) H1 (ev_some fun k => ?_) (fun i i0 i1 j hj => ?_)
    · rw [trace_Agree.l0.eq_2, if_neg (by omega)]
    · obtain ⟨n, rfl⟩ := Int.eq_ofNat_of_zero_le i0
      exact h n j (by omega) (by omega)
  · rw [show ag L = false from decide_eq_false h]
    refine scan0_bad (fun k i => trace_Agree.l0 k L L L.length i) L.length false ok (by omega) H1 H2 (fun hh => h fun i j hi hj => hh i (by omega) (by omega) j (by omega))
theorem Agree_c (w : World) (A0 : Option Addr) (c0 : Nat) (L : List Rs) (h0 : Kd.C k31 w A0 L.length L) (hc0 : L.length ≤ c0) :
    Calls Tryd.prog 17 #[.slice A0 L.length c0] w fun e w' => e = .returned (.bool (ag L)) ∧ Below w.heap.size w w' := by
  obtain ⟨k, hk⟩ := ev_at (Agree_ev L (by have := Kd.C_max h0; omega))
  exact trace_Agree.calls k A0 c0 L _ w h0 hc0 hk
end Go.Proofs.YtfkfpcciacplkaaDoor.TRP

namespace Go.Proofs.YtfkfpcciacplkaaDoor.TRP
open Go.RowKit Go.Proofs.YtfkfpcciacplkaaDoorW.PrintWords Go.Proofs.YtfkfpcciacplkaaDoor.Scan Go.Proofs.YtfkfpcciacplkaaDoor.F Go.Proofs.YtfkfpcciacplkaaDoor.T Go.Proofs.YtfkfpcciacplkaaDoor.TRB Go.Proofs.YtfkfpcciacplkaaDoor.TRL Go.Proofs.YtfkfpcciacplkaaDoor.TRA
set_option linter.unusedVariables false
set_option linter.unusedSimpArgs false
theorem beg_cons (x y : Int) (a b : List Int) : beg (x :: a) (y :: b) = (decide (x = y) && beg a b) := by
  unfold beg
  rw [← Bool.decide_and, decide_eq_decide]
  simp
theorem beg_nil (a : List Int) : beg a [] = true ∧ beg [] a = true := by simp [beg]
theorem rbeg_l0 (a b : List Int) (ha : (a.length : Int) ≤ 9223372036854775807) : ∀ d i : Nat, a.length ≤ i + d → Ev (fun k => lockstitchref22_Begins.l0 k a b i) (beg (a.drop i) (b.drop i)) := by
  intro d
  induction d with
  | zero =>
    intro i hi
    rw [List.drop_of_length_le (by omega : a.length ≤ i), (beg_nil _).2]
    refine ev_step (f := fun k => lockstitchref22_Begins.j1 k a b i false) (fun k => ?_) (ev_some fun k => ?_)
    · show lockstitchref22_Begins.l0 (k + 1) _ _ _ = _
      rw [lockstitchref22_Begins.l0.eq_2, if_neg (by omega)]
    · rw [lockstitchref22_Begins.j1.eq_2, if_neg (by decide)]
  | succ d ih =>
    intro i hi
    by_cases h1 : i < a.length
    · refine ev_step (f := fun k => lockstitchref22_Begins.j1 k a b i (decide ((i : Int) < b.length))) (fun k => ?_) ?_
      · show lockstitchref22_Begins.l0 (k + 1) _ _ _ = _
        rw [lockstitchref22_Begins.l0.eq_2, if_pos (by omega)]
      · by_cases h2 : i < b.length
        · have e1 := rd_nat a i h1
          have e2 := rd_nat b i h2
          rw [List.drop_eq_getElem_cons h1, List.drop_eq_getElem_cons h2, beg_cons, ← e1, ← e2]
          by_cases h : rd a i = rd b i
          · rw [decide_eq_true h, Bool.true_and]
            refine ev_step (fun k => ?_) (ih (i + 1) (by omega))
            show lockstitchref22_Begins.j1 (k + 1) _ _ _ _ = lockstitchref22_Begins.l0 k a b ((i + 1 : Nat) : Int)
            rw [lockstitchref22_Begins.j1.eq_2, if_pos (decide_eq_true (by omega)), if_pos (by omega), if_pos (by omega), if_pos (by omega), if_pos h, w1 (by omega) (by omega)]
            rfl
          · rw [decide_eq_false h, Bool.false_and]
            refine ev_some fun k => ?_
            rw [lockstitchref22_Begins.j1.eq_2, if_pos (decide_eq_true (by omega)), if_pos (by omega), if_pos (by omega), if_pos (by omega), if_neg h]
        · rw [List.drop_of_length_le (by omega : b.length ≤ i), (beg_nil _).1]
          refine ev_some fun k => ?_
          rw [lockstitchref22_Begins.j1.eq_2, if_neg (by simp; omega)]
    · rw [List.drop_of_length_le (by omega : a.length ≤ i), (beg_nil _).2]
      refine ev_step (f := fun k => lockstitchref22_Begins.j1 k a b i false) (fun k => ?_) (ev_some fun k => ?_)
      · show lockstitchref22_Begins.l0 (k + 1) _ _ _ = _
        rw [lockstitchref22_Begins.l0.eq_2, if_neg (by omega)]
      · rw [lockstitchref22_Begins.j1.eq_2, if_neg (by decide)]
theorem rbeg_ev (a b : List Int) (ha : (a.length : Int) ≤ 9223372036854775807) : Ev (fun k => lockstitchref22_Begins.f k a b) (beg a b) := rbeg_l0 a b ha a.length 0 (by omega)
def twB (x y : Rs) : Bool := beg x.f0 y.f0 && (if fin x.f1 x.f2 = true then (if x.f3 < y.f3 ∨ x.f0.length < y.f0.length then false else if fin y.f1 y.f2 = true then decide (x.f2 = y.f2 ∧ x.f3 = y.f3 ∧ x.f0.length = y.f0.length) else true) else true)
theorem two_both (x y : Rs) : agB x y = (twB x y && twB y x) := by
  unfold agB twB
  rw [beg_symm y.f0 x.f0]
  cases beg x.f0 y.f0
  · rfl
  simp only [Bool.true_and]
  cases fin x.f1 x.f2 <;> cases fin y.f1 y.f2 <;> simp only [Bool.false_eq_true, false_and, and_false, if_false, and_self, if_true, Bool.and_true, Bool.true_and]
  · split <;> simp <;> omega
  · split <;> simp <;> omega
  · rw [Bool.eq_iff_iff, Bool.and_eq_true]
    split <;> split <;> simp <;> omega
theorem two_ev (x y : Rr) (hx : (x.f0.length : Int) ≤ 9223372036854775807) : Ev (fun k => lockstitchref22_two.f k x.f0 x.f1 x.f2 x.f3 x.f4 y.f0 y.f1 y.f2 y.f3 y.f4) (twB (th x) (th y)) := by
  unfold twB th
  refine ev_bind (rbeg_ev x.f0 y.f0 hx) ?_
  cases hb : beg x.f0 y.f0 with
  | false => exact Ev.congr (fun k => if_neg (by decide)) ev_const
  | true =>
    refine Ev.congr (fun k => if_pos rfl) ?_
    simp only [rended_val, Option.bind_some, Bool.true_and]
    cases hf : fin x.f1 x.f2 with
    | false =>
      refine Ev.congr (fun k => if_neg (by decide)) (ev_some fun k => ?_)
      rw [lockstitchref22_two.j0.eq_2, if_neg (by decide)]
      simp [rended_val, hf]
    | true =>
      refine Ev.congr (fun k => if_pos rfl) ?_
      by_cases h1 : x.f3 < y.f3
      · refine Ev.congr (fun k => if_pos h1) (ev_some fun k => ?_)
        rw [lockstitchref22_two.j0.eq_2, if_pos rfl]
        simp [h1]
      · refine Ev.congr (fun k => if_neg h1) (ev_some fun k => ?_)
        rw [lockstitchref22_two.j0.eq_2]
        by_cases h2 : x.f0.length < y.f0.length
        · rw [if_pos (decide_eq_true (by omega))]
          simp [h2]
        · rw [if_neg (by simp; omega)]
          have hc : ¬ (x.f3 < y.f3 ∨ x.f0.length < y.f0.length) := by omega
          simp only [rended_val, hf, Option.bind_some, if_true]
          rw [if_neg hc]
          cases fin y.f1 y.f2 with
          | false => rfl
          | true =>
            simp only [if_true]
            by_cases a : x.f2 = y.f2 <;> by_cases b : x.f3 = y.f3 <;> by_cases c : (x.f0.length : Int) = (y.f0.length : Int)
            all_goals
              have c' := c
              rw [Int.natCast_inj] at c'
              simp [a, b, c, c']
theorem rdR_th (L : List Rr) (i : Nat) (hi : i < L.length) : rdS (L.map th) i = th (rdR L i) := by
  unfold rdS rd_T31 rdR rd_T27
  rw [Int.toNat_natCast, List.getD_eq_getElem?_getD, List.getD_eq_getElem?_getD, List.getElem?_map, List.getElem?_eq_getElem hi]
  rfl
theorem rAgree_ev (L : List Rr) (hl : (L.length : Int) ≤ 9223372036854775807) (hs : ∀ i : Nat, ((rdR L i).f0.length : Int) ≤ 9223372036854775807) : Ev (fun k => lockstitchref22_Agree.f k L) (ag (L.map th)) := by
  classical
  let ok : Int → Int → Prop := fun i j => i ≠ j → twB (th (rdR L i)) (th (rdR L j)) = true
  have T1 : ∀ (i j : Nat), i < L.length → j < L.length → ∀ q : Bool, ((ok i j → Ev (fun k => lockstitchref22_Agree.l1 k L i (j + 1)) q) ∧ (¬ ok i j → q = false)) → Ev (fun k => lockstitchref22_Agree.l1 k L i j) q := by
    intro i j hi hj q hq
    by_cases hij : (i : Int) = (j : Int)
    · refine ev_step (fun k => ?_) (hq.1 fun h => absurd hij h)
      show lockstitchref22_Agree.l1 (k + 1) _ _ _ = _
      rw [lockstitchref22_Agree.l1.eq_2, if_pos (by omega), if_pos hij, w1 (by omega) (by omega)]
    · refine ev_step (f := fun k => (lockstitchref22_two.f k (rdR L i).f0 (rdR L i).f1 (rdR L i).f2 (rdR L i).f3 (rdR L i).f4 (rdR L j).f0 (rdR L j).f1 (rdR L j).f2 (rdR L j).f3 (rdR L j).f4).bind fun t => if t = true then lockstitchref22_Agree.l1 k L i (j + 1) else some false) (fun k => ?_) (ev_bind (two_ev (rdR L i) (rdR L j) (hs i)) ?_)
      · show lockstitchref22_Agree.l1 (k + 1) _ _ _ = _
        rw [lockstitchref22_Agree.l1.eq_2, if_pos (by omega), if_neg hij, if_pos (by omega), if_pos (by omega), if_pos (by omega), w1 (by omega) (by omega)]
      · by_cases ht : twB (th (rdR L i)) (th (rdR L j)) = true
        · exact Ev.congr (fun k => if_pos ht) (hq.1 fun _ => ht)
        · rw [hq.2 fun h => ht (h hij)]
          exact Ev.congr (fun k => if_neg ht) ev_const
  have S1 : ∀ i : Nat, i < L.length → ∀ j q, 0 ≤ j → j < (L.length : Int) → ok i j → Ev (fun k => lockstitchref22_Agree.l1 k L i (j + 1)) q → Ev (fun k => lockstitchref22_Agree.l1 k L i j) q := by
    intro i hi j q j0 j1 hk he
    obtain ⟨n, rfl⟩ := Int.eq_ofNat_of_zero_le j0
    exact T1 i n hi (by omega) q ⟨fun _ => he, fun h => absurd hk h⟩
  have S2 : ∀ i : Nat, i < L.length → ∀ j, 0 ≤ j → j < (L.length : Int) → ¬ ok i j → Ev (fun k => lockstitchref22_Agree.l1 k L i j) false := by
    intro i hi j j0 j1 hk
    obtain ⟨n, rfl⟩ := Int.eq_ofNat_of_zero_le j0
    exact T1 i n hi (by omega) false ⟨fun h => absurd h hk, fun _ => rfl⟩
  have L0 : ∀ i : Nat, i < L.length → ∀ q, Ev (fun k => lockstitchref22_Agree.l1 k L i 0) q → Ev (fun k => lockstitchref22_Agree.l0 k L i) q := by
    intro i hi q he
    refine ev_step (fun k => ?_) he
    show lockstitchref22_Agree.l0 (k + 1) _ _ = _
    rw [lockstitchref22_Agree.l0.eq_2, if_pos (by omega)]
  have H1 : ∀ i q, 0 ≤ i → i < (L.length : Int) → (∀ j, 0 ≤ j → j < (L.length : Int) → ok i j) → Ev (fun k => lockstitchref22_Agree.l0 k L (i + 1)) q → Ev (fun k => lockstitchref22_Agree.l0 k L i) q := by
    intro i q i0 i1 hk he
    obtain ⟨n, rfl⟩ := Int.eq_ofNat_of_zero_le i0
    refine L0 n (by omega) q (scan0_good (fun k j => lockstitchref22_Agree.l1 k L n j) L.length q (ok n) (by omega) (S1 n (by omega)) (ev_step (fun k => ?_) he) hk)
    show lockstitchref22_Agree.l1 (k + 1) _ _ _ = _
    rw [lockstitchref22_Agree.l1.eq_2, if_neg (by omega), w1 (by omega) (by omega)]
  have H2 : ∀ i, 0 ≤ i → i < (L.length : Int) → ¬ (∀ j, 0 ≤ j → j < (L.length : Int) → ok i j) → Ev (fun k => lockstitchref22_Agree.l0 k L i) false := by
    intro i i0 i1 hk
    obtain ⟨n, rfl⟩ := Int.eq_ofNat_of_zero_le i0
    exact L0 n (by omega) false (scan0_bad (fun k j => lockstitchref22_Agree.l1 k L n j) L.length false (ok n) (by omega) (S1 n (by omega)) (S2 n (by omega)) hk)
  have hn : (L.map th).length = L.length := List.length_map _
  by_cases h : Ag (L.map th)
  · rw [show ag (L.map th) = true from decide_eq_true h]
    refine scan0_good (fun k i => lockstitchref22_Agree.l0 k L i) L.length true _ (by omega) H1 (ev_some fun k => ?_) (fun i i0 i1 j j0 j1 hij => ?_)
    · rw [lockstitchref22_Agree.l0.eq_2, if_neg (by omega)]
    · obtain ⟨n, rfl⟩ := Int.eq_ofNat_of_zero_le i0
      obtain ⟨m, rfl⟩ := Int.eq_ofNat_of_zero_le j0
      rcases Nat.lt_or_gt_of_ne (show n ≠ m by omega) with hlt | hlt
      · have := h m n (by omega) hlt
        rw [rdR_th L m (by omega), rdR_th L n (by omega), two_both, Bool.and_eq_true] at this
        exact this.2
      · have := h n m (by omega) hlt
        rw [rdR_th L m (by omega), rdR_th L n (by omega), two_both, Bool.and_eq_true] at this
        exact this.1
  · rw [show ag (L.map th) = false from decide_eq_false h]
    refine scan0_bad (fun k i => lockstitchref22_Agree.l0 k L i) L.length false _ (by omega) H1 H2 (fun hh => h fun i j hi hj => ?_)
    rw [hn] at hi
    rw [rdR_th L i hi, rdR_th L j (by omega), two_both, Bool.and_eq_true]
    exact ⟨hh i (by omega) (by omega) j (by omega) (by omega) (by omega), hh j (by omega) (by omega) i (by omega) (by omega) (by omega)⟩
theorem rLong_ev (L : List Rr) (hl : (L.length : Int) ≤ 9223372036854775807) : Ev (fun k => lockstitchref22_Longest.f k L) (lng (L.map th) L.length) := by
  have H : ∀ d i : Nat, i + d = L.length → Ev (fun k => lockstitchref22_Longest.l0 k L (lng (L.map th) i) i) (lng (L.map th) L.length) := by
    intro d
    induction d with
    | zero =>
      intro i hi
      obtain rfl : i = L.length := by omega
      refine ev_some fun k => ?_
      rw [lockstitchref22_Longest.l0, if_neg (by omega)]
    | succ d ih =>
      intro i hi
      have hb := lng_lt (L.map th) i
      refine ev_step (fun k => ?_) (ih (i + 1) (by omega))
      show lockstitchref22_Longest.l0 (k + 1) _ _ _ = lockstitchref22_Longest.l0 k L (lng (L.map th) (i + 1)) ((i + 1 : Nat) : Int)
      have e1 := rdR_th L i (by omega)
      rw [lockstitchref22_Longest.l0, if_pos (by omega), w1 (by omega) (by omega)]
      rw [show lng (L.map th) (i + 1) = if lng (L.map th) i < 0 ∨ (rd_T31 (L.map th) i).f3 > (rd_T31 (L.map th) (lng (L.map th) i)).f3 then (i : Int) else lng (L.map th) i from rfl]
      by_cases h : lng (L.map th) i < 0
      · rw [if_pos h, if_pos (.inl h)]
        rfl
      · obtain ⟨n, hn⟩ := Int.eq_ofNat_of_zero_le (show 0 ≤ lng (L.map th) i by omega)
        rw [hn] at h hb ⊢
        have e2 := rdR_th L n (by omega)
        have f1 : (rd_T31 (L.map th) i).f3 = (rdR L i).f3 := by
          have : (rdS (L.map th) i).f3 = (th (rdR L i)).f3 := by rw [e1]
          exact this
        have f2 : (rd_T31 (L.map th) n).f3 = (rdR L n).f3 := by
          have : (rdS (L.map th) n).f3 = (th (rdR L n)).f3 := by rw [e2]
          exact this
        rw [f1, f2, if_neg h, if_pos (by omega), if_pos (by omega), if_pos (by omega)]
        by_cases hg : (rdR L i).f3 > (rdR L n).f3
        · rw [if_pos hg, if_pos (.inr hg)]
          rfl
        · rw [if_neg hg, if_neg (by rintro (a | a); exact h a; exact hg a)]
          rfl
  exact H L.length 0 (by omega)
def Few22 (L : List Rr) : Prop := (∀ i : Int, 0 ≤ i → i < L.length → ((rdR L i).f0.length : Int) ≤ 60) ∧ L.length ≤ 8
open Classical in
theorem few22_ev (L : List Rr) (hl : (L.length : Int) ≤ 9223372036854775807) : Ev (fun k => lockstitchlaw22_few.f k L) (decide (Few22 L)) := by
  have H1 : ∀ i q, 0 ≤ i → i < (L.length : Int) → ((rdR L i).f0.length : Int) ≤ 60 → Ev (fun k => lockstitchlaw22_few.l0 k L L L.length (i + 1)) q → Ev (fun k => lockstitchlaw22_few.l0 k L L L.length i) q := by
    intro i q i0 i1 h he
    refine ev_step (fun k => ?_) he
    show lockstitchlaw22_few.l0 (k + 1) _ _ _ _ = _
    rw [lockstitchlaw22_few.l0, if_pos i1, if_pos i0, if_pos i1, if_neg (by show ¬ ((rdR L i).f0.length : Int) > 60; omega), w1 i0 (by omega)]
  have H2 : ∀ i, 0 ≤ i → i < (L.length : Int) → ¬ ((rdR L i).f0.length : Int) ≤ 60 → Ev (fun k => lockstitchlaw22_few.l0 k L L L.length i) false := by
    intro i i0 i1 h
    refine ev_some fun k => ?_
    rw [lockstitchlaw22_few.l0, if_pos i1, if_pos i0, if_pos i1, if_pos (by show ((rdR L i).f0.length : Int) > 60; omega)]
  by_cases h : ∀ i : Int, 0 ≤ i → i < L.length → ((rdR L i).f0.length : Int) ≤ 60
  · rw [show decide (Few22 L) = decide ((L.length : Int) ≤ 8) by rw [decide_eq_decide]; exact ⟨fun q => by have := q.2; omega, fun q => ⟨h, by omega⟩⟩]
    refine scan0_good (fun k i => lockstitchlaw22_few.l0 k L L L.length i) L.length _ _ (by omega) H1 (ev_some fun k => ?_) h
    rw [lockstitchlaw22_few.l0, if_neg (by omega)]
  · rw [decide_eq_false (fun q : Few22 L => h q.1)]
    exact scan0_bad (fun k i => lockstitchlaw22_few.l0 k L L L.length i) L.length false _ (by omega) H1 H2 h
end Go.Proofs.YtfkfpcciacplkaaDoor.TRP

namespace Go.Proofs.YtfkfpcciacplkaaDoor.TRC
open Go.RowKit Go.Proofs.YtfkfpcciacplkaaDoorW.PrintWords Go.Proofs.YtfkfpcciacplkaaDoor.Scan Go.Proofs.YtfkfpcciacplkaaDoor.F Go.Proofs.YtfkfpcciacplkaaDoor.T Go.Proofs.YtfkfpcciacplkaaDoor.ST0 Go.Proofs.YtfkfpcciacplkaaDoor.TRB Go.Proofs.YtfkfpcciacplkaaDoor.TRL Go.Proofs.YtfkfpcciacplkaaDoor.TRA Go.Proofs.YtfkfpcciacplkaaDoor.TRP
set_option linter.unusedVariables false
set_option linter.unusedSimpArgs false
set_option linter.unusedSectionVars false
theorem C_row {α : Type} (d : Kd α) {W : World} {g : Nat} {t : TypeId} {inner : List Value} {ps : List α} (hg : W.heap[g]? = some (.cells inner.toArray t (0, 0))) (hr : Reps (d.K W) d.sz ps inner) (hm : ps.length ≤ 9223372036854775807) : d.C W (some ⟨g, 0, none⟩) ps.length ps := by
  refine ⟨rfl, hm, fun _ => ⟨⟨g, 0, none⟩, rfl, fun j p hj => ⟨(inner.drop (j * d.sz)).take d.sz, ?_, hr.2 j p hj, fun i u hu => ?_⟩⟩⟩
  · have hl := (List.getElem?_eq_some_iff.1 hj).1
    have : j * d.sz + d.sz ≤ ps.length * d.sz := by rw [← Nat.succ_mul]; exact Nat.mul_le_mul_right _ hl
    rw [List.length_take, List.length_drop, hr.1]
    omega
  · have e : (⟨g, 0, none⟩ : Addr).add (j * d.sz + i) = ⟨g, j * d.sz + i, none⟩ := by
      unfold Addr.add
      split
      · rename_i h
        rw [h]
      · simp
    rw [List.getElem?_take] at hu
    split at hu
    · rw [List.getElem?_drop] at hu
      rw [e, cell_of_row _ _ _ _ _ _ hg]
      simpa using hu
    · cases hu
theorem C_ints {k : IntKind} {W : World} {g : Nat} {t : TypeId} (l : List Int) (hm : l.length ≤ 9223372036854775807) (hg : W.heap[g]? = some (.cells (encs (Value.int k) l).toArray t (0, 0))) : Kd.C (Kd.int k) W (some ⟨g, 0, none⟩) l.length l := C_row (Kd.int k) hg (Kd.reps_scalar l) hm
def ra : Rs := ⟨[1], false, 0, 3, 0⟩
def rb : Rs := ⟨[1, 2], true, 0, 5, 0⟩
def rc : Rs := ⟨[2], false, 0, 3, 0⟩
theorem ag2_ : Ag [ra, rb] := by
  intro i j hi hj
  obtain ⟨rfl, rfl⟩ : i = 1 ∧ j = 0 := by have : [ra, rb].length = 2 := rfl; omega
  show agB rb ra = true
  decide
theorem ag3_ : ¬ Ag [ra, rb, rc] := by
  intro hh
  have := hh 2 0 (by decide) (by decide)
  have : agB rc ra = true := this
  exact absurd this (by decide)
section
variable (W : World) (g h i : Nat) (t : TypeId) (hg : W.heap[g]? = some (.cells #[.int .i64 1] t (0, 0))) (hh : W.heap[h]? = some (.cells #[.int .i64 1, .int .i64 2] t (0, 0))) (hi : W.heap[i]? = some (.cells #[.int .i64 2] t (0, 0)))
include hg hh
abbrev cA (g : Nat) : List Value := [.slice (some ⟨g, 0, none⟩) 1 1, .bool false, .int .i64 0, .int .i64 3, .int .i64 0]
abbrev cB (g : Nat) : List Value := [.slice (some ⟨g, 0, none⟩) 2 2, .bool true, .int .i64 0, .int .i64 5, .int .i64 0]
theorem KA : k31.K W ra (cA g) := k31_mk W ra (Nat.le_refl _) (C_ints [1] (by decide) hg)
theorem KB : k31.K W rb (cB h) := k31_mk W rb (Nat.le_refl _) (C_ints [1, 2] (by decide) hh)
theorem reps2 (R : Rs → List Value → Prop) (x y : Rs) (cx cy : List Value) (hx : R x cx) (hy : R y cy) (lx : cx.length = 5) (ly : cy.length = 5) : Reps R 5 [x, y] (cx ++ cy) := ((Reps.none R 5).snoc hx lx).snoc hy ly
theorem row2 (A : World) (hA : A = W.alloc (.cells (cA g ++ cB h).toArray 31)) : Kd.C k31 A (some ⟨W.heap.size, 0, none⟩) 2 [ra, rb] := by
  subst hA
  have hb : Below W.heap.size W (W.alloc (.cells (cA g ++ cB h).toArray 31)) := below_alloc (Below.refl _ _) _
  exact C_row k31 (heap_alloc_new W _) (reps2 W g h t hg hh _ ra rb _ _ (KA _ g h t ((hb.block g (blk_lt hg)).trans hg) ((hb.block h (blk_lt hh)).trans hh)) (KB _ g h t ((hb.block g (blk_lt hg)).trans hg) ((hb.block h (blk_lt hh)).trans hh)) rfl rfl) (by decide)
theorem ag2_c : Calls Tryd.prog 17 #[.slice (some ⟨W.heap.size, 0, none⟩) 2 2] (W.alloc (.cells #[.slice (some ⟨g, 0, none⟩) 1 1, .bool false, .int .i64 0, .int .i64 3, .int .i64 0, .slice (some ⟨h, 0, none⟩) 2 2, .bool true, .int .i64 0, .int .i64 5, .int .i64 0] 31)) fun e w' => e = .returned (.bool true) ∧ Below W.heap.size W w' := by
  refine (Agree_c _ _ 2 [ra, rb] (row2 W g h t hg hh _ rfl) (Nat.le_refl _)).mono fun e w' q => ⟨?_, below_step (below_alloc (Below.refl _ _) _) q.2⟩
  rw [q.1, show ag [ra, rb] = true from by classical exact decide_eq_true (ag2_)]
theorem lng2_c : Calls Tryd.prog 22 #[.slice (some ⟨W.heap.size, 0, none⟩) 2 2] (W.alloc (.cells #[.slice (some ⟨g, 0, none⟩) 1 1, .bool false, .int .i64 0, .int .i64 3, .int .i64 0, .slice (some ⟨h, 0, none⟩) 2 2, .bool true, .int .i64 0, .int .i64 5, .int .i64 0] 31)) fun e w' => e = .returned (.int .i64 1) ∧ Below W.heap.size W w' := by
  refine (longest_c _ _ 2 [ra, rb] (row2 W g h t hg hh _ rfl) (Nat.le_refl _)).mono fun e w' q => ⟨?_, below_step (below_alloc (Below.refl _ _) _) q.2⟩
  have h1 : lng [ra, rb] 1 = 0 := if_pos (.inl (by decide))
  have h2 : lng [ra, rb] 2 = 1 := if_pos (.inr (by rw [h1]; show (5 : Int) > 3; decide))
  rw [q.1]
  show Ending.returned (.int .i64 (lng [ra, rb] 2)) = _
  rw [h2]
include hi
theorem ag3_c : Calls Tryd.prog 17 #[.slice (some ⟨W.heap.size, 0, none⟩) 3 3] (W.alloc (.cells #[.slice (some ⟨g, 0, none⟩) 1 1, .bool false, .int .i64 0, .int .i64 3, .int .i64 0, .slice (some ⟨h, 0, none⟩) 2 2, .bool true, .int .i64 0, .int .i64 5, .int .i64 0, .slice (some ⟨i, 0, none⟩) 1 1, .bool false, .int .i64 0, .int .i64 3, .int .i64 0] 31)) fun e w' => e = .returned (.bool false) ∧ Below W.heap.size W w' := by
  have hb : Below W.heap.size W (W.alloc (.cells (cA g ++ cB h ++ cA i).toArray 31)) := below_alloc (Below.refl _ _) _
  have g' := (hb.block g (blk_lt hg)).trans hg
  have h' := (hb.block h (blk_lt hh)).trans hh
  have i' := (hb.block i (blk_lt hi)).trans hi
  have kc : k31.K (W.alloc (.cells (cA g ++ cB h ++ cA i).toArray 31)) rc (cA i) := k31_mk _ rc (Nat.le_refl _) (C_ints [2] (by decide) i')
  have hC : Kd.C k31 (W.alloc (.cells (cA g ++ cB h ++ cA i).toArray 31)) (some ⟨W.heap.size, 0, none⟩) 3 [ra, rb, rc] := C_row k31 (heap_alloc_new W _) ((reps2 W g h t hg hh _ ra rb _ _ (KA _ g h t g' h') (KB _ g h t g' h') rfl rfl).snoc kc rfl) (by decide)
  refine (Agree_c _ _ 3 [ra, rb, rc] hC (Nat.le_refl _)).mono fun e w' q => ⟨?_, below_step (below_alloc (Below.refl _ _) _) q.2⟩
  rw [q.1, show ag [ra, rb, rc] = false from by classical exact decide_eq_false ag3_]
end
theorem lng0_c (w : World) : Calls Tryd.prog 22 #[.slice none 0 0] w fun e w' => e = .returned (.int .i64 (-1)) ∧ Below w.heap.size w w' :=
  (longest_c w none 0 [] ⟨rfl, by decide, fun h => absurd h (by decide)⟩ (Nat.le_refl _)).mono fun e w' q => ⟨q.1, q.2⟩
theorem beg0_c (W : World) (i : Nat) (t : TypeId) (hi : W.heap[i]? = some (.cells #[.int .i64 2] t (0, 0))) : Calls Tryd.prog 20 #[.slice none 0 0, .slice (some ⟨i, 0, none⟩) 1 1] W fun e w' => e = .returned (.bool true) ∧ Below W.heap.size W w' := by
  refine (begins_c W none 0 [] (some ⟨i, 0, none⟩) 1 [2] ⟨rfl, by decide, fun h => absurd h (by decide)⟩ (Nat.le_refl _) (C_ints [2] (by decide) hi) (Nat.le_refl _)).mono fun e w' q => ⟨?_, (Drawn0.mk q.2).below⟩
  rw [q.1]
  rfl
theorem ended_c (w : World) (A : Option Addr) (c : Nat) (l : List Int) (o : Bool) (e s y : Int) (h : Kd.C (Kd.int .i64) w A l.length l) (hc : l.length ≤ c) : Calls Tryd.prog 14 #[.agg #[.slice A l.length c, .bool o, .int .i64 e, .int .i64 s, .int .i64 y]] w fun x w' => x = .returned (.bool (fin o e)) ∧ Below w.heap.size w w' :=
  trace_Ended.calls A c l o e s y _ w h hc (ended_val l o e s y)
end Go.Proofs.YtfkfpcciacplkaaDoor.TRC

namespace Go.Proofs.YtfkfpcciacplkaaDoor.DO1
open Go.RowKit Go.Proofs.YtfkfpcciacplkaaDoorW.PrintWords Go.Proofs.YtfkfpcciacplkaaDoorW.PrintLast Go.Proofs.YtfkfpcciacplkaaDoorW.PrintMore Go.Proofs.YtfkfpcciacplkaaDoor.F Go.Proofs.YtfkfpcciacplkaaDoor.KP Go.Proofs.YtfkfpcciacplkaaDoor.CR Go.Proofs.YtfkfpcciacplkaaDoor.SH Go.Proofs.YtfkfpcciacplkaaDoor.FM Go.Proofs.YtfkfpcciacplkaaDoor.ST0 Go.Proofs.YtfkfpcciacplkaaDoor.PL Go.Proofs.YtfkfpcciacplkaaDoor.TRC Go.Proofs.YtfkfpcciacplkaaDoor.TRB Go.Proofs.YtfkfpcciacplkaaDoor.T Go.Proofs.YtfkfpcciacplkaaDoor.TRP
set_option linter.unusedVariables false
set_option linter.unusedSectionVars false
set_option linter.unusedSimpArgs false
def iP : S68 := ⟨14, 0, 0, 0, 0⟩
def pP (g h : Nat) : Pg := ⟨some ⟨g, 0, none⟩, 1, [⟨#[105]⟩], ByteArray.empty, ByteArray.empty, some ⟨h, 0, none⟩, 1, [iP]⟩
theorem pP_on (w : World) (g h : Nat) (s t : TypeId) (hg : w.heap[g]? = some (.cells #[.string ⟨#[105]⟩] s (0, 0))) (hh : w.heap[h]? = some (.cells #[.int .u8 14, .int .u8 0, .int .u8 0, .int .u8 0, .int .i64 0] t (0, 0))) (hot : OT w) : (pP g h).On w where
  hT := C_row Kd.string hg (Kd.reps_scalar (enc := Value.string) [⟨#[105]⟩]) (by show (1 : Nat) ≤ 9223372036854775807; decide)
  hc0 := Nat.le_refl _
  hC := C_row k68 hh ((Reps.none (k68.K w) 5).snoc (k68_mk w iP) rfl) (by show (1 : Nat) ≤ 9223372036854775807; decide)
  hc3 := Nat.le_refl _
  hs := fun s hs => by
    obtain rfl : s = ⟨#[105]⟩ := by simpa [pP] using hs
    decide
  hla := Nat.zero_le _
  hgl := Nat.zero_le _
  hw := fun x hx => by
    obtain rfl : x = iP := by simpa [pP] using hx
    exact ⟨by decide, by decide, by decide, by decide, by decide⟩
  ot := hot
theorem refs_nil (s : ByteArray) (hs : s = ⟨#[105]⟩) : refs [s] ByteArray.empty = true := by
  subst hs
  rw [refs_iff]
  refine ⟨⟨fun i h0 h1 => ?_, by decide, by decide⟩, fun j h0 h1 => ?_⟩
  · obtain rfl : i = 0 := by
      have : (([⟨#[105]⟩] : List ByteArray).length : Int) = 1 := rfl
      omega
    refine ⟨by decide, by decide, fun j j0 j1 => ?_⟩
    obtain rfl : j = 0 := by
      have : ((rdOf ByteArray.empty [(⟨#[105]⟩ : ByteArray)] 0).size : Int) = 1 := rfl
      omega
    exact .inl rfl
  · have : ((ByteArray.empty).size : Int) = 0 := rfl
    omega
theorem pP_sp (g h : Nat) : SpP (pP g h) where
  refs := ⟨refs_nil _ rfl, refs_nil _ rfl⟩
  locals := Nat.zero_le _
  globals := Nat.zero_le _
  len := ⟨Nat.le_refl 1, by show (1 : Nat) ≤ 200; decide⟩
  all := fun j hj => by
    obtain rfl : j = 0 := by
      have : (pP g h).code.length = 1 := rfl
      omega
    refine ⟨14, rfl, by decide, by show rightB 14 0 0 0 0 = true; decide, fun h => by omega, by show intsB 14 0 0 0 = true; decide, ?_⟩
    unfold KindsP
    refine ⟨fun h => ?_, fun h => ?_, fun h => ?_, fun h => ?_, fun h => ?_, fun h => ?_, fun h => ?_, fun h => ?_, fun h => ?_⟩ <;> omega
theorem pP_check (w : World) (g h : Nat) (hp : (pP g h).On w) : Calls Tryd.prog 41 #[(pP g h).v] w fun e w' => e = .returned (.tuple #[.int .i64 (-1), .int .i64 0]) ∧ Below w.heap.size w w' := by
  refine (pCheck_c (pP g h) w hp).mono ?_
  rintro e w' ⟨r, er, rfl, h1, h2, h3⟩
  obtain rfl := h1.2 (pP_sp g h)
  obtain rfl := h2 rfl
  exact ⟨rfl, h3⟩
set_option maxHeartbeats 4000000 in
set_option maxRecDepth 100000 in
theorem run1_c (w : World) (g h : Nat) (s t : TypeId) (hg : w.heap[g]? = some (.cells #[.string ⟨#[105]⟩] s (0, 0))) (hh : w.heap[h]? = some (.cells #[.int .u8 14, .int .u8 0, .int .u8 0, .int .u8 0, .int .i64 0] t (0, 0))) (hot : OT w) :
    Calls Tryd.prog 37 #[.agg #[.slice (some ⟨g, 0, none⟩) 1 1, .string ByteArray.empty, .string ByteArray.empty, .slice (some ⟨h, 0, none⟩) 1 1], .int .i64 1] w fun e w' => ∃ A c, e = .returned (.tuple #[.slice A 1 c, .int .i64 0]) ∧ 1 ≤ c ∧ Kd.C (Kd.int .i64) w' A 1 [0] ∧ Below w.heap.size w w' := by
  have CH := Aside0.mk (show ∀ W, Below w.heap.size w W → Calls Tryd.prog 41 #[.agg #[.slice (some ⟨g, 0, none⟩) 1 1, .string ByteArray.empty, .string ByteArray.empty, .slice (some ⟨h, 0, none⟩) 1 1]] W fun e w' => e = .returned (.tuple #[.int .i64 (-1), .int .i64 0]) ∧ Below W.heap.size W w' from fun W hW => pP_check W g h ((pP_on w g h s t hg hh hot).below hW))
  have HH := Aside0.mk hh
  have hw := blk_lt hh
  clear hg hh hot
  have HW := Aside0.mk (Below.refl w.heap.size w)
  go_enter Tryd.func37, Tryd.ntmps37
  go_wp2_with (go_at_call 41; (with_reducible refine (CH.out _ ?side1).mono ?_); (case side1 => exact below_alloc HW.out _); rintro e w1 ⟨rfl, hb1⟩; have R0 := (hb1.block w.heap.size (by simp)).trans (heap_alloc_new w _); have kR := fun j => cell_of_row w1 w.heap.size j _ _ _ R0; have HW := Aside0.mk (below_step (below_alloc HW.out _) hb1); clear hb1)
  obtain ⟨B, hB⟩ : ∃ B, B = w1.heap.size := ⟨_, rfl⟩
  obtain ⟨W0, hW0⟩ : ∃ W0 : World, W0 = w1.alloc (.cells (stR (.slice none 0 0) 0 0) 88) := ⟨_, rfl⟩
  have HRB := Aside0.mk (show W0.heap[B]? = some (.cells (stR (.slice none 0 0) 0 0) 88 (0, 0)) by rw [hW0, hB]; exact heap_alloc_new _ _)
  have HRP := Aside0.mk (show W0.heap[w.heap.size]? = some (.cells #[.slice (some ⟨g, 0, none⟩) 1 1, .string ByteArray.empty, .string ByteArray.empty, .slice (some ⟨h, 0, none⟩) 1 1] 46 (0, 0)) by rw [hW0]; exact row_old _ _ _ (blk_lt R0) R0)
  have HBW := Aside0.mk (show w.heap.size < B by rw [hB]; exact blk_lt R0)
  have HW := Aside0.mk (show Below w.heap.size w W0 by rw [hW0]; exact below_alloc HW.out _)
  have HHB := Aside0.mk (show h < B by rw [hB]; exact Nat.lt_trans hw (blk_lt R0))
  rw [← hB, ← hW0]
  clear hW0 kR R0 CH hB
  go_loopw [1] (fun f wr => (f = .int .i64 1 ∧ Aside0 (wr.heap[B]? = some (.cells (stR (.slice none 0 0) 0 0) 88 (0, 0))) ∧ Aside0 (wr.heap[w.heap.size]? = some (.cells #[.slice (some ⟨g, 0, none⟩) 1 1, .string ByteArray.empty, .string ByteArray.empty, .slice (some ⟨h, 0, none⟩) 1 1] 46 (0, 0))) ∧ Aside0 (Below w.heap.size w wr)) ∨ (f = .int .i64 0 ∧ ∃ A c, Aside0 (1 ≤ c) ∧ Aside0 (wr.heap[B]? = some (.cells (stR (.slice A 1 c) 1 1) 88 (0, 0))) ∧ Aside0 (Kd.C (Kd.int .i64) wr A 1 [0]) ∧ Aside0 (wr.heap[w.heap.size]? = some (.cells #[.slice (some ⟨g, 0, none⟩) 1 1, .string ByteArray.empty, .string ByteArray.empty, .slice (some ⟨h, 0, none⟩) 1 1] 46 (0, 0))) ∧ Aside0 (Below w.heap.size w wr))) (fun f _ => (intOf f).toNat)
  case atStart => exact .inl ⟨rfl, HRB, HRP, HW⟩
  case round =>
    clear HRB HRP HW
    rcases hrel with ⟨rfl, HRB, HRP, HW⟩ | ⟨rfl, A, c, HC, HRB, HK, HRP, HW⟩
    · obtain ⟨wo, rfl⟩ : ∃ wo : World, wo = wr := ⟨_, rfl⟩
      have kB := fun j => cell_of_row wo B j _ _ _ HRB.out
      have kP := fun j => cell_of_row wo w.heap.size j _ _ _ HRP.out
      have RH := (HW.out.block h hw).trans HH.out
      have kH := fun j => cell_of_row wo h j _ _ _ RH
      have HRH := Aside0.mk RH
      clear RH
      have p0 : wo.cell? ⟨w.heap.size, 0, none⟩ = some (.slice (some ⟨g, 0, none⟩) 1 1) := (kP 0).trans rfl
      have p1 : wo.cell? ⟨w.heap.size, 1, none⟩ = some (.string ByteArray.empty) := (kP 1).trans rfl
      have p2 : wo.cell? ⟨w.heap.size, 2, none⟩ = some (.string ByteArray.empty) := (kP 2).trans rfl
      have p3 : wo.cell? ⟨w.heap.size, 3, none⟩ = some (.slice (some ⟨h, 0, none⟩) 1 1) := (kP 3).trans rfl
      have b22 : wo.cell? ⟨B, 22, none⟩ = some (.int .i64 0) := (kB 22).trans rfl
      have i0 : wo.cell? ⟨h, 0, none⟩ = some (.int .u8 14) := (kH 0).trans rfl
      have i1 : wo.cell? ⟨h, 1, none⟩ = some (.int .u8 0) := (kH 1).trans rfl
      have i2 : wo.cell? ⟨h, 2, none⟩ = some (.int .u8 0) := (kH 2).trans rfl
      have i3 : wo.cell? ⟨h, 3, none⟩ = some (.int .u8 0) := (kH 3).trans rfl
      have i4 : wo.cell? ⟨h, 4, none⟩ = some (.int .i64 0) := (kH 4).trans rfl
      go_wp2
      clear kB kP kH
      go_still_tail 7, (by kernel_rfl)
      go_wp2_with (go_at_call 49; ((with_reducible refine (do_print _ B _ _ _ _ _ _ _ _ ?side1).mono ?_); (case side1 => exact HRB.out); rintro e w2 ⟨rfl, A, c, hc, hrow, hk, hb⟩; have HC := Aside0.mk hc; have HRB := Aside0.mk hrow; have HK := Aside0.mk hk; have HB := Aside0.mk hb; have kB := fun j => cell_of_row w2 B j _ _ _ hrow; clear hc hrow hk hb))
      refine ⟨.inr ⟨rfl, A, c, HC, HRB, HK, ⟨(HB.out.block w.heap.size HBW.out).trans HRP.out⟩, ⟨(below_drew1 HW.out).trans (HB.out.mono (Nat.le_of_lt HBW.out))⟩⟩, ?_⟩
      simp [intOf]
    · obtain ⟨wo, rfl⟩ : ∃ wo : World, wo = wr := ⟨_, rfl⟩
      have kB := fun j => cell_of_row wo B j _ _ _ HRB.out
      have kP := fun j => cell_of_row wo w.heap.size j _ _ _ HRP.out
      go_wp2
      go_ret2
      exact ⟨A, c, rfl, HC.out, HK.out, HW.out⟩
theorem equal_n (w : World) (A0 : Option Addr) (n0 c0 : Nat) (l0 : List Int) (A1 : Option Addr) (n1 c1 : Nat) (l1 : List Int) (b : Bool) (hb : decide (l0 = l1) = b) (e0 : l0.length = n0) (e1 : l1.length = n1) (h0 : Kd.C (Kd.int .i64) w A0 n0 l0) (hc0 : n0 ≤ c0) (h1 : Kd.C (Kd.int .i64) w A1 n1 l1) (hc1 : n1 ≤ c1) :
    Calls Tryd.prog 36 #[.slice A0 n0 c0, .slice A1 n1 c1] w fun e w' => e = .returned (.bool b) ∧ ∃ n, w' = w.drewN n := by
  subst e0 e1
  exact equal_c w A0 c0 l0 A1 c1 l1 b hb h0 hc0 h1 hc1
theorem ended_n (w : World) (A : Option Addr) (n c : Nat) (l : List Int) (o : Bool) (e s y : Int) (b : Bool) (hb : fin o e = b) (el : l.length = n) (h : Kd.C (Kd.int .i64) w A n l) (hc : n ≤ c) : Calls Tryd.prog 14 #[.agg #[.slice A n c, .bool o, .int .i64 e, .int .i64 s, .int .i64 y]] w fun x w' => x = .returned (.bool b) ∧ Below w.heap.size w w' := by
  subst el hb
  exact ended_c w A c l o e s y h hc
set_option maxHeartbeats 4000000 in
set_option maxRecDepth 100000 in
theorem model1_c (w : World) (g h i : Nat) (s t u : TypeId) (hg : w.heap[g]? = some (.cells #[.string ⟨#[105]⟩] s (0, 0))) (hh : w.heap[h]? = some (.cells #[.int .u8 14, .int .u8 0, .int .u8 0, .int .u8 0, .int .i64 0] t (0, 0))) (hi : w.heap[i]? = some (.cells #[.int .i64 0] u (0, 0))) (hot : OT w) :
    Calls Tryd.prog 25 #[.agg #[.slice (some ⟨g, 0, none⟩) 1 1, .string ByteArray.empty, .string ByteArray.empty, .slice (some ⟨h, 0, none⟩) 1 1], .agg #[.slice (some ⟨i, 0, none⟩) 1 1, .bool true, .int .i64 0, .int .i64 1, .int .i64 0]] w fun e w' => e = .returned (.bool true) ∧ Below w.heap.size w w' := by
  have RN := Aside0.mk (show ∀ W, Below w.heap.size w W → Calls Tryd.prog 37 #[.agg #[.slice (some ⟨g, 0, none⟩) 1 1, .string ByteArray.empty, .string ByteArray.empty, .slice (some ⟨h, 0, none⟩) 1 1], .int .i64 1] W fun e w' => ∃ A c, e = .returned (.tuple #[.slice A 1 c, .int .i64 0]) ∧ 1 ≤ c ∧ Kd.C (Kd.int .i64) w' A 1 [0] ∧ Below W.heap.size W w' from fun W hW => run1_c W g h s t ((hW.block g (blk_lt hg)).trans hg) ((hW.block h (blk_lt hh)).trans hh) (OT_below hot hW))
  have HI := Aside0.mk hi
  have hiw := blk_lt hi
  clear hi
  clear hg hh hot
  have HW := Aside0.mk (Below.refl w.heap.size w)
  go_enter Tryd.func25, Tryd.ntmps25
  go_wp2_with (first
    | (go_at_call 37; (with_reducible refine (RN.out _ ?side1).mono ?_); (case side1 => exact below_alloc (below_alloc HW.out _) _); rintro e w1 ⟨A, c, rfl, hc, hk, hb1⟩; have R0 := (hb1.block (w.heap.size + 1) (by simp)).trans (row_new _ _ _ (by simp)); have kR := fun j => cell_of_row w1 (w.heap.size + 1) j _ _ _ R0; have HR0 := Aside0.mk R0; have HK := Aside0.mk hk; have HC := Aside0.mk hc; have HW := Aside0.mk (below_step (below_alloc (below_alloc HW.out _) _) hb1); clear hb1 R0 hk hc)
    | (go_at_call 36; ((with_reducible refine (equal_n _ _ 1 _ [0] _ 1 1 [0] true (by decide) rfl rfl HK.out HC.out ?side2 (Nat.le_refl _)).mono ?_); (case side2 => exact C_ints [0] (by decide) ((HW.out.block i hiw).trans HI.out))); rintro e w2 ⟨rfl, n, rfl⟩; have HW := Aside0.mk (pw_below_drewN HW.out n); have kR := fun j => cell_of_row (w1.drewN n) (w.heap.size + 1) j _ _ _ HR0.out)
    | (go_at_call 14; ((with_reducible refine (ended_n _ _ 1 1 [0] _ _ _ _ true rfl rfl ?side3 (Nat.le_refl _)).mono ?_); (case side3 => exact C_ints [0] (by decide) ((HW.out.block i hiw).trans HI.out))); rintro e w3 ⟨rfl, hb3⟩; have HR0 := Aside0.mk ((hb3.block (w.heap.size + 1) (blk_lt (row_drewN (n := n) HR0.out))).trans (row_drewN HR0.out)); have kR := fun j => cell_of_row w3 (w.heap.size + 1) j _ _ _ HR0.out; have HW := Aside0.mk (below_step HW.out hb3); clear hb3))
  go_ret
  exact ⟨rfl, HW.out⟩
set_option maxHeartbeats 4000000 in
set_option maxRecDepth 100000 in
theorem model2_c (w : World) (g h : Nat) (s t : TypeId) (hg : w.heap[g]? = some (.cells #[.string ⟨#[105]⟩] s (0, 0))) (hh : w.heap[h]? = some (.cells #[.int .u8 14, .int .u8 0, .int .u8 0, .int .u8 0, .int .i64 0] t (0, 0))) (hot : OT w) :
    Calls Tryd.prog 25 #[.agg #[.slice (some ⟨g, 0, none⟩) 1 1, .string ByteArray.empty, .string ByteArray.empty, .slice (some ⟨h, 0, none⟩) 1 1], .agg #[.slice none 0 0, .bool false, .int .i64 0, .int .i64 1, .int .i64 0]] w fun e w' => e = .returned (.bool false) ∧ Below w.heap.size w w' := by
  have RN := Aside0.mk (show ∀ W, Below w.heap.size w W → Calls Tryd.prog 37 #[.agg #[.slice (some ⟨g, 0, none⟩) 1 1, .string ByteArray.empty, .string ByteArray.empty, .slice (some ⟨h, 0, none⟩) 1 1], .int .i64 1] W fun e w' => ∃ A c, e = .returned (.tuple #[.slice A 1 c, .int .i64 0]) ∧ 1 ≤ c ∧ Kd.C (Kd.int .i64) w' A 1 [0] ∧ Below W.heap.size W w' from fun W hW => run1_c W g h s t ((hW.block g (blk_lt hg)).trans hg) ((hW.block h (blk_lt hh)).trans hh) (OT_below hot hW))
  clear hg hh hot
  have HW := Aside0.mk (Below.refl w.heap.size w)
  go_enter Tryd.func25, Tryd.ntmps25
  go_wp2_with (first
    | (go_at_call 37; (with_reducible refine (RN.out _ ?side1).mono ?_); (case side1 => exact below_alloc (below_alloc HW.out _) _); rintro e w1 ⟨A, c, rfl, hc, hk, hb1⟩; have R0 := (hb1.block (w.heap.size + 1) (by simp)).trans (row_new _ _ _ (by simp)); have kR := fun j => cell_of_row w1 (w.heap.size + 1) j _ _ _ R0; have HR0 := Aside0.mk R0; have HK := Aside0.mk hk; have HC := Aside0.mk hc; have HW := Aside0.mk (below_step (below_alloc (below_alloc HW.out _) _) hb1); clear hb1 R0 hk hc)
    | (go_at_call 36; ((with_reducible refine (equal_n _ _ 1 _ [0] _ 0 0 [] false (by decide) rfl rfl HK.out HC.out ?side2 (Nat.le_refl _)).mono ?_); (case side2 => exact ⟨rfl, by decide, fun h => absurd h (by decide)⟩)); rintro e w2 ⟨rfl, n, rfl⟩; have HW := Aside0.mk (pw_below_drewN HW.out n); have kR := fun j => cell_of_row (w1.drewN n) (w.heap.size + 1) j _ _ _ HR0.out))
  go_ret
  exact ⟨rfl, HW.out⟩
end Go.Proofs.YtfkfpcciacplkaaDoor.DO1

namespace Go.Proofs.YtfkfpcciacplkaaDoor.TAL
open Go.RowKit Go.Proofs.YtfkfpcciacplkaaDoorW.PrintWords Go.Proofs.YtfkfpcciacplkaaDoorW.PrintLast Go.Proofs.YtfkfpcciacplkaaDoorW.PrintMore Go.Proofs.YtfkfpcciacplkaaDoor.F Go.Proofs.YtfkfpcciacplkaaDoor.KP Go.Proofs.YtfkfpcciacplkaaDoor.CR Go.Proofs.YtfkfpcciacplkaaDoor.ST0 Go.Proofs.YtfkfpcciacplkaaDoor.TRC Go.Proofs.YtfkfpcciacplkaaDoor.TRB Go.Proofs.YtfkfpcciacplkaaDoor.T Go.Proofs.YtfkfpcciacplkaaDoor.TRP Go.Proofs.YtfkfpcciacplkaaDoor.DO1
set_option linter.unusedVariables false
set_option linter.unusedSectionVars false
set_option linter.unusedSimpArgs false
set_option maxHeartbeats 8000000 in
set_option maxRecDepth 100000 in
theorem alive_c (w : World) (hot : OT w) : Calls Tryd.prog 12 #[] w fun e w' => e = .returned (.bool true) ∧ Below w.heap.size w w' := by
  have HOT := Aside0.mk hot
  clear hot
  go_enter Tryd.func12, Tryd.ntmps12
  go_upto_region 4 with (fail)
  obtain ⟨W0, hW0⟩ : ∃ W0 : World, W0 = (((((((((w.alloc (.cells #[.int .i64 1] 2)).alloc (.cells #[.int .i64 1, .int .i64 2] 2)).alloc (.cells #[.slice (some ⟨w.heap.size, 0, none⟩) 1 1, .bool false, .int .i64 0, .int .i64 3, .int .i64 0] 31)).alloc (.cells #[.slice (some ⟨w.heap.size + 1, 0, none⟩) 2 2, .bool true, .int .i64 0, .int .i64 5, .int .i64 0] 31)).alloc (.cells #[.int .i64 2] 2)).alloc (.cells #[.slice (some ⟨w.heap.size + 1 + 1 + 1 + 1, 0, none⟩) 1 1, .bool false, .int .i64 0, .int .i64 3, .int .i64 0] 31)).alloc (.cells #[.string ⟨#[105]⟩] 9)).alloc (.cells #[.int .u8 14, .int .u8 0, .int .u8 0, .int .u8 0, .int .i64 0] 68)).alloc (.cells #[.slice (some ⟨w.heap.size + 1 + 1 + 1 + 1 + 1 + 1, 0, none⟩) 1 1, .string ⟨#[]⟩, .string ⟨#[]⟩, .slice (some ⟨w.heap.size + 1 + 1 + 1 + 1 + 1 + 1 + 1, 0, none⟩) 1 1] 46)) := ⟨_, rfl⟩
  have r0 : W0.heap[w.heap.size]? = some (.cells #[.int .i64 1] 2 (0, 0)) := by rw [hW0]; exact rowT
  have r1 : W0.heap[w.heap.size + 1]? = some (.cells #[.int .i64 1, .int .i64 2] 2 (0, 0)) := by rw [hW0]; exact rowT
  have r2 : W0.heap[w.heap.size + 1 + 1]? = some (.cells #[.slice (some ⟨w.heap.size, 0, none⟩) 1 1, .bool false, .int .i64 0, .int .i64 3, .int .i64 0] 31 (0, 0)) := by rw [hW0]; exact rowT
  have r3 : W0.heap[w.heap.size + 1 + 1 + 1]? = some (.cells #[.slice (some ⟨w.heap.size + 1, 0, none⟩) 2 2, .bool true, .int .i64 0, .int .i64 5, .int .i64 0] 31 (0, 0)) := by rw [hW0]; exact rowT
  have r4 : W0.heap[w.heap.size + 1 + 1 + 1 + 1]? = some (.cells #[.int .i64 2] 2 (0, 0)) := by rw [hW0]; exact rowT
  have r5 : W0.heap[w.heap.size + 1 + 1 + 1 + 1 + 1]? = some (.cells #[.slice (some ⟨w.heap.size + 1 + 1 + 1 + 1, 0, none⟩) 1 1, .bool false, .int .i64 0, .int .i64 3, .int .i64 0] 31 (0, 0)) := by rw [hW0]; exact rowT
  have r6 : W0.heap[w.heap.size + 1 + 1 + 1 + 1 + 1 + 1]? = some (.cells #[.string ⟨#[105]⟩] 9 (0, 0)) := by rw [hW0]; exact rowT
  have r7 : W0.heap[w.heap.size + 1 + 1 + 1 + 1 + 1 + 1 + 1]? = some (.cells #[.int .u8 14, .int .u8 0, .int .u8 0, .int .u8 0, .int .i64 0] 68 (0, 0)) := by rw [hW0]; exact rowT
  have r8 : W0.heap[w.heap.size + 1 + 1 + 1 + 1 + 1 + 1 + 1 + 1]? = some (.cells #[.slice (some ⟨w.heap.size + 1 + 1 + 1 + 1 + 1 + 1, 0, none⟩) 1 1, .string ⟨#[]⟩, .string ⟨#[]⟩, .slice (some ⟨w.heap.size + 1 + 1 + 1 + 1 + 1 + 1 + 1, 0, none⟩) 1 1] 46 (0, 0)) := by rw [hW0]; exact rowT
  have HW := Aside0.mk (show Below w.heap.size w W0 by rw [hW0]; repeat (first | exact Below.refl _ _ | refine below_alloc ?_ _))
  rw [← hW0]
  clear hW0
  have Q0 := Aside0.mk r0
  have Q1 := Aside0.mk r1
  have Q2 := Aside0.mk r2
  have Q3 := Aside0.mk r3
  have Q4 := Aside0.mk r4
  have Q5 := Aside0.mk r5
  have Q6 := Aside0.mk r6
  have Q7 := Aside0.mk r7
  have Q8 := Aside0.mk r8
  have AG2 := Aside0.mk (show ∀ W, Below W0.heap.size W0 W → Calls Tryd.prog 17 #[.slice (some ⟨W.heap.size, 0, none⟩) 2 2] (W.alloc (.cells #[.slice (some ⟨w.heap.size, 0, none⟩) 1 1, .bool false, .int .i64 0, .int .i64 3, .int .i64 0, .slice (some ⟨w.heap.size + 1, 0, none⟩) 2 2, .bool true, .int .i64 0, .int .i64 5, .int .i64 0] 31)) fun e w' => e = .returned (.bool true) ∧ Below W.heap.size W w' from fun W hW => ag2_c W _ _ 2 ((hW.block _ (blk_lt Q0.out)).trans Q0.out) ((hW.block _ (blk_lt Q1.out)).trans Q1.out))
  have AG3 := Aside0.mk (show ∀ W, Below W0.heap.size W0 W → Calls Tryd.prog 17 #[.slice (some ⟨W.heap.size, 0, none⟩) 3 3] (W.alloc (.cells #[.slice (some ⟨w.heap.size, 0, none⟩) 1 1, .bool false, .int .i64 0, .int .i64 3, .int .i64 0, .slice (some ⟨w.heap.size + 1, 0, none⟩) 2 2, .bool true, .int .i64 0, .int .i64 5, .int .i64 0, .slice (some ⟨w.heap.size + 1 + 1 + 1 + 1, 0, none⟩) 1 1, .bool false, .int .i64 0, .int .i64 3, .int .i64 0] 31)) fun e w' => e = .returned (.bool false) ∧ Below W.heap.size W w' from fun W hW => ag3_c W _ _ _ 2 ((hW.block _ (blk_lt Q0.out)).trans Q0.out) ((hW.block _ (blk_lt Q1.out)).trans Q1.out) ((hW.block _ (blk_lt Q4.out)).trans Q4.out))
  have LN2 := Aside0.mk (show ∀ W, Below W0.heap.size W0 W → Calls Tryd.prog 22 #[.slice (some ⟨W.heap.size, 0, none⟩) 2 2] (W.alloc (.cells #[.slice (some ⟨w.heap.size, 0, none⟩) 1 1, .bool false, .int .i64 0, .int .i64 3, .int .i64 0, .slice (some ⟨w.heap.size + 1, 0, none⟩) 2 2, .bool true, .int .i64 0, .int .i64 5, .int .i64 0] 31)) fun e w' => e = .returned (.int .i64 1) ∧ Below W.heap.size W w' from fun W hW => lng2_c W _ _ 2 ((hW.block _ (blk_lt Q0.out)).trans Q0.out) ((hW.block _ (blk_lt Q1.out)).trans Q1.out))
  have LN0 := Aside0.mk (show ∀ W, Below W0.heap.size W0 W → Calls Tryd.prog 22 #[.slice none 0 0] W fun e w' => e = .returned (.int .i64 (-1)) ∧ Below W.heap.size W w' from fun W hW => lng0_c W)
  have BEG := Aside0.mk (show ∀ W, Below W0.heap.size W0 W → Calls Tryd.prog 20 #[.slice none 0 0, .slice (some ⟨w.heap.size + 1 + 1 + 1 + 1, 0, none⟩) 1 1] W fun e w' => e = .returned (.bool true) ∧ Below W.heap.size W w' from fun W hW => beg0_c W _ 2 ((hW.block _ (blk_lt Q4.out)).trans Q4.out))
  have ENB := Aside0.mk (show ∀ W, Below W0.heap.size W0 W → Calls Tryd.prog 14 #[.agg #[.slice (some ⟨w.heap.size + 1, 0, none⟩) 2 2, .bool true, .int .i64 0, .int .i64 5, .int .i64 0]] W fun e w' => e = .returned (.bool true) ∧ Below W.heap.size W w' from fun W hW => ended_n W _ 2 2 [1, 2] _ _ _ _ true rfl rfl (C_ints [1, 2] (by decide) ((hW.block _ (blk_lt Q1.out)).trans Q1.out)) (Nat.le_refl _))
  have ENA := Aside0.mk (show ∀ W, Below W0.heap.size W0 W → Calls Tryd.prog 14 #[.agg #[.slice (some ⟨w.heap.size, 0, none⟩) 1 1, .bool false, .int .i64 0, .int .i64 3, .int .i64 0]] W fun e w' => e = .returned (.bool false) ∧ Below W.heap.size W w' from fun W hW => ended_n W _ 1 1 [1] _ _ _ _ false rfl rfl (C_ints [1] (by decide) ((hW.block _ (blk_lt Q0.out)).trans Q0.out)) (Nat.le_refl _))
  have HOT := Aside0.mk (OT_below HOT.out HW.out)
  have MD1 := Aside0.mk (show ∀ W, Below W0.heap.size W0 W → Calls Tryd.prog 25 #[.agg #[.slice (some ⟨w.heap.size + 1 + 1 + 1 + 1 + 1 + 1, 0, none⟩) 1 1, .string ⟨#[]⟩, .string ⟨#[]⟩, .slice (some ⟨w.heap.size + 1 + 1 + 1 + 1 + 1 + 1 + 1, 0, none⟩) 1 1], .agg #[.slice (some ⟨W.heap.size, 0, none⟩) 1 1, .bool true, .int .i64 0, .int .i64 1, .int .i64 0]] (W.alloc (.cells #[.int .i64 0] 2)) fun e w' => e = .returned (.bool true) ∧ Below W.heap.size W w' from fun W hW => (model1_c (W.alloc (.cells #[.int .i64 0] 2)) _ _ W.heap.size _ _ 2 (row_old W _ _ (blk_lt ((hW.block _ (blk_lt Q6.out)).trans Q6.out)) ((hW.block _ (blk_lt Q6.out)).trans Q6.out)) (row_old W _ _ (blk_lt ((hW.block _ (blk_lt Q7.out)).trans Q7.out)) ((hW.block _ (blk_lt Q7.out)).trans Q7.out)) (heap_alloc_new W _) (OT_below (OT_below HOT.out hW) (below_alloc (Below.refl _ _) _))).mono fun e w' q => ⟨q.1, below_step (below_alloc (Below.refl _ _) _) q.2⟩)
  have MD2 := Aside0.mk (show ∀ W, Below W0.heap.size W0 W → Calls Tryd.prog 25 #[.agg #[.slice (some ⟨w.heap.size + 1 + 1 + 1 + 1 + 1 + 1, 0, none⟩) 1 1, .string ⟨#[]⟩, .string ⟨#[]⟩, .slice (some ⟨w.heap.size + 1 + 1 + 1 + 1 + 1 + 1 + 1, 0, none⟩) 1 1], .agg #[.slice none 0 0, .bool false, .int .i64 0, .int .i64 1, .int .i64 0]] W fun e w' => e = .returned (.bool false) ∧ Below W.heap.size W w' from fun W hW => model2_c W _ _ _ _ ((hW.block _ (blk_lt Q6.out)).trans Q6.out) ((hW.block _ (blk_lt Q7.out)).trans Q7.out) (OT_below HOT.out hW))
  have HV := Aside0.mk (Below.refl W0.heap.size W0)
  have k2 := fun j => cell_of_row W0 (w.heap.size + 1 + 1) j _ _ _ r2
  have k3 := fun j => cell_of_row W0 (w.heap.size + 1 + 1 + 1) j _ _ _ r3
  have k5 := fun j => cell_of_row W0 (w.heap.size + 1 + 1 + 1 + 1 + 1) j _ _ _ r5
  have k8 := fun j => cell_of_row W0 (w.heap.size + 1 + 1 + 1 + 1 + 1 + 1 + 1 + 1) j _ _ _ r8
  clear r0 r1 r2 r3 r4 r5 r6 r7 r8
  go_wp2_with (first
    | (go_at_call 17; (with_reducible refine (AG2.out _ HV.out).mono ?_); rintro e w1 ⟨rfl, hb1⟩; have HV := Aside0.mk (below_step HV.out hb1); have k2 := fun j => cell_of_row w1 (w.heap.size + 1 + 1) j _ _ _ ((HV.out.block _ (blk_lt Q2.out)).trans Q2.out); have k3 := fun j => cell_of_row w1 (w.heap.size + 1 + 1 + 1) j _ _ _ ((HV.out.block _ (blk_lt Q3.out)).trans Q3.out); have k5 := fun j => cell_of_row w1 (w.heap.size + 1 + 1 + 1 + 1 + 1) j _ _ _ ((HV.out.block _ (blk_lt Q5.out)).trans Q5.out); have k8 := fun j => cell_of_row w1 (w.heap.size + 1 + 1 + 1 + 1 + 1 + 1 + 1 + 1) j _ _ _ ((HV.out.block _ (blk_lt Q8.out)).trans Q8.out); clear hb1)
    | (go_at_call 17; (with_reducible refine (AG3.out _ HV.out).mono ?_); rintro e w1 ⟨rfl, hb1⟩; have HV := Aside0.mk (below_step HV.out hb1); have k2 := fun j => cell_of_row w1 (w.heap.size + 1 + 1) j _ _ _ ((HV.out.block _ (blk_lt Q2.out)).trans Q2.out); have k3 := fun j => cell_of_row w1 (w.heap.size + 1 + 1 + 1) j _ _ _ ((HV.out.block _ (blk_lt Q3.out)).trans Q3.out); have k5 := fun j => cell_of_row w1 (w.heap.size + 1 + 1 + 1 + 1 + 1) j _ _ _ ((HV.out.block _ (blk_lt Q5.out)).trans Q5.out); have k8 := fun j => cell_of_row w1 (w.heap.size + 1 + 1 + 1 + 1 + 1 + 1 + 1 + 1) j _ _ _ ((HV.out.block _ (blk_lt Q8.out)).trans Q8.out); clear hb1)
    | (go_at_call 22; (with_reducible refine (LN2.out _ HV.out).mono ?_); rintro e w1 ⟨rfl, hb1⟩; have HV := Aside0.mk (below_step HV.out hb1); have k2 := fun j => cell_of_row w1 (w.heap.size + 1 + 1) j _ _ _ ((HV.out.block _ (blk_lt Q2.out)).trans Q2.out); have k3 := fun j => cell_of_row w1 (w.heap.size + 1 + 1 + 1) j _ _ _ ((HV.out.block _ (blk_lt Q3.out)).trans Q3.out); have k5 := fun j => cell_of_row w1 (w.heap.size + 1 + 1 + 1 + 1 + 1) j _ _ _ ((HV.out.block _ (blk_lt Q5.out)).trans Q5.out); have k8 := fun j => cell_of_row w1 (w.heap.size + 1 + 1 + 1 + 1 + 1 + 1 + 1 + 1) j _ _ _ ((HV.out.block _ (blk_lt Q8.out)).trans Q8.out); clear hb1)
    | (go_at_call 22; (with_reducible refine (LN0.out _ HV.out).mono ?_); rintro e w1 ⟨rfl, hb1⟩; have HV := Aside0.mk (below_step HV.out hb1); have k2 := fun j => cell_of_row w1 (w.heap.size + 1 + 1) j _ _ _ ((HV.out.block _ (blk_lt Q2.out)).trans Q2.out); have k3 := fun j => cell_of_row w1 (w.heap.size + 1 + 1 + 1) j _ _ _ ((HV.out.block _ (blk_lt Q3.out)).trans Q3.out); have k5 := fun j => cell_of_row w1 (w.heap.size + 1 + 1 + 1 + 1 + 1) j _ _ _ ((HV.out.block _ (blk_lt Q5.out)).trans Q5.out); have k8 := fun j => cell_of_row w1 (w.heap.size + 1 + 1 + 1 + 1 + 1 + 1 + 1 + 1) j _ _ _ ((HV.out.block _ (blk_lt Q8.out)).trans Q8.out); clear hb1)
    | (go_at_call 20; (with_reducible refine (BEG.out _ HV.out).mono ?_); rintro e w1 ⟨rfl, hb1⟩; have HV := Aside0.mk (below_step HV.out hb1); have k2 := fun j => cell_of_row w1 (w.heap.size + 1 + 1) j _ _ _ ((HV.out.block _ (blk_lt Q2.out)).trans Q2.out); have k3 := fun j => cell_of_row w1 (w.heap.size + 1 + 1 + 1) j _ _ _ ((HV.out.block _ (blk_lt Q3.out)).trans Q3.out); have k5 := fun j => cell_of_row w1 (w.heap.size + 1 + 1 + 1 + 1 + 1) j _ _ _ ((HV.out.block _ (blk_lt Q5.out)).trans Q5.out); have k8 := fun j => cell_of_row w1 (w.heap.size + 1 + 1 + 1 + 1 + 1 + 1 + 1 + 1) j _ _ _ ((HV.out.block _ (blk_lt Q8.out)).trans Q8.out); clear hb1)
    | (go_at_call 14; (with_reducible refine (ENB.out _ HV.out).mono ?_); rintro e w1 ⟨rfl, hb1⟩; have HV := Aside0.mk (below_step HV.out hb1); have k2 := fun j => cell_of_row w1 (w.heap.size + 1 + 1) j _ _ _ ((HV.out.block _ (blk_lt Q2.out)).trans Q2.out); have k3 := fun j => cell_of_row w1 (w.heap.size + 1 + 1 + 1) j _ _ _ ((HV.out.block _ (blk_lt Q3.out)).trans Q3.out); have k5 := fun j => cell_of_row w1 (w.heap.size + 1 + 1 + 1 + 1 + 1) j _ _ _ ((HV.out.block _ (blk_lt Q5.out)).trans Q5.out); have k8 := fun j => cell_of_row w1 (w.heap.size + 1 + 1 + 1 + 1 + 1 + 1 + 1 + 1) j _ _ _ ((HV.out.block _ (blk_lt Q8.out)).trans Q8.out); clear hb1)
    | (go_at_call 14; (with_reducible refine (ENA.out _ HV.out).mono ?_); rintro e w1 ⟨rfl, hb1⟩; have HV := Aside0.mk (below_step HV.out hb1); have k2 := fun j => cell_of_row w1 (w.heap.size + 1 + 1) j _ _ _ ((HV.out.block _ (blk_lt Q2.out)).trans Q2.out); have k3 := fun j => cell_of_row w1 (w.heap.size + 1 + 1 + 1) j _ _ _ ((HV.out.block _ (blk_lt Q3.out)).trans Q3.out); have k5 := fun j => cell_of_row w1 (w.heap.size + 1 + 1 + 1 + 1 + 1) j _ _ _ ((HV.out.block _ (blk_lt Q5.out)).trans Q5.out); have k8 := fun j => cell_of_row w1 (w.heap.size + 1 + 1 + 1 + 1 + 1 + 1 + 1 + 1) j _ _ _ ((HV.out.block _ (blk_lt Q8.out)).trans Q8.out); clear hb1)
    | (go_at_call 25; (with_reducible refine (MD1.out _ HV.out).mono ?_); rintro e w1 ⟨rfl, hb1⟩; have HV := Aside0.mk (below_step HV.out hb1); have k2 := fun j => cell_of_row w1 (w.heap.size + 1 + 1) j _ _ _ ((HV.out.block _ (blk_lt Q2.out)).trans Q2.out); have k3 := fun j => cell_of_row w1 (w.heap.size + 1 + 1 + 1) j _ _ _ ((HV.out.block _ (blk_lt Q3.out)).trans Q3.out); have k5 := fun j => cell_of_row w1 (w.heap.size + 1 + 1 + 1 + 1 + 1) j _ _ _ ((HV.out.block _ (blk_lt Q5.out)).trans Q5.out); have k8 := fun j => cell_of_row w1 (w.heap.size + 1 + 1 + 1 + 1 + 1 + 1 + 1 + 1) j _ _ _ ((HV.out.block _ (blk_lt Q8.out)).trans Q8.out); clear hb1)
    | (go_at_call 25; (with_reducible refine (MD2.out _ HV.out).mono ?_); rintro e w1 ⟨rfl, hb1⟩; have HV := Aside0.mk (below_step HV.out hb1); have k2 := fun j => cell_of_row w1 (w.heap.size + 1 + 1) j _ _ _ ((HV.out.block _ (blk_lt Q2.out)).trans Q2.out); have k3 := fun j => cell_of_row w1 (w.heap.size + 1 + 1 + 1) j _ _ _ ((HV.out.block _ (blk_lt Q3.out)).trans Q3.out); have k5 := fun j => cell_of_row w1 (w.heap.size + 1 + 1 + 1 + 1 + 1) j _ _ _ ((HV.out.block _ (blk_lt Q5.out)).trans Q5.out); have k8 := fun j => cell_of_row w1 (w.heap.size + 1 + 1 + 1 + 1 + 1 + 1 + 1 + 1) j _ _ _ ((HV.out.block _ (blk_lt Q8.out)).trans Q8.out); clear hb1))
  go_ret
  exact ⟨rfl, HW.out.trans (HV.out.mono HW.out.size)⟩
end Go.Proofs.YtfkfpcciacplkaaDoor.TAL

namespace Go.Proofs.YtfkfpcciacplkaaDoor.TRW
open Go.RowKit Go.Proofs.YtfkfpcciacplkaaDoorW.PrintWords Go.Proofs.YtfkfpcciacplkaaDoorW.PrintLast Go.Proofs.YtfkfpcciacplkaaDoorW.PrintMore Go.Proofs.YtfkfpcciacplkaaDoor.Scan Go.Proofs.YtfkfpcciacplkaaDoor.F Go.Proofs.YtfkfpcciacplkaaDoor.T Go.Proofs.YtfkfpcciacplkaaDoor.ST0 Go.Proofs.YtfkfpcciacplkaaDoor.TRB Go.Proofs.YtfkfpcciacplkaaDoor.TRL Go.Proofs.YtfkfpcciacplkaaDoor.TRA Go.Proofs.YtfkfpcciacplkaaDoor.TRP Go.Proofs.YtfkfpcciacplkaaDoor.TRC Go.Proofs.YtfkfpcciacplkaaDoor.CR
set_option linter.unusedVariables false
set_option linter.unusedSimpArgs false
theorem few_c (w : World) (A : Option Addr) (c : Nat) (L : List Rr) (h : Kd.C k27 w A L.length L) (hc : L.length ≤ c) (b : Bool) (hb : b = true ↔ Few22 L) : Calls Tryd.prog 13 #[.slice A L.length c] w fun e w' => e = .returned (.bool b) ∧ Below w.heap.size w w' := by
  classical
  obtain ⟨k, hk⟩ := ev_at (few22_ev L (by have := Kd.C_max h; omega))
  rw [show decide (Few22 L) = b by rw [Bool.eq_iff_iff, decide_eq_true_iff, hb]] at hk
  exact lockstitchlaw22_few.calls k A c L _ w h hc hk
theorem Agree_n (w : World) (A : Option Addr) (n c : Nat) (M : List Rs) (hn : M.length = n) (h : Kd.C k31 w A n M) (hc : n ≤ c) : Calls Tryd.prog 17 #[.slice A n c] w fun e w' => e = .returned (.bool (ag M)) ∧ Below w.heap.size w w' := by
  subst hn
  exact Agree_c w A c M h hc
theorem Longest_n (w : World) (A : Option Addr) (n c : Nat) (M : List Rs) (hn : M.length = n) (h : Kd.C k31 w A n M) (hc : n ≤ c) : Calls Tryd.prog 22 #[.slice A n c] w fun e w' => e = .returned (.int .i64 (lng M n)) ∧ Below w.heap.size w w' := by
  subst hn
  exact longest_c w A c M h hc
theorem inner_le {w : World} {A : Option Addr} {L : List Rr} (h : Kd.C k27 w A L.length L) (i : Nat) : ((rdR L i).f0.length : Int) ≤ 9223372036854775807 := by
  by_cases hi : i < L.length
  · obtain ⟨ad, B0, b0, _, _, _, _, _, _, xl, xc⟩ := at_T27 h (i : Int) (by omega) (by omega)
    have h := Kd.C_max xc
    show ((rd_T27 L (i : Int)).f0.length : Int) ≤ 9223372036854775807
    omega
  · unfold rdR rd_T27
    rw [Int.toNat_natCast, List.getD_eq_getElem?_getD, List.getElem?_eq_none (by omega)]
    exact Int.le_of_lt (by decide)
theorem rAgree_c (w : World) (A : Option Addr) (c : Nat) (L : List Rr) (h : Kd.C k27 w A L.length L) (hc : L.length ≤ c) : Calls Tryd.prog 19 #[.slice A L.length c] w fun e w' => e = .returned (.bool (ag (L.map th))) ∧ Below w.heap.size w w' := by
  obtain ⟨k, hk⟩ := ev_at (rAgree_ev L (by have := Kd.C_max h; omega) (inner_le h))
  exact lockstitchref22_Agree.calls k A c L _ w h hc hk
theorem rLong_c (w : World) (A : Option Addr) (c : Nat) (L : List Rr) (h : Kd.C k27 w A L.length L) (hc : L.length ≤ c) : Calls Tryd.prog 23 #[.slice A L.length c] w fun e w' => e = .returned (.int .i64 (lng (L.map th) L.length)) ∧ Below w.heap.size w w' := by
  obtain ⟨k, hk⟩ := ev_at (rLong_ev L (by have := Kd.C_max h; omega))
  exact (lockstitchref22_Longest.calls k A c L _ w h hc hk).mono fun e w' q => ⟨q.1, q.2.below⟩
theorem rBeg_c (w : World) (A0 : Option Addr) (c0 : Nat) (l0 : List Int) (A1 : Option Addr) (c1 : Nat) (l1 : List Int) (h0 : Kd.C (Kd.int .i64) w A0 l0.length l0) (hc0 : l0.length ≤ c0) (h1 : Kd.C (Kd.int .i64) w A1 l1.length l1) (hc1 : l1.length ≤ c1) :
    Calls Tryd.prog 21 #[.slice A0 l0.length c0, .slice A1 l1.length c1] w fun e w' => e = .returned (.bool (beg l0 l1)) ∧ Below w.heap.size w w' := by
  obtain ⟨k, hk⟩ := ev_at (rbeg_ev l0 l1 (by have := Kd.C_max h0; omega))
  exact (lockstitchref22_Begins.calls k A0 c0 l0 A1 c1 l1 _ w h0 hc0 h1 hc1 hk).mono fun e w' q => ⟨q.1, q.2.below⟩
theorem Beg_c (w : World) (A0 : Option Addr) (c0 : Nat) (l0 : List Int) (A1 : Option Addr) (c1 : Nat) (l1 : List Int) (h0 : Kd.C (Kd.int .i64) w A0 l0.length l0) (hc0 : l0.length ≤ c0) (h1 : Kd.C (Kd.int .i64) w A1 l1.length l1) (hc1 : l1.length ≤ c1) :
    Calls Tryd.prog 20 #[.slice A0 l0.length c0, .slice A1 l1.length c1] w fun e w' => e = .returned (.bool (beg l0 l1)) ∧ Below w.heap.size w w' :=
  (begins_c w A0 c0 l0 A1 c1 l1 h0 hc0 h1 hc1).mono fun e w' q => ⟨q.1, (Drawn0.mk q.2).below⟩
theorem rEnded_n (w : World) (A : Option Addr) (n c : Nat) (l : List Int) (o : Bool) (e s y : Int) (el : l.length = n) (h : Kd.C (Kd.int .i64) w A n l) (hc : n ≤ c) : Calls Tryd.prog 16 #[.agg #[.slice A n c, .bool o, .int .i64 e, .int .i64 s, .int .i64 y]] w fun x w' => x = .returned (.bool (fin o e)) ∧ Below w.heap.size w w' := by
  subst el
  exact lockstitchref22_Ended.calls A c l o e s y _ w h hc (rended_val l o e s y)
end Go.Proofs.YtfkfpcciacplkaaDoor.TRW

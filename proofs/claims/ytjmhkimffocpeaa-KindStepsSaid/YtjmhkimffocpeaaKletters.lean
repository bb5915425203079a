/-
  The law KindLetters, in plain words.
-/
import Derived.Test.YtjmhkimffocpeaaKalive
import Derived.Test.YtjmhkimffocpeaaK5x
namespace Go.Proofs.Ytjmhkimffocpeaa.KL
open Go.RowKit Go.Proofs.YtjmhkimffocpeaaW.PrintWords Go.Proofs.YtjmhkimffocpeaaW.PrintMore Go.Proofs.Ytjmhkimffocpeaa.Scan Go.Proofs.Ytjmhkimffocpeaa.K Go.Proofs.Ytjmhkimffocpeaa.KP Go.Proofs.Ytjmhkimffocpeaa.KR Go.Proofs.Ytjmhkimffocpeaa.KF Go.Proofs.Ytjmhkimffocpeaa.KG Go.Proofs.Ytjmhkimffocpeaa.KA Go.Proofs.Ytjmhkimffocpeaa.K5

/-! ### the bits of a mask -/
noncomputable def tb (ts : List ByteArray) (t : Int) (k : Nat) : Bool := decide (0 ≤ to_ ts t k)
noncomputable def mkN (ts : List ByteArray) (t : Int) : Nat → Nat
  | 0 => 0
  | i + 1 => if tb ts t i then 2 ^ i + mkN ts t i else mkN ts t i
theorem mkN_eq (ts : List ByteArray) (t : Int) : ∀ i, mk ts t i = (mkN ts t i : Int)
  | 0 => rfl
  | i + 1 => by
    rw [mk, mkN, mkN_eq ts t i]
    unfold tb
    by_cases h : 0 ≤ to_ ts t i
    · rw [if_pos h, if_pos (decide_eq_true h)]
      push_cast
      omega
    · rw [if_neg h, if_neg (by simpa using h)]
      omega
theorem mkN_lt (ts : List ByteArray) (t : Int) (i : Nat) : mkN ts t i < 2 ^ i := by
  have := (mk_range ts t i).2
  rw [mkN_eq] at this
  exact_mod_cast this
theorem mkN_bit (ts : List ByteArray) (t : Int) (k : Nat) : ∀ i, (mkN ts t i).testBit k = (decide (k < i) && tb ts t k)
  | 0 => by simp [mkN]
  | i + 1 => by
    have ih := mkN_bit ts t k i
    have hlt := mkN_lt ts t i
    rw [mkN]
    rcases Nat.lt_trichotomy k i with h | h | h
    · split
      · rw [Nat.testBit_two_pow_add_gt h, ih]
        simp [h, Nat.lt_succ_of_lt h]
      · rw [ih]
        simp [h, Nat.lt_succ_of_lt h]
    · subst h
      have h0 : (mkN ts t k).testBit k = false := Nat.testBit_lt_two_pow hlt
      split
      · rename_i hb
        rw [Nat.testBit_two_pow_add_eq, h0, hb]
        simp
      · rename_i hb
        rw [h0]
        simp [hb]
    · have h1 : mkN ts t (i + 1) < 2 ^ k := Nat.lt_of_lt_of_le (mkN_lt ts t (i + 1)) (Nat.pow_le_pow_right (by decide) h)
      rw [mkN] at h1
      rw [Nat.testBit_lt_two_pow h1]
      simp [Nat.not_lt.2 h]
theorem tb_out {ts : List ByteArray} {t : Int} {k : Nat} (h : tb ts t k = true) : k < (typ ts t).size := by
  unfold tb at h
  have h0 := of_decide_eq_true h
  unfold to_ size at h0
  split at h0
  · omega
  · omega
theorem mask_bit (ts : List ByteArray) (t : Int) (k : Nat) : (mkN ts t (typ ts t).size).testBit k = tb ts t k := by
  rw [mkN_bit]
  cases h : tb ts t k
  · simp
  · simp [tb_out h]
theorem and_shr : ∀ k : Nat, k < 8 → ∀ m : Nat, m < 64 → Go.bits .and .u8 (shr .u8 (m : Int) (k : Int)) 1 = if m.testBit k then 1 else 0 := by decide +kernel
theorem mask_small (ts : List ByteArray) (t : Int) : mkN ts t (typ ts t).size < 64 :=
  Nat.lt_of_lt_of_le (mkN_lt ts t _) (Nat.le_trans (Nat.pow_le_pow_right (by decide) (typ_le ts t)) (by decide))
/-- how many of the first k fields are pointers -/
noncomputable def cn (ts : List ByteArray) (t : Int) : Nat → Nat
  | 0 => 0
  | k + 1 => if tb ts t k then cn ts t k + 1 else cn ts t k
theorem cn_le (ts : List ByteArray) (t : Int) : ∀ k, cn ts t k ≤ k
  | 0 => Nat.le_refl _
  | k + 1 => by
    have := cn_le ts t k
    rw [cn]
    split <;> omega
theorem cn_stay (ts : List ByteArray) (t : Int) : ∀ d, cn ts t ((typ ts t).size + d) = cn ts t (typ ts t).size
  | 0 => rfl
  | d + 1 => by
    rw [show (typ ts t).size + (d + 1) = ((typ ts t).size + d) + 1 from rfl, cn, if_neg, cn_stay ts t d]
    intro h
    have := tb_out h
    omega

section
variable (ts : List ByteArray) (hl : (ts.length : Int) ≤ 9223372036854775807) (hs : ∀ s ∈ ts, (s.size : Int) ≤ 9223372036854775807)
include hl hs
theorem letters_l4 (t : Int) (_hi : Is ts t) (h2 : Ev (fun k => lockstitchlaw03_KindLetters.l2 k ts true (wrap64 (t + 1))) true) :
    ∀ (d i : Nat), i + d = 8 → Ev (fun k => lockstitchlaw03_KindLetters.l4 k ts true t (cn ts t (typ ts t).size : Int) (cn ts t i : Int) (i : Int)) true := by
  intro d
  induction d with
  | zero =>
    intro i hi
    obtain rfl : i = 8 := by omega
    have h6 := typ_le ts t
    have e := cn_stay ts t (8 - (typ ts t).size)
    rw [show (typ ts t).size + (8 - (typ ts t).size) = 8 by omega] at e
    refine ev_step (fun k => lockstitchlaw03_KindLetters.l4.eq_2 ..) (Ev.congr (fun k => if_neg (by decide)) (Ev.congr (fun k => if_pos (by rw [e])) h2))
  | succ d ih =>
    intro i hi
    have ih := ih (i + 1) (by omega)
    have hc := cn_le ts t i
    have hb := and_shr i (by omega) (mkN ts t (typ ts t).size) (mask_small ts t)
    rw [mask_bit] at hb
    refine ev_step (fun k => lockstitchlaw03_KindLetters.l4.eq_2 ..) (Ev.congr (fun k => if_pos (by omega)) (ev_bind (kind_Mask_ev ts hl hs t) (Ev.congr (fun k => if_pos (by omega)) ?_)))
    have ew : wrap64 ((i : Int) + 1) = ((i + 1 : Nat) : Int) := by unfold wrap64; omega
    have ec : wrap64 ((cn ts t i : Int) + wrap64 (Go.bits .and .u8 (shr .u8 (mask ts t) (i : Int)) 1)) = (cn ts t (i + 1) : Int) := by
      rw [mask, mkN_eq, hb, cn]
      split <;> unfold wrap64 <;> omega
    rw [ew, ec]
    exact ih
theorem letters_l3 (t : Int) (hi : Is ts t) (h2 : Ev (fun k => lockstitchlaw03_KindLetters.l2 k ts true (wrap64 (t + 1))) true) :
    ∀ (d i : Nat), i + d = (typ ts t).size → Ev (fun k => lockstitchlaw03_KindLetters.l3 k ts true t (cn ts t i : Int) ((typ ts t).size : Int) (i : Int)) true := by
  have h6 := typ_le ts t
  have et := typ_is hi
  intro d
  induction d with
  | zero =>
    intro i hd
    obtain rfl : i = (typ ts t).size := by omega
    exact ev_step (fun k => lockstitchlaw03_KindLetters.l3.eq_2 ..) (Ev.congr (fun k => if_neg (by omega)) (letters_l4 ts hl hs t hi h2 8 0 rfl))
  | succ d ih =>
    intro i hd
    have ih := ih (i + 1) (by omega)
    have hc := cn_le ts t i
    have ew : wrap64 ((i : Int) + 1) = ((i + 1 : Nat) : Int) := by unfold wrap64; omega
    have hok := (typ_ok hi).2.2 i (by omega) (by omega)
    refine ev_step (fun k => lockstitchlaw03_KindLetters.l3.eq_2 ..) (Ev.congr (fun k => if_pos (by omega)) (Ev.congr (fun k => if_pos hi.2.1) (Ev.congr (fun k => if_pos hi.2.2) (Ev.congr (fun k => if_pos (by omega)) (Ev.congr (fun k => if_pos (by rw [← et]; omega)) ?_)))))
    rw [ew, ← et]
    have hto : to_ ts t i = dg (bt (typ ts t) i) ts.length := by unfold to_ size; rw [if_pos ⟨by omega, by omega⟩]
    by_cases h : bt (typ ts t) i = 105
    · refine Ev.congr (fun k => if_pos h) ?_
      have hf : tb ts t i = false := by
        unfold tb
        rw [decide_eq_false_iff_not, hto, h]
        intro h0
        have := dg_lt _ _ h0
        have := hi.1.2.2
        omega
      rw [cn, hf] at ih
      exact ih
    · refine Ev.congr (fun k => if_neg h) ?_
      have ht : tb ts t i = true := by
        unfold tb
        rw [decide_eq_true_iff, hto]
        exact hok.resolve_left h
      rw [cn, ht, if_pos rfl] at ih
      have ec : wrap64 ((cn ts t i : Int) + 1) = ((cn ts t i + 1 : Nat) : Int) := by unfold wrap64; omega
      rw [ec]
      exact ih
theorem letters_l2 (hr : Rt ts) : ∀ (d i : Nat), i + d = ts.length → Ev (fun k => lockstitchlaw03_KindLetters.l2 k ts true (i : Int)) true := by
  intro d
  induction d with
  | zero =>
    intro i hi
    refine ev_step (fun k => lockstitchlaw03_KindLetters.l2.eq_2 ..) (Ev.congr (fun k => if_pos rfl) (ev_some fun k => ?_))
    rw [lockstitchlaw03_KindLetters.j5, if_neg (by rw [decide_eq_true_iff]; omega)]
  | succ d ih =>
    intro i hi
    have ih := ih (i + 1) (by omega)
    have ew : wrap64 ((i : Int) + 1) = ((i + 1 : Nat) : Int) := by unfold wrap64; omega
    have his : Is ts i := ⟨hr, by omega, by omega⟩
    rw [← ew] at ih
    refine ev_step (fun k => lockstitchlaw03_KindLetters.l2.eq_2 ..) (Ev.congr (fun k => if_pos rfl) (ev_step (fun k => lockstitchlaw03_KindLetters.j5.eq_2 ..) (Ev.congr (fun k => if_pos (by rw [decide_eq_true_iff]; omega)) (Ev.congr (fun k => if_pos (by omega)) (Ev.congr (fun k => if_pos (by omega)) ?_)))))
    rw [← typ_is his]
    exact letters_l3 ts hl hs i his ih _ 0 (Nat.zero_add _)
theorem letters_end (q : Bool) (hq : q = right ts) : Ev (fun k => lockstitchlaw03_KindLetters.l0 k ts q ts (ts.length : Int) (ts.length : Int)) true := by
  refine ev_step (fun k => lockstitchlaw03_KindLetters.l0.eq_2 ..) (Ev.congr (fun k => if_neg (by omega)) (ev_bind (kind_Right_ev ts hl hs) (Ev.congr (fun k => if_neg (by rw [hq]; simp)) ?_)))
  rcases right_cases ts with ⟨e, h⟩ | ⟨e, h⟩
  · rw [hq, e]
    exact letters_l2 ts hl hs h ts.length 0 (Nat.zero_add _)
  · rw [hq, e]
    refine ev_step (fun k => lockstitchlaw03_KindLetters.l2.eq_2 ..) (Ev.congr (fun k => if_neg (by decide)) (ev_some fun k => ?_))
    rw [lockstitchlaw03_KindLetters.j5, if_neg (by decide)]
end
/-! ### whether types may be, told letter by letter -/
open Classical in
noncomputable def fl (ts : List ByteArray) (i : Nat) : Bool := decide ((1 ≤ ts.length ∧ ts.length ≤ 8) ∧ ∀ j : Nat, j < i → OkT ts.length (rdOf ByteArray.empty ts j))
open Classical in
noncomputable def fi (ts : List ByteArray) (i j : Nat) : Bool := fl ts i && decide ((1 ≤ (rdOf ByteArray.empty ts i).size ∧ (rdOf ByteArray.empty ts i).size ≤ 6) ∧ ∀ q : Nat, q < j → OkC ts.length (bt (rdOf ByteArray.empty ts i) q))
theorem fl_iff (ts : List ByteArray) (i : Nat) : fl ts i = true ↔ (1 ≤ ts.length ∧ ts.length ≤ 8) ∧ ∀ j : Nat, j < i → OkT ts.length (rdOf ByteArray.empty ts j) := by simp [fl]
theorem fi_iff (ts : List ByteArray) (i j : Nat) : fi ts i j = true ↔ fl ts i = true ∧ (1 ≤ (rdOf ByteArray.empty ts i).size ∧ (rdOf ByteArray.empty ts i).size ≤ 6) ∧ ∀ q : Nat, q < j → OkC ts.length (bt (rdOf ByteArray.empty ts i) q) := by simp [fi]
theorem fl_end (ts : List ByteArray) : fl ts ts.length = right ts := by
  rw [Bool.eq_iff_iff, right_iff, fl_iff]
  refine ⟨fun h => ⟨fun i h0 h1 => ?_, h.1⟩, fun h => ⟨h.2, fun j hj => h.1 j (by omega) (by omega)⟩⟩
  obtain ⟨n, rfl⟩ := Int.eq_ofNat_of_zero_le h0
  exact h.2 n (by omega)
theorem fi_end (ts : List ByteArray) (i : Nat) : fi ts i (rdOf ByteArray.empty ts i).size = fl ts (i + 1) := by
  rw [Bool.eq_iff_iff, fi_iff, fl_iff, fl_iff]
  constructor
  · rintro ⟨⟨h, ha⟩, hb, hc⟩
    refine ⟨h, fun j hj => ?_⟩
    rcases Nat.lt_succ_iff_lt_or_eq.1 hj with hlt | rfl
    · exact ha j hlt
    · refine ⟨hb.1, hb.2, fun q h0 h1 => ?_⟩
      obtain ⟨n, rfl⟩ := Int.eq_ofNat_of_zero_le h0
      exact hc n (by omega)
  · rintro ⟨h, ha⟩
    have := ha i (by omega)
    exact ⟨⟨h, fun j hj => ha j (by omega)⟩, ⟨this.1, this.2.1⟩, fun q hq => this.2.2 q (by omega) (by omega)⟩
theorem fi_succ (ts : List ByteArray) (i j : Nat) : fi ts i (j + 1) = (fi ts i j && decide (OkC ts.length (bt (rdOf ByteArray.empty ts i) j))) := by
  rw [Bool.eq_iff_iff, Bool.and_eq_true, decide_eq_true_iff, fi_iff, fi_iff]
  constructor
  · rintro ⟨h, hb, hc⟩
    exact ⟨⟨h, hb, fun q hq => hc q (by omega)⟩, hc j (by omega)⟩
  · rintro ⟨⟨h, hb, hc⟩, hj⟩
    refine ⟨h, hb, fun q hq => ?_⟩
    rcases Nat.lt_succ_iff_lt_or_eq.1 hq with hlt | rfl
    · exact hc q hlt
    · exact hj
section
variable (ts : List ByteArray) (hl : (ts.length : Int) ≤ 9223372036854775807) (hs : ∀ s ∈ ts, (s.size : Int) ≤ 9223372036854775807)
include hl hs
omit hl in
theorem letters_l1 (i : Nat) (h0 : Ev (fun k => lockstitchlaw03_KindLetters.l0 k ts (fl ts (i + 1)) ts (ts.length : Int) (wrap64 ((i : Int) + 1))) true) :
    ∀ (d j : Nat), j + d = (rdOf ByteArray.empty ts i).size → Ev (fun k => lockstitchlaw03_KindLetters.l1 k ts (fi ts i j) (rdOf ByteArray.empty ts i) ts (ts.length : Int) (i : Int) ((rdOf ByteArray.empty ts i).size : Int) (j : Int)) true := by
  have hz := rd_size ts hs i
  intro d
  induction d with
  | zero =>
    intro j hj
    obtain rfl : j = (rdOf ByteArray.empty ts i).size := by omega
    rw [fi_end]
    exact ev_step (fun k => lockstitchlaw03_KindLetters.l1.eq_2 ..) (Ev.congr (fun k => if_neg (by omega)) h0)
  | succ d ih =>
    intro j hj
    have ih := ih (j + 1) (by omega)
    have ew : wrap64 ((j : Int) + 1) = ((j + 1 : Nat) : Int) := by unfold wrap64; omega
    have hb := bt_range (rdOf ByteArray.empty ts i) j
    refine ev_step (fun k => lockstitchlaw03_KindLetters.l1.eq_2 ..) (Ev.congr (fun k => if_pos (by omega)) ?_)
    rw [ew]
    rw [fi_succ] at ih
    cases hf : fi ts i j with
    | false =>
      rw [hf, Bool.false_and] at ih
      exact Ev.congr (fun k => if_neg (by decide)) ih
    | true =>
      rw [hf, Bool.true_and] at ih
      refine Ev.congr (fun k => if_pos rfl) (Ev.congr (fun k => if_pos (by omega)) (Ev.congr (fun k => if_pos (by omega)) ?_))
      by_cases h : bt (rdOf ByteArray.empty ts i) j = 105
      · refine Ev.congr (fun k => if_pos h) ?_
        rw [decide_eq_true (show OkC ts.length (bt (rdOf ByteArray.empty ts i) j) from .inl h)] at ih
        exact ih
      · refine Ev.congr (fun k => if_neg h) ?_
        by_cases h' : bt (rdOf ByteArray.empty ts i) j ≥ 48
        · refine Ev.congr (fun k => if_pos h') ?_
          have e : decide ((bt (rdOf ByteArray.empty ts i) j - 48) % 256 < (ts.length : Int)) = decide (OkC ts.length (bt (rdOf ByteArray.empty ts i) j)) := by
            apply decide_eq_decide.2
            unfold OkC dg
            split <;> omega
          rw [e]
          exact ih
        · refine Ev.congr (fun k => if_neg h') ?_
          rw [decide_eq_false (show ¬ OkC ts.length (bt (rdOf ByteArray.empty ts i) j) from by unfold OkC dg; split <;> omega)] at ih
          exact ih
theorem letters_l0 : ∀ (d i : Nat), i + d = ts.length → Ev (fun k => lockstitchlaw03_KindLetters.l0 k ts (fl ts i) ts (ts.length : Int) (i : Int)) true := by
  intro d
  induction d with
  | zero =>
    intro i hi
    obtain rfl : i = ts.length := by omega
    exact letters_end ts hl hs _ (fl_end ts)
  | succ d ih =>
    intro i hi
    have ih := ih (i + 1) (by omega)
    have ew : wrap64 ((i : Int) + 1) = ((i + 1 : Nat) : Int) := by unfold wrap64; omega
    rw [← ew] at ih
    have L1 := letters_l1 ts hs i ih (rdOf ByteArray.empty ts i).size 0 (Nat.zero_add _)
    refine ev_step (fun k => lockstitchlaw03_KindLetters.l0.eq_2 ..) (Ev.congr (fun k => if_pos (by omega)) (Ev.congr (fun k => if_pos (by omega)) (Ev.congr (fun k => if_pos (by omega)) ?_)))
    have J : ∀ q, q = fi ts i 0 → Ev (fun k => lockstitchlaw03_KindLetters.j2 k ts q (rdOf ByteArray.empty ts i) ts (ts.length : Int) (i : Int)) true := by
      rintro q rfl
      exact ev_step (fun k => lockstitchlaw03_KindLetters.j2.eq_2 ..) L1
    have hfi : fi ts i 0 = true ↔ fl ts i = true ∧ 1 ≤ (rdOf ByteArray.empty ts i).size ∧ (rdOf ByteArray.empty ts i).size ≤ 6 := by
      rw [fi_iff]
      exact ⟨fun h => ⟨h.1, h.2.1⟩, fun h => ⟨h.1, h.2, fun q hq => by omega⟩⟩
    have no (h : ¬ (fl ts i = true ∧ 1 ≤ (rdOf ByteArray.empty ts i).size ∧ (rdOf ByteArray.empty ts i).size ≤ 6)) : false = fi ts i 0 := by
      rw [← hfi] at h
      exact (Bool.eq_false_iff.2 h).symm
    by_cases hf : fl ts i = true
    · refine Ev.congr (fun k => if_pos hf) ?_
      by_cases h1 : ((rdOf ByteArray.empty ts i).size : Int) ≥ 1
      · refine Ev.congr (fun k => if_pos h1) (J _ ?_)
        rw [Bool.eq_iff_iff, decide_eq_true_iff, hfi]
        exact ⟨fun h => ⟨hf, by omega, by omega⟩, fun h => by omega⟩
      · exact Ev.congr (fun k => if_neg h1) (J _ (no fun h => by omega))
    · exact Ev.congr (fun k => if_neg hf) (J _ (no fun h => hf h.1))
theorem KindLetters_pure : Ev (fun k => lockstitchlaw03_KindLetters.f k ts) true := by
  classical
  have L := letters_l0 ts hl hs ts.length 0 (Nat.zero_add _)
  have J : ∀ q, q = fl ts 0 → Ev (fun k => lockstitchlaw03_KindLetters.j0 k ts q) true := by
    rintro q rfl
    exact ev_step (fun k => lockstitchlaw03_KindLetters.j0.eq_2 ..) L
  have hfl : fl ts 0 = true ↔ 1 ≤ ts.length ∧ ts.length ≤ 8 := by
    rw [fl_iff]
    exact ⟨fun h => h.1, fun h => ⟨h, fun q hq => by omega⟩⟩
  unfold lockstitchlaw03_KindLetters.f
  refine ev_bind alive_ev (Ev.congr (fun k => if_pos rfl) (ev_bind (few_ev ts hl) ?_))
  by_cases hf : Few ts
  · rw [decide_eq_true hf]
    refine Ev.congr (fun k => if_pos rfl) ?_
    by_cases h1 : (ts.length : Int) ≥ 1
    · refine Ev.congr (fun k => if_pos h1) (J _ ?_)
      rw [Bool.eq_iff_iff, decide_eq_true_iff, hfl]
      omega
    · refine Ev.congr (fun k => if_neg h1) (J _ ?_)
      symm
      rw [Bool.eq_false_iff, Ne, hfl]
      omega
  · rw [decide_eq_false hf]
    exact Ev.congr (fun k => if_neg (by decide)) ev_const
end
end Go.Proofs.Ytjmhkimffocpeaa.KL

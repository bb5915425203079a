/- Texts of this claim, pruned to what it needs and laid together by prune.py. -/
import Derived.Test.YtkplgfhkebkaaaaDoorMD14
import Derived.Test.YtkplgfhkebkaaaaDoorMD25
namespace Go.Proofs.YtkplgfhkebkaaaaDoor.KP
open Go.RowKit Go.Proofs.YtkplgfhkebkaaaaDoorW.PrintWords Go.Proofs.YtkplgfhkebkaaaaDoor.Scan Go.Proofs.YtkplgfhkebkaaaaDoor.F
def dg (c n : Int) : Int := if 48 ≤ c ∧ c - 48 < n then c - 48 else -1
theorem ref_digit_val {c n : Int} (h0 : 0 ≤ c) (h1 : c ≤ 255) : lockstitchref03_digit.f c n = some (dg c n) := by
  unfold lockstitchref03_digit.f dg
  by_cases h : c < 48
  · rw [if_pos h, if_neg (by omega)]
  · have e : (c - 48) % 256 = c - 48 := by omega
    rw [if_neg h, e]
    by_cases h' : c - 48 < n
    · rw [if_neg (by omega), if_pos (by omega)]
    · rw [if_pos (by omega), if_neg (by omega)]
def OkC (n c : Int) : Prop := c = 105 ∨ 0 ≤ dg c n
instance (n c : Int) : Decidable (OkC n c) := by unfold OkC; infer_instance
def AllC (n : Int) (s : ByteArray) : Prop := ∀ j : Int, 0 ≤ j → j < s.size → OkC n (bt s j)
def AllD (n : Int) (s : ByteArray) : Prop := ∀ j : Int, 0 ≤ j → j < s.size → 0 ≤ dg (bt s j) n
def OkT (n : Int) (s : ByteArray) : Prop := 1 ≤ s.size ∧ s.size ≤ 6 ∧ AllC n s
def Rt (ts : List ByteArray) : Prop := (∀ i : Int, 0 ≤ i → i < ts.length → OkT ts.length (rdOf ByteArray.empty ts i)) ∧ 1 ≤ ts.length ∧ ts.length ≤ 8
open Classical in
noncomputable def right (ts : List ByteArray) : Bool := decide (Rt ts)
open Classical in
noncomputable def refs (ts : List ByteArray) (s : ByteArray) : Bool := decide (Rt ts ∧ AllD ts.length s)
theorem right_iff (ts : List ByteArray) : right ts = true ↔ Rt ts := by simp [right]
theorem wrap_succ {i n : Int} (h0 : 0 ≤ i) (h : i < n) (hn : n ≤ 9223372036854775807) : wrap64 (i + 1) = i + 1 := by unfold wrap64; omega
theorem toList_nil (s : ByteArray) : s.toList = [] ↔ s.size = 0 := by
  rw [ByteArray.toList_eq]
  constructor
  · intro h
    have := data_length s
    rw [h] at this
    simpa using this.symm
  · intro h
    have := data_length s
    rw [h] at this
    exact List.length_eq_zero_iff.1 this
theorem rd_size (ts : List ByteArray) (hs : ∀ s ∈ ts, (s.size : Int) ≤ 9223372036854775807) (i : Int) : ((rdOf ByteArray.empty ts i).size : Int) ≤ 9223372036854775807 := by
  unfold rdOf
  rw [List.getD_eq_getElem?_getD]
  cases h : ts[i.toNat]? with
  | none => simp
  | some s => exact hs s (List.mem_of_getElem? h)
theorem ref_l1_step (ts : List ByteArray) (i : Int) (s : ByteArray) (hz : (s.size : Int) ≤ 9223372036854775807) (j : Int) (q : Bool) (h0 : 0 ≤ j) (h1 : j < s.size) (hk : OkC ts.length (bt s j))
    (hq : Ev (fun k => lockstitchref03_Right.l1 k ts i s (j + 1)) q) : Ev (fun k => lockstitchref03_Right.l1 k ts i s j) q := by
  refine ev_step (fun k => ?_) hq
  have hb := bt_range s j
  show lockstitchref03_Right.l1 (k + 1) ts i s j = lockstitchref03_Right.l1 k ts i s (j + 1)
  rw [lockstitchref03_Right.l1, if_pos h1, if_pos h0, wrap_succ h0 h1 hz]
  by_cases hc : bt s j = 105
  · rw [if_pos hc]
  · rw [if_neg hc, ref_digit_val hb.1 hb.2, Option.bind_some, if_neg (by have := hk.resolve_left hc; omega)]
theorem ref_l1_bad (ts : List ByteArray) (i : Int) (s : ByteArray) (j : Int) (h0 : 0 ≤ j) (h1 : j < s.size) (hk : ¬ OkC ts.length (bt s j)) :
    Ev (fun k => lockstitchref03_Right.l1 k ts i s j) false := by
  refine ev_some fun k => ?_
  have hb := bt_range s j
  rw [lockstitchref03_Right.l1, if_pos h1, if_pos h0]
  rw [if_neg (fun hc => hk (.inl hc)), ref_digit_val hb.1 hb.2, Option.bind_some, if_pos (by have : ¬ 0 ≤ dg (bt s j) ts.length := fun hd => hk (.inr hd); omega)]
theorem ref_Right_ev (ts : List ByteArray) (hl : (ts.length : Int) ≤ 9223372036854775807) (hs : ∀ s ∈ ts, (s.size : Int) ≤ 9223372036854775807) : Ev (fun k => lockstitchref03_Right.f k ts) (right ts) := by
  classical
  have H1 : ∀ i q, 0 ≤ i → i < (ts.length : Int) → OkT ts.length (rdOf ByteArray.empty ts i) → Ev (fun k => lockstitchref03_Right.l0 k ts (i + 1)) q → Ev (fun k => lockstitchref03_Right.l0 k ts i) q := by
    intro i q h0 h1 hk hq
    have hz := rd_size ts hs i
    refine ev_step (f := fun k => lockstitchref03_Right.l1 k ts i (rdOf ByteArray.empty ts i) 0) (fun k => ?_) ?_
    · show lockstitchref03_Right.l0 (k + 1) ts i = _
      rw [lockstitchref03_Right.l0, if_pos h1, if_pos h0]
    · refine scan0_good (fun k j => lockstitchref03_Right.l1 k ts i (rdOf ByteArray.empty ts i) j) _ q _ (by omega) (fun j q' a b c d => ref_l1_step ts i _ hz j q' a b c d) ?_ hk.2.2
      refine ev_step (fun k => ?_) hq
      show lockstitchref03_Right.l1 (k + 1) _ _ _ _ = _
      have := hk.1
      have := hk.2.1
      rw [lockstitchref03_Right.l1, if_neg (by omega), if_neg (by omega), if_neg (by omega), wrap_succ h0 h1 hl]
  have H2 : ∀ i, 0 ≤ i → i < (ts.length : Int) → ¬ OkT ts.length (rdOf ByteArray.empty ts i) → Ev (fun k => lockstitchref03_Right.l0 k ts i) false := by
    intro i h0 h1 hk
    have hz := rd_size ts hs i
    refine ev_step (f := fun k => lockstitchref03_Right.l1 k ts i (rdOf ByteArray.empty ts i) 0) (fun k => ?_) ?_
    · show lockstitchref03_Right.l0 (k + 1) ts i = _
      rw [lockstitchref03_Right.l0, if_pos h1, if_pos h0]
    · by_cases ha : AllC ts.length (rdOf ByteArray.empty ts i)
      · refine scan0_good (fun k j => lockstitchref03_Right.l1 k ts i (rdOf ByteArray.empty ts i) j) _ false _ (by omega) (fun j q' a b c d => ref_l1_step ts i _ hz j q' a b c d) (ev_some fun k => ?_) ha
        rw [lockstitchref03_Right.l1, if_neg (by omega)]
        by_cases h1' : ((rdOf ByteArray.empty ts i).size : Int) < 1
        · rw [if_pos h1']
        · rw [if_neg h1', if_pos]
          have : ¬ (1 ≤ (rdOf ByteArray.empty ts i).size ∧ (rdOf ByteArray.empty ts i).size ≤ 6) := fun h => hk ⟨h.1, h.2, ha⟩
          omega
      · exact scan0_bad (fun k j => lockstitchref03_Right.l1 k ts i (rdOf ByteArray.empty ts i) j) _ false (fun j => OkC ts.length (bt (rdOf ByteArray.empty ts i) j)) (by omega) (fun j q' a b c d => ref_l1_step ts i _ hz j q' a b c d) (fun j a b c => ref_l1_bad ts i _ j a b c) ha
  show Ev (fun k => lockstitchref03_Right.l0 k ts 0) (right ts)
  by_cases h : ∀ i : Int, 0 ≤ i → i < ts.length → OkT ts.length (rdOf ByteArray.empty ts i)
  · have e : right ts = decide (1 ≤ ts.length ∧ ts.length ≤ 8) := by
      unfold right
      rw [decide_eq_decide]
      exact ⟨fun x => x.2, fun x => ⟨h, x⟩⟩
    rw [e]
    refine scan0_good (fun k i => lockstitchref03_Right.l0 k ts i) _ _ _ (by omega) H1 (ev_some fun k => ?_) h
    simp only [lockstitchref03_Right.l0]
    rw [if_neg (by omega)]
    by_cases h : 1 ≤ ts.length
    · rw [if_pos (by omega)]
      congr 1
      rw [decide_eq_decide]
      omega
    · rw [if_neg (by omega)]
      congr 1
      symm
      rw [decide_eq_false_iff_not]
      omega
  · have e : right ts = false := by
      unfold right
      rw [decide_eq_false_iff_not]
      exact fun x => h x.1
    rw [e]
    exact scan0_bad (fun k i => lockstitchref03_Right.l0 k ts i) _ false _ (by omega) H1 H2 h
theorem ref_Refs_ev (ts : List ByteArray) (s : ByteArray) (hl : (ts.length : Int) ≤ 9223372036854775807) (hs : ∀ s ∈ ts, (s.size : Int) ≤ 9223372036854775807) (hz : (s.size : Int) ≤ 9223372036854775807) :
    Ev (fun k => lockstitchref03_Refs.f k ts s) (refs ts s) := by
  classical
  have H1 : ∀ i q, 0 ≤ i → i < (s.size : Int) → 0 ≤ dg (bt s i) ts.length → Ev (fun k => lockstitchref03_Refs.l0 k ts s (i + 1)) q → Ev (fun k => lockstitchref03_Refs.l0 k ts s i) q := by
    intro i q h0 h1 hk hq
    have hb := bt_range s i
    refine ev_step (fun k => ?_) hq
    show lockstitchref03_Refs.l0 (k + 1) _ _ _ = lockstitchref03_Refs.l0 k ts s (i + 1)
    rw [lockstitchref03_Refs.l0, if_pos h1, if_pos h0, ref_digit_val hb.1 hb.2, Option.bind_some, if_neg (by omega), wrap_succ h0 h1 hz]
  have H2 : ∀ i, 0 ≤ i → i < (s.size : Int) → ¬ 0 ≤ dg (bt s i) ts.length → Ev (fun k => lockstitchref03_Refs.l0 k ts s i) false := by
    intro i h0 h1 hk
    have hb := bt_range s i
    refine ev_some fun k => ?_
    rw [lockstitchref03_Refs.l0, if_pos h1, if_pos h0, ref_digit_val hb.1 hb.2, Option.bind_some, if_pos (by omega)]
  show Ev (fun k => lockstitchref03_Refs.l0 k ts s 0) (refs ts s)
  by_cases h : AllD ts.length s
  · have e : refs ts s = right ts := by
      unfold refs right
      rw [decide_eq_decide]
      exact ⟨fun x => x.1, fun x => ⟨x, h⟩⟩
    rw [e]
    refine scan0_good (fun k i => lockstitchref03_Refs.l0 k ts s i) _ _ _ (by omega) H1 ?_ h
    refine ev_step (f := fun k => (lockstitchref03_Right.f k ts).bind fun t => some t) (fun k => ?_) (ev_bind (ref_Right_ev ts hl hs) ev_const)
    show lockstitchref03_Refs.l0 (k + 1) _ _ _ = _
    rw [lockstitchref03_Refs.l0, if_neg (by omega)]
  · have e : refs ts s = false := by
      unfold refs
      rw [decide_eq_false_iff_not]
      exact fun x => h x.2
    rw [e]
    exact scan0_bad (fun k i => lockstitchref03_Refs.l0 k ts s i) _ false _ (by omega) H1 H2 h
def Is (ts : List ByteArray) (t : Int) : Prop := Rt ts ∧ 0 ≤ t ∧ t < ts.length
open Classical in
noncomputable def typ (ts : List ByteArray) (t : Int) : ByteArray := if Is ts t then rdOf ByteArray.empty ts t else ⟨#[]⟩
theorem typ_is {ts : List ByteArray} {t : Int} (h : Is ts t) : typ ts t = rdOf ByteArray.empty ts t := by unfold typ; rw [if_pos h]
theorem typ_not {ts : List ByteArray} {t : Int} (h : ¬ Is ts t) : typ ts t = ⟨#[]⟩ := by unfold typ; rw [if_neg h]
theorem typ_ok {ts : List ByteArray} {t : Int} (h : Is ts t) : OkT ts.length (typ ts t) := by rw [typ_is h]; exact h.1.1 t h.2.1 h.2.2
theorem typ_le (ts : List ByteArray) (t : Int) : (typ ts t).size ≤ 6 := by
  by_cases h : Is ts t
  · exact (typ_ok h).2.1
  · rw [typ_not h]; decide
noncomputable def size (ts : List ByteArray) (t : Int) : Int := ((typ ts t).size : Int)
open Classical in
noncomputable def to_ (ts : List ByteArray) (t f : Int) : Int := if 0 ≤ f ∧ f < size ts t then dg (bt (typ ts t) f) ts.length else -1
theorem right_cases (ts : List ByteArray) : (right ts = true ∧ Rt ts) ∨ (right ts = false ∧ ¬ Rt ts) := by
  classical
  by_cases h : Rt ts
  · exact .inl ⟨(right_iff ts).2 h, h⟩
  · refine .inr ⟨?_, h⟩
    cases e : right ts
    · rfl
    · exact absurd ((right_iff ts).1 e) h
section
variable (ts : List ByteArray) (hl : (ts.length : Int) ≤ 9223372036854775807) (hs : ∀ s ∈ ts, (s.size : Int) ≤ 9223372036854775807)
include hl hs
open Classical in
theorem ref_is_ev (t : Int) : Ev (fun k => lockstitchref03_is.f k ts t) (decide (Is ts t)) := by
  refine ev_bind (ref_Right_ev ts hl hs) (ev_all fun k => ?_)
  rcases right_cases ts with ⟨e, h⟩ | ⟨e, h⟩
  · rw [e, if_pos rfl]
    by_cases h0 : t ≥ 0
    · rw [if_pos h0]
      congr 1
      rw [decide_eq_decide]
      exact ⟨fun x => ⟨h, h0, x⟩, fun x => x.2.2⟩
    · rw [if_neg h0]
      congr 1
      symm
      rw [decide_eq_false_iff_not]
      exact fun x => h0 x.2.1
  · rw [e, if_neg (by decide)]
    congr 1
    symm
    rw [decide_eq_false_iff_not]
    exact fun x => h x.1
theorem ref_Size_ev (t : Int) : Ev (fun k => lockstitchref03_Size.f k ts t) (size ts t) := by
  classical
  refine ev_bind (ref_is_ev ts hl hs t) (ev_all fun k => ?_)
  unfold size
  by_cases h : Is ts t
  · rw [decide_eq_true h, if_pos rfl, if_pos h.2.1, if_pos h.2.2, typ_is h]
  · rw [decide_eq_false h, if_neg (by decide), typ_not h]
    rfl
theorem ref_To_ev (t f : Int) : Ev (fun k => lockstitchref03_To.f k ts t f) (to_ ts t f) := by
  classical
  refine ev_bind (ref_is_ev ts hl hs t) (ev_all fun k => ?_)
  unfold to_ size
  by_cases h : Is ts t
  · have hb := bt_range (rdOf ByteArray.empty ts t) f
    rw [decide_eq_true h, if_pos rfl, typ_is h]
    by_cases h0 : f < 0
    · rw [if_pos h0, if_neg (by omega)]
    · by_cases h1 : f ≥ (rdOf ByteArray.empty ts t).size
      · rw [if_neg h0, if_pos h.2.1, if_pos h.2.2, if_pos h1, if_neg (by omega)]
      · rw [if_neg h0, if_pos h.2.1, if_pos h.2.2, if_neg h1, if_pos (by omega), if_pos (by omega), ref_digit_val hb.1 hb.2, if_pos (by omega)]
        rfl
  · rw [decide_eq_false h, if_neg (by decide), typ_not h, if_neg]
    have : (⟨#[]⟩ : ByteArray).size = 0 := rfl
    omega
end
noncomputable def mk (ts : List ByteArray) (t : Int) : Nat → Int
  | 0 => 0
  | i + 1 => mk ts t i + if 0 ≤ to_ ts t i then 2 ^ i else 0
noncomputable def mask (ts : List ByteArray) (t : Int) : Int := mk ts t (typ ts t).size
section
variable (ts : List ByteArray) (hl : (ts.length : Int) ≤ 9223372036854775807) (hs : ∀ s ∈ ts, (s.size : Int) ≤ 9223372036854775807)
include hl hs
end
def Few (ts : List ByteArray) : Prop := (∀ i : Int, 0 ≤ i → i < ts.length → ((rdOf ByteArray.empty ts i).size : Int) ≤ 50) ∧ ts.length ≤ 20
end Go.Proofs.YtkplgfhkebkaaaaDoor.KP

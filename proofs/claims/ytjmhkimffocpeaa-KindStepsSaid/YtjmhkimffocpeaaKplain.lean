/-
  The printed functions of packages kind and lockstitchref03, told in plain words.
-/
import Derived.Test.YtjmhkimffocpeaaScan
import Derived.Test.YtjmhkimffocpeaaKx
namespace Go.Proofs.Ytjmhkimffocpeaa.KP
open Go.RowKit Go.Proofs.YtjmhkimffocpeaaW.PrintWords Go.Proofs.Ytjmhkimffocpeaa.Scan Go.Proofs.Ytjmhkimffocpeaa.K

/-- the type that a letter names among n types; -1: none -/
def dg (c n : Int) : Int := if 48 ≤ c ∧ c - 48 < n then c - 48 else -1
theorem dg_lt (c n : Int) (h : 0 ≤ dg c n) : 48 ≤ c ∧ c - 48 < n ∧ dg c n = c - 48 := by
  unfold dg at *
  split at h
  · rename_i hh
    rw [if_pos hh]
    exact ⟨hh.1, hh.2, rfl⟩
  · omega
theorem kind_digit_val {c n : Int} (h0 : 0 ≤ c) (h1 : c ≤ 255) : kind_digit.f c n = some (dg c n) := by
  have e1 : wrap64 c = c := by unfold wrap64; omega
  have e2 : wrap64 (c - 48) = c - 48 := by unfold wrap64; omega
  unfold kind_digit.f dg
  rw [e1, e2]
  by_cases h : 48 ≤ c
  · by_cases h' : c - 48 < n
    · rw [if_pos (by omega), if_pos h', if_pos ⟨h, h'⟩]
    · rw [if_pos (by omega), if_neg h', if_neg (by omega)]
  · rw [if_neg (by omega), if_neg (by omega)]
theorem ref_digit_val {c n : Int} (h0 : 0 ≤ c) (h1 : c ≤ 255) : lockstitchref03_digit.f c n = some (dg c n) := by
  unfold lockstitchref03_digit.f dg
  by_cases h : c < 48
  · rw [if_pos h, if_neg (by omega)]
  · have e : (c - 48) % 256 = c - 48 := by omega
    rw [if_neg h, e]
    by_cases h' : c - 48 < n
    · rw [if_neg (by omega), if_pos (by omega)]
    · rw [if_pos (by omega), if_neg (by omega)]

/-- may a letter be a field's? -/
def OkC (n c : Int) : Prop := c = 105 ∨ 0 ≤ dg c n
instance (n c : Int) : Decidable (OkC n c) := by unfold OkC; infer_instance
def AllC (n : Int) (s : ByteArray) : Prop := ∀ j : Int, 0 ≤ j → j < s.size → OkC n (bt s j)
def AllD (n : Int) (s : ByteArray) : Prop := ∀ j : Int, 0 ≤ j → j < s.size → 0 ≤ dg (bt s j) n
/-- may there be such a type? -/
def OkT (n : Int) (s : ByteArray) : Prop := 1 ≤ s.size ∧ s.size ≤ 6 ∧ AllC n s
/-- may there be such types? -/
def Rt (ts : List ByteArray) : Prop := (∀ i : Int, 0 ≤ i → i < ts.length → OkT ts.length (rdOf ByteArray.empty ts i)) ∧ 1 ≤ ts.length ∧ ts.length ≤ 8
open Classical in
noncomputable def right (ts : List ByteArray) : Bool := decide (Rt ts)
open Classical in
noncomputable def refs (ts : List ByteArray) (s : ByteArray) : Bool := decide (Rt ts ∧ AllD ts.length s)
theorem right_iff (ts : List ByteArray) : right ts = true ↔ Rt ts := by simp [right]
theorem refs_iff (ts : List ByteArray) (s : ByteArray) : refs ts s = true ↔ Rt ts ∧ AllD ts.length s := by simp [refs]

theorem wrap_succ {i n : Int} (h0 : 0 ≤ i) (h : i < n) (hn : n ≤ 9223372036854775807) : wrap64 (i + 1) = i + 1 := by unfold wrap64; omega

theorem bt_byte (s : ByteArray) (i : Int) : 0 ≤ bt s i ∧ bt s i ≤ 255 := bt_range s i

theorem toList_nil (s : ByteArray) : s.toList = [] ↔ s.size = 0 := by
  rw [ByteArray.toList_eq]
  constructor
  · intro h
    have := data_length s
    rw [h] at this
    simpa using this.symm
  · intro h
    have := data_length s
    rw [h] at this
    exact List.length_eq_zero_iff.1 this

theorem rd_size (ts : List ByteArray) (hs : ∀ s ∈ ts, (s.size : Int) ≤ 9223372036854775807) (i : Int) : ((rdOf ByteArray.empty ts i).size : Int) ≤ 9223372036854775807 := by
  unfold rdOf
  rw [List.getD_eq_getElem?_getD]
  cases h : ts[i.toNat]? with
  | none => simp
  | some s => exact hs s (List.mem_of_getElem? h)

/-! ### kind.Right -/
theorem kind_l1_step (ts : List ByteArray) (i : Int) (s : ByteArray) (hz : (s.size : Int) ≤ 9223372036854775807) (j : Int) (q : Bool) (h0 : 0 ≤ j) (h1 : j < s.size) (hk : OkC ts.length (bt s j))
    (hq : Ev (fun k => kind_Right.l1 k ts s ts (ts.length : Int) i (s.size : Int) (j + 1)) q) : Ev (fun k => kind_Right.l1 k ts s ts (ts.length : Int) i (s.size : Int) j) q := by
  refine ev_step (fun k => ?_) hq
  have hb := bt_range s j
  show kind_Right.l1 (k + 1) ts s ts (ts.length : Int) i (s.size : Int) j = kind_Right.l1 k ts s ts (ts.length : Int) i (s.size : Int) (j + 1)
  rw [kind_Right.l1, if_pos h1, if_pos h0, if_pos h1, wrap_succ h0 h1 hz]
  by_cases hc : bt s j = 105
  · rw [if_pos hc]
  · rw [if_neg hc, kind_digit_val hb.1 hb.2, Option.bind_some, if_neg (by have := hk.resolve_left hc; omega)]
theorem kind_l1_bad (ts : List ByteArray) (i : Int) (s : ByteArray) (j : Int) (h0 : 0 ≤ j) (h1 : j < s.size) (hk : ¬ OkC ts.length (bt s j)) :
    Ev (fun k => kind_Right.l1 k ts s ts (ts.length : Int) i (s.size : Int) j) false := by
  refine ev_some fun k => ?_
  have hb := bt_range s j
  rw [kind_Right.l1, if_pos h1, if_pos h0, if_pos h1]
  rw [if_neg (fun hc => hk (.inl hc)), kind_digit_val hb.1 hb.2, Option.bind_some, if_pos (by have : ¬ 0 ≤ dg (bt s j) ts.length := fun hd => hk (.inr hd); omega)]

theorem kind_Right_ev (ts : List ByteArray) (hl : (ts.length : Int) ≤ 9223372036854775807) (hs : ∀ s ∈ ts, (s.size : Int) ≤ 9223372036854775807) : Ev (fun k => kind_Right.f k ts) (right ts) := by
  classical
  have H1 : ∀ i q, 0 ≤ i → i < (ts.length : Int) → OkT ts.length (rdOf ByteArray.empty ts i) → Ev (fun k => kind_Right.l0 k ts ts (ts.length : Int) (i + 1)) q → Ev (fun k => kind_Right.l0 k ts ts (ts.length : Int) i) q := by
    intro i q h0 h1 hk hq
    have hz := rd_size ts hs i
    have hlen : (rdOf ByteArray.empty ts i).toList ≠ [] := fun e => by
      have := (toList_nil _).1 e
      have := hk.1
      omega
    refine ev_step (f := fun k => kind_Right.j1 k ts (rdOf ByteArray.empty ts i) ts (ts.length : Int) i false) (fun k => ?_) (ev_step (f := fun k => kind_Right.l1 k ts (rdOf ByteArray.empty ts i) ts (ts.length : Int) i ((rdOf ByteArray.empty ts i).size : Int) 0) (fun k => ?_) ?_)
    · show kind_Right.l0 (k + 1) ts ts (ts.length : Int) i = _
      rw [kind_Right.l0, if_pos h1, if_pos h0, if_pos h1, if_neg hlen]
      congr 1
      rw [decide_eq_false_iff_not]
      have := hk.2.1
      omega
    · show kind_Right.j1 (k + 1) _ _ _ _ _ _ = _
      rw [kind_Right.j1, if_neg (by decide)]
    · refine scan0_good (fun k j => kind_Right.l1 k ts (rdOf ByteArray.empty ts i) ts (ts.length : Int) i ((rdOf ByteArray.empty ts i).size : Int) j) _ q _ (by omega) (fun j q' a b c d => kind_l1_step ts i _ hz j q' a b c d) ?_ hk.2.2
      refine ev_step (fun k => ?_) hq
      show kind_Right.l1 (k + 1) _ _ _ _ _ _ _ = _
      rw [kind_Right.l1, if_neg (by omega), wrap_succ h0 h1 hl]
  have H2 : ∀ i, 0 ≤ i → i < (ts.length : Int) → ¬ OkT ts.length (rdOf ByteArray.empty ts i) → Ev (fun k => kind_Right.l0 k ts ts (ts.length : Int) i) false := by
    intro i h0 h1 hk
    have hz := rd_size ts hs i
    by_cases he : (rdOf ByteArray.empty ts i).toList = []
    · refine ev_step (f := fun k => kind_Right.j1 k ts (rdOf ByteArray.empty ts i) ts (ts.length : Int) i true) (fun k => ?_) (ev_some fun k => ?_)
      · show kind_Right.l0 (k + 1) ts ts (ts.length : Int) i = _
        rw [kind_Right.l0, if_pos h1, if_pos h0, if_pos h1, if_pos he]
      · rw [kind_Right.j1, if_pos rfl]
    · have hn : (rdOf ByteArray.empty ts i).size ≠ 0 := fun e => he ((toList_nil _).2 e)
      refine ev_step (f := fun k => kind_Right.j1 k ts (rdOf ByteArray.empty ts i) ts (ts.length : Int) i (decide (((rdOf ByteArray.empty ts i).size : Int) > 6))) (fun k => ?_) ?_
      · show kind_Right.l0 (k + 1) ts ts (ts.length : Int) i = _
        rw [kind_Right.l0, if_pos h1, if_pos h0, if_pos h1, if_neg he]
      · by_cases h6 : ((rdOf ByteArray.empty ts i).size : Int) > 6
        · refine ev_some fun k => ?_
          rw [kind_Right.j1, if_pos (decide_eq_true h6)]
        · refine ev_step (f := fun k => kind_Right.l1 k ts (rdOf ByteArray.empty ts i) ts (ts.length : Int) i ((rdOf ByteArray.empty ts i).size : Int) 0) (fun k => ?_) ?_
          · show kind_Right.j1 (k + 1) _ _ _ _ _ _ = _
            rw [kind_Right.j1, if_neg (by simpa using h6)]
          · exact scan0_bad (fun k j => kind_Right.l1 k ts (rdOf ByteArray.empty ts i) ts (ts.length : Int) i ((rdOf ByteArray.empty ts i).size : Int) j) _ false (fun j => OkC ts.length (bt (rdOf ByteArray.empty ts i) j)) (by omega) (fun j q' a b c d => kind_l1_step ts i _ hz j q' a b c d) (fun j a b c => kind_l1_bad ts i _ j a b c) fun ha => hk ⟨by omega, by omega, ha⟩
  show Ev (fun k => kind_Right.l0 k ts ts (ts.length : Int) 0) (right ts)
  by_cases h : ∀ i : Int, 0 ≤ i → i < ts.length → OkT ts.length (rdOf ByteArray.empty ts i)
  · have e : right ts = decide (1 ≤ ts.length ∧ ts.length ≤ 8) := by
      unfold right
      rw [decide_eq_decide]
      exact ⟨fun x => x.2, fun x => ⟨h, x⟩⟩
    rw [e]
    refine scan0_good (fun k i => kind_Right.l0 k ts ts (ts.length : Int) i) _ _ _ (by omega) H1 (ev_some fun k => ?_) h
    simp only [kind_Right.l0]
    rw [if_neg (by omega)]
    by_cases h : 1 ≤ ts.length
    · rw [if_pos (by omega)]
      congr 1
      rw [decide_eq_decide]
      omega
    · rw [if_neg (by omega)]
      congr 1
      symm
      rw [decide_eq_false_iff_not]
      omega
  · have e : right ts = false := by
      unfold right
      rw [decide_eq_false_iff_not]
      exact fun x => h x.1
    rw [e]
    exact scan0_bad (fun k i => kind_Right.l0 k ts ts (ts.length : Int) i) _ false _ (by omega) H1 H2 h

/-! ### lockstitchref03.Right -/
theorem ref_l1_step (ts : List ByteArray) (i : Int) (s : ByteArray) (hz : (s.size : Int) ≤ 9223372036854775807) (j : Int) (q : Bool) (h0 : 0 ≤ j) (h1 : j < s.size) (hk : OkC ts.length (bt s j))
    (hq : Ev (fun k => lockstitchref03_Right.l1 k ts i s (j + 1)) q) : Ev (fun k => lockstitchref03_Right.l1 k ts i s j) q := by
  refine ev_step (fun k => ?_) hq
  have hb := bt_range s j
  show lockstitchref03_Right.l1 (k + 1) ts i s j = lockstitchref03_Right.l1 k ts i s (j + 1)
  rw [lockstitchref03_Right.l1, if_pos h1, if_pos h0, wrap_succ h0 h1 hz]
  by_cases hc : bt s j = 105
  · rw [if_pos hc]
  · rw [if_neg hc, ref_digit_val hb.1 hb.2, Option.bind_some, if_neg (by have := hk.resolve_left hc; omega)]
theorem ref_l1_bad (ts : List ByteArray) (i : Int) (s : ByteArray) (j : Int) (h0 : 0 ≤ j) (h1 : j < s.size) (hk : ¬ OkC ts.length (bt s j)) :
    Ev (fun k => lockstitchref03_Right.l1 k ts i s j) false := by
  refine ev_some fun k => ?_
  have hb := bt_range s j
  rw [lockstitchref03_Right.l1, if_pos h1, if_pos h0]
  rw [if_neg (fun hc => hk (.inl hc)), ref_digit_val hb.1 hb.2, Option.bind_some, if_pos (by have : ¬ 0 ≤ dg (bt s j) ts.length := fun hd => hk (.inr hd); omega)]
theorem ref_Right_ev (ts : List ByteArray) (hl : (ts.length : Int) ≤ 9223372036854775807) (hs : ∀ s ∈ ts, (s.size : Int) ≤ 9223372036854775807) : Ev (fun k => lockstitchref03_Right.f k ts) (right ts) := by
  classical
  have H1 : ∀ i q, 0 ≤ i → i < (ts.length : Int) → OkT ts.length (rdOf ByteArray.empty ts i) → Ev (fun k => lockstitchref03_Right.l0 k ts (i + 1)) q → Ev (fun k => lockstitchref03_Right.l0 k ts i) q := by
    intro i q h0 h1 hk hq
    have hz := rd_size ts hs i
    refine ev_step (f := fun k => lockstitchref03_Right.l1 k ts i (rdOf ByteArray.empty ts i) 0) (fun k => ?_) ?_
    · show lockstitchref03_Right.l0 (k + 1) ts i = _
      rw [lockstitchref03_Right.l0, if_pos h1, if_pos h0]
    · refine scan0_good (fun k j => lockstitchref03_Right.l1 k ts i (rdOf ByteArray.empty ts i) j) _ q _ (by omega) (fun j q' a b c d => ref_l1_step ts i _ hz j q' a b c d) ?_ hk.2.2
      refine ev_step (fun k => ?_) hq
      show lockstitchref03_Right.l1 (k + 1) _ _ _ _ = _
      have := hk.1
      have := hk.2.1
      rw [lockstitchref03_Right.l1, if_neg (by omega), if_neg (by omega), if_neg (by omega), wrap_succ h0 h1 hl]
  have H2 : ∀ i, 0 ≤ i → i < (ts.length : Int) → ¬ OkT ts.length (rdOf ByteArray.empty ts i) → Ev (fun k => lockstitchref03_Right.l0 k ts i) false := by
    intro i h0 h1 hk
    have hz := rd_size ts hs i
    refine ev_step (f := fun k => lockstitchref03_Right.l1 k ts i (rdOf ByteArray.empty ts i) 0) (fun k => ?_) ?_
    · show lockstitchref03_Right.l0 (k + 1) ts i = _
      rw [lockstitchref03_Right.l0, if_pos h1, if_pos h0]
    · by_cases ha : AllC ts.length (rdOf ByteArray.empty ts i)
      · refine scan0_good (fun k j => lockstitchref03_Right.l1 k ts i (rdOf ByteArray.empty ts i) j) _ false _ (by omega) (fun j q' a b c d => ref_l1_step ts i _ hz j q' a b c d) (ev_some fun k => ?_) ha
        rw [lockstitchref03_Right.l1, if_neg (by omega)]
        by_cases h1' : ((rdOf ByteArray.empty ts i).size : Int) < 1
        · rw [if_pos h1']
        · rw [if_neg h1', if_pos]
          have : ¬ (1 ≤ (rdOf ByteArray.empty ts i).size ∧ (rdOf ByteArray.empty ts i).size ≤ 6) := fun h => hk ⟨h.1, h.2, ha⟩
          omega
      · exact scan0_bad (fun k j => lockstitchref03_Right.l1 k ts i (rdOf ByteArray.empty ts i) j) _ false (fun j => OkC ts.length (bt (rdOf ByteArray.empty ts i) j)) (by omega) (fun j q' a b c d => ref_l1_step ts i _ hz j q' a b c d) (fun j a b c => ref_l1_bad ts i _ j a b c) ha
  show Ev (fun k => lockstitchref03_Right.l0 k ts 0) (right ts)
  by_cases h : ∀ i : Int, 0 ≤ i → i < ts.length → OkT ts.length (rdOf ByteArray.empty ts i)
  · have e : right ts = decide (1 ≤ ts.length ∧ ts.length ≤ 8) := by
      unfold right
      rw [decide_eq_decide]
      exact ⟨fun x => x.2, fun x => ⟨h, x⟩⟩
    rw [e]
    refine scan0_good (fun k i => lockstitchref03_Right.l0 k ts i) _ _ _ (by omega) H1 (ev_some fun k => ?_) h
    simp only [lockstitchref03_Right.l0]
    rw [if_neg (by omega)]
    by_cases h : 1 ≤ ts.length
    · rw [if_pos (by omega)]
      congr 1
      rw [decide_eq_decide]
      omega
    · rw [if_neg (by omega)]
      congr 1
      symm
      rw [decide_eq_false_iff_not]
      omega
  · have e : right ts = false := by
      unfold right
      rw [decide_eq_false_iff_not]
      exact fun x => h x.1
    rw [e]
    exact scan0_bad (fun k i => lockstitchref03_Right.l0 k ts i) _ false _ (by omega) H1 H2 h
/-! ### Refs -/
theorem kind_Refs_ev (ts : List ByteArray) (s : ByteArray) (hl : (ts.length : Int) ≤ 9223372036854775807) (hs : ∀ s ∈ ts, (s.size : Int) ≤ 9223372036854775807) (hz : (s.size : Int) ≤ 9223372036854775807) :
    Ev (fun k => kind_Refs.f k ts s) (refs ts s) := by
  classical
  have H1 : ∀ i q, 0 ≤ i → i < (s.size : Int) → 0 ≤ dg (bt s i) ts.length → Ev (fun k => kind_Refs.l0 k ts s (s.size : Int) (i + 1)) q → Ev (fun k => kind_Refs.l0 k ts s (s.size : Int) i) q := by
    intro i q h0 h1 hk hq
    have hb := bt_range s i
    refine ev_step (fun k => ?_) hq
    show kind_Refs.l0 (k + 1) _ _ _ _ = kind_Refs.l0 k ts s (s.size : Int) (i + 1)
    rw [kind_Refs.l0, if_pos h1, if_pos h0, if_pos h1, kind_digit_val hb.1 hb.2, Option.bind_some, if_neg (by omega), wrap_succ h0 h1 hz]
  have H2 : ∀ i, 0 ≤ i → i < (s.size : Int) → ¬ 0 ≤ dg (bt s i) ts.length → Ev (fun k => kind_Refs.l0 k ts s (s.size : Int) i) false := by
    intro i h0 h1 hk
    have hb := bt_range s i
    refine ev_some fun k => ?_
    rw [kind_Refs.l0, if_pos h1, if_pos h0, if_pos h1, kind_digit_val hb.1 hb.2, Option.bind_some, if_pos (by omega)]
  show Ev (fun k => kind_Refs.l0 k ts s (s.size : Int) 0) (refs ts s)
  by_cases h : AllD ts.length s
  · have e : refs ts s = right ts := by
      unfold refs right
      rw [decide_eq_decide]
      exact ⟨fun x => x.1, fun x => ⟨x, h⟩⟩
    rw [e]
    refine scan0_good (fun k i => kind_Refs.l0 k ts s (s.size : Int) i) _ _ _ (by omega) H1 ?_ h
    refine ev_step (f := fun k => (kind_Right.f k ts).bind fun t => some t) (fun k => ?_) (ev_bind (kind_Right_ev ts hl hs) ev_const)
    show kind_Refs.l0 (k + 1) _ _ _ _ = _
    rw [kind_Refs.l0, if_neg (by omega)]
  · have e : refs ts s = false := by
      unfold refs
      rw [decide_eq_false_iff_not]
      exact fun x => h x.2
    rw [e]
    exact scan0_bad (fun k i => kind_Refs.l0 k ts s (s.size : Int) i) _ false _ (by omega) H1 H2 h
theorem ref_Refs_ev (ts : List ByteArray) (s : ByteArray) (hl : (ts.length : Int) ≤ 9223372036854775807) (hs : ∀ s ∈ ts, (s.size : Int) ≤ 9223372036854775807) (hz : (s.size : Int) ≤ 9223372036854775807) :
    Ev (fun k => lockstitchref03_Refs.f k ts s) (refs ts s) := by
  classical
  have H1 : ∀ i q, 0 ≤ i → i < (s.size : Int) → 0 ≤ dg (bt s i) ts.length → Ev (fun k => lockstitchref03_Refs.l0 k ts s (i + 1)) q → Ev (fun k => lockstitchref03_Refs.l0 k ts s i) q := by
    intro i q h0 h1 hk hq
    have hb := bt_range s i
    refine ev_step (fun k => ?_) hq
    show lockstitchref03_Refs.l0 (k + 1) _ _ _ = lockstitchref03_Refs.l0 k ts s (i + 1)
    rw [lockstitchref03_Refs.l0, if_pos h1, if_pos h0, ref_digit_val hb.1 hb.2, Option.bind_some, if_neg (by omega), wrap_succ h0 h1 hz]
  have H2 : ∀ i, 0 ≤ i → i < (s.size : Int) → ¬ 0 ≤ dg (bt s i) ts.length → Ev (fun k => lockstitchref03_Refs.l0 k ts s i) false := by
    intro i h0 h1 hk
    have hb := bt_range s i
    refine ev_some fun k => ?_
    rw [lockstitchref03_Refs.l0, if_pos h1, if_pos h0, ref_digit_val hb.1 hb.2, Option.bind_some, if_pos (by omega)]
  show Ev (fun k => lockstitchref03_Refs.l0 k ts s 0) (refs ts s)
  by_cases h : AllD ts.length s
  · have e : refs ts s = right ts := by
      unfold refs right
      rw [decide_eq_decide]
      exact ⟨fun x => x.1, fun x => ⟨x, h⟩⟩
    rw [e]
    refine scan0_good (fun k i => lockstitchref03_Refs.l0 k ts s i) _ _ _ (by omega) H1 ?_ h
    refine ev_step (f := fun k => (lockstitchref03_Right.f k ts).bind fun t => some t) (fun k => ?_) (ev_bind (ref_Right_ev ts hl hs) ev_const)
    show lockstitchref03_Refs.l0 (k + 1) _ _ _ = _
    rw [lockstitchref03_Refs.l0, if_neg (by omega)]
  · have e : refs ts s = false := by
      unfold refs
      rw [decide_eq_false_iff_not]
      exact fun x => h x.2
    rw [e]
    exact scan0_bad (fun k i => lockstitchref03_Refs.l0 k ts s i) _ false _ (by omega) H1 H2 h

/-! ### of, Size, To -/
/-- is it one of types that may be? -/
def Is (ts : List ByteArray) (t : Int) : Prop := Rt ts ∧ 0 ≤ t ∧ t < ts.length
open Classical in
noncomputable def typ (ts : List ByteArray) (t : Int) : ByteArray := if Is ts t then rdOf ByteArray.empty ts t else ⟨#[]⟩
theorem typ_is {ts : List ByteArray} {t : Int} (h : Is ts t) : typ ts t = rdOf ByteArray.empty ts t := by unfold typ; rw [if_pos h]
theorem typ_not {ts : List ByteArray} {t : Int} (h : ¬ Is ts t) : typ ts t = ⟨#[]⟩ := by unfold typ; rw [if_neg h]
theorem typ_ok {ts : List ByteArray} {t : Int} (h : Is ts t) : OkT ts.length (typ ts t) := by rw [typ_is h]; exact h.1.1 t h.2.1 h.2.2
theorem typ_le (ts : List ByteArray) (t : Int) : (typ ts t).size ≤ 6 := by
  by_cases h : Is ts t
  · exact (typ_ok h).2.1
  · rw [typ_not h]; decide
noncomputable def size (ts : List ByteArray) (t : Int) : Int := ((typ ts t).size : Int)
open Classical in
noncomputable def to_ (ts : List ByteArray) (t f : Int) : Int := if 0 ≤ f ∧ f < size ts t then dg (bt (typ ts t) f) ts.length else -1
theorem right_cases (ts : List ByteArray) : (right ts = true ∧ Rt ts) ∨ (right ts = false ∧ ¬ Rt ts) := by
  classical
  by_cases h : Rt ts
  · exact .inl ⟨(right_iff ts).2 h, h⟩
  · refine .inr ⟨?_, h⟩
    cases e : right ts
    · rfl
    · exact absurd ((right_iff ts).1 e) h
section
variable (ts : List ByteArray) (hl : (ts.length : Int) ≤ 9223372036854775807) (hs : ∀ s ∈ ts, (s.size : Int) ≤ 9223372036854775807)
include hl hs
theorem kind_of_ev (t : Int) : Ev (fun k => kind_of.f k ts t) (typ ts t) := by
  refine ev_bind (kind_Right_ev ts hl hs) (ev_all fun k => ?_)
  rcases right_cases ts with ⟨e, h⟩ | ⟨e, h⟩
  · rw [e, if_pos rfl]
    by_cases h0 : t < 0
    · rw [if_pos h0, typ_not fun x => by have := x.2.1; omega]
    · by_cases h1 : t ≥ ts.length
      · rw [if_neg h0, if_pos h1, typ_not fun x => by have := x.2.2; omega]
      · rw [if_neg h0, if_neg h1, if_pos (by omega), if_pos (by omega), typ_is ⟨h, by omega, by omega⟩]
  · rw [e, if_neg (by decide), typ_not fun x => h x.1]
theorem kind_Size_ev (t : Int) : Ev (fun k => kind_Size.f k ts t) (size ts t) :=
  ev_bind (kind_of_ev ts hl hs t) (ev_all fun _ => rfl)
theorem kind_To_ev (t f : Int) : Ev (fun k => kind_To.f k ts t f) (to_ ts t f) := by
  refine ev_bind (kind_of_ev ts hl hs t) (ev_all fun k => ?_)
  have hb := bt_range (typ ts t) f
  unfold to_ size
  by_cases h0 : f < 0
  · rw [if_pos h0, if_neg (by omega)]
  · by_cases h1 : f ≥ (typ ts t).size
    · rw [if_neg h0, if_pos h1, if_neg (by omega)]
    · rw [if_neg h0, if_neg h1, if_pos (by omega), if_pos (by omega), kind_digit_val hb.1 hb.2, if_pos (by omega)]
      rfl
open Classical in
theorem ref_is_ev (t : Int) : Ev (fun k => lockstitchref03_is.f k ts t) (decide (Is ts t)) := by
  refine ev_bind (ref_Right_ev ts hl hs) (ev_all fun k => ?_)
  rcases right_cases ts with ⟨e, h⟩ | ⟨e, h⟩
  · rw [e, if_pos rfl]
    by_cases h0 : t ≥ 0
    · rw [if_pos h0]
      congr 1
      rw [decide_eq_decide]
      exact ⟨fun x => ⟨h, h0, x⟩, fun x => x.2.2⟩
    · rw [if_neg h0]
      congr 1
      symm
      rw [decide_eq_false_iff_not]
      exact fun x => h0 x.2.1
  · rw [e, if_neg (by decide)]
    congr 1
    symm
    rw [decide_eq_false_iff_not]
    exact fun x => h x.1
theorem ref_Size_ev (t : Int) : Ev (fun k => lockstitchref03_Size.f k ts t) (size ts t) := by
  classical
  refine ev_bind (ref_is_ev ts hl hs t) (ev_all fun k => ?_)
  unfold size
  by_cases h : Is ts t
  · rw [decide_eq_true h, if_pos rfl, if_pos h.2.1, if_pos h.2.2, typ_is h]
  · rw [decide_eq_false h, if_neg (by decide), typ_not h]
    rfl
theorem ref_To_ev (t f : Int) : Ev (fun k => lockstitchref03_To.f k ts t f) (to_ ts t f) := by
  classical
  refine ev_bind (ref_is_ev ts hl hs t) (ev_all fun k => ?_)
  unfold to_ size
  by_cases h : Is ts t
  · have hb := bt_range (rdOf ByteArray.empty ts t) f
    rw [decide_eq_true h, if_pos rfl, typ_is h]
    by_cases h0 : f < 0
    · rw [if_pos h0, if_neg (by omega)]
    · by_cases h1 : f ≥ (rdOf ByteArray.empty ts t).size
      · rw [if_neg h0, if_pos h.2.1, if_pos h.2.2, if_pos h1, if_neg (by omega)]
      · rw [if_neg h0, if_pos h.2.1, if_pos h.2.2, if_neg h1, if_pos (by omega), if_pos (by omega), ref_digit_val hb.1 hb.2, if_pos (by omega)]
        rfl
  · rw [decide_eq_false h, if_neg (by decide), typ_not h, if_neg]
    have : (⟨#[]⟩ : ByteArray).size = 0 := rfl
    omega
end

/-! ### Mask -/
/-- the fields below i that are pointers, as bits -/
noncomputable def mk (ts : List ByteArray) (t : Int) : Nat → Int
  | 0 => 0
  | i + 1 => mk ts t i + if 0 ≤ to_ ts t i then 2 ^ i else 0
noncomputable def mask (ts : List ByteArray) (t : Int) : Int := mk ts t (typ ts t).size
theorem mk_range (ts : List ByteArray) (t : Int) : ∀ i, 0 ≤ mk ts t i ∧ mk ts t i < 2 ^ i := by
  intro i
  induction i with
  | zero => exact ⟨Int.le_refl _, by show (0 : Int) < 1; decide⟩
  | succ i ih =>
    have e : (2 : Int) ^ (i + 1) = 2 ^ i + 2 ^ i := by rw [Int.pow_succ]; omega
    have p : (0 : Int) < 2 ^ i := Int.pow_pos (by decide)
    unfold mk
    split <;> omega
theorem or_bit : ∀ i : Nat, i < 6 → ∀ m : Nat, m < 2 ^ i → Go.bits .or .u8 (m : Int) (shl .u8 1 (i : Int)) = (m : Int) + 2 ^ i := by decide +kernel
theorem or_bit' {i : Nat} (hi : i < 6) {m : Int} (h0 : 0 ≤ m) (h1 : m < 2 ^ i) : Go.bits .or .u8 m (shl .u8 1 (i : Int)) = m + 2 ^ i := by
  obtain ⟨n, rfl⟩ := Int.eq_ofNat_of_zero_le h0
  exact or_bit i hi n (by exact_mod_cast h1)
theorem pow_small : ∀ i : Nat, i < 7 → (2 : Int) ^ i ≤ 64 := by decide
section
variable (ts : List ByteArray) (hl : (ts.length : Int) ≤ 9223372036854775807) (hs : ∀ s ∈ ts, (s.size : Int) ≤ 9223372036854775807)
include hl hs
theorem kind_Mask_ev (t : Int) : Ev (fun k => kind_Mask.f k ts t) (mask ts t) := by
  refine ev_bind (kind_Size_ev ts hl hs t) ?_
  have h6 := typ_le ts t
  suffices h : ∀ (d i : Nat), i + d = (typ ts t).size → Ev (fun k => kind_Mask.l0 k ts t (mk ts t i) (size ts t) (i : Int)) (mask ts t) from h _ 0 (Nat.zero_add _)
  intro d
  induction d with
  | zero =>
    intro i hi
    refine ev_some fun k => ?_
    rw [kind_Mask.l0, if_neg (by unfold size; omega), mask, ← hi]
    rfl
  | succ d ih =>
    intro i hi
    have hr := mk_range ts t i
    have := ih (i + 1) (by omega)
    refine ev_step (f := fun k => (kind_To.f k ts t i).bind fun t111 => if t111 ≥ 0 then (if (0 : Int) ≤ i then kind_Mask.l0 k ts t (Go.bits .or .u8 (mk ts t i) (shl .u8 1 i)) (size ts t) (wrap64 (i + 1)) else none) else kind_Mask.l0 k ts t (mk ts t i) (size ts t) (wrap64 (i + 1))) (fun k => ?_) (ev_bind (kind_To_ev ts hl hs t i) ?_)
    · show kind_Mask.l0 (k + 1) _ _ _ _ _ = _
      rw [kind_Mask.l0, if_pos (by unfold size; omega)]
    · have ew : wrap64 ((i : Int) + 1) = ((i + 1 : Nat) : Int) := by unfold wrap64; omega
      rw [ew]
      by_cases h : 0 ≤ to_ ts t i
      · refine Ev.congr (fun k => ?_) this
        show (if to_ ts t i ≥ 0 then _ else _) = _
        rw [if_pos h, if_pos (by omega), or_bit' (by omega) hr.1 hr.2, mk, if_pos h]
      · refine Ev.congr (fun k => ?_) this
        show (if to_ ts t i ≥ 0 then _ else _) = _
        rw [if_neg (by omega), mk, if_neg h, Int.add_zero]
theorem ref_Mask_ev (t : Int) : Ev (fun k => lockstitchref03_Mask.f k ts t) (mask ts t) := by
  have h6 := typ_le ts t
  suffices h : ∀ (d i : Nat), i + d = (typ ts t).size → Ev (fun k => lockstitchref03_Mask.l0 k ts t (mk ts t i) (2 ^ i) (i : Int)) (mask ts t) from h _ 0 (Nat.zero_add _)
  intro d
  induction d with
  | zero =>
    intro i hi
    refine ev_step (fun k => lockstitchref03_Mask.l0.eq_2 ..) (ev_bind (ref_Size_ev ts hl hs t) (ev_all fun k => ?_))
    rw [if_neg (by unfold size; omega), mask, ← hi]
    rfl
  | succ d ih =>
    intro i hi
    have hr := mk_range ts t i
    have hp := pow_small i (by omega)
    have := ih (i + 1) (by omega)
    have ew : wrap64 ((i : Int) + 1) = ((i + 1 : Nat) : Int) := by unfold wrap64; omega
    have e2 : ((2 : Int) ^ i * 2) % 256 = 2 ^ (i + 1) := by rw [Int.pow_succ]; omega
    refine ev_step (fun k => lockstitchref03_Mask.l0.eq_2 ..) (ev_bind (ref_Size_ev ts hl hs t) ?_)
    refine Ev.congr (f := fun k => (lockstitchref03_To.f k ts t i).bind fun t124 => if t124 ≥ 0 then lockstitchref03_Mask.l0 k ts t ((mk ts t i + 2 ^ i) % 256) (2 ^ i * 2 % 256) (wrap64 (i + 1)) else lockstitchref03_Mask.l0 k ts t (mk ts t i) (2 ^ i * 2 % 256) (wrap64 (i + 1))) (fun k => ?_) (ev_bind (ref_To_ev ts hl hs t i) ?_)
    · show (if _ then _ else _) = _
      rw [if_pos (by unfold size; omega)]
    · rw [ew, e2]
      by_cases h : 0 ≤ to_ ts t i
      · refine Ev.congr (fun k => ?_) this
        show (if to_ ts t i ≥ 0 then _ else _) = _
        have e3 : (mk ts t i + 2 ^ i) % 256 = mk ts t i + 2 ^ i := by omega
        rw [if_pos h, mk, if_pos h, e3]
      · refine Ev.congr (fun k => ?_) this
        show (if to_ ts t i ≥ 0 then _ else _) = _
        rw [if_neg (by omega), mk, if_neg h, Int.add_zero]
end

/-! ### few, same, Index, Contains -/
theorem mem_rd (ts : List ByteArray) (i : Int) (h0 : 0 ≤ i) (h1 : i < ts.length) : rdOf ByteArray.empty ts i ∈ ts := by
  unfold rdOf
  rw [List.getD_eq_getElem?_getD, List.getElem?_eq_getElem (by omega), Option.getD_some]
  exact List.getElem_mem _
def Few (ts : List ByteArray) : Prop := (∀ i : Int, 0 ≤ i → i < ts.length → ((rdOf ByteArray.empty ts i).size : Int) ≤ 50) ∧ ts.length ≤ 20
open Classical in
theorem few_ev (ts : List ByteArray) (hl : (ts.length : Int) ≤ 9223372036854775807) : Ev (fun k => lockstitchlaw03_few.f k ts) (decide (Few ts)) := by
  have H1 : ∀ i q, 0 ≤ i → i < (ts.length : Int) → ((rdOf ByteArray.empty ts i).size : Int) ≤ 50 → Ev (fun k => lockstitchlaw03_few.l0 k ts ts (ts.length : Int) (i + 1)) q → Ev (fun k => lockstitchlaw03_few.l0 k ts ts (ts.length : Int) i) q := by
    intro i q h0 h1 hk hq
    refine ev_step (fun k => ?_) hq
    show lockstitchlaw03_few.l0 (k + 1) _ _ _ _ = lockstitchlaw03_few.l0 k ts ts (ts.length : Int) (i + 1)
    rw [lockstitchlaw03_few.l0, if_pos h1, if_pos h0, if_pos h1, if_neg (by omega), wrap_succ h0 h1 hl]
  have H2 : ∀ i, 0 ≤ i → i < (ts.length : Int) → ¬ ((rdOf ByteArray.empty ts i).size : Int) ≤ 50 → Ev (fun k => lockstitchlaw03_few.l0 k ts ts (ts.length : Int) i) false := by
    intro i h0 h1 hk
    refine ev_some fun k => ?_
    rw [lockstitchlaw03_few.l0, if_pos h1, if_pos h0, if_pos h1, if_pos (by omega)]
  show Ev (fun k => lockstitchlaw03_few.l0 k ts ts (ts.length : Int) 0) _
  by_cases h : ∀ i : Int, 0 ≤ i → i < ts.length → ((rdOf ByteArray.empty ts i).size : Int) ≤ 50
  · refine scan0_good (fun k i => lockstitchlaw03_few.l0 k ts ts (ts.length : Int) i) _ _ _ (by omega) H1 (ev_some fun k => ?_) h
    simp only [lockstitchlaw03_few.l0]
    rw [if_neg (by omega)]
    congr 1
    rw [decide_eq_decide]
    exact ⟨fun x => ⟨h, by omega⟩, fun x => by have := x.2; omega⟩
  · rw [decide_eq_false (fun x => h x.1)]
    exact scan0_bad (fun k i => lockstitchlaw03_few.l0 k ts ts (ts.length : Int) i) _ false _ (by omega) H1 H2 h

theorem rd_eq (xs : List Int) (i : Nat) (h : i < xs.length) : rd xs i = xs[i] := by
  unfold rd
  rw [Int.toNat_natCast, List.getD_eq_getElem?_getD, List.getElem?_eq_getElem h, Option.getD_some]
theorem same_ev (a b : List Int) (hl : (a.length : Int) ≤ 9223372036854775807) : Ev (fun k => lockstitchlaw03_same.f k a b) (decide (a = b)) := by
  by_cases hn : a.length = b.length
  · have H1 : ∀ i q, 0 ≤ i → i < (a.length : Int) → rd a i = rd b i → Ev (fun k => lockstitchlaw03_same.l0 k a b (a.length : Int) (i + 1)) q → Ev (fun k => lockstitchlaw03_same.l0 k a b (a.length : Int) i) q := by
      intro i q h0 h1 hk hq
      refine ev_step (fun k => ?_) hq
      show lockstitchlaw03_same.l0 (k + 1) _ _ _ _ = lockstitchlaw03_same.l0 k a b (a.length : Int) (i + 1)
      rw [lockstitchlaw03_same.l0, if_pos h1, if_pos h0, if_pos h1, if_pos (by omega), if_pos hk, wrap_succ h0 h1 hl]
    have H2 : ∀ i, 0 ≤ i → i < (a.length : Int) → ¬ rd a i = rd b i → Ev (fun k => lockstitchlaw03_same.l0 k a b (a.length : Int) i) false := by
      intro i h0 h1 hk
      refine ev_some fun k => ?_
      rw [lockstitchlaw03_same.l0, if_pos h1, if_pos h0, if_pos h1, if_pos (by omega), if_neg hk]
    have e : (fun k => lockstitchlaw03_same.f k a b) = fun k => lockstitchlaw03_same.l0 k a b (a.length : Int) 0 := by
      funext k
      rw [lockstitchlaw03_same.f, if_pos (by omega)]
    rw [e]
    have hh : (∀ i : Int, 0 ≤ i → i < (a.length : Int) → rd a i = rd b i) ↔ a = b := by
      constructor
      · intro h
        apply List.ext_getElem hn
        intro i h1 h2
        have := h i (by omega) (by omega)
        rw [rd_eq a i h1, rd_eq b i h2] at this
        exact this
      · rintro rfl
        exact fun _ _ _ => rfl
    by_cases h : ∀ i : Int, 0 ≤ i → i < (a.length : Int) → rd a i = rd b i
    · rw [decide_eq_true (hh.1 h)]
      refine scan0_good (fun k i => lockstitchlaw03_same.l0 k a b (a.length : Int) i) _ _ _ (by omega) H1 (ev_some fun k => ?_) h
      rw [lockstitchlaw03_same.l0, if_neg (by omega)]
    · rw [decide_eq_false (fun x => h (hh.2 x))]
      exact scan0_bad (fun k i => lockstitchlaw03_same.l0 k a b (a.length : Int) i) _ false _ (by omega) H1 H2 h
  · rw [decide_eq_false (fun x => hn (congrArg List.length x))]
    refine ev_all fun k => ?_
    rw [lockstitchlaw03_same.f, if_neg (by omega)]

theorem mem_iff_rd (xs : List Int) (x : Int) : x ∈ xs ↔ ∃ i : Int, 0 ≤ i ∧ i < xs.length ∧ x = rd xs i := by
  rw [List.mem_iff_getElem]
  constructor
  · rintro ⟨i, h, rfl⟩
    exact ⟨i, by omega, by omega, (rd_eq xs i h).symm⟩
  · rintro ⟨i, h0, h1, rfl⟩
    obtain ⟨n, rfl⟩ := Int.eq_ofNat_of_zero_le h0
    exact ⟨n, by omega, (rd_eq xs n (by omega)).symm⟩
theorem Contains_ev (xs : List Int) (x : Int) (hl : (xs.length : Int) ≤ 9223372036854775807) : Ev (fun k => slices_Contains_int_int.f k xs x) (decide (x ∈ xs)) := by
  have H : ∀ (d : Nat) (i : Int), 0 ≤ i → i ≤ xs.length → (xs.length : Int) - i = d → ∃ r, Ev (fun k => slices_Index_int_int.l0 k xs x (xs.length : Int) i) r ∧ (r ≥ 0 ↔ ∃ j : Int, i ≤ j ∧ j < xs.length ∧ x = rd xs j) := by
    intro d
    induction d with
    | zero =>
      intro i h0 h1 hd
      refine ⟨-1, ev_some fun k => ?_, by omega, fun ⟨j, a, b, _⟩ => by omega⟩
      rw [slices_Index_int_int.l0, if_neg (by omega)]
    | succ d ih =>
      intro i h0 h1 hd
      by_cases h : x = rd xs i
      · refine ⟨i, ev_some fun k => ?_, fun _ => ⟨i, Int.le_refl _, by omega, h⟩, fun _ => h0⟩
        rw [slices_Index_int_int.l0, if_pos (by omega), if_pos h0, if_pos (by omega), if_pos h]
      · obtain ⟨r, hr, hi⟩ := ih (i + 1) (by omega) (by omega) (by omega)
        refine ⟨r, ev_step (fun k => ?_) hr, hi.trans ⟨fun ⟨j, a, b, c⟩ => ⟨j, by omega, b, c⟩, fun ⟨j, a, b, c⟩ => ⟨j, ?_, b, c⟩⟩⟩
        · show slices_Index_int_int.l0 (k + 1) _ _ _ _ = _
          rw [slices_Index_int_int.l0, if_pos (by omega), if_pos h0, if_pos (by omega), if_neg h, wrap_succ h0 (by omega : i < xs.length) hl]
        · have : j ≠ i := fun e => h (e ▸ c)
          omega
  obtain ⟨r, hr, hi⟩ := H xs.length 0 (by omega) (by omega) (by omega)
  refine ev_bind (g := fun k => slices_Index_int_int.f k xs x) (f := fun _ t => some (decide (t ≥ 0))) hr (ev_all fun k => ?_)
  congr 1
  rw [decide_eq_decide, mem_iff_rd, hi]
end Go.Proofs.Ytjmhkimffocpeaa.KP

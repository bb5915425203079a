/-
  kind.Reach and lockstitchref03.Reach answer the same.
-/
import Derived.Test.YtjmhkimffocpeaaKgiven
namespace Go.Proofs.Ytjmhkimffocpeaa.KC
open Go.RowKit Go.Proofs.YtjmhkimffocpeaaW.PrintWords Go.Proofs.Ytjmhkimffocpeaa.KP Go.Proofs.Ytjmhkimffocpeaa.KR Go.Proofs.Ytjmhkimffocpeaa.KF Go.Proofs.Ytjmhkimffocpeaa.KG Go.Proofs.Ytjmhkimffocpeaa.Srt

theorem ext_sorted : ∀ (a b : List Int), a.Pairwise (· < ·) → b.Pairwise (· < ·) → (∀ x, x ∈ a ↔ x ∈ b) → a = b := by
  intro a
  induction a with
  | nil =>
    intro b _ _ h
    cases b with
    | nil => rfl
    | cons y b => exact absurd ((h y).2 (List.mem_cons_self ..)) (by simp)
  | cons x a ih =>
    intro b ha hb h
    cases b with
    | nil => exact absurd ((h x).1 (List.mem_cons_self ..)) (by simp)
    | cons y b =>
      rw [List.pairwise_cons] at ha hb
      have e : x = y := by
        rcases List.mem_cons.1 ((h x).1 (List.mem_cons_self ..)) with e | e
        · exact e
        · rcases List.mem_cons.1 ((h y).2 (List.mem_cons_self ..)) with e' | e'
          · exact e'.symm
          · have := ha.1 y e'
            have := hb.1 x e
            omega
      subst e
      congr 1
      refine ih b ha.2 hb.2 fun z => ⟨fun hz => ?_, fun hz => ?_⟩
      · rcases List.mem_cons.1 ((h z).1 (List.mem_cons_of_mem _ hz)) with e | e
        · have := ha.1 z hz; omega
        · exact e
      · rcases List.mem_cons.1 ((h z).2 (List.mem_cons_of_mem _ hz)) with e | e
        · have := hb.1 z hz; omega
        · exact e

/-- what inflates and is bounded comes to rest -/
theorem iter_fix {α : Type} (f : α → α) (m : α → Nat) (it : Nat → α) (hit : ∀ i, it (i + 1) = f (it i)) (M : Nat) (hM : ∀ i, m (it i) ≤ M)
    (hm : ∀ i, f (it i) = it i ∨ m (it i) < m (f (it i))) : ∀ i, M ≤ m (it 0) + i → f (it i) = it i := by
  have key : ∀ i, f (it i) = it i ∨ m (it 0) + i ≤ m (it i) ∧ m (it i) < m (f (it i)) := by
    intro i
    induction i with
    | zero =>
      rcases hm 0 with h | h
      · exact .inl h
      · exact .inr ⟨Nat.le_refl _, h⟩
    | succ i ih =>
      rcases ih with h | ⟨h1, h2⟩
      · left
        rw [hit, h, h]
      · rcases hm (i + 1) with h | h
        · exact .inl h
        · refine .inr ⟨?_, h⟩
          rw [hit]
          omega
  intro i hi
  rcases key i with h | ⟨h1, h2⟩
  · exact h
  · have := hM (i + 1)
    rw [hit] at this
    omega

/-- what one comes to from t by fields that are pointers -/
inductive RR (ts : List ByteArray) (t : Int) : Int → Prop where
  | base : RR ts t t
  | step {x : Int} (f : Nat) : RR ts t x → 0 ≤ to_ ts x f → RR ts t (to_ ts x f)
theorem RR.least {ts : List ByteArray} {t : Int} (P : Int → Prop) (h0 : P t) (hs : ∀ x (f : Nat), P x → 0 ≤ to_ ts x f → P (to_ ts x f)) : ∀ x, RR ts t x → P x := by
  intro x h
  induction h with
  | base => exact h0
  | step f _ h ih => exact hs _ f ih h
theorem to_out {ts : List ByteArray} {x : Int} {f : Nat} (h : 0 ≤ to_ ts x f) : f < (typ ts x).size := by
  unfold to_ size at h
  split at h
  · omega
  · omega

/-! ### the one -/
theorem add_mem {ts : List ByteArray} {x : Int} {xs : List Int} {k : Nat} {y : Int} : y ∈ add ts x xs k ↔ y ∈ xs ∨ (0 ≤ to_ ts x k ∧ y = to_ ts x k) := by
  unfold add
  split
  · rename_i h
    simp only [List.mem_append, List.mem_singleton]
    exact ⟨fun h' => h'.imp id fun e => ⟨h.1, e⟩, fun h' => h'.imp id fun e => e.2⟩
  · rename_i h
    refine ⟨.inl, fun h' => h'.elim id fun ⟨h0, e⟩ => ?_⟩
    subst e
    exact Classical.byContradiction fun hn => h ⟨h0, hn⟩
theorem row_mem {ts : List ByteArray} {x : Int} {xs : List Int} {y : Int} : ∀ {k : Nat}, y ∈ row ts x k xs ↔ y ∈ xs ∨ ∃ j, j < k ∧ 0 ≤ to_ ts x j ∧ y = to_ ts x j := by
  intro k
  induction k with
  | zero => exact ⟨.inl, fun h => h.elim id fun ⟨j, hj, _⟩ => absurd hj (Nat.not_lt_zero _)⟩
  | succ k ih =>
    rw [row, add_mem, ih]
    constructor
    · rintro ((h | ⟨j, hj, h⟩) | h)
      · exact .inl h
      · exact .inr ⟨j, by omega, h⟩
      · exact .inr ⟨k, by omega, h⟩
    · rintro (h | ⟨j, hj, h⟩)
      · exact .inl (.inl h)
      · rcases Nat.lt_succ_iff_lt_or_eq.1 hj with hlt | rfl
        · exact .inl (.inr ⟨j, hlt, h⟩)
        · exact .inr h
theorem rd_mem {xs : List Int} {i : Nat} (h : i < xs.length) : rd xs i ∈ xs := by
  rw [rd_eq xs i h]
  exact List.getElem_mem h
theorem st_sub {ts : List ByteArray} {t : Int} : ∀ i x, x ∈ st ts t i → RR ts t x := by
  intro i
  induction i with
  | zero =>
    intro x hx
    rw [st, List.mem_singleton] at hx
    subst hx
    exact .base
  | succ i ih =>
    intro x hx
    rw [st] at hx
    split at hx
    · rename_i h
      rcases row_mem.1 hx with h' | ⟨j, _, h0, rfl⟩
      · exact ih x h'
      · exact .step j (ih _ (rd_mem h)) h0
    · exact ih x hx
theorem st_ext {ts : List ByteArray} {t : Int} (i : Nat) : ∀ j, ∃ ys, st ts t (i + j) = st ts t i ++ ys := by
  intro j
  induction j with
  | zero => exact ⟨[], (List.append_nil _).symm⟩
  | succ j ih =>
    obtain ⟨ys, h⟩ := ih
    rw [show i + (j + 1) = (i + j) + 1 from rfl, st]
    split
    · obtain ⟨zs, h'⟩ := row_ext ts (rd (st ts t (i + j)) ↑(i + j)) (typ ts (rd (st ts t (i + j)) ↑(i + j))).size (st ts t (i + j))
      exact ⟨ys ++ zs, by rw [h', h, List.append_assoc]⟩
    · exact ⟨ys, h⟩
theorem st_closed {ts : List ByteArray} {t : Int} {k : Nat} (hk : k = (st ts t k).length) : ∀ x (f : Nat), x ∈ st ts t k → 0 ≤ to_ ts x f → to_ ts x f ∈ st ts t k := by
  intro x f hx h0
  obtain ⟨i, hi, rfl⟩ := List.mem_iff_getElem.1 hx
  have hik : i < k := by omega
  obtain ⟨j, hj⟩ := Nat.le.dest hik
  -- at round i the i-th one was there
  have hil : i < (st ts t i).length := by
    refine Classical.byContradiction fun hn => ?_
    have hle : (st ts t i).length ≤ i := by omega
    have stay : ∀ d, st ts t (i + d) = st ts t i := by
      intro d
      induction d with
      | zero => rfl
      | succ d ih => rw [show i + (d + 1) = (i + d) + 1 from rfl, st, if_neg, ih]; rw [ih]; omega
    have := stay (j + 1)
    rw [show i + (j + 1) = k by omega] at this
    rw [this] at hk
    omega
  obtain ⟨ys, hys⟩ := st_ext (ts := ts) (t := t) i (j + 1)
  obtain ⟨zs, hzs⟩ := st_ext (ts := ts) (t := t) (i + 1) j
  rw [show i + (j + 1) = k by omega] at hys
  rw [hj] at hzs
  have hval : (st ts t k)[i] = rd (st ts t i) i := by
    rw [rd_eq _ _ hil]
    simp only [hys]
    rw [List.getElem_append_left hil]
  rw [hval] at h0 ⊢
  rw [hzs, st, if_pos hil]
  exact List.mem_append_left _ (row_mem.2 (.inr ⟨f, to_out h0, h0, rfl⟩))
theorem st_all {ts : List ByteArray} {t : Int} {k : Nat} (hk : k = (st ts t k).length) (x : Int) : x ∈ st ts t k ↔ RR ts t x := by
  refine ⟨st_sub k x, RR.least (· ∈ st ts t k) ?_ (st_closed hk) x⟩
  obtain ⟨ys, h⟩ := st_ext (ts := ts) (t := t) 0 k
  rw [Nat.zero_add] at h
  rw [h]
  exact List.mem_append_left _ (List.mem_singleton.2 rfl)
theorem st_head {ts : List ByteArray} {t : Int} (k : Nat) : ∃ ys, st ts t k = t :: ys := by
  obtain ⟨ys, h⟩ := st_ext (ts := ts) (t := t) 0 k
  rw [Nat.zero_add] at h
  exact ⟨ys, h⟩
theorem st_ends {ts : List ByteArray} {t : Int} (h : Is ts t) : ∃ k, k = (st ts t k).length := by
  have hn : ¬ ts.length < (st ts t ts.length).length := by have := (InN.st h ts.length).len; omega
  have : ∀ d, d ≤ ts.length → (∀ i, i < d → i < (st ts t i).length) ∨ ∃ k, k = (st ts t k).length := by
    intro d
    induction d with
    | zero => exact fun _ => .inl fun i hi => absurd hi (Nat.not_lt_zero _)
    | succ d ih =>
      intro hd
      rcases ih (by omega) with h1 | h1
      · by_cases hlt : d < (st ts t d).length
        · left
          intro i hi
          rcases Nat.lt_succ_iff_lt_or_eq.1 hi with h2 | rfl
          · exact h1 i h2
          · exact hlt
        · right
          refine ⟨d, ?_⟩
          cases d with
          | zero => have := st_pos (ts := ts) (t := t) 0; omega
          | succ d =>
            have h2 := h1 d (by omega)
            obtain ⟨ys, h3⟩ := st_ext (ts := ts) (t := t) d 1
            have h4 := congrArg List.length h3
            rw [List.length_append] at h4
            omega
      · exact .inr h1
  rcases this ts.length (Nat.le_refl _) with h1 | h1
  · refine ⟨ts.length, ?_⟩
    cases hl : ts.length with
    | zero =>
      have := h.2.1
      have := h.2.2
      omega
    | succ d =>
      rw [hl] at h1 hn
      have h2 := h1 d (by omega)
      obtain ⟨ys, h3⟩ := st_ext (ts := ts) (t := t) d 1
      have h4 := congrArg List.length h3
      rw [List.length_append] at h4
      omega
  · exact h1

/-! ### the other -/
def LE (a b : List Bool) : Prop := a.length = b.length ∧ ∀ i, a.getD i false = true → b.getD i false = true
theorem LE.refl (a : List Bool) : LE a a := ⟨rfl, fun _ h => h⟩
theorem LE.trans {a b c : List Bool} (h : LE a b) (k : LE b c) : LE a c := ⟨h.1.trans k.1, fun i hi => k.2 i (h.2 i hi)⟩
theorem LE.anti {a b : List Bool} (h : LE a b) (k : LE b a) : a = b := by
  apply List.ext_getElem h.1
  intro i h1 h2
  have e1 : a.getD i false = a[i] := by rw [List.getD_eq_getElem?_getD, List.getElem?_eq_getElem h1]; rfl
  have e2 : b.getD i false = b[i] := by rw [List.getD_eq_getElem?_getD, List.getElem?_eq_getElem h2]; rfl
  have p := h.2 i
  have q := k.2 i
  rw [e1, e2] at p q
  rw [Bool.eq_iff_iff]
  exact ⟨p, q⟩
theorem getD_set (a : List Bool) (n i : Nat) : (a.set n true).getD i false = true ↔ a.getD i false = true ∨ (i = n ∧ n < a.length) := by
  rw [List.getD_eq_getElem?_getD, List.getD_eq_getElem?_getD, List.getElem?_set]
  by_cases h : n = i
  · subst h
    by_cases hl : n < a.length
    · simp [hl]
    · simp [hl]
  · rw [if_neg h]
    exact ⟨.inl, fun h' => h'.elim id fun ⟨e, _⟩ => absurd e.symm h⟩
theorem LE.set (a : List Bool) (n : Nat) : LE a (a.set n true) := ⟨by simp, fun i h => (getD_set a n i).2 (.inl h)⟩
theorem LE.uf (ts : List ByteArray) (k : Nat) (hs : List Bool) (f : Nat) : LE hs (uf ts k hs f) := by
  unfold KF.uf
  split
  · exact LE.set _ _
  · exact LE.refl _
theorem LE.ufs (ts : List ByteArray) (k : Nat) (hs : List Bool) : ∀ f, LE hs (ufs ts k f hs)
  | 0 => LE.refl _
  | f + 1 => (LE.ufs ts k hs f).trans (LE.uf ..)
theorem LE.uks (ts : List ByteArray) (hs : List Bool) : ∀ k, LE hs (uks ts k hs)
  | 0 => LE.refl _
  | k + 1 => (LE.uks ts hs k).trans (LE.ufs ..)
def cnt (a : List Bool) : Nat := a.countP id
theorem cnt_le : ∀ {a b : List Bool}, LE a b → cnt a ≤ cnt b ∧ (a ≠ b → cnt a < cnt b) := by
  intro a
  induction a with
  | nil =>
    intro b h
    have : b = [] := List.length_eq_zero_iff.1 h.1.symm
    subst this
    exact ⟨Nat.le_refl _, fun h => absurd rfl h⟩
  | cons x a ih =>
    intro b h
    cases b with
    | nil => cases h.1
    | cons y b =>
      have ht : LE a b := ⟨by have := h.1; simpa using this, fun i hi => by have := h.2 (i + 1); simpa using this hi⟩
      have h0 : x = true → y = true := by have := h.2 0; simpa using this
      obtain ⟨i1, i2⟩ := ih ht
      unfold cnt at *
      rw [List.countP_cons, List.countP_cons]
      cases x <;> cases y
      · refine ⟨by omega, fun hne => ?_⟩
        have := i2 fun e => hne (by rw [e])
        omega
      · refine ⟨by simp; omega, fun _ => by simp; omega⟩
      · exact absurd (h0 rfl) (by decide)
      · refine ⟨by omega, fun hne => ?_⟩
        have := i2 fun e => hne (by rw [e])
        omega
theorem cnt_len (a : List Bool) : cnt a ≤ a.length := List.countP_le_length ..

theorem rnd_le (ts : List ByteArray) (hs : List Bool) (i : Nat) : LE (rnd ts hs i) (rnd ts hs (i + 1)) := LE.uks ..
/-- only what can be reached is marked -/
def Marks (ts : List ByteArray) (t : Int) (hs : List Bool) : Prop := ∀ i : Nat, hs.getD i false = true → RR ts t i
theorem Marks.uf {ts : List ByteArray} {t : Int} {hs : List Bool} (h : Marks ts t hs) (k f : Nat) : Marks ts t (uf ts k hs f) := by
  unfold KF.uf
  split
  · rename_i hh
    intro i hi
    rcases (getD_set _ _ _).1 hi with h' | ⟨rfl, _⟩
    · exact h i h'
    · have := RR.step f (h k hh.1) hh.2
      rwa [Int.toNat_of_nonneg hh.2]
  · exact h
theorem Marks.ufs {ts : List ByteArray} {t : Int} {hs : List Bool} (h : Marks ts t hs) (k : Nat) : ∀ f, Marks ts t (ufs ts k f hs)
  | 0 => h
  | f + 1 => (Marks.ufs h k f).uf k f
theorem Marks.uks {ts : List ByteArray} {t : Int} {hs : List Bool} (h : Marks ts t hs) : ∀ k, Marks ts t (uks ts k hs)
  | 0 => h
  | k + 1 => (Marks.uks h k).ufs _ _
theorem Marks.rnd {ts : List ByteArray} {t : Int} {hs : List Bool} (h : Marks ts t hs) : ∀ i, Marks ts t (rnd ts hs i)
  | 0 => h
  | i + 1 => (Marks.rnd h i).uks _
theorem RR_lt {ts : List ByteArray} {t : Int} (h : Is ts t) : ∀ x, RR ts t x → 0 ≤ x ∧ x < ts.length :=
  RR.least _ ⟨h.2.1, h.2.2⟩ fun _ _ _ h0 => ⟨h0, to_lt _ _ _ h0⟩
/-- where a round changes nothing all is marked -/
theorem uks_same {ts : List ByteArray} {hs : List Bool} (h : uks ts ts.length hs = hs) (k : Nat) (hk : k < ts.length) : ufs ts k (rdOf ByteArray.empty ts k).size hs = hs := by
  have mono : ∀ d i, LE (uks ts i hs) (uks ts (i + d) hs) := by
    intro d
    induction d with
    | zero => exact fun i => LE.refl _
    | succ d ih => exact fun i => (ih i).trans (LE.ufs ..)
  have same : ∀ i, i ≤ ts.length → uks ts i hs = hs := fun i hi => by
    have h1 := mono (ts.length - i) i
    rw [show i + (ts.length - i) = ts.length by omega, h] at h1
    exact h1.anti (LE.uks ..)
  have := same (k + 1) hk
  rwa [uks, same k (by omega)] at this
theorem ufs_same {ts : List ByteArray} {hs : List Bool} {k n : Nat} (h : ufs ts k n hs = hs) (f : Nat) (hf : f < n) : uf ts k hs f = hs := by
  have mono : ∀ d i, LE (ufs ts k i hs) (ufs ts k (i + d) hs) := by
    intro d
    induction d with
    | zero => exact fun i => LE.refl _
    | succ d ih => exact fun i => (ih i).trans (LE.uf ..)
  have same : ∀ i, i ≤ n → ufs ts k i hs = hs := fun i hi => by
    have h1 := mono (n - i) i
    rw [show i + (n - i) = n by omega, h] at h1
    exact h1.anti (LE.ufs ..)
  have := same (f + 1) hf
  rwa [ufs, same f (by omega)] at this
theorem start_marks (ts : List ByteArray) (t : Int) (h : 0 ≤ t) : Marks ts t (KF.start t) := by
  intro i hi
  rcases (getD_set _ _ _).1 hi with h' | ⟨rfl, _⟩
  · rw [List.getD_eq_getElem?_getD, List.getElem?_replicate] at h'
    split at h' <;> cases h'
  · rw [Int.toNat_of_nonneg h]
    exact .base
theorem cnt_lt (n : Nat) (a : List Bool) (h : ∀ i, a.getD i false = true → i < n) : cnt a ≤ n := by
  have e : cnt a = cnt (a.take n) + cnt (a.drop n) := by
    unfold cnt
    rw [← List.countP_append, List.take_append_drop]
  have h1 : cnt (a.take n) ≤ n := Nat.le_trans (cnt_len _) (by rw [List.length_take]; omega)
  have h2 : cnt (a.drop n) = 0 := by
    unfold cnt
    rw [List.countP_eq_zero]
    intro x hx
    obtain ⟨i, hi, rfl⟩ := List.mem_iff_getElem.1 hx
    intro hx
    rw [List.getElem_drop] at hx
    have := h (n + i) (by rw [List.getD_eq_getElem?_getD, List.getElem?_eq_getElem (by rw [List.length_drop] at hi; omega)]; exact hx)
    omega
  omega
theorem rnd_all {ts : List ByteArray} {t : Int} (h : Is ts t) (i : Nat) : (rnd ts (KF.start t) ts.length).getD i false = true ↔ RR ts t i := by
  have h8 : ts.length ≤ 8 := h.1.2.2
  have hM := fun i => (start_marks ts t h.2.1).rnd i
  have hfix := iter_fix (uks ts ts.length) cnt (rnd ts (KF.start t)) (fun _ => rfl) ts.length (fun i => cnt_lt _ _ fun j hj => by have := (RR_lt h _ (hM i j hj)).2; omega)
    (fun i => by
      by_cases he : uks ts ts.length (rnd ts (KF.start t) i) = rnd ts (KF.start t) i
      · exact .inl he
      · exact .inr ((cnt_le (rnd_le ts (KF.start t) i)).2 fun e => he e.symm)) ts.length (by omega)
  have hlen : (rnd ts (KF.start t) ts.length).length = 8 := by rw [rnd_len, KF.start_len]
  refine ⟨hM _ i, fun hr => ?_⟩
  have := RR.least (ts := ts) (t := t) (fun x => 0 ≤ x ∧ x < ts.length ∧ (rnd ts (KF.start t) ts.length).getD x.toNat false = true) ?_ ?_ i hr
  · simpa using this.2.2
  · refine ⟨h.2.1, h.2.2, ?_⟩
    have hs : LE (KF.start t) (rnd ts (KF.start t) ts.length) := by
      have : ∀ j, LE (KF.start t) (rnd ts (KF.start t) j) := fun j => by
        induction j with
        | zero => exact LE.refl _
        | succ j ih => exact ih.trans (rnd_le ..)
      exact this _
    exact hs.2 _ ((getD_set _ _ _).2 (.inr ⟨rfl, by have := h.2.2; simp; omega⟩))
  · rintro x f ⟨h0, h1, h2⟩ h3
    refine ⟨h3, to_lt _ _ _ h3, ?_⟩
    obtain ⟨k, rfl⟩ := Int.eq_ofNat_of_zero_le h0
    rw [Int.toNat_natCast] at h2
    have e1 := uks_same hfix k (by omega)
    have hf := to_out h3
    rw [typ_is ⟨h.1, h0, h1⟩] at hf
    have e2 := ufs_same e1 f hf
    unfold KF.uf at e2
    rw [if_pos ⟨h2, h3⟩] at e2
    rw [← e2]
    exact (getD_set _ _ _).2 (.inr ⟨rfl, by have := to_lt _ _ _ h3; omega⟩)
/-- the rest of outs: rising, without t -/
def rest (t : Int) (hs : List Bool) : Nat → List Int
  | 0 => []
  | i + 1 => if hs.getD i false = true ∧ (i : Int) ≠ t then rest t hs i ++ [(i : Int)] else rest t hs i
theorem outs_rest (t : Int) (hs : List Bool) : ∀ i, outs t hs i = t :: rest t hs i
  | 0 => rfl
  | i + 1 => by
    rw [outs, rest, outs_rest t hs i]
    split <;> rfl
theorem rest_mem (t : Int) (hs : List Bool) (x : Int) : ∀ i, x ∈ rest t hs i ↔ x ≠ t ∧ ∃ j : Nat, j < i ∧ x = j ∧ hs.getD j false = true
  | 0 => by simp [rest]
  | i + 1 => by
    rw [rest]
    have ih := rest_mem t hs x i
    split
    · rename_i h
      rw [List.mem_append, ih, List.mem_singleton]
      constructor
      · rintro (⟨h1, j, h2, h3⟩ | rfl)
        · exact ⟨h1, j, by omega, h3⟩
        · exact ⟨h.2, i, by omega, rfl, h.1⟩
      · rintro ⟨h1, j, h2, h3, h4⟩
        rcases Nat.lt_succ_iff_lt_or_eq.1 h2 with hlt | rfl
        · exact .inl ⟨h1, j, hlt, h3, h4⟩
        · exact .inr h3
    · rename_i h
      rw [ih]
      refine and_congr_right fun h1 => ⟨fun ⟨j, h2, h3⟩ => ⟨j, by omega, h3⟩, fun ⟨j, h2, h3, h4⟩ => ?_⟩
      rcases Nat.lt_succ_iff_lt_or_eq.1 h2 with hlt | rfl
      · exact ⟨j, hlt, h3, h4⟩
      · exact absurd ⟨h4, h3 ▸ h1⟩ h
theorem rest_rises (t : Int) (hs : List Bool) : ∀ i, (rest t hs i).Pairwise (· < ·)
  | 0 => List.Pairwise.nil
  | i + 1 => by
    rw [rest]
    split
    · rw [List.pairwise_append]
      refine ⟨rest_rises t hs i, List.pairwise_singleton .., fun a ha b hb => ?_⟩
      rw [List.mem_singleton] at hb
      obtain ⟨_, j, hj, rfl, _⟩ := (rest_mem t hs a i).1 ha
      omega
    · exact rest_rises t hs i
theorem reach_same (ts : List ByteArray) (t : Int) : KG.reach ts t = KG.reach' ts t := by
  classical
  unfold KG.reach KG.reach'
  by_cases h : Is ts t
  · have hex := st_ends h
    rw [dif_pos ⟨h, hex⟩, if_pos h, outs_rest]
    have hk := hex.choose_spec
    generalize hex.choose = k at hk ⊢
    obtain ⟨ys, hy⟩ := st_head (ts := ts) (t := t) k
    have hin := InN.st h k
    rw [hy] at hin ⊢
    have hnd := List.nodup_cons.1 hin.1
    show t :: sorted ys = _
    congr 1
    refine ext_sorted _ _ ?_ (rest_rises ..) fun x => ?_
    · have hp := sorted_sorted ys
      have hn : (sorted ys).Nodup := (sorted_perm ys).nodup_iff.2 hnd.2
      exact (hp.and hn).imp fun ⟨a, b⟩ => by
        have : ∀ {x y : Int}, x ≤ y → x ≠ y → x < y := by intro x y; omega
        exact this a b
    · rw [(sorted_perm ys).mem_iff, rest_mem]
      have hmem : x ∈ t :: ys ↔ RR ts t x := by rw [← hy]; exact st_all hk x
      constructor
      · intro hx
        have hr := hmem.1 (List.mem_cons_of_mem _ hx)
        have hl := RR_lt h x hr
        obtain ⟨j, rfl⟩ := Int.eq_ofNat_of_zero_le hl.1
        exact ⟨fun e => hnd.1 (e ▸ hx), j, by omega, rfl, (rnd_all h j).2 hr⟩
      · rintro ⟨h1, j, h2, rfl, h3⟩
        rcases List.mem_cons.1 (hmem.2 ((rnd_all h j).1 h3)) with e | e
        · exact absurd e h1
        · exact e
  · rw [dif_neg fun hh => h hh.1, if_neg h]
end Go.Proofs.Ytjmhkimffocpeaa.KC

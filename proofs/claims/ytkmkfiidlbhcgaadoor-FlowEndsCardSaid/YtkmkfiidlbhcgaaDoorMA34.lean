/- Texts of this claim, pruned to what it needs and laid together by prune.py. -/
import Derived.Test.YtkmkfiidlbhcgaaDoorMA1
namespace Go.Proofs.YtkmkfiidlbhcgaaDoor.FP
theorem iter_fix {α : Type} (f : α → α) (m : α → Nat) (it : Nat → α) (hit : ∀ i, it (i + 1) = f (it i)) (M : Nat) (hM : ∀ i, m (it i) ≤ M)
    (hm : ∀ i, f (it i) = it i ∨ m (it i) < m (f (it i))) : ∀ i, M ≤ m (it 0) + i → f (it i) = it i := by
  have key : ∀ i, f (it i) = it i ∨ m (it 0) + i ≤ m (it i) ∧ m (it i) < m (f (it i)) := by
    intro i
    induction i with
    | zero =>
      rcases hm 0 with h | h
      · exact .inl h
      · exact .inr ⟨Nat.le_refl _, h⟩
    | succ i ih =>
      rcases ih with h | ⟨h1, h2⟩
      · left
        rw [hit, h, h]
      · rcases hm (i + 1) with h | h
        · exact .inl h
        · refine .inr ⟨?_, h⟩
          rw [hit]
          omega
  intro i hi
  rcases key i with h | ⟨h1, h2⟩
  · exact h
  · have := hM (i + 1)
    rw [hit] at this
    omega
def LE (a b : List Bool) : Prop := a.length = b.length ∧ ∀ i, a.getD i false = true → b.getD i false = true
theorem LE.refl (a : List Bool) : LE a a := ⟨rfl, fun _ h => h⟩
theorem LE.trans {a b c : List Bool} (h : LE a b) (k : LE b c) : LE a c := ⟨h.1.trans k.1, fun i hi => k.2 i (h.2 i hi)⟩
theorem LE.anti {a b : List Bool} (h : LE a b) (k : LE b a) : a = b := by
  apply List.ext_getElem h.1
  intro i h1 h2
  have e1 : a.getD i false = a[i] := by rw [List.getD_eq_getElem?_getD, List.getElem?_eq_getElem h1]; rfl
  have e2 : b.getD i false = b[i] := by rw [List.getD_eq_getElem?_getD, List.getElem?_eq_getElem h2]; rfl
  have p := h.2 i
  have q := k.2 i
  rw [e1, e2] at p q
  rw [Bool.eq_iff_iff]
  exact ⟨p, q⟩
theorem getD_set (a : List Bool) (n i : Nat) : (a.set n true).getD i false = true ↔ a.getD i false = true ∨ (i = n ∧ n < a.length) := by
  rw [List.getD_eq_getElem?_getD, List.getD_eq_getElem?_getD, List.getElem?_set]
  by_cases h : n = i
  · subst h
    by_cases hl : n < a.length
    · simp [hl]
    · simp [hl]
  · rw [if_neg h]
    exact ⟨.inl, fun h' => h'.elim id fun ⟨e, _⟩ => absurd e.symm h⟩
theorem LE.set (a : List Bool) (n : Nat) : LE a (a.set n true) := ⟨by simp, fun i h => (getD_set a n i).2 (.inl h)⟩
def cnt (a : List Bool) : Nat := a.countP id
theorem cnt_le : ∀ {a b : List Bool}, LE a b → cnt a ≤ cnt b ∧ (a ≠ b → cnt a < cnt b) := by
  intro a
  induction a with
  | nil =>
    intro b h
    have : b = [] := List.length_eq_zero_iff.1 h.1.symm
    subst this
    exact ⟨Nat.le_refl _, fun h => absurd rfl h⟩
  | cons x a ih =>
    intro b h
    cases b with
    | nil => cases h.1
    | cons y b =>
      have ht : LE a b := ⟨by have := h.1; simpa using this, fun i hi => by have := h.2 (i + 1); simpa using this hi⟩
      have h0 : x = true → y = true := by have := h.2 0; simpa using this
      obtain ⟨i1, i2⟩ := ih ht
      unfold cnt at *
      rw [List.countP_cons, List.countP_cons]
      cases x <;> cases y
      · refine ⟨by omega, fun hne => ?_⟩
        have := i2 fun e => hne (by rw [e])
        omega
      · refine ⟨by simp; omega, fun _ => by simp; omega⟩
      · exact absurd (h0 rfl) (by decide)
      · refine ⟨by omega, fun hne => ?_⟩
        have := i2 fun e => hne (by rw [e])
        omega
theorem cnt_len (a : List Bool) : cnt a ≤ a.length := List.countP_le_length ..
inductive RN (nx : Int → List Int) (a : Int) : Int → Prop where
  | base {b : Int} : b ∈ nx a → RN nx a b
  | step {b c : Int} : RN nx a b → c ∈ nx b → RN nx a c
theorem RN.trans {nx : Int → List Int} {a b c : Int} (h : RN nx a b) (k : RN nx b c) : RN nx a c := by
  induction k with
  | base h1 => exact .step h h1
  | step _ h1 ih => exact .step ih h1
def InR (nx : Int → List Int) (M : Nat) : Prop := ∀ k, ∀ m ∈ nx k, 0 ≤ m ∧ m < M
theorem RN.range {nx : Int → List Int} {M : Nat} (hI : InR nx M) {a b : Int} (h : RN nx a b) : 0 ≤ b ∧ b < M := by
  cases h with
  | base h1 => exact hI _ _ h1
  | step _ h1 => exact hI _ _ h1
open Classical in
noncomputable def rch (nx : Int → List Int) (M : Nat) (a : Int) : List Bool := (List.range M).map fun (i : Nat) => decide (RN nx a i)
theorem rch_length (nx : Int → List Int) (M : Nat) (a : Int) : (rch nx M a).length = M := by simp [rch]
theorem rch_getD {nx : Int → List Int} {M : Nat} {a : Int} (hI : InR nx M) (i : Nat) : (rch nx M a).getD i false = true ↔ RN nx a i := by
  rw [rch, List.getD_eq_getElem?_getD, List.getElem?_map]
  by_cases h : i < M
  · rw [List.getElem?_range h]
    simp
  · rw [List.getElem?_eq_none (by simpa using h)]
    simp only [Option.map_none, Option.getD_none, Bool.false_eq_true, false_iff]
    intro h'
    have := h'.range hI
    omega
theorem rch_of {nx : Int → List Int} {M : Nat} {a : Int} (hI : InR nx M) {had : List Bool} (hl : had.length = M) (hs : ∀ i : Nat, had.getD i false = true → RN nx a i)
    (h0 : ∀ m ∈ nx a, had.getD m.toNat false = true) (h1 : ∀ i : Nat, had.getD i false = true → ∀ m ∈ nx i, had.getD m.toNat false = true) : had = rch nx M a := by
  have hc : ∀ b, RN nx a b → had.getD b.toNat false = true := by
    intro b h
    induction h with
    | base h => exact h0 _ h
    | @step b c h2 h ih =>
      have := h2.range hI
      have e : ((b.toNat : Nat) : Int) = b := by omega
      exact h1 b.toNat ih _ (by rw [e]; exact h)
  refine LE.anti ⟨by rw [hl, rch_length], fun i hi => (rch_getD hI i).2 (hs i hi)⟩ ⟨by rw [hl, rch_length], fun i hi => ?_⟩
  have := hc _ ((rch_getD hI i).1 hi)
  rwa [Int.toNat_natCast] at this
structure WL (nx : Int → List Int) (M : Nat) (a : Int) (had : List Bool) (todo : List Int) : Prop where
  len : had.length = M
  sound : ∀ i : Nat, had.getD i false = true → RN nx a i
  todos : ∀ k ∈ todo, RN nx a k
  next : ∀ m ∈ nx a, m ∈ todo ∨ had.getD m.toNat false = true
  closed : ∀ i : Nat, had.getD i false = true → ∀ m ∈ nx i, m ∈ todo ∨ had.getD m.toNat false = true
theorem WL.start (nx : Int → List Int) (M : Nat) (a : Int) : WL nx M a (List.replicate M false) (nx a) := by
  have h : ∀ i : Nat, (List.replicate M false).getD i false = true → False := by
    intro i h
    rw [List.getD_eq_getElem?_getD, List.getElem?_replicate] at h
    split at h <;> cases h
  exact ⟨by simp, fun i hi => (h i hi).elim, fun k hk => .base hk, fun m hm => .inl hm, fun i hi => (h i hi).elim⟩
section
variable {nx : Int → List Int} {M : Nat} {a : Int} {had : List Bool} {todo : List Int} {k : Int}
theorem WL.range (hI : InR nx M) (h : WL nx M a had (k :: todo)) : 0 ≤ k ∧ k < M := (h.todos k (List.mem_cons_self ..)).range hI
theorem WL.skip (h : WL nx M a had (k :: todo)) (hk : had.getD k.toNat false = true) : WL nx M a had todo := by
  have drop : ∀ m, m ∈ k :: todo ∨ had.getD m.toNat false = true → m ∈ todo ∨ had.getD m.toNat false = true := by
    rintro m (h | h)
    · rcases List.mem_cons.1 h with rfl | h
      · exact .inr hk
      · exact .inl h
    · exact .inr h
  exact ⟨h.len, h.sound, fun m hm => h.todos m (List.mem_cons_of_mem _ hm), fun m hm => drop m (h.next m hm), fun i hi m hm => drop m (h.closed i hi m hm)⟩
theorem WL.mark (hI : InR nx M) (h : WL nx M a had (k :: todo)) : WL nx M a (had.set k.toNat true) (todo ++ nx k) := by
  have hr := h.range hI
  have e : ((k.toNat : Nat) : Int) = k := by omega
  have hkl : k.toNat < had.length := by rw [h.len]; omega
  have hkk := h.todos k (List.mem_cons_self ..)
  have keep : ∀ m, m ∈ k :: todo ∨ had.getD m.toNat false = true → m ∈ todo ++ nx k ∨ (had.set k.toNat true).getD m.toNat false = true := by
    rintro m (h | h)
    · rcases List.mem_cons.1 h with rfl | h
      · exact .inr ((getD_set _ _ _).2 (.inr ⟨rfl, hkl⟩))
      · exact .inl (List.mem_append_left _ h)
    · exact .inr ((getD_set _ _ _).2 (.inl h))
  refine ⟨by rw [List.length_set, h.len], fun i hi => ?_, fun m hm => ?_, fun m hm => keep m (h.next m hm), fun i hi m hm => ?_⟩
  · rcases (getD_set _ _ _).1 hi with hi | ⟨rfl, _⟩
    · exact h.sound i hi
    · rw [e]; exact hkk
  · rcases List.mem_append.1 hm with hm | hm
    · exact h.todos m (List.mem_cons_of_mem _ hm)
    · exact .step hkk hm
  · rcases (getD_set _ _ _).1 hi with hi | ⟨rfl, _⟩
    · exact keep m (h.closed i hi m hm)
    · rw [e] at hm
      exact .inl (List.mem_append_right _ hm)
theorem WL.done (hI : InR nx M) (h : WL nx M a had []) : had = rch nx M a :=
  rch_of hI h.len h.sound (fun m hm => (h.next m hm).resolve_left (by simp)) (fun i hi m hm => (h.closed i hi m hm).resolve_left (by simp))
theorem cnt_set {had : List Bool} {n : Nat} (hn : n < had.length) (h : had.getD n false = false) : cnt had < cnt (had.set n true) := by
  refine (cnt_le (LE.set had n)).2 fun e => ?_
  have : (had.set n true).getD n false = true := (getD_set _ _ _).2 (.inr ⟨rfl, hn⟩)
  rw [← e, h] at this
  cases this
def left_ (had : List Bool) (todo : List Int) : Nat := 3 * (had.length - cnt had) + todo.length
theorem left_skip (had : List Bool) (todo : List Int) (k : Int) : left_ had todo < left_ had (k :: todo) := by
  unfold left_
  rw [List.length_cons]
  omega
theorem left_mark {had : List Bool} {todo l : List Int} {k : Int} (hn : k.toNat < had.length) (h : had.getD k.toNat false = false) (h2 : l.length ≤ 2) : left_ (had.set k.toNat true) (todo ++ l) < left_ had (k :: todo) := by
  have h1 := cnt_set hn h
  have h3 := cnt_len (had.set k.toNat true)
  unfold left_
  rw [List.length_set] at h3 ⊢
  rw [List.length_append, List.length_cons]
  omega
end
def upd (a k : Int) (had : List Bool) (n : Int) : List Bool := if k = a ∨ had.getD k.toNat false = true then had.set n.toNat true else had
def js (nx : Int → List Int) (a k : Int) (had : List Bool) (j : Nat) : List Bool := ((nx k).take j).foldl (upd a k) had
def ks (nx : Int → List Int) (a : Int) (had : List Bool) : Nat → List Bool
  | 0 => had
  | k + 1 => js nx a k (ks nx a had k) (nx k).length
def rr (nx : Int → List Int) (M : Nat) (a : Int) : Nat → List Bool
  | 0 => List.replicate M false
  | r + 1 => ks nx a (rr nx M a r) M
theorem LE.upd (a k : Int) (had : List Bool) (n : Int) : LE had (upd a k had n) := by
  unfold FP.upd
  split
  · exact LE.set _ _
  · exact LE.refl _
theorem LE.fold (a k : Int) : ∀ (l : List Int) (had : List Bool), LE had (l.foldl (FP.upd a k) had)
  | [], had => LE.refl had
  | n :: l, had => (LE.upd a k had n).trans (LE.fold a k l _)
theorem LE.ks (nx : Int → List Int) (a : Int) (had : List Bool) : ∀ k, LE had (ks nx a had k)
  | 0 => LE.refl _
  | k + 1 => (LE.ks nx a had k).trans (LE.fold ..)
theorem rr_length (nx : Int → List Int) (M : Nat) (a : Int) : ∀ r, (rr nx M a r).length = M
  | 0 => by simp [rr]
  | r + 1 => by rw [rr, ← (LE.ks nx a (rr nx M a r) M).1, rr_length nx M a r]
section
variable {nx : Int → List Int} {M : Nat} {a : Int}
def Sd (nx : Int → List Int) (a : Int) (had : List Bool) : Prop := ∀ i : Nat, had.getD i false = true → RN nx a i
theorem Sd.upd (hI : InR nx M) {had : List Bool} (h : Sd nx a had) (k n : Int) (hk : 0 ≤ k) (hn : n ∈ nx k) : Sd nx a (upd a k had n) := by
  unfold FP.upd
  split
  · rename_i hc
    intro i hi
    rcases (getD_set _ _ _).1 hi with hi | ⟨rfl, _⟩
    · exact h i hi
    · have hr := hI _ _ hn
      rw [show ((n.toNat : Nat) : Int) = n by omega]
      rcases hc with rfl | hc
      · exact .base hn
      · have := h _ hc
        rw [show ((k.toNat : Nat) : Int) = k by omega] at this
        exact .step this hn
  · exact h
theorem Sd.fold (hI : InR nx M) (k : Int) (hk : 0 ≤ k) : ∀ (l : List Int) (had : List Bool), (∀ n ∈ l, n ∈ nx k) → Sd nx a had → Sd nx a (l.foldl (FP.upd a k) had)
  | [], _, _, h => h
  | n :: l, _, hl, h => Sd.fold hI k hk l _ (fun m hm => hl m (List.mem_cons_of_mem _ hm)) (h.upd hI k n hk (hl n (List.mem_cons_self ..)))
theorem Sd.ks (hI : InR nx M) {had : List Bool} (h : Sd nx a had) : ∀ k, Sd nx a (ks nx a had k)
  | 0 => h
  | k + 1 => Sd.fold hI k (by omega) _ _ (fun n hn => List.mem_of_mem_take hn) (Sd.ks hI h k)
theorem Sd.rr (hI : InR nx M) : ∀ r, Sd nx a (rr nx M a r)
  | 0 => by
    intro i h
    rw [FP.rr, List.getD_eq_getElem?_getD, List.getElem?_replicate] at h
    split at h <;> cases h
  | r + 1 => (Sd.rr hI r).ks hI M
theorem fold_same (k : Int) : ∀ (l : List Int) (had : List Bool), l.foldl (upd a k) had = had → ∀ n ∈ l, upd a k had n = had
  | [], _, _, _, h => by cases h
  | x :: l, had, h, n, hn => by
    have h1 : upd a k had x = had := LE.anti (by
      have := LE.fold a k l (upd a k had x)
      rw [show l.foldl (upd a k) (upd a k had x) = had from h] at this
      exact this) (LE.upd a k had x)
    rcases List.mem_cons.1 hn with rfl | hn
    · exact h1
    · have h2 : l.foldl (upd a k) had = had := by
        have h3 : l.foldl (upd a k) (upd a k had x) = had := h
        rw [h1] at h3
        exact h3
      exact fold_same k l had h2 n hn
theorem ks_same {had : List Bool} : ∀ n, ks nx a had n = had → ∀ k : Nat, k < n → ∀ m ∈ nx k, upd a k had m = had
  | 0, _, k, hk, _, _ => by omega
  | n + 1, h, k, hk, m, hm => by
    have h1 : ks nx a had n = had := LE.anti (by
      have := LE.fold a n ((nx n).take (nx n).length) (ks nx a had n)
      rw [show ((nx n).take (nx n).length).foldl (upd a n) (ks nx a had n) = had from h] at this
      exact this) (LE.ks nx a had n)
    rcases Nat.lt_succ_iff_lt_or_eq.1 hk with hlt | rfl
    · exact ks_same n h1 k hlt m hm
    · have h2 : ((nx k).take (nx k).length).foldl (upd a k) (ks nx a had k) = had := h
      rw [h1, List.take_length] at h2
      exact fold_same _ _ _ h2 m hm
theorem rr_rch (hI : InR nx M) (ha : 0 ≤ a) (ham : a < M) : rr nx M a M = rch nx M a := by
  have hfix : ks nx a (rr nx M a M) M = rr nx M a M := by
    refine iter_fix (fun h => ks nx a h M) cnt (rr nx M a) (fun i => rfl) M (fun i => by have := cnt_len (rr nx M a i); rw [rr_length] at this; exact this) (fun i => ?_) M (by omega)
    by_cases h : ks nx a (rr nx M a i) M = rr nx M a i
    · exact .inl h
    · exact .inr ((cnt_le (LE.ks nx a (rr nx M a i) M)).2 fun e => h e.symm)
  have hs : Sd nx a (rr nx M a M) := Sd.rr hI M
  have hone : ∀ k : Nat, k < M → ((k : Int) = a ∨ (rr nx M a M).getD k false = true) → ∀ m ∈ nx k, (rr nx M a M).getD m.toNat false = true := by
    intro k hk hc m hm
    have h1 := ks_same M hfix k hk m hm
    unfold upd at h1
    rw [Int.toNat_natCast, if_pos hc] at h1
    have hr := hI _ _ hm
    rw [← h1]
    exact (getD_set _ _ _).2 (.inr ⟨rfl, by rw [rr_length]; omega⟩)
  refine rch_of hI (rr_length ..) hs (fun m hm => ?_) (fun i hi m hm => ?_)
  · have e : ((a.toNat : Nat) : Int) = a := by omega
    refine hone a.toNat (by omega) (.inl e) m (by rw [e]; exact hm)
  · have hr := (hs i hi).range hI
    exact hone i (by omega) (.inr hi) m hm
end
end Go.Proofs.YtkmkfiidlbhcgaaDoor.FP

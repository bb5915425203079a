/- Texts of this claim, pruned to what it needs and laid together by prune.py. -/
import Derived.Test.YtkplgfhkebkaaaaDoorMD1
namespace Go.Proofs.YtkplgfhkebkaaaaDoor.Scan
open Go.RowKit Go.Proofs.YtkplgfhkebkaaaaDoorW.PrintWords
theorem ev_some {α : Type} {g : Nat → Option α} {r : α} (h : ∀ k, g (k + 1) = some r) : Ev g r :=
  ⟨1, fun k hk => by
    obtain ⟨m, rfl⟩ : ∃ m, k = m + 1 := ⟨k - 1, by omega⟩
    exact h m⟩
theorem ev_const {α : Type} {r : α} : Ev (fun _ => some r) r := ⟨0, fun _ _ => rfl⟩
theorem ev_all {α : Type} {g : Nat → Option α} {r : α} (h : ∀ k, g k = some r) : Ev g r := ⟨0, fun k _ => h k⟩
theorem ev_step {α : Type} {g f : Nat → Option α} {r : α} (h : ∀ k, g (k + 1) = f k) (k : Ev f r) : Ev g r := Ev.step h k
theorem ev_bind {α β : Type} {g : Nat → Option α} {f : Nat → α → Option β} {a : α} {r : β} (h : Ev g a) (k : Ev (fun n => f n a) r) :
    Ev (fun n => (g n).bind (f n)) r := Ev.bind h k
theorem ev_at {α : Type} {g : Nat → Option α} {r : α} (h : Ev g r) : ∃ k, g k = some r := h.rounds
theorem ev_unique {α : Type} {g : Nat → Option α} {r r' : α} (h : Ev g r) (h' : Ev g r') : r = r' := by
  obtain ⟨k, hk⟩ := h
  obtain ⟨k', hk'⟩ := h'
  have a := hk (max k k') (Nat.le_max_left _ _)
  have b := hk' (max k k') (Nat.le_max_right _ _)
  rw [a] at b
  exact Option.some.inj b
theorem scan_bad {ρ : Type} (g : Nat → Int → Option ρ) (n : Int) (bad : ρ) (ok : Int → Prop)
    (h1 : ∀ i q, 0 ≤ i → i < n → ok i → Ev (fun k => g k (i + 1)) q → Ev (fun k => g k i) q)
    (h2 : ∀ i, 0 ≤ i → i < n → ¬ ok i → Ev (fun k => g k i) bad) :
    ∀ (d : Nat) (i : Int), 0 ≤ i → i ≤ n → n - i = d → (∃ j, i ≤ j ∧ j < n ∧ ¬ ok j) → Ev (fun k => g k i) bad := by
  intro d
  induction d with
  | zero => intro i h0 hi hd ⟨j, a, b, _⟩; omega
  | succ d ih =>
    intro i h0 hi hd ⟨j, hj, hn, hj'⟩
    by_cases hk : ok i
    · refine h1 i bad h0 (by omega) hk (ih (i + 1) (by omega) (by omega) (by omega) ⟨j, ?_, hn, hj'⟩)
      have : j ≠ i := fun e => hj' (e ▸ hk)
      omega
    · exact h2 i h0 (by omega) hk
theorem scan0_bad {ρ : Type} (g : Nat → Int → Option ρ) (n : Int) (bad : ρ) (ok : Int → Prop) (hn : 0 ≤ n)
    (h1 : ∀ i q, 0 ≤ i → i < n → ok i → Ev (fun k => g k (i + 1)) q → Ev (fun k => g k i) q)
    (h2 : ∀ i, 0 ≤ i → i < n → ¬ ok i → Ev (fun k => g k i) bad)
    (h : ¬ ∀ j, 0 ≤ j → j < n → ok j) : Ev (fun k => g k 0) bad := by
  refine scan_bad g n bad ok h1 h2 n.toNat 0 (by omega) hn (by omega) ?_
  rcases Classical.not_forall.1 h with ⟨j, hj⟩
  rw [Classical.not_imp, Classical.not_imp] at hj
  exact ⟨j, hj.1, hj.2.1, hj.2.2⟩
theorem scan_good {ρ : Type} (g : Nat → Int → Option ρ) (n : Int) (r : ρ) (ok : Int → Prop)
    (h1 : ∀ i q, 0 ≤ i → i < n → ok i → Ev (fun k => g k (i + 1)) q → Ev (fun k => g k i) q)
    (h3 : Ev (fun k => g k n) r) :
    ∀ (d : Nat) (i : Int), 0 ≤ i → i ≤ n → n - i = d → (∀ j, i ≤ j → j < n → ok j) → Ev (fun k => g k i) r := by
  intro d
  induction d with
  | zero =>
    intro i h0 hi hd _
    have : i = n := by omega
    subst this
    exact h3
  | succ d ih =>
    intro i h0 hi hd h
    exact h1 i r h0 (by omega) (h i (by omega) (by omega)) (ih (i + 1) (by omega) (by omega) (by omega) fun j hj hn => h j (by omega) hn)
theorem scan0_good {ρ : Type} (g : Nat → Int → Option ρ) (n : Int) (r : ρ) (ok : Int → Prop) (hn : 0 ≤ n)
    (h1 : ∀ i q, 0 ≤ i → i < n → ok i → Ev (fun k => g k (i + 1)) q → Ev (fun k => g k i) q)
    (h3 : Ev (fun k => g k n) r) (h : ∀ j, 0 ≤ j → j < n → ok j) : Ev (fun k => g k 0) r :=
  scan_good g n r ok h1 h3 n.toNat 0 (by omega) hn (by omega) h
end Go.Proofs.YtkplgfhkebkaaaaDoor.Scan

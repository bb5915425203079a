/- Texts of this claim, pruned to what it needs and laid together by prune.py. -/
import Derived.Test.YtkmkfiidlbhcgaaDoorMO0
import Derived.Test.YtkmkfiidlbhcgaaDoorMO1
import Derived.Lib.AppendIntMem
import Derived.Below
import Derived.Test.YtkmkfiidlbhcgaaDoorRows
import Derived.LaidMore
import Derived.LaidHandle
import Derived.MakeChecks
import Derived.Stop.Joined
import Derived.Lib.LaidTab
namespace Go.Proofs.YtkmkfiidlbhcgaaDoor.FM
open Go.RowKit Go.Proofs.YtkmkfiidlbhcgaaDoorW.PrintWords
def TB (w : World) : Prop := Lib.TabIs Tryd.prog w "internal/strconv.uint64pow10" .u64 Lib.pow10Tab
theorem TB_below {w w' : World} (h : TB w) (hb : Below w.heap.size w w') : TB w' := by
  have hg : Tryd.prog.globalNamed "internal/strconv.uint64pow10" = some 0 := by kernel_rfl
  unfold TB Lib.TabIs World.var? at h ⊢
  rw [hg] at h ⊢
  simp only [Option.bind_some] at h ⊢
  have hlt : 0 < w.heap.size := by
    rcases Nat.lt_or_ge 0 w.heap.size with h' | h'
    · exact h'
    · rw [Array.getElem?_eq_none h'] at h; cases h
  rw [hb.block 0 hlt]
  exact h
def num (n : Int) : ByteArray := ⟨(Lib.itoa n).toArray⟩
def strconv_FormatInt.f (a0 : Int) (a1 : Int) : Option ByteArray := if a1 = 10 ∧ -9223372036854775808 ≤ a0 ∧ a0 ≤ 9223372036854775807 then some (num a0) else none
theorem strconv_FormatInt.calls (a0 : Int) (a1 : Int) (r : ByteArray) (w : World) (h : strconv_FormatInt.f a0 a1 = some r) (ht : TB w) :
    Calls Tryd.prog 78 #[.int .i64 a0, .int .i64 a1] w fun e w' => e = .returned (.string r) ∧ Below w.heap.size w w' := by
  unfold strconv_FormatInt.f at h
  split at h
  · rename_i hh
    obtain ⟨rfl, h0, h1⟩ := hh
    obtain rfl := Option.some.inj h
    refine (Tryd.strconv_FormatInt_10 a0 h0 h1 w ht).mono ?_
    rintro e w' ⟨he, k, os, rfl⟩
    exact ⟨he, Lib.below_grow _ w (Nat.le_refl _) k os⟩
  · cases h
end Go.Proofs.YtkmkfiidlbhcgaaDoor.FM

namespace Go.Proofs.YtkmkfiidlbhcgaaDoor.LD
open Go.RowKit Go.Proofs.YtkmkfiidlbhcgaaDoor.FM
def L : List (String × DataW Unit) := [("math/bits.deBruijn32tab", Rows.laid_math_bits_deBruijn32tab), ("math/bits.deBruijn64tab", Rows.laid_math_bits_deBruijn64tab), ("internal/strconv.uint64pow10", Rows.laid_internal_strconv_uint64pow10)]
theorem door_met (os : Os) (args : Array Value) : laidMetH Tryd.prog L ((World.doorLaid Tryd.prog 400 os).forCall (fun _ _ => 0) ⟨#[], args, []⟩).memory :=
  laidMetH_of_parts3 (fuel := 8) (laidMet_of_run' 8 (by kernel_rfl) (by kernel_rfl)) (by kernel_rfl) (by kernel_rfl)
theorem tab {W : World} (h : laidMetH Tryd.prog L W) : TB W := by
  rw [MakeChecks.laidMetH_plain _ _ _ (by kernel_rfl)] at h
  obtain ⟨ps, ⟨g0, t0, cs0, f0, p0, q0, _, _, _, _, ⟨g1, t1, cs1, f1, p1, q1, _, _, _, _, ⟨g2, t2, cs2, f2, p2, q2, hg2, ht2, hv2, hd2, _, _⟩, _⟩, _⟩, _, _⟩ := h
  obtain rfl := Option.some.inj ((show Tryd.prog.globalNamed "internal/strconv.uint64pow10" = some 0 by kernel_rfl).symm.trans hg2)
  obtain rfl := Option.some.inj ((show (Tryd.prog.globals[0]?).map (·.type) = some 107 by kernel_rfl).symm.trans ht2)
  have e := Lib.cells_of_tab (k := .u64) (zs := Lib.pow10Tab) Tryd.underlying107 Tryd.underlying80 (by kernel_rfl) (by kernel_rfl) hd2
  unfold TB Lib.TabIs
  rw [hv2, ← e]
end Go.Proofs.YtkmkfiidlbhcgaaDoor.LD

namespace Go.Proofs.YtkmkfiidlbhcgaaDoor.Scan
open Go.RowKit Go.Proofs.YtkmkfiidlbhcgaaDoorW.PrintWords
theorem ev_some {α : Type} {g : Nat → Option α} {r : α} (h : ∀ k, g (k + 1) = some r) : Ev g r :=
  ⟨1, fun k hk => by
    obtain ⟨m, rfl⟩ : ∃ m, k = m + 1 := ⟨k - 1, by omega⟩
    exact h m⟩
theorem ev_const {α : Type} {r : α} : Ev (fun _ => some r) r := ⟨0, fun _ _ => rfl⟩
theorem ev_all {α : Type} {g : Nat → Option α} {r : α} (h : ∀ k, g k = some r) : Ev g r := ⟨0, fun k _ => h k⟩
theorem ev_step {α : Type} {g f : Nat → Option α} {r : α} (h : ∀ k, g (k + 1) = f k) (k : Ev f r) : Ev g r := Ev.step h k
theorem ev_bind {α β : Type} {g : Nat → Option α} {f : Nat → α → Option β} {a : α} {r : β} (h : Ev g a) (k : Ev (fun n => f n a) r) :
    Ev (fun n => (g n).bind (f n)) r := Ev.bind h k
theorem ev_at {α : Type} {g : Nat → Option α} {r : α} (h : Ev g r) : ∃ k, g k = some r := h.rounds
theorem scan_bad {ρ : Type} (g : Nat → Int → Option ρ) (n : Int) (bad : ρ) (ok : Int → Prop)
    (h1 : ∀ i q, 0 ≤ i → i < n → ok i → Ev (fun k => g k (i + 1)) q → Ev (fun k => g k i) q)
    (h2 : ∀ i, 0 ≤ i → i < n → ¬ ok i → Ev (fun k => g k i) bad) :
    ∀ (d : Nat) (i : Int), 0 ≤ i → i ≤ n → n - i = d → (∃ j, i ≤ j ∧ j < n ∧ ¬ ok j) → Ev (fun k => g k i) bad := by
  intro d
  induction d with
  | zero => intro i h0 hi hd ⟨j, a, b, _⟩; omega
  | succ d ih =>
    intro i h0 hi hd ⟨j, hj, hn, hj'⟩
    by_cases hk : ok i
    · refine h1 i bad h0 (by omega) hk (ih (i + 1) (by omega) (by omega) (by omega) ⟨j, ?_, hn, hj'⟩)
      have : j ≠ i := fun e => hj' (e ▸ hk)
      omega
    · exact h2 i h0 (by omega) hk
theorem scan0_bad {ρ : Type} (g : Nat → Int → Option ρ) (n : Int) (bad : ρ) (ok : Int → Prop) (hn : 0 ≤ n)
    (h1 : ∀ i q, 0 ≤ i → i < n → ok i → Ev (fun k => g k (i + 1)) q → Ev (fun k => g k i) q)
    (h2 : ∀ i, 0 ≤ i → i < n → ¬ ok i → Ev (fun k => g k i) bad)
    (h : ¬ ∀ j, 0 ≤ j → j < n → ok j) : Ev (fun k => g k 0) bad := by
  refine scan_bad g n bad ok h1 h2 n.toNat 0 (by omega) hn (by omega) ?_
  rcases Classical.not_forall.1 h with ⟨j, hj⟩
  rw [Classical.not_imp, Classical.not_imp] at hj
  exact ⟨j, hj.1, hj.2.1, hj.2.2⟩
theorem scan_good {ρ : Type} (g : Nat → Int → Option ρ) (n : Int) (r : ρ) (ok : Int → Prop)
    (h1 : ∀ i q, 0 ≤ i → i < n → ok i → Ev (fun k => g k (i + 1)) q → Ev (fun k => g k i) q)
    (h3 : Ev (fun k => g k n) r) :
    ∀ (d : Nat) (i : Int), 0 ≤ i → i ≤ n → n - i = d → (∀ j, i ≤ j → j < n → ok j) → Ev (fun k => g k i) r := by
  intro d
  induction d with
  | zero =>
    intro i h0 hi hd _
    have : i = n := by omega
    subst this
    exact h3
  | succ d ih =>
    intro i h0 hi hd h
    exact h1 i r h0 (by omega) (h i (by omega) (by omega)) (ih (i + 1) (by omega) (by omega) (by omega) fun j hj hn => h j (by omega) hn)
theorem scan0_good {ρ : Type} (g : Nat → Int → Option ρ) (n : Int) (r : ρ) (ok : Int → Prop) (hn : 0 ≤ n)
    (h1 : ∀ i q, 0 ≤ i → i < n → ok i → Ev (fun k => g k (i + 1)) q → Ev (fun k => g k i) q)
    (h3 : Ev (fun k => g k n) r) (h : ∀ j, 0 ≤ j → j < n → ok j) : Ev (fun k => g k 0) r :=
  scan_good g n r ok h1 h3 n.toNat 0 (by omega) hn (by omega) h
end Go.Proofs.YtkmkfiidlbhcgaaDoor.Scan

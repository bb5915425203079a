/- Texts of this claim, pruned to what it needs and laid together by prune.py. -/
import Derived.Test.YtfkfpcciacplkaaDoorProg
import Derived.Below
import Derived.Deep.Draws
import Derived.Deep.AppendLies
import Derived.Maps.AppendAt
import Derived.OwnWalk
import Derived.Laws.BytesArg
import Derived.Laws.MakeOwn
import Derived.Laws.OwnMore
import Derived.Deep.OwnRows
import Derived.Tactics
import Derived.Lib.ConvBytes
import Derived.Laws.Slices
import Derived.WalkKit
import Derived.KernelRfl
import Derived.RowKit3
import Derived.Deep.LoopGhost
import Derived.Deep.QuietTactic
import Derived.BigQuiet
import Derived.WideLaws
import Derived.Deep.DeepCutAuto
import Derived.Deep.CutBlock
import Derived.Deep.RegionHeld3
import Derived.Laws.Rows
import Derived.Lib.AppendStr
import Derived.ArgAppend
import Derived.Laws.IdiomCopy
import Derived.OrdersHeld
import Derived.Laws.BitsLemmas
import Derived.RowKit
import Derived.Test.YtfkfpcciacplkaaDoorMV21
import Derived.Test.YtfkfpcciacplkaaDoorMV0
import Derived.Test.YtfkfpcciacplkaaDoorMV1
import Derived.Test.YtfkfpcciacplkaaDoorMV2
import Derived.Test.YtfkfpcciacplkaaDoorMV3
import Derived.Test.YtfkfpcciacplkaaDoorMV4
import Derived.Test.YtfkfpcciacplkaaDoorMV5
import Derived.Test.YtfkfpcciacplkaaDoorMV6
import Derived.Test.YtfkfpcciacplkaaDoorMV7
import Derived.Test.YtfkfpcciacplkaaDoorMV8
import Derived.Test.YtfkfpcciacplkaaDoorMV9
import Derived.Test.YtfkfpcciacplkaaDoorMV10
import Derived.Test.YtfkfpcciacplkaaDoorMV11
import Derived.Test.YtfkfpcciacplkaaDoorMV12
import Derived.Test.YtfkfpcciacplkaaDoorMV13
import Derived.Test.YtfkfpcciacplkaaDoorMV14
import Derived.Test.YtfkfpcciacplkaaDoorMV15
import Derived.Test.YtfkfpcciacplkaaDoorMV16
import Derived.Test.YtfkfpcciacplkaaDoorMV17
import Derived.Test.YtfkfpcciacplkaaDoorMV18
import Derived.Test.YtfkfpcciacplkaaDoorMV19
import Derived.Test.YtfkfpcciacplkaaDoorMV20
import Derived.Shelf.Small.Bits
import Derived.Shelf.Small.Wraps
import Derived.Shelf.Strconv.Itoa0
import Derived.Shelf.Strconv.Itoa1
import Derived.Shelf.LaysM
import Derived.Shelf.Strconv.Itoa2
import Derived.Shelf.Strconv.Itoa3
import Derived.Shelf.Strconv.Itoa4
import Derived.Shelf.Strings.Search1
import Derived.Shelf.Strings.Search2
import Derived.Shelf.Strings.Search3
import Derived.Shelf.Strings.Shaped
import Derived.Shelf.Sort.Plain
import Derived.Shelf.Bits.Mul64
import Derived.Ground.Names2Prog
import Derived.Shelf.Slices.CompactI
import Derived.Shelf.Slices.SearchI
import Derived.Shelf.Slices.Cells
import Derived.Shelf.Slices.In.SortNone
import Derived.Lib.LaidTab
import Derived.Test.YtfkfpcciacplkaaDoorRows
import Derived.ChangeArms
import Derived.OpenShut
import Derived.LaidMore
import Derived.LaidHandle
import Derived.MakeChecks
import Derived.Stop.Joined
import Derived.WideShapes
import Derived.SliceStrings
import Derived.ProofKit
import Derived.ShutString
import Derived.ChangeOld
import Derived.Lib.AppendIntMem
import Derived.SizedLaws
import Derived.Deep.RegionWith
import Derived.Deep.RegionLaw
import Derived.Deep.DrawnRows
namespace Go.Proofs.YtfkfpcciacplkaaDoor.TE
open Go.RowKit Go.Proofs.YtfkfpcciacplkaaDoorW.PrintWords Go.Proofs.YtfkfpcciacplkaaDoorW.PrintLast Go.Proofs.YtfkfpcciacplkaaDoorW.PrintMore
attribute [local go_sem] max2_int min2_int max_two min_two max_three min_three max_four min_four
set_option linter.unusedVariables false
set_option linter.unusedSimpArgs false
open Go.Proofs.YtfkfpcciacplkaaDoor.F
end Go.Proofs.YtfkfpcciacplkaaDoor.TE

namespace Go.Proofs.YtfkfpcciacplkaaDoor.TE
open Go.RowKit Go.Proofs.YtfkfpcciacplkaaDoorW.PrintWords Go.Proofs.YtfkfpcciacplkaaDoorW.PrintLast Go.Proofs.YtfkfpcciacplkaaDoorW.PrintMore
attribute [local go_sem] max2_int min2_int max_two min_two max_three min_three max_four min_four
set_option linter.unusedVariables false
set_option linter.unusedSimpArgs false
open Go.Proofs.YtfkfpcciacplkaaDoor.F
noncomputable def slices_Equal_int64_int64.l0 : Nat → List Int → List Int → Int → Int → Option (Bool)
  | 0, _, _, _, _ => none
  | k + 1, x0, x1, x12, x13 => if x13 < x12 then (if 0 ≤ x13 then (if x13 < (x0.length : Int) then (if x13 < (x1.length : Int) then (if (rd x0 x13) = (rd x1 x13) then (slices_Equal_int64_int64.l0 k x0 x1 x12 (wrap64 (x13 + 1))) else (some false)) else (none)) else (none)) else (none)) else (some true)
noncomputable def slices_Equal_int64_int64.f (k : Nat) (l0 : List Int) (l1 : List Int) : Option (Bool) := if (l0.length : Int) = (l1.length : Int) then (slices_Equal_int64_int64.l0 k l0 l1 (l0.length : Int) 0) else (some false)
set_option maxHeartbeats 8000000 in
set_option maxRecDepth 100000 in
theorem slices_Equal_int64_int64.calls (k : Nat) (A0 : Option Addr) (c0 : Nat) (l0 : List Int) (A1 : Option Addr) (c1 : Nat) (l1 : List Int) (r : Bool) (w : World) (hr0 : Kd.C (Kd.int .i64) w A0 l0.length l0) (hc0 : l0.length ≤ c0) (hr1 : Kd.C (Kd.int .i64) w A1 l1.length l1) (hc1 : l1.length ≤ c1) (h : slices_Equal_int64_int64.f k l0 l1 = some r) :
    Calls Tryd.prog 36 #[.slice A0 l0.length c0, .slice A1 l1.length c1] w fun e w' => e = .returned (.bool r) ∧ Drawn0 w w' := by
  have HR0 := Aside0.mk hr0
  have HC0 := Aside0.mk hc0
  clear hr0 hc0
  have HR1 := Aside0.mk hr1
  have HC1 := Aside0.mk hc1
  clear hr1 hc1
  have H : (if (l0.length : Int) = (l1.length : Int) then (slices_Equal_int64_int64.l0 k l0 l1 (l0.length : Int) 0) else (some false)) = some r := h
  clear h
  by_cases c3 : (l0.length : Int) = (l1.length : Int)
  · rw [if_pos c3] at H
    have c3b0 : ((l0.length : Int) == (l1.length : Int)) = true := beq_iff_eq.mpr c3
    have c3b1 : ((l0.length : Int) != (l1.length : Int)) = false := bne_eq_false_iff_eq.mpr c3
    have c3b2 : (l0.length == l1.length) = true := by first | simpa using c3 | (simp at c3 ⊢; omega)
    clear c3
    have H' := Aside0.mk H
    clear H
    go_enter Tryd.func36, Tryd.ntmps36
    go_wp2
    repeat (go_quiet (fail); try go_wp2)
    go_loopg [13] k (fun kq v13 w' => ∃ (x13_1 : Int), v13 = .int .i64 x13_1 ∧ Aside0 (slices_Equal_int64_int64.l0 kq l0 l1 (l0.length : Int) x13_1 = some r) ∧ Aside0 (kq ≤ k) ∧ Drawn0 w w')
    case atStart => exact ⟨(0), (by first | rfl | (simp; done) | (simp [*]; done)), H', ⟨Nat.le_refl _⟩, by repeat (first | exact Drawn0.refl _ | apply Drawn0.step)⟩
    case round =>
      clear H'
      try clear c1
      try clear p2
      try clear c3
      try clear c3b0
      try clear c3b1
      try clear c3b2
      obtain ⟨x13_1, rfl, HA, HK1, ⟨m1, rfl⟩⟩ := hrel
      cases gk with
      | zero => exact absurd HA.out (by simp [slices_Equal_int64_int64.l0])
      | succ k1 =>
        have H := HA.out
        clear HA
        simp only [slices_Equal_int64_int64.l0] at H
        by_cases c4 : x13_1 < (l0.length : Int)
        · rw [if_pos c4] at H
          have c4b0 : decide (x13_1 < (l0.length : Int)) = true := decide_eq_true c4
          clear c4
          by_cases c5 : 0 ≤ x13_1
          · rw [if_pos c5] at H
            have c5b0 : decide (0 ≤ x13_1) = true := decide_eq_true c5
            clear c5
            by_cases c6 : x13_1 < (l0.length : Int)
            · rw [if_pos c6] at H
              have c6b0 : decide (x13_1 < (l0.length : Int)) = true := decide_eq_true c6
              clear c6
              by_cases c7 : x13_1 < (l1.length : Int)
              · rw [if_pos c7] at H
                have c7b0 : decide (x13_1 < (l1.length : Int)) = true := decide_eq_true c7
                clear c7
                by_cases c8 : (rd l0 x13_1) = (rd l1 x13_1)
                · rw [if_pos c8] at H
                  have c8b0 : ((rd l0 x13_1) == (rd l1 x13_1)) = true := beq_iff_eq.mpr c8
                  have c8b1 : ((rd l0 x13_1) != (rd l1 x13_1)) = false := bne_eq_false_iff_eq.mpr c8
                  clear c8
                  have H' := Aside0.mk H
                  clear H
                  have p101 : 0 ≤ (x13_1 : Int) := of_decide_eq_true (by first | (with_reducible assumption) | assumption)
                  have q101 : x13_1 < (l0.length : Int) := of_decide_eq_true (by first | (with_reducible assumption) | assumption)
                  obtain ⟨ad101, e101, hx101_0⟩ := Kd.at_int HR0.out x13_1 p101 q101
                  cases e101
                  replace p101 := eq_true p101
                  replace q101 := eq_true q101
                  have p102 : 0 ≤ (x13_1 : Int) := of_decide_eq_true (by first | (with_reducible assumption) | assumption)
                  have q102 : x13_1 < (l1.length : Int) := of_decide_eq_true (by first | (with_reducible assumption) | assumption)
                  obtain ⟨ad102, e102, hx102_0⟩ := Kd.at_int HR1.out x13_1 p102 q102
                  cases e102
                  replace p102 := eq_true p102
                  replace q102 := eq_true q102
                  go_wp2
                  repeat (go_quiet (fail); try go_wp2)
                  go_roundg k1
                  case measure => have := HK1.out; omega
                  case rel => exact ⟨(wrap64 (x13_1 + 1)), (by first | rfl | (simp; done) | (simp [*]; done)), H', ⟨by have := HK1.out; omega⟩, by repeat (first | exact Drawn0.refl _ | apply Drawn0.step)⟩
                · rw [if_neg c8] at H
                  have c8b0 : ((rd l0 x13_1) == (rd l1 x13_1)) = false := beq_eq_false_iff_ne.mpr c8
                  have c8b1 : ((rd l0 x13_1) != (rd l1 x13_1)) = true := bne_iff_ne.mpr c8
                  obtain rfl := Option.some.inj H
                  have p101 : 0 ≤ (x13_1 : Int) := of_decide_eq_true (by first | (with_reducible assumption) | assumption)
                  have q101 : x13_1 < (l0.length : Int) := of_decide_eq_true (by first | (with_reducible assumption) | assumption)
                  obtain ⟨ad101, e101, hx101_0⟩ := Kd.at_int HR0.out x13_1 p101 q101
                  cases e101
                  replace p101 := eq_true p101
                  replace q101 := eq_true q101
                  have p102 : 0 ≤ (x13_1 : Int) := of_decide_eq_true (by first | (with_reducible assumption) | assumption)
                  have q102 : x13_1 < (l1.length : Int) := of_decide_eq_true (by first | (with_reducible assumption) | assumption)
                  obtain ⟨ad102, e102, hx102_0⟩ := Kd.at_int HR1.out x13_1 p102 q102
                  cases e102
                  replace p102 := eq_true p102
                  replace q102 := eq_true q102
                  go_wp2
                  repeat (go_quiet (fail); try go_wp2)
                  go_ret
                  exact ⟨by first | rfl | (simp; done) | (simp [*]; done), by repeat (first | exact Drawn0.refl _ | apply Drawn0.step)⟩
              · rw [if_neg c7] at H
                exact absurd H (by simp)
            · rw [if_neg c6] at H
              exact absurd H (by simp)
          · rw [if_neg c5] at H
            exact absurd H (by simp)
        · rw [if_neg c4] at H
          have c4b0 : decide (x13_1 < (l0.length : Int)) = false := decide_eq_false c4
          clear c4
          obtain rfl := Option.some.inj H
          go_wp2
          repeat (go_quiet (fail); try go_wp2)
          go_ret
          exact ⟨by first | rfl | (simp; done) | (simp [*]; done), by repeat (first | exact Drawn0.refl _ | apply Drawn0.step)⟩
  · rw [if_neg c3] at H
    have c3b0 : ((l0.length : Int) == (l1.length : Int)) = false := beq_eq_false_iff_ne.mpr c3
    have c3b1 : ((l0.length : Int) != (l1.length : Int)) = true := bne_iff_ne.mpr c3
    have c3b2 : (l0.length == l1.length) = false := by first | simpa using c3 | (simp at c3 ⊢; omega)
    obtain rfl := Option.some.inj H
    go_enter Tryd.func36, Tryd.ntmps36
    go_wp2
    repeat (go_quiet (fail); try go_wp2)
    go_ret
    exact ⟨by first | rfl | (simp; done) | (simp [*]; done), by repeat (first | exact Drawn0.refl _ | apply Drawn0.step)⟩
end Go.Proofs.YtfkfpcciacplkaaDoor.TE

namespace Go.Proofs.YtfkfpcciacplkaaDoor.TE
open Go.RowKit Go.Proofs.YtfkfpcciacplkaaDoorW.PrintWords Go.Proofs.YtfkfpcciacplkaaDoorW.PrintLast Go.Proofs.YtfkfpcciacplkaaDoorW.PrintMore
attribute [local go_sem] max2_int min2_int max_two min_two max_three min_three max_four min_four
set_option linter.unusedVariables false
set_option linter.unusedSimpArgs false
open Go.Proofs.YtfkfpcciacplkaaDoor.F
end Go.Proofs.YtfkfpcciacplkaaDoor.TE

namespace Go.Proofs.YtfkfpcciacplkaaDoor.Scan
open Go.RowKit Go.Proofs.YtfkfpcciacplkaaDoorW.PrintWords
theorem ev_some {α : Type} {g : Nat → Option α} {r : α} (h : ∀ k, g (k + 1) = some r) : Ev g r :=
  ⟨1, fun k hk => by
    obtain ⟨m, rfl⟩ : ∃ m, k = m + 1 := ⟨k - 1, by omega⟩
    exact h m⟩
theorem ev_const {α : Type} {r : α} : Ev (fun _ => some r) r := ⟨0, fun _ _ => rfl⟩
theorem ev_all {α : Type} {g : Nat → Option α} {r : α} (h : ∀ k, g k = some r) : Ev g r := ⟨0, fun k _ => h k⟩
theorem ev_step {α : Type} {g f : Nat → Option α} {r : α} (h : ∀ k, g (k + 1) = f k) (k : Ev f r) : Ev g r := Ev.step h k
theorem ev_bind {α β : Type} {g : Nat → Option α} {f : Nat → α → Option β} {a : α} {r : β} (h : Ev g a) (k : Ev (fun n => f n a) r) :
    Ev (fun n => (g n).bind (f n)) r := Ev.bind h k
theorem ev_at {α : Type} {g : Nat → Option α} {r : α} (h : Ev g r) : ∃ k, g k = some r := h.rounds
theorem scan_bad {ρ : Type} (g : Nat → Int → Option ρ) (n : Int) (bad : ρ) (ok : Int → Prop)
    (h1 : ∀ i q, 0 ≤ i → i < n → ok i → Ev (fun k => g k (i + 1)) q → Ev (fun k => g k i) q)
    (h2 : ∀ i, 0 ≤ i → i < n → ¬ ok i → Ev (fun k => g k i) bad) :
    ∀ (d : Nat) (i : Int), 0 ≤ i → i ≤ n → n - i = d → (∃ j, i ≤ j ∧ j < n ∧ ¬ ok j) → Ev (fun k => g k i) bad := by
  intro d
  induction d with
  | zero => intro i h0 hi hd ⟨j, a, b, _⟩; omega
  | succ d ih =>
    intro i h0 hi hd ⟨j, hj, hn, hj'⟩
    by_cases hk : ok i
    · refine h1 i bad h0 (by omega) hk (ih (i + 1) (by omega) (by omega) (by omega) ⟨j, ?_, hn, hj'⟩)
      have : j ≠ i := fun e => hj' (e ▸ hk)
      omega
    · exact h2 i h0 (by omega) hk
theorem scan0_bad {ρ : Type} (g : Nat → Int → Option ρ) (n : Int) (bad : ρ) (ok : Int → Prop) (hn : 0 ≤ n)
    (h1 : ∀ i q, 0 ≤ i → i < n → ok i → Ev (fun k => g k (i + 1)) q → Ev (fun k => g k i) q)
    (h2 : ∀ i, 0 ≤ i → i < n → ¬ ok i → Ev (fun k => g k i) bad)
    (h : ¬ ∀ j, 0 ≤ j → j < n → ok j) : Ev (fun k => g k 0) bad := by
  refine scan_bad g n bad ok h1 h2 n.toNat 0 (by omega) hn (by omega) ?_
  rcases Classical.not_forall.1 h with ⟨j, hj⟩
  rw [Classical.not_imp, Classical.not_imp] at hj
  exact ⟨j, hj.1, hj.2.1, hj.2.2⟩
theorem scan_good {ρ : Type} (g : Nat → Int → Option ρ) (n : Int) (r : ρ) (ok : Int → Prop)
    (h1 : ∀ i q, 0 ≤ i → i < n → ok i → Ev (fun k => g k (i + 1)) q → Ev (fun k => g k i) q)
    (h3 : Ev (fun k => g k n) r) :
    ∀ (d : Nat) (i : Int), 0 ≤ i → i ≤ n → n - i = d → (∀ j, i ≤ j → j < n → ok j) → Ev (fun k => g k i) r := by
  intro d
  induction d with
  | zero =>
    intro i h0 hi hd _
    have : i = n := by omega
    subst this
    exact h3
  | succ d ih =>
    intro i h0 hi hd h
    exact h1 i r h0 (by omega) (h i (by omega) (by omega)) (ih (i + 1) (by omega) (by omega) (by omega) fun j hj hn => h j (by omega) hn)
theorem scan0_good {ρ : Type} (g : Nat → Int → Option ρ) (n : Int) (r : ρ) (ok : Int → Prop) (hn : 0 ≤ n)
    (h1 : ∀ i q, 0 ≤ i → i < n → ok i → Ev (fun k => g k (i + 1)) q → Ev (fun k => g k i) q)
    (h3 : Ev (fun k => g k n) r) (h : ∀ j, 0 ≤ j → j < n → ok j) : Ev (fun k => g k 0) r :=
  scan_good g n r ok h1 h3 n.toNat 0 (by omega) hn (by omega) h
end Go.Proofs.YtfkfpcciacplkaaDoor.Scan

namespace Go.Proofs.YtfkfpcciacplkaaDoor.ST0
open Go.RowKit Go.Proofs.YtfkfpcciacplkaaDoorW.PrintWords
set_option linter.unusedVariables false
theorem row_new (w : World) (cs : Array Value) (t : TypeId) {i : Nat} (h : i = w.heap.size) : (w.alloc (.cells cs t)).heap[i]? = some (.cells cs t (0, 0)) := by
  subst h
  exact heap_alloc_new w _
theorem row_old (w : World) (o p : Obj) {i : Nat} (h : i < w.heap.size) (hp : w.heap[i]? = some p) : (w.alloc o).heap[i]? = some p := by
  rw [← hp]
  show (w.heap.push o)[i]? = w.heap[i]?
  rw [Array.getElem?_push, if_neg (Nat.ne_of_lt h)]
theorem row_drewN {w : World} {n i : Nat} {p : Obj} (hp : w.heap[i]? = some p) : (w.drewN n).heap[i]? = some p := hp
theorem row_drew {w : World} {i : Nat} {p : Obj} (hp : w.heap[i]? = some p) : w.drew.heap[i]? = some p := hp
theorem set_drew {w w1 : World} {i : Nat} {cs : Array Value} (hp : w.setRow i cs = w1) : w.drew.setRow i cs = w1.drew := by
  subst hp
  rfl
theorem set_new (w : World) (c cs : Array Value) (t : TypeId) {i : Nat} (h : i = w.heap.size) : (w.alloc (.cells c t)).setRow i cs = w.alloc (.cells cs t) := by
  subst h
  simp only [World.setRow, World.alloc]
  congr 1
  apply Array.ext_getElem?
  intro i
  rw [Array.getElem?_modify]
  by_cases h : w.heap.size = i
  · subst h
    simp
  · have h' : ¬ i = w.heap.size := fun e => h e.symm
    simp [h, h', Array.getElem?_push]
theorem set_old (w w1 : World) (o : Obj) (cs : Array Value) {i : Nat} (h : i < w.heap.size) (hp : w.setRow i cs = w1) : (w.alloc o).setRow i cs = w1.alloc o := by
  subst hp
  simp only [World.setRow, World.alloc]
  congr 1
  apply Array.ext_getElem?
  intro j
  have hne : ¬ i = w.heap.size := Nat.ne_of_lt h
  by_cases e : i = j
  · subst e
    simp [Array.getElem?_modify, Array.getElem?_push, hne]
  · simp [Array.getElem?_modify, Array.getElem?_push, e]
theorem row_cellO {w : World} {i : Nat} {p : Obj} (a : Addr) (v : Value) (h : i ≠ a.block) (hp : w.heap[i]? = some p) : (w.setCell a v).heap[i]? = some p := (heap_setCell_other w a i v h).trans hp
theorem row_cellS {w : World} {i j : Nat} {c : Array Value} {t : TypeId} (v : Value) (hp : w.heap[i]? = some (.cells c t (0, 0))) : (w.setCell ⟨i, j, none⟩ v).heap[i]? = some (.cells (c.setIfInBounds j v) t (0, 0)) := heap_setCell_same w i j c t v hp
theorem below_row {w W : World} {g : Nat} {cs : Array Value} (h : Below w.heap.size w W) (hg : w.heap.size ≤ g) : Below w.heap.size w (W.setRow g cs) :=
  ⟨h.os, h.tape, h.output, by have := h.size; simpa [World.setRow] using this, fun k hk => (setRow_other W g k cs (by omega)).trans (h.block k hk)⟩
theorem bcell {B : Nat} {W w1 : World} (hb : Below B W w1) : (∀ b o, b < B → w1.cell? ⟨b, o, none⟩ = W.cell? ⟨b, o, none⟩) ∧ (∀ b o, b < B → w1.frozen? ⟨b, o, none⟩ = W.frozen? ⟨b, o, none⟩) :=
  ⟨fun b o h => hb.cell (p := ⟨b, o, none⟩) h, fun b o h => hb.frozen (p := ⟨b, o, none⟩) h⟩
theorem own_le {w : World} {base n c : Nat} {e : TypeId} {k : IntKind} {A : Option Addr} {xs : List Int} (h : w.ownsRow base e 1 (.slice A n c) n (nums k xs)) : n ≤ c := by
  rcases h.2 with ⟨e1, _⟩ | ⟨g, cap, cur, e1, _, _, hc, _⟩
  · injection e1 with _ e2 e3
    omega
  · injection e1 with _ e2 e3
    omega
theorem row_setS {w : World} {i : Nat} {old cs : Array Value} {t : TypeId} (hp : w.heap[i]? = some (.cells old t (0, 0))) : (w.setRow i cs).heap[i]? = some (.cells cs t (0, 0)) := setRow_heap w i old cs t (0, 0) hp
theorem rowT {p : Prop} (h : p := by repeat (first | (with_reducible assumption) | (with_reducible apply row_cellS) | (with_reducible apply row_cellO; focus (first | (simp; done) | (simp <;> omega))) | (with_reducible refine row_new _ _ _ ?_; focus (simp; done)) | (with_reducible refine row_old _ _ _ ?_ ?_; focus (first | omega | (simp <;> omega))) | (with_reducible apply row_drew) | (with_reducible apply row_drewN) | (with_reducible apply row_setS))) : p := h
theorem setT {p : Prop} (h : p := by repeat (first | (with_reducible apply set_new; focus (simp; done)) | (with_reducible apply set_old; focus (simp <;> omega)) | (with_reducible apply set_drew) | (with_reducible rfl))) : p := h
end Go.Proofs.YtfkfpcciacplkaaDoor.ST0

namespace Go.Proofs.YtfkfpcciacplkaaDoor.TRB
open Go.RowKit Go.Proofs.YtfkfpcciacplkaaDoorW.PrintWords Go.Proofs.YtfkfpcciacplkaaDoorW.PrintLast Go.Proofs.YtfkfpcciacplkaaDoorW.PrintMore Go.Proofs.YtfkfpcciacplkaaDoor.Scan Go.Proofs.YtfkfpcciacplkaaDoor.F Go.Proofs.YtfkfpcciacplkaaDoor.TE Go.Proofs.YtfkfpcciacplkaaDoor.ST0
attribute [local go_sem] max2_int min2_int max_two min_two
set_option linter.unusedVariables false
set_option linter.unusedSimpArgs false
theorem rd_nat (l : List Int) (i : Nat) (h : i < l.length) : rd l i = l[i] := by
  unfold rd
  rw [Int.toNat_natCast, List.getD_eq_getElem?_getD, List.getElem?_eq_getElem h, Option.getD_some]
theorem equal_l0 (l0 l1 : List Int) (hl : (l0.length : Int) ≤ 9223372036854775807) (hn : l0.length = l1.length) : ∀ d i : Nat, i + d = l0.length → Ev (fun k => slices_Equal_int64_int64.l0 k l0 l1 l0.length i) (decide (l0.drop i = l1.drop i)) := by
  intro d
  induction d with
  | zero =>
    intro i hi
    have e : decide (l0.drop i = l1.drop i) = true := by
      rw [List.drop_of_length_le (by omega), List.drop_of_length_le (by omega)]
      rfl
    rw [e]
    refine ev_some fun k => ?_
    rw [slices_Equal_int64_int64.l0, if_neg (by omega)]
  | succ d ih =>
    intro i hi
    have d0 := List.drop_eq_getElem_cons (l := l0) (i := i) (by omega)
    have d1 := List.drop_eq_getElem_cons (l := l1) (i := i) (by omega)
    have e0 := rd_nat l0 i (by omega)
    have e1 := rd_nat l1 i (by omega)
    by_cases h : rd l0 i = rd l1 i
    · have e : decide (l0.drop i = l1.drop i) = decide (l0.drop (i + 1) = l1.drop (i + 1)) := by
        rw [decide_eq_decide, d0, d1, ← e0, ← e1, h]
        simp
      rw [e]
      refine ev_step (fun k => ?_) (ih (i + 1) (by omega))
      show slices_Equal_int64_int64.l0 (k + 1) l0 l1 l0.length i = slices_Equal_int64_int64.l0 k l0 l1 l0.length ((i + 1 : Nat) : Int)
      rw [slices_Equal_int64_int64.l0, if_pos (by omega), if_pos (by omega), if_pos (by omega), if_pos (by omega), if_pos h]
      congr 1
      unfold wrap64
      omega
    · have e : decide (l0.drop i = l1.drop i) = false := by
        rw [decide_eq_false_iff_not, d0, d1, ← e0, ← e1]
        intro hh
        injection hh with h1 _
        exact h h1
      rw [e]
      refine ev_some fun k => ?_
      rw [slices_Equal_int64_int64.l0, if_pos (by omega), if_pos (by omega), if_pos (by omega), if_pos (by omega), if_neg h]
theorem equal_ev (l0 l1 : List Int) (hl : (l0.length : Int) ≤ 9223372036854775807) : Ev (fun k => slices_Equal_int64_int64.f k l0 l1) (decide (l0 = l1)) := by
  unfold slices_Equal_int64_int64.f
  by_cases h : l0.length = l1.length
  · exact Ev.congr (fun k => if_pos (by omega)) (equal_l0 l0 l1 hl h l0.length 0 (by omega))
  · have e : decide (l0 = l1) = false := decide_eq_false fun hh => h (by rw [hh])
    rw [e]
    exact Ev.congr (fun k => if_neg (by omega)) ev_const
theorem equal_c (w : World) (A0 : Option Addr) (c0 : Nat) (l0 : List Int) (A1 : Option Addr) (c1 : Nat) (l1 : List Int) (b : Bool) (hb : decide (l0 = l1) = b) (h0 : Kd.C (Kd.int .i64) w A0 l0.length l0) (hc0 : l0.length ≤ c0) (h1 : Kd.C (Kd.int .i64) w A1 l1.length l1) (hc1 : l1.length ≤ c1) :
    Calls Tryd.prog 36 #[.slice A0 l0.length c0, .slice A1 l1.length c1] w fun e w' => e = .returned (.bool b) ∧ ∃ n, w' = w.drewN n := by
  obtain ⟨k, hk⟩ := ev_at (equal_ev l0 l1 (by have := Kd.C_max h0; omega))
  rw [hb] at hk
  exact (slices_Equal_int64_int64.calls k A0 c0 l0 A1 c1 l1 _ w h0 hc0 h1 hc1 hk).mono fun e w' h => ⟨h.1, h.2.out⟩
theorem inf64 : (Tryd.prog.info? 2).map (fun i => (i.zero, i.size, i.bytes)) = some (some (.int .i64 0), 1, 8) := by kernel_rfl
def beg (a b : List Int) : Bool := decide (a.take b.length = b.take a.length)
theorem take_len (a b : List Int) : a.take (min a.length b.length) = a.take b.length := by
  rcases Nat.le_total a.length b.length with h | h
  · rw [Nat.min_eq_left h, List.take_of_length_le h, List.take_of_length_le (Nat.le_refl _)]
  · rw [Nat.min_eq_right h]
set_option maxHeartbeats 2000000 in
set_option maxRecDepth 100000 in
theorem begins_c (w : World) (A0 : Option Addr) (c0 : Nat) (l0 : List Int) (A1 : Option Addr) (c1 : Nat) (l1 : List Int) (h0 : Kd.C (Kd.int .i64) w A0 l0.length l0) (hc0 : l0.length ≤ c0) (h1 : Kd.C (Kd.int .i64) w A1 l1.length l1) (hc1 : l1.length ≤ c1) :
    Calls Tryd.prog 20 #[.slice A0 l0.length c0, .slice A1 l1.length c1] w fun e w' => e = .returned (.bool (beg l0 l1)) ∧ ∃ n, w' = w.drewN n := by
  obtain ⟨m, hm⟩ : ∃ m : Nat, m = min l0.length l1.length := ⟨_, rfl⟩
  have hb : decide (l0.take m = l1.take m) = beg l0 l1 := by
    rw [hm, take_len, Nat.min_comm, take_len]
    rfl
  have q0 : (m : Int) ≤ l0.length := by omega
  have q1 : (m : Int) ≤ l1.length := by omega
  have p0 : (0 : Int) ≤ m := by omega
  obtain ⟨i0, hi0, _, hz, _⟩ := info_parts inf64
  obtain ⟨hcut0, hA0, hC0⟩ := print_take_of (P := Tryd.prog) (Value.int .i64) 0 23 2 .i64 Tryd.underlying23 hi0 hz A0 c0 l0 m p0 q0 hc0
  obtain ⟨hcut1, hA1, hC1⟩ := print_take_of (P := Tryd.prog) (Value.int .i64) 0 23 2 .i64 Tryd.underlying23 hi0 hz A1 c1 l1 m p0 q1 hc1
  have E0 := (fun n => equal_c (w.drewN n) A0 c0 (l0.take m) A1 c1 (l1.take m) _ hb (Kd.C_of_reads (h1 := fun _ => rfl) (hA0 _ (Kd.reads_of_C (Kd.C_drewN h0 _)))) hC0 (Kd.C_of_reads (h1 := fun _ => rfl) (hA1 _ (Kd.reads_of_C (Kd.C_drewN h1 _)))) hC1)
  have t0 : (l0.take m).length = m := by rw [List.length_take]; omega
  have t1 : (l1.take m).length = m := by rw [List.length_take]; omega
  rw [t0, t1] at E0
  have E := Aside0.mk E0
  rw [Int.toNat_natCast] at hcut0 hcut1
  rw [t0] at hcut0
  rw [t1] at hcut1
  have hm' : m = l0.length ∨ m = l1.length := by omega
  have hm1 : m ≤ l0.length := by omega
  have hm2 : m ≤ l1.length := by omega
  have HB := Aside0.mk (And.intro hm' (And.intro hm1 hm2))
  clear hA0 hA1 hC0 hC1 h0 h1 hm hb hm' hm1 hm2 t0 t1 E0
  go_enter Tryd.func20, Tryd.ntmps20
  go_wp2
  · obtain rfl : m = l1.length := by have := HB.out; omega
    go_quiet ((go_at_call 36; with_reducible exact Calls.quiet_of (E.out _)))
    go_wp2
    go_ret
    exact ⟨rfl, _, rfl⟩
  · obtain rfl : m = l0.length := by have := HB.out; omega
    go_quiet ((go_at_call 36; with_reducible exact Calls.quiet_of (E.out _)))
    go_wp2
    go_ret
    exact ⟨rfl, _, rfl⟩
def trace_Begins.f (l0 l1 : List Int) : Option Bool := some (beg l0 l1)
theorem trace_Begins.calls (A0 : Option Addr) (c0 : Nat) (l0 : List Int) (A1 : Option Addr) (c1 : Nat) (l1 : List Int) (r : Bool) (w : World) (hr0 : Kd.C (Kd.int .i64) w A0 l0.length l0) (hc0 : l0.length ≤ c0) (hr1 : Kd.C (Kd.int .i64) w A1 l1.length l1) (hc1 : l1.length ≤ c1) (h : trace_Begins.f l0 l1 = some r) :
    Calls Tryd.prog 20 #[.slice A0 l0.length c0, .slice A1 l1.length c1] w fun e w' => e = .returned (.bool r) ∧ Drawn0 w w' := by
  obtain rfl := Option.some.inj h
  exact (begins_c w A0 c0 l0 A1 c1 l1 hr0 hc0 hr1 hc1).mono fun e w' h => ⟨h.1, ⟨h.2⟩⟩
end Go.Proofs.YtfkfpcciacplkaaDoor.TRB

namespace Go.Proofs.YtfkfpcciacplkaaDoor.T
open Go.RowKit Go.Proofs.YtfkfpcciacplkaaDoorW.PrintWords Go.Proofs.YtfkfpcciacplkaaDoorW.PrintLast Go.Proofs.YtfkfpcciacplkaaDoorW.PrintMore
attribute [local go_sem] max2_int min2_int max_two min_two max_three min_three max_four min_four
set_option linter.unusedVariables false
set_option linter.unusedSimpArgs false
open Go.Proofs.YtfkfpcciacplkaaDoor.F
open Go.Proofs.YtfkfpcciacplkaaDoor.TE
open Go.Proofs.YtfkfpcciacplkaaDoor.TRB
theorem info31 : (Tryd.prog.info? 31).map (fun i => (i.zero, i.size, i.bytes)) = some (some (.agg #[(.slice none 0 0), (.bool false), (.int .i64 0), (.int .i64 0), (.int .i64 0)]), 5, 56) := by kernel_rfl
noncomputable def rd_L1 (xs : List (List Int)) (i : Int) : (List Int) := xs.getD i.toNat ([] : List Int)
structure S31 where
  f0 : (List Int)
  f1 : Bool
  f2 : Int
  f3 : Int
  f4 : Int
noncomputable def z31 : S31 := ⟨([] : List Int), false, (0 : Int), (0 : Int), (0 : Int)⟩
noncomputable def k31 : Kd S31 := Kd.iso (Kd.pair (Kd.slice 2 (Kd.int .i64)) (Kd.pair Kd.bool (Kd.pair (Kd.int .i64) (Kd.pair (Kd.int .i64) (Kd.int .i64))))) (fun x : S31 => (x.f0, x.f1, x.f2, x.f3, x.f4))
theorem k31_open {w : World} {x : S31} {cs : List Value} (h : k31.K w x cs) : ∃ A0 c0, cs = [.slice A0 x.f0.length c0, .bool x.f1, .int .i64 x.f2, .int .i64 x.f3, .int .i64 x.f4] ∧ x.f0.length ≤ c0 ∧ (Kd.int .i64).C w A0 x.f0.length x.f0 := by
  obtain ⟨_, _, rfl, ⟨A0, c0, rfl, l0, g0⟩, ⟨_, _, rfl, rfl, ⟨_, _, rfl, rfl, ⟨_, _, rfl, rfl, rfl⟩⟩⟩⟩ := h
  exact ⟨A0, c0, rfl, l0, g0⟩
theorem k31_mk (w : World) (x : S31) {A0 : Option Addr} {c0 : Nat} (l0 : x.f0.length ≤ c0) (g0 : (Kd.int .i64).C w A0 x.f0.length x.f0) : k31.K w x [.slice A0 x.f0.length c0, .bool x.f1, .int .i64 x.f2, .int .i64 x.f3, .int .i64 x.f4] := ⟨[.slice A0 x.f0.length c0], [.bool x.f1, .int .i64 x.f2, .int .i64 x.f3, .int .i64 x.f4], rfl, ⟨A0, c0, rfl, l0, g0⟩, ⟨[.bool x.f1], [.int .i64 x.f2, .int .i64 x.f3, .int .i64 x.f4], rfl, rfl, ⟨[.int .i64 x.f2], [.int .i64 x.f3, .int .i64 x.f4], rfl, rfl, ⟨[.int .i64 x.f3], [.int .i64 x.f4], rfl, rfl, rfl⟩⟩⟩⟩
noncomputable def rd_T31 (xs : List S31) (i : Int) : S31 := xs.getD i.toNat z31
theorem at_T31 {w : World} {A : Option Addr} {n : Nat} {xs : List S31} (h : Kd.C k31 w A n xs) (i : Int) (h0 : 0 ≤ i) (h1 : i < n) : ∃ ad A0 c0, A = some ad ∧ w.cell? (ad.add (i.toNat * 5)) = some (.slice A0 (rd_T31 xs i).f0.length c0) ∧ w.cell? ⟨(ad.add (i.toNat * 5)).block, (ad.add (i.toNat * 5)).off + 1, none⟩ = some (.bool (rd_T31 xs i).f1) ∧ w.cell? ⟨(ad.add (i.toNat * 5)).block, (ad.add (i.toNat * 5)).off + 2, none⟩ = some (.int .i64 (rd_T31 xs i).f2) ∧ w.cell? ⟨(ad.add (i.toNat * 5)).block, (ad.add (i.toNat * 5)).off + 3, none⟩ = some (.int .i64 (rd_T31 xs i).f3) ∧ w.cell? ⟨(ad.add (i.toNat * 5)).block, (ad.add (i.toNat * 5)).off + 4, none⟩ = some (.int .i64 (rd_T31 xs i).f4) ∧ (rd_T31 xs i).f0.length ≤ c0 ∧ (Kd.int .i64).C w A0 (rd_T31 xs i).f0.length (rd_T31 xs i).f0 := by
  obtain ⟨ad, c, e, _, hK, hc0⟩ := Kd.C_get h z31 i h0 h1
  have hc : ∀ j u, c[j]? = some u → w.cell? (ad.add (i.toNat * 5 + j)) = some u := hc0
  obtain ⟨A0, c0, rfl, l0, g0⟩ := k31_open hK
  exact ⟨ad, A0, c0, e, hc 0 _ rfl, by rw [← add_field _ _ 1 (by omega)]; exact hc 1 _ rfl, by rw [← add_field _ _ 2 (by omega)]; exact hc 2 _ rfl, by rw [← add_field _ _ 3 (by omega)]; exact hc 3 _ rfl, by rw [← add_field _ _ 4 (by omega)]; exact hc 4 _ rfl, l0, g0⟩
structure S27 where
  f0 : (List Int)
  f1 : Bool
  f2 : Int
  f3 : Int
  f4 : Int
noncomputable def z27 : S27 := ⟨([] : List Int), false, (0 : Int), (0 : Int), (0 : Int)⟩
noncomputable def k27 : Kd S27 := Kd.iso (Kd.pair (Kd.slice 2 (Kd.int .i64)) (Kd.pair Kd.bool (Kd.pair (Kd.int .i64) (Kd.pair (Kd.int .i64) (Kd.int .i64))))) (fun x : S27 => (x.f0, x.f1, x.f2, x.f3, x.f4))
noncomputable def rd_T27 (xs : List S27) (i : Int) : S27 := xs.getD i.toNat z27
end Go.Proofs.YtfkfpcciacplkaaDoor.T

namespace Go.Proofs
open Go.Shelf
def Tryd.lays128_ren : Go.Shelf.Ren := ⟨fun | 128 => 149 | n => n, fun | 51 => 169 | 3 => 3 | 4 => 4 | 46 => 151 | 5 => 5 | 9 => 9 | n => n, fun | n => n⟩
theorem Tryd.lays128 : Go.Proofs.Lays.n128 Tryd.prog Tryd.lays128_ren := {
  mixed := by kernel_rfl
  f128 := Tryd.func149.trans (congrArg some (by kernel_rfl))
  t3 := Tryd.underlying3
  a3 := Tryd.isAgg3
  z3 := Tryd.sizeOf3
  v3 := Tryd.zeroValue3
  t4 := Tryd.underlying4
  a4 := Tryd.isAgg4
  z4 := Tryd.sizeOf4
  v4 := Tryd.zeroValue4
  t5 := Tryd.underlying5
  a5 := Tryd.isAgg5
  z5 := Tryd.sizeOf5
  v5 := Tryd.zeroValue5
  t9 := Tryd.underlying9
  a9 := Tryd.isAgg9
  z9 := Tryd.sizeOf9
  v9 := Tryd.zeroValue9
  t46 := Tryd.underlying151
  a46 := Tryd.isAgg151
  z46 := Tryd.sizeOf151
  v46 := Tryd.zeroValue151
  t51 := Tryd.underlying169
  a51 := Tryd.isAgg169
  z51 := Tryd.sizeOf169
  v51 := Tryd.zeroValue169 }
def Tryd.lays125_ren : Go.Shelf.Ren := ⟨fun | 125 => 131 | 128 => 149 | 129 => 150 | n => n, fun | 46 => 151 | 3 => 3 | 51 => 169 | 53 => 172 | 4 => 4 | 5 => 5 | 9 => 9 | n => n, fun | n => n⟩
theorem Tryd.lays125 : Go.Proofs.Lays.n125 Tryd.prog Tryd.lays125_ren := {
  mixed := by kernel_rfl
  f125 := Tryd.func131.trans (congrArg some (by kernel_rfl))
  f128 := Tryd.func149.trans (congrArg some (by kernel_rfl))
  f129 := Tryd.func150.trans (congrArg some (by kernel_rfl))
  t3 := Tryd.underlying3
  a3 := Tryd.isAgg3
  z3 := Tryd.sizeOf3
  v3 := Tryd.zeroValue3
  t4 := Tryd.underlying4
  a4 := Tryd.isAgg4
  z4 := Tryd.sizeOf4
  v4 := Tryd.zeroValue4
  t5 := Tryd.underlying5
  a5 := Tryd.isAgg5
  z5 := Tryd.sizeOf5
  v5 := Tryd.zeroValue5
  t9 := Tryd.underlying9
  a9 := Tryd.isAgg9
  z9 := Tryd.sizeOf9
  v9 := Tryd.zeroValue9
  t46 := Tryd.underlying151
  a46 := Tryd.isAgg151
  z46 := Tryd.sizeOf151
  v46 := Tryd.zeroValue151
  t51 := Tryd.underlying169
  a51 := Tryd.isAgg169
  z51 := Tryd.sizeOf169
  v51 := Tryd.zeroValue169
  t53 := Tryd.underlying172
  a53 := Tryd.isAgg172
  z53 := Tryd.sizeOf172
  v53 := Tryd.zeroValue172 }
def Tryd.lays215_ren : Go.Shelf.Ren := ⟨fun | 215 => 162 | n => n, fun | 3 => 3 | 4 => 4 | n => n, fun | n => n⟩
theorem Tryd.lays215 : Go.Proofs.Lays.n215 Tryd.prog Tryd.lays215_ren := {
  mixed := by kernel_rfl
  f215 := Tryd.func162.trans (congrArg some (by kernel_rfl))
  t3 := Tryd.underlying3
  a3 := Tryd.isAgg3
  z3 := Tryd.sizeOf3
  v3 := Tryd.zeroValue3
  t4 := Tryd.underlying4
  a4 := Tryd.isAgg4
  z4 := Tryd.sizeOf4
  v4 := Tryd.zeroValue4 }
def Tryd.lays129_ren : Go.Shelf.Ren := ⟨fun | 129 => 150 | n => n, fun | 53 => 172 | 3 => 3 | 4 => 4 | 46 => 151 | 5 => 5 | 9 => 9 | n => n, fun | n => n⟩
theorem Tryd.lays129 : Go.Proofs.Lays.n129 Tryd.prog Tryd.lays129_ren := {
  mixed := by kernel_rfl
  f129 := Tryd.func150.trans (congrArg some (by kernel_rfl))
  t3 := Tryd.underlying3
  a3 := Tryd.isAgg3
  z3 := Tryd.sizeOf3
  v3 := Tryd.zeroValue3
  t4 := Tryd.underlying4
  a4 := Tryd.isAgg4
  z4 := Tryd.sizeOf4
  v4 := Tryd.zeroValue4
  t5 := Tryd.underlying5
  a5 := Tryd.isAgg5
  z5 := Tryd.sizeOf5
  v5 := Tryd.zeroValue5
  t9 := Tryd.underlying9
  a9 := Tryd.isAgg9
  z9 := Tryd.sizeOf9
  v9 := Tryd.zeroValue9
  t46 := Tryd.underlying151
  a46 := Tryd.isAgg151
  z46 := Tryd.sizeOf151
  v46 := Tryd.zeroValue151
  t53 := Tryd.underlying172
  a53 := Tryd.isAgg172
  z53 := Tryd.sizeOf172
  v53 := Tryd.zeroValue172 }
def Tryd.lays317_ren : Go.Shelf.Ren := ⟨fun | 317 => 151 | n => n, fun | 3 => 3 | 46 => 151 | n => n, fun | n => n⟩
theorem Tryd.lays317 : Go.Proofs.Lays.n317 Tryd.prog Tryd.lays317_ren := {
  mixed := by kernel_rfl
  f317 := Tryd.func151.trans (congrArg some (by kernel_rfl))
  t3 := Tryd.underlying3
  a3 := Tryd.isAgg3
  z3 := Tryd.sizeOf3
  v3 := Tryd.zeroValue3
  t46 := Tryd.underlying151
  a46 := Tryd.isAgg151
  z46 := Tryd.sizeOf151
  v46 := Tryd.zeroValue151 }
def Tryd.lays318_ren : Go.Shelf.Ren := ⟨fun | 318 => 152 | n => n, fun | 3 => 3 | 4 => 4 | n => n, fun | n => n⟩
theorem Tryd.lays318 : Go.Proofs.Lays.n318 Tryd.prog Tryd.lays318_ren := {
  mixed := by kernel_rfl
  f318 := Tryd.func152.trans (congrArg some (by kernel_rfl))
  t3 := Tryd.underlying3
  a3 := Tryd.isAgg3
  z3 := Tryd.sizeOf3
  v3 := Tryd.zeroValue3
  t4 := Tryd.underlying4
  a4 := Tryd.isAgg4
  z4 := Tryd.sizeOf4
  v4 := Tryd.zeroValue4 }
def Tryd.lays283_ren : Go.Shelf.Ren := ⟨fun | 283 => 132 | n => n, fun | 3 => 3 | 9 => 9 | 4 => 4 | n => n, fun | n => n⟩
theorem Tryd.lays283 : Go.Proofs.Lays.n283 Tryd.prog Tryd.lays283_ren := {
  mixed := by kernel_rfl
  f283 := Tryd.func132.trans (congrArg some (by kernel_rfl))
  t3 := Tryd.underlying3
  a3 := Tryd.isAgg3
  z3 := Tryd.sizeOf3
  v3 := Tryd.zeroValue3
  t4 := Tryd.underlying4
  a4 := Tryd.isAgg4
  z4 := Tryd.sizeOf4
  v4 := Tryd.zeroValue4
  t9 := Tryd.underlying9
  a9 := Tryd.isAgg9
  z9 := Tryd.sizeOf9
  v9 := Tryd.zeroValue9 }
def Tryd.laysM284_ren : Go.Shelf.Ren := ⟨fun | 284 => 133 | 129 => 150 | 317 => 151 | 318 => 152 | n => n, fun | 53 => 172 | 3 => 3 | 212 => 199 | 0 => 0 | 4 => 4 | 46 => 151 | 5 => 5 | 9 => 9 | n => n, fun | 17 => 2 | n => n⟩
theorem Tryd.laysM284 : Go.Proofs.LaysM.n284 Tryd.prog Tryd.laysM284_ren := {
  mixed := by kernel_rfl
  f129 := Tryd.func150.trans (congrArg some (by kernel_rfl))
  f284 := Tryd.func133.trans (congrArg some (by kernel_rfl))
  f317 := Tryd.func151.trans (congrArg some (by kernel_rfl))
  f318 := Tryd.func152.trans (congrArg some (by kernel_rfl))
  t0 := Tryd.underlying0
  a0 := Tryd.isAgg0
  z0 := Tryd.sizeOf0
  v0 := Tryd.zeroValue0
  t3 := Tryd.underlying3
  a3 := Tryd.isAgg3
  z3 := Tryd.sizeOf3
  v3 := Tryd.zeroValue3
  t4 := Tryd.underlying4
  a4 := Tryd.isAgg4
  z4 := Tryd.sizeOf4
  v4 := Tryd.zeroValue4
  t5 := Tryd.underlying5
  a5 := Tryd.isAgg5
  z5 := Tryd.sizeOf5
  v5 := Tryd.zeroValue5
  t9 := Tryd.underlying9
  a9 := Tryd.isAgg9
  z9 := Tryd.sizeOf9
  v9 := Tryd.zeroValue9
  t46 := Tryd.underlying151
  a46 := Tryd.isAgg151
  z46 := Tryd.sizeOf151
  v46 := Tryd.zeroValue151
  t53 := Tryd.underlying172
  a53 := Tryd.isAgg172
  z53 := Tryd.sizeOf172
  v53 := Tryd.zeroValue172
  t212 := Tryd.underlying199
  a212 := Tryd.isAgg199
  z212 := Tryd.sizeOf199
  v212 := Tryd.zeroValue199
  g17 := by kernel_rfl
  i0 := by kernel_rfl
  i3 := by kernel_rfl
  i4 := by kernel_rfl
  i5 := by kernel_rfl
  i9 := by kernel_rfl
  i46 := by kernel_rfl
  i53 := by kernel_rfl
  i212 := by kernel_rfl
  m17 := by kernel_rfl }
def Tryd.lays285_ren : Go.Shelf.Ren := ⟨fun | 285 => 134 | n => n, fun | 37 => 117 | 53 => 172 | 3 => 3 | 4 => 4 | 51 => 169 | 9 => 9 | 5 => 5 | 0 => 0 | n => n, fun | n => n⟩
theorem Tryd.lays285 : Go.Proofs.Lays.n285 Tryd.prog Tryd.lays285_ren := {
  mixed := by kernel_rfl
  f285 := Tryd.func134.trans (congrArg some (by kernel_rfl))
  t0 := Tryd.underlying0
  a0 := Tryd.isAgg0
  z0 := Tryd.sizeOf0
  v0 := Tryd.zeroValue0
  t3 := Tryd.underlying3
  a3 := Tryd.isAgg3
  z3 := Tryd.sizeOf3
  v3 := Tryd.zeroValue3
  t4 := Tryd.underlying4
  a4 := Tryd.isAgg4
  z4 := Tryd.sizeOf4
  v4 := Tryd.zeroValue4
  t5 := Tryd.underlying5
  a5 := Tryd.isAgg5
  z5 := Tryd.sizeOf5
  v5 := Tryd.zeroValue5
  t9 := Tryd.underlying9
  a9 := Tryd.isAgg9
  z9 := Tryd.sizeOf9
  v9 := Tryd.zeroValue9
  t37 := Tryd.underlying117
  a37 := Tryd.isAgg117
  z37 := Tryd.sizeOf117
  v37 := Tryd.zeroValue117
  t51 := Tryd.underlying169
  a51 := Tryd.isAgg169
  z51 := Tryd.sizeOf169
  v51 := Tryd.zeroValue169
  t53 := Tryd.underlying172
  a53 := Tryd.isAgg172
  z53 := Tryd.sizeOf172
  v53 := Tryd.zeroValue172 }
def Tryd.laysM246_ren : Go.Shelf.Ren := ⟨fun | 246 => 128 | 283 => 132 | 284 => 133 | 285 => 134 | 286 => 135 | 129 => 150 | 317 => 151 | 318 => 152 | 319 => 153 | 320 => 154 | 337 => 163 | 338 => 164 | n => n, fun | 2 => 2 | 3 => 3 | 9 => 9 | 4 => 4 | 171 => 183 | 0 => 0 | 53 => 172 | 37 => 117 | 5 => 5 | 173 => 186 | 212 => 199 | 51 => 169 | 20 => 20 | 213 => 200 | 46 => 151 | 232 => 210 | 233 => 211 | n => n, fun | 17 => 2 | 18 => 3 | 19 => 4 | n => n⟩
theorem Tryd.laysM246 : Go.Proofs.LaysM.n246 Tryd.prog Tryd.laysM246_ren := {
  mixed := by kernel_rfl
  f129 := Tryd.func150.trans (congrArg some (by kernel_rfl))
  f246 := Tryd.func128.trans (congrArg some (by kernel_rfl))
  f283 := Tryd.func132.trans (congrArg some (by kernel_rfl))
  f284 := Tryd.func133.trans (congrArg some (by kernel_rfl))
  f285 := Tryd.func134.trans (congrArg some (by kernel_rfl))
  f286 := Tryd.func135.trans (congrArg some (by kernel_rfl))
  f317 := Tryd.func151.trans (congrArg some (by kernel_rfl))
  f318 := Tryd.func152.trans (congrArg some (by kernel_rfl))
  f319 := Tryd.func153.trans (congrArg some (by kernel_rfl))
  f320 := Tryd.func154.trans (congrArg some (by kernel_rfl))
  f337 := Tryd.func163.trans (congrArg some (by kernel_rfl))
  f338 := Tryd.func164.trans (congrArg some (by kernel_rfl))
  t0 := Tryd.underlying0
  a0 := Tryd.isAgg0
  z0 := Tryd.sizeOf0
  v0 := Tryd.zeroValue0
  t2 := Tryd.underlying2
  a2 := Tryd.isAgg2
  z2 := Tryd.sizeOf2
  v2 := Tryd.zeroValue2
  t3 := Tryd.underlying3
  a3 := Tryd.isAgg3
  z3 := Tryd.sizeOf3
  v3 := Tryd.zeroValue3
  t4 := Tryd.underlying4
  a4 := Tryd.isAgg4
  z4 := Tryd.sizeOf4
  v4 := Tryd.zeroValue4
  t5 := Tryd.underlying5
  a5 := Tryd.isAgg5
  z5 := Tryd.sizeOf5
  v5 := Tryd.zeroValue5
  t9 := Tryd.underlying9
  a9 := Tryd.isAgg9
  z9 := Tryd.sizeOf9
  v9 := Tryd.zeroValue9
  t20 := Tryd.underlying20
  a20 := Tryd.isAgg20
  z20 := Tryd.sizeOf20
  v20 := Tryd.zeroValue20
  t37 := Tryd.underlying117
  a37 := Tryd.isAgg117
  z37 := Tryd.sizeOf117
  v37 := Tryd.zeroValue117
  t46 := Tryd.underlying151
  a46 := Tryd.isAgg151
  z46 := Tryd.sizeOf151
  v46 := Tryd.zeroValue151
  t51 := Tryd.underlying169
  a51 := Tryd.isAgg169
  z51 := Tryd.sizeOf169
  v51 := Tryd.zeroValue169
  t53 := Tryd.underlying172
  a53 := Tryd.isAgg172
  z53 := Tryd.sizeOf172
  v53 := Tryd.zeroValue172
  t171 := Tryd.underlying183
  a171 := Tryd.isAgg183
  z171 := Tryd.sizeOf183
  v171 := Tryd.zeroValue183
  t173 := Tryd.underlying186
  a173 := Tryd.isAgg186
  z173 := Tryd.sizeOf186
  v173 := Tryd.zeroValue186
  t212 := Tryd.underlying199
  a212 := Tryd.isAgg199
  z212 := Tryd.sizeOf199
  v212 := Tryd.zeroValue199
  t213 := Tryd.underlying200
  a213 := Tryd.isAgg200
  z213 := Tryd.sizeOf200
  t232 := Tryd.underlying210
  a232 := Tryd.isAgg210
  z232 := Tryd.sizeOf210
  v232 := Tryd.zeroValue210
  t233 := Tryd.underlying211
  a233 := Tryd.isAgg211
  z233 := Tryd.sizeOf211
  v233 := Tryd.zeroValue211
  g17 := by kernel_rfl
  g18 := by kernel_rfl
  g19 := by kernel_rfl
  i0 := by kernel_rfl
  i2 := by kernel_rfl
  i3 := by kernel_rfl
  i4 := by kernel_rfl
  i5 := by kernel_rfl
  i9 := by kernel_rfl
  i20 := by kernel_rfl
  i37 := by kernel_rfl
  i46 := by kernel_rfl
  i51 := by kernel_rfl
  i53 := by kernel_rfl
  i171 := by kernel_rfl
  i173 := by kernel_rfl
  i212 := by kernel_rfl
  i232 := by kernel_rfl
  i233 := by kernel_rfl
  m17 := by kernel_rfl
  m18 := by kernel_rfl
  m19 := by kernel_rfl }
def Tryd.lays246_ren : Go.Shelf.Ren := ⟨fun | 246 => 128 | 283 => 132 | 284 => 133 | 285 => 134 | 286 => 135 | 129 => 150 | 317 => 151 | 318 => 152 | 319 => 153 | 320 => 154 | 337 => 163 | 338 => 164 | n => n, fun | 2 => 2 | 3 => 3 | 9 => 9 | 4 => 4 | 171 => 183 | 0 => 0 | 53 => 172 | 37 => 117 | 5 => 5 | 173 => 186 | 212 => 199 | 51 => 169 | 20 => 20 | 213 => 200 | 46 => 151 | 232 => 210 | 233 => 211 | n => n, fun | 17 => 2 | 18 => 3 | 19 => 4 | n => n⟩
theorem Tryd.lays246 : Go.Proofs.Lays.n246 Tryd.prog Tryd.lays246_ren := {
  mixed := by kernel_rfl
  f129 := Tryd.func150.trans (congrArg some (by kernel_rfl))
  f246 := Tryd.func128.trans (congrArg some (by kernel_rfl))
  f283 := Tryd.func132.trans (congrArg some (by kernel_rfl))
  f284 := Tryd.func133.trans (congrArg some (by kernel_rfl))
  f285 := Tryd.func134.trans (congrArg some (by kernel_rfl))
  f286 := Tryd.func135.trans (congrArg some (by kernel_rfl))
  f317 := Tryd.func151.trans (congrArg some (by kernel_rfl))
  f318 := Tryd.func152.trans (congrArg some (by kernel_rfl))
  f319 := Tryd.func153.trans (congrArg some (by kernel_rfl))
  f320 := Tryd.func154.trans (congrArg some (by kernel_rfl))
  f337 := Tryd.func163.trans (congrArg some (by kernel_rfl))
  f338 := Tryd.func164.trans (congrArg some (by kernel_rfl))
  t0 := Tryd.underlying0
  a0 := Tryd.isAgg0
  z0 := Tryd.sizeOf0
  v0 := Tryd.zeroValue0
  t2 := Tryd.underlying2
  a2 := Tryd.isAgg2
  z2 := Tryd.sizeOf2
  v2 := Tryd.zeroValue2
  t3 := Tryd.underlying3
  a3 := Tryd.isAgg3
  z3 := Tryd.sizeOf3
  v3 := Tryd.zeroValue3
  t4 := Tryd.underlying4
  a4 := Tryd.isAgg4
  z4 := Tryd.sizeOf4
  v4 := Tryd.zeroValue4
  t5 := Tryd.underlying5
  a5 := Tryd.isAgg5
  z5 := Tryd.sizeOf5
  v5 := Tryd.zeroValue5
  t9 := Tryd.underlying9
  a9 := Tryd.isAgg9
  z9 := Tryd.sizeOf9
  v9 := Tryd.zeroValue9
  t20 := Tryd.underlying20
  a20 := Tryd.isAgg20
  z20 := Tryd.sizeOf20
  v20 := Tryd.zeroValue20
  t37 := Tryd.underlying117
  a37 := Tryd.isAgg117
  z37 := Tryd.sizeOf117
  v37 := Tryd.zeroValue117
  t46 := Tryd.underlying151
  a46 := Tryd.isAgg151
  z46 := Tryd.sizeOf151
  v46 := Tryd.zeroValue151
  t51 := Tryd.underlying169
  a51 := Tryd.isAgg169
  z51 := Tryd.sizeOf169
  v51 := Tryd.zeroValue169
  t53 := Tryd.underlying172
  a53 := Tryd.isAgg172
  z53 := Tryd.sizeOf172
  v53 := Tryd.zeroValue172
  t171 := Tryd.underlying183
  a171 := Tryd.isAgg183
  z171 := Tryd.sizeOf183
  v171 := Tryd.zeroValue183
  t173 := Tryd.underlying186
  a173 := Tryd.isAgg186
  z173 := Tryd.sizeOf186
  v173 := Tryd.zeroValue186
  t212 := Tryd.underlying199
  a212 := Tryd.isAgg199
  z212 := Tryd.sizeOf199
  v212 := Tryd.zeroValue199
  t213 := Tryd.underlying200
  a213 := Tryd.isAgg200
  z213 := Tryd.sizeOf200
  t232 := Tryd.underlying210
  a232 := Tryd.isAgg210
  z232 := Tryd.sizeOf210
  v232 := Tryd.zeroValue210
  t233 := Tryd.underlying211
  a233 := Tryd.isAgg211
  z233 := Tryd.sizeOf211
  v233 := Tryd.zeroValue211
  g17 := by kernel_rfl
  g18 := by kernel_rfl
  g19 := by kernel_rfl }
def Tryd.laysM173_ren : Go.Shelf.Ren := ⟨fun | 173 => 113 | 246 => 128 | 283 => 132 | 284 => 133 | 285 => 134 | 286 => 135 | 129 => 150 | 317 => 151 | 318 => 152 | 319 => 153 | 320 => 154 | 337 => 163 | 338 => 164 | n => n, fun | 2 => 2 | 3 => 3 | 9 => 9 | 4 => 4 | 171 => 183 | 0 => 0 | 53 => 172 | 37 => 117 | 5 => 5 | 173 => 186 | 212 => 199 | 51 => 169 | 20 => 20 | 213 => 200 | 46 => 151 | 232 => 210 | 233 => 211 | n => n, fun | 17 => 2 | 18 => 3 | 19 => 4 | n => n⟩
theorem Tryd.laysM173 : Go.Proofs.LaysM.n173 Tryd.prog Tryd.laysM173_ren := {
  mixed := by kernel_rfl
  f129 := Tryd.func150.trans (congrArg some (by kernel_rfl))
  f173 := Tryd.func113.trans (congrArg some (by kernel_rfl))
  f246 := Tryd.func128.trans (congrArg some (by kernel_rfl))
  f283 := Tryd.func132.trans (congrArg some (by kernel_rfl))
  f284 := Tryd.func133.trans (congrArg some (by kernel_rfl))
  f285 := Tryd.func134.trans (congrArg some (by kernel_rfl))
  f286 := Tryd.func135.trans (congrArg some (by kernel_rfl))
  f317 := Tryd.func151.trans (congrArg some (by kernel_rfl))
  f318 := Tryd.func152.trans (congrArg some (by kernel_rfl))
  f319 := Tryd.func153.trans (congrArg some (by kernel_rfl))
  f320 := Tryd.func154.trans (congrArg some (by kernel_rfl))
  f337 := Tryd.func163.trans (congrArg some (by kernel_rfl))
  f338 := Tryd.func164.trans (congrArg some (by kernel_rfl))
  t0 := Tryd.underlying0
  a0 := Tryd.isAgg0
  z0 := Tryd.sizeOf0
  v0 := Tryd.zeroValue0
  t2 := Tryd.underlying2
  a2 := Tryd.isAgg2
  z2 := Tryd.sizeOf2
  v2 := Tryd.zeroValue2
  t3 := Tryd.underlying3
  a3 := Tryd.isAgg3
  z3 := Tryd.sizeOf3
  v3 := Tryd.zeroValue3
  t4 := Tryd.underlying4
  a4 := Tryd.isAgg4
  z4 := Tryd.sizeOf4
  v4 := Tryd.zeroValue4
  t5 := Tryd.underlying5
  a5 := Tryd.isAgg5
  z5 := Tryd.sizeOf5
  v5 := Tryd.zeroValue5
  t9 := Tryd.underlying9
  a9 := Tryd.isAgg9
  z9 := Tryd.sizeOf9
  v9 := Tryd.zeroValue9
  t20 := Tryd.underlying20
  a20 := Tryd.isAgg20
  z20 := Tryd.sizeOf20
  v20 := Tryd.zeroValue20
  t37 := Tryd.underlying117
  a37 := Tryd.isAgg117
  z37 := Tryd.sizeOf117
  v37 := Tryd.zeroValue117
  t46 := Tryd.underlying151
  a46 := Tryd.isAgg151
  z46 := Tryd.sizeOf151
  v46 := Tryd.zeroValue151
  t51 := Tryd.underlying169
  a51 := Tryd.isAgg169
  z51 := Tryd.sizeOf169
  v51 := Tryd.zeroValue169
  t53 := Tryd.underlying172
  a53 := Tryd.isAgg172
  z53 := Tryd.sizeOf172
  v53 := Tryd.zeroValue172
  t171 := Tryd.underlying183
  a171 := Tryd.isAgg183
  z171 := Tryd.sizeOf183
  v171 := Tryd.zeroValue183
  t173 := Tryd.underlying186
  a173 := Tryd.isAgg186
  z173 := Tryd.sizeOf186
  v173 := Tryd.zeroValue186
  t212 := Tryd.underlying199
  a212 := Tryd.isAgg199
  z212 := Tryd.sizeOf199
  v212 := Tryd.zeroValue199
  t213 := Tryd.underlying200
  a213 := Tryd.isAgg200
  z213 := Tryd.sizeOf200
  t232 := Tryd.underlying210
  a232 := Tryd.isAgg210
  z232 := Tryd.sizeOf210
  v232 := Tryd.zeroValue210
  t233 := Tryd.underlying211
  a233 := Tryd.isAgg211
  z233 := Tryd.sizeOf211
  v233 := Tryd.zeroValue211
  g17 := by kernel_rfl
  g18 := by kernel_rfl
  g19 := by kernel_rfl
  i0 := by kernel_rfl
  i2 := by kernel_rfl
  i3 := by kernel_rfl
  i4 := by kernel_rfl
  i5 := by kernel_rfl
  i9 := by kernel_rfl
  i20 := by kernel_rfl
  i37 := by kernel_rfl
  i46 := by kernel_rfl
  i51 := by kernel_rfl
  i53 := by kernel_rfl
  i171 := by kernel_rfl
  i173 := by kernel_rfl
  i212 := by kernel_rfl
  i232 := by kernel_rfl
  i233 := by kernel_rfl
  m17 := by kernel_rfl
  m18 := by kernel_rfl
  m19 := by kernel_rfl }
open Go.RowKit Go.Sort Go.Lib in
theorem Tryd.strconv_FormatInt_10 (n : Int) (h0 : -9223372036854775808 ≤ n) (h1 : n ≤ 9223372036854775807) (w : World) (htab : Lib.TabIs Tryd.prog w "internal/strconv.uint64pow10" .u64 Lib.pow10Tab) :
    Calls Tryd.prog 113 #[.int .i64 n, .int .i64 10] w fun e w' => e = .returned (.string ⟨(Lib.itoa n).toArray⟩) ∧ ∃ k os, w' = grow (w.drewN k) os := Any.strconv_FormatInt_10 Tryd.laysM173 n h0 h1 w htab
def Tryd.lays173_ren : Go.Shelf.Ren := ⟨fun | 173 => 113 | 246 => 128 | 283 => 132 | 284 => 133 | 285 => 134 | 286 => 135 | 129 => 150 | 317 => 151 | 318 => 152 | 319 => 153 | 320 => 154 | 337 => 163 | 338 => 164 | n => n, fun | 2 => 2 | 3 => 3 | 9 => 9 | 4 => 4 | 171 => 183 | 0 => 0 | 53 => 172 | 37 => 117 | 5 => 5 | 173 => 186 | 212 => 199 | 51 => 169 | 20 => 20 | 213 => 200 | 46 => 151 | 232 => 210 | 233 => 211 | n => n, fun | 17 => 2 | 18 => 3 | 19 => 4 | n => n⟩
theorem Tryd.lays173 : Go.Proofs.Lays.n173 Tryd.prog Tryd.lays173_ren := {
  mixed := by kernel_rfl
  f129 := Tryd.func150.trans (congrArg some (by kernel_rfl))
  f173 := Tryd.func113.trans (congrArg some (by kernel_rfl))
  f246 := Tryd.func128.trans (congrArg some (by kernel_rfl))
  f283 := Tryd.func132.trans (congrArg some (by kernel_rfl))
  f284 := Tryd.func133.trans (congrArg some (by kernel_rfl))
  f285 := Tryd.func134.trans (congrArg some (by kernel_rfl))
  f286 := Tryd.func135.trans (congrArg some (by kernel_rfl))
  f317 := Tryd.func151.trans (congrArg some (by kernel_rfl))
  f318 := Tryd.func152.trans (congrArg some (by kernel_rfl))
  f319 := Tryd.func153.trans (congrArg some (by kernel_rfl))
  f320 := Tryd.func154.trans (congrArg some (by kernel_rfl))
  f337 := Tryd.func163.trans (congrArg some (by kernel_rfl))
  f338 := Tryd.func164.trans (congrArg some (by kernel_rfl))
  t0 := Tryd.underlying0
  a0 := Tryd.isAgg0
  z0 := Tryd.sizeOf0
  v0 := Tryd.zeroValue0
  t2 := Tryd.underlying2
  a2 := Tryd.isAgg2
  z2 := Tryd.sizeOf2
  v2 := Tryd.zeroValue2
  t3 := Tryd.underlying3
  a3 := Tryd.isAgg3
  z3 := Tryd.sizeOf3
  v3 := Tryd.zeroValue3
  t4 := Tryd.underlying4
  a4 := Tryd.isAgg4
  z4 := Tryd.sizeOf4
  v4 := Tryd.zeroValue4
  t5 := Tryd.underlying5
  a5 := Tryd.isAgg5
  z5 := Tryd.sizeOf5
  v5 := Tryd.zeroValue5
  t9 := Tryd.underlying9
  a9 := Tryd.isAgg9
  z9 := Tryd.sizeOf9
  v9 := Tryd.zeroValue9
  t20 := Tryd.underlying20
  a20 := Tryd.isAgg20
  z20 := Tryd.sizeOf20
  v20 := Tryd.zeroValue20
  t37 := Tryd.underlying117
  a37 := Tryd.isAgg117
  z37 := Tryd.sizeOf117
  v37 := Tryd.zeroValue117
  t46 := Tryd.underlying151
  a46 := Tryd.isAgg151
  z46 := Tryd.sizeOf151
  v46 := Tryd.zeroValue151
  t51 := Tryd.underlying169
  a51 := Tryd.isAgg169
  z51 := Tryd.sizeOf169
  v51 := Tryd.zeroValue169
  t53 := Tryd.underlying172
  a53 := Tryd.isAgg172
  z53 := Tryd.sizeOf172
  v53 := Tryd.zeroValue172
  t171 := Tryd.underlying183
  a171 := Tryd.isAgg183
  z171 := Tryd.sizeOf183
  v171 := Tryd.zeroValue183
  t173 := Tryd.underlying186
  a173 := Tryd.isAgg186
  z173 := Tryd.sizeOf186
  v173 := Tryd.zeroValue186
  t212 := Tryd.underlying199
  a212 := Tryd.isAgg199
  z212 := Tryd.sizeOf199
  v212 := Tryd.zeroValue199
  t213 := Tryd.underlying200
  a213 := Tryd.isAgg200
  z213 := Tryd.sizeOf200
  t232 := Tryd.underlying210
  a232 := Tryd.isAgg210
  z232 := Tryd.sizeOf210
  v232 := Tryd.zeroValue210
  t233 := Tryd.underlying211
  a233 := Tryd.isAgg211
  z233 := Tryd.sizeOf211
  v233 := Tryd.zeroValue211
  g17 := by kernel_rfl
  g18 := by kernel_rfl
  g19 := by kernel_rfl }
def Tryd.lays217_ren : Go.Shelf.Ren := ⟨fun | 217 => 136 | 266 => 155 | n => n, fun | 9 => 9 | 5 => 5 | 3 => 3 | n => n, fun | n => n⟩
theorem Tryd.lays217 : Go.Proofs.Lays.n217 Tryd.prog Tryd.lays217_ren := {
  mixed := by kernel_rfl
  f217 := Tryd.func136.trans (congrArg some (by kernel_rfl))
  f266 := Tryd.func155.trans (congrArg some (by kernel_rfl))
  t3 := Tryd.underlying3
  a3 := Tryd.isAgg3
  z3 := Tryd.sizeOf3
  v3 := Tryd.zeroValue3
  t5 := Tryd.underlying5
  a5 := Tryd.isAgg5
  z5 := Tryd.sizeOf5
  v5 := Tryd.zeroValue5
  t9 := Tryd.underlying9
  a9 := Tryd.isAgg9
  z9 := Tryd.sizeOf9
  v9 := Tryd.zeroValue9 }
def Tryd.lays224_ren : Go.Shelf.Ren := ⟨fun | 224 => 138 | n => n, fun | 3 => 3 | n => n, fun | n => n⟩
theorem Tryd.lays224 : Go.Proofs.Lays.n224 Tryd.prog Tryd.lays224_ren := {
  mixed := by kernel_rfl
  f224 := Tryd.func138.trans (congrArg some (by kernel_rfl))
  t3 := Tryd.underlying3
  a3 := Tryd.isAgg3
  z3 := Tryd.sizeOf3
  v3 := Tryd.zeroValue3 }
def Tryd.lays314_ren : Go.Shelf.Ren := ⟨fun | 314 => 156 | n => n, fun | 9 => 9 | 51 => 169 | 3 => 3 | 4 => 4 | 5 => 5 | 46 => 151 | n => n, fun | n => n⟩
theorem Tryd.lays314 : Go.Proofs.Lays.n314 Tryd.prog Tryd.lays314_ren := {
  mixed := by kernel_rfl
  f314 := Tryd.func156.trans (congrArg some (by kernel_rfl))
  t3 := Tryd.underlying3
  a3 := Tryd.isAgg3
  z3 := Tryd.sizeOf3
  v3 := Tryd.zeroValue3
  t4 := Tryd.underlying4
  a4 := Tryd.isAgg4
  z4 := Tryd.sizeOf4
  v4 := Tryd.zeroValue4
  t5 := Tryd.underlying5
  a5 := Tryd.isAgg5
  z5 := Tryd.sizeOf5
  v5 := Tryd.zeroValue5
  t9 := Tryd.underlying9
  a9 := Tryd.isAgg9
  z9 := Tryd.sizeOf9
  v9 := Tryd.zeroValue9
  t46 := Tryd.underlying151
  a46 := Tryd.isAgg151
  z46 := Tryd.sizeOf151
  v46 := Tryd.zeroValue151
  t51 := Tryd.underlying169
  a51 := Tryd.isAgg169
  z51 := Tryd.sizeOf169
  v51 := Tryd.zeroValue169 }
def Tryd.lays267_ren : Go.Shelf.Ren := ⟨fun | 267 => 139 | 314 => 156 | n => n, fun | 9 => 9 | 3 => 3 | 146 => 170 | 51 => 169 | 4 => 4 | 5 => 5 | 46 => 151 | n => n, fun | n => n⟩
theorem Tryd.lays267 : Go.Proofs.Lays.n267 Tryd.prog Tryd.lays267_ren := {
  mixed := by kernel_rfl
  f267 := Tryd.func139.trans (congrArg some (by kernel_rfl))
  f314 := Tryd.func156.trans (congrArg some (by kernel_rfl))
  t3 := Tryd.underlying3
  a3 := Tryd.isAgg3
  z3 := Tryd.sizeOf3
  v3 := Tryd.zeroValue3
  t4 := Tryd.underlying4
  a4 := Tryd.isAgg4
  z4 := Tryd.sizeOf4
  v4 := Tryd.zeroValue4
  t5 := Tryd.underlying5
  a5 := Tryd.isAgg5
  z5 := Tryd.sizeOf5
  v5 := Tryd.zeroValue5
  t9 := Tryd.underlying9
  a9 := Tryd.isAgg9
  z9 := Tryd.sizeOf9
  v9 := Tryd.zeroValue9
  t46 := Tryd.underlying151
  a46 := Tryd.isAgg151
  z46 := Tryd.sizeOf151
  v46 := Tryd.zeroValue151
  t51 := Tryd.underlying169
  a51 := Tryd.isAgg169
  z51 := Tryd.sizeOf169
  v51 := Tryd.zeroValue169
  t146 := Tryd.underlying170
  a146 := Tryd.isAgg170
  z146 := Tryd.sizeOf170
  v146 := Tryd.zeroValue170 }
def Tryd.lays219_ren : Go.Shelf.Ren := ⟨fun | 219 => 129 | 217 => 136 | 225 => 137 | 224 => 138 | 267 => 139 | 266 => 155 | 314 => 156 | n => n, fun | 9 => 9 | 3 => 3 | 4 => 4 | 5 => 5 | 46 => 151 | 146 => 170 | 51 => 169 | n => n, fun | 1 => 1 | n => n⟩
theorem Tryd.lays219 : Go.Proofs.Lays.n219 Tryd.prog Tryd.lays219_ren := {
  mixed := by kernel_rfl
  f217 := Tryd.func136.trans (congrArg some (by kernel_rfl))
  f219 := Tryd.func129.trans (congrArg some (by kernel_rfl))
  f224 := Tryd.func138.trans (congrArg some (by kernel_rfl))
  f225 := Tryd.func137.trans (congrArg some (by kernel_rfl))
  f266 := Tryd.func155.trans (congrArg some (by kernel_rfl))
  f267 := Tryd.func139.trans (congrArg some (by kernel_rfl))
  f314 := Tryd.func156.trans (congrArg some (by kernel_rfl))
  t3 := Tryd.underlying3
  a3 := Tryd.isAgg3
  z3 := Tryd.sizeOf3
  v3 := Tryd.zeroValue3
  t4 := Tryd.underlying4
  a4 := Tryd.isAgg4
  z4 := Tryd.sizeOf4
  v4 := Tryd.zeroValue4
  t5 := Tryd.underlying5
  a5 := Tryd.isAgg5
  z5 := Tryd.sizeOf5
  v5 := Tryd.zeroValue5
  t9 := Tryd.underlying9
  a9 := Tryd.isAgg9
  z9 := Tryd.sizeOf9
  v9 := Tryd.zeroValue9
  t46 := Tryd.underlying151
  a46 := Tryd.isAgg151
  z46 := Tryd.sizeOf151
  v46 := Tryd.zeroValue151
  t51 := Tryd.underlying169
  a51 := Tryd.isAgg169
  z51 := Tryd.sizeOf169
  v51 := Tryd.zeroValue169
  t146 := Tryd.underlying170
  a146 := Tryd.isAgg170
  z146 := Tryd.sizeOf170
  v146 := Tryd.zeroValue170
  g1 := by kernel_rfl }
def Tryd.lays143_ren : Go.Shelf.Ren := ⟨fun | 143 => 117 | 219 => 129 | 217 => 136 | 225 => 137 | 224 => 138 | 267 => 139 | 266 => 155 | 314 => 156 | n => n, fun | 9 => 9 | 3 => 3 | 4 => 4 | 5 => 5 | 46 => 151 | 146 => 170 | 51 => 169 | n => n, fun | 1 => 1 | n => n⟩
theorem Tryd.lays143 : Go.Proofs.Lays.n143 Tryd.prog Tryd.lays143_ren := {
  mixed := by kernel_rfl
  f143 := Tryd.func117.trans (congrArg some (by kernel_rfl))
  f217 := Tryd.func136.trans (congrArg some (by kernel_rfl))
  f219 := Tryd.func129.trans (congrArg some (by kernel_rfl))
  f224 := Tryd.func138.trans (congrArg some (by kernel_rfl))
  f225 := Tryd.func137.trans (congrArg some (by kernel_rfl))
  f266 := Tryd.func155.trans (congrArg some (by kernel_rfl))
  f267 := Tryd.func139.trans (congrArg some (by kernel_rfl))
  f314 := Tryd.func156.trans (congrArg some (by kernel_rfl))
  t3 := Tryd.underlying3
  a3 := Tryd.isAgg3
  z3 := Tryd.sizeOf3
  v3 := Tryd.zeroValue3
  t4 := Tryd.underlying4
  a4 := Tryd.isAgg4
  z4 := Tryd.sizeOf4
  v4 := Tryd.zeroValue4
  t5 := Tryd.underlying5
  a5 := Tryd.isAgg5
  z5 := Tryd.sizeOf5
  v5 := Tryd.zeroValue5
  t9 := Tryd.underlying9
  a9 := Tryd.isAgg9
  z9 := Tryd.sizeOf9
  v9 := Tryd.zeroValue9
  t46 := Tryd.underlying151
  a46 := Tryd.isAgg151
  z46 := Tryd.sizeOf151
  v46 := Tryd.zeroValue151
  t51 := Tryd.underlying169
  a51 := Tryd.isAgg169
  z51 := Tryd.sizeOf169
  v51 := Tryd.zeroValue169
  t146 := Tryd.underlying170
  a146 := Tryd.isAgg170
  z146 := Tryd.sizeOf170
  v146 := Tryd.zeroValue170
  g1 := by kernel_rfl }
def Tryd.lays144_ren : Go.Shelf.Ren := ⟨fun | 144 => 90 | 143 => 117 | 219 => 129 | 217 => 136 | 225 => 137 | 224 => 138 | 267 => 139 | 266 => 155 | 314 => 156 | n => n, fun | 9 => 9 | 4 => 4 | 3 => 3 | 5 => 5 | 46 => 151 | 146 => 170 | 51 => 169 | n => n, fun | 1 => 1 | n => n⟩
theorem Tryd.lays144 : Go.Proofs.Lays.n144 Tryd.prog Tryd.lays144_ren := {
  mixed := by kernel_rfl
  f143 := Tryd.func117.trans (congrArg some (by kernel_rfl))
  f144 := Tryd.func90.trans (congrArg some (by kernel_rfl))
  f217 := Tryd.func136.trans (congrArg some (by kernel_rfl))
  f219 := Tryd.func129.trans (congrArg some (by kernel_rfl))
  f224 := Tryd.func138.trans (congrArg some (by kernel_rfl))
  f225 := Tryd.func137.trans (congrArg some (by kernel_rfl))
  f266 := Tryd.func155.trans (congrArg some (by kernel_rfl))
  f267 := Tryd.func139.trans (congrArg some (by kernel_rfl))
  f314 := Tryd.func156.trans (congrArg some (by kernel_rfl))
  t3 := Tryd.underlying3
  a3 := Tryd.isAgg3
  z3 := Tryd.sizeOf3
  v3 := Tryd.zeroValue3
  t4 := Tryd.underlying4
  a4 := Tryd.isAgg4
  z4 := Tryd.sizeOf4
  v4 := Tryd.zeroValue4
  t5 := Tryd.underlying5
  a5 := Tryd.isAgg5
  z5 := Tryd.sizeOf5
  v5 := Tryd.zeroValue5
  t9 := Tryd.underlying9
  a9 := Tryd.isAgg9
  z9 := Tryd.sizeOf9
  v9 := Tryd.zeroValue9
  t46 := Tryd.underlying151
  a46 := Tryd.isAgg151
  z46 := Tryd.sizeOf151
  v46 := Tryd.zeroValue151
  t51 := Tryd.underlying169
  a51 := Tryd.isAgg169
  z51 := Tryd.sizeOf169
  v51 := Tryd.zeroValue169
  t146 := Tryd.underlying170
  a146 := Tryd.isAgg170
  z146 := Tryd.sizeOf170
  v146 := Tryd.zeroValue170
  g1 := by kernel_rfl }
open Go.RowKit Go.Lib in
theorem Tryd.strings_Contains_one (s : ByteArray) (c : UInt8) (w : World) :
    Calls Tryd.prog 90 #[.string s, .string ⟨#[c]⟩] w fun e w' => e = .returned (.bool (decide (0 ≤ Lib.indexByte s.data.toList c))) ∧ w' = w := Any.strings_Contains_one Tryd.lays144 s c w
open Go.RowKit Go.Lib in
theorem Tryd.strings_Contains (s sub : ByteArray) (m : Int) (w : World) (hs : s.size < 4294967281) (hm : w.cell? ⟨1, 0, none⟩ = some (.int .i64 m)) :
    Calls Tryd.prog 90 #[.string s, .string sub] w fun e w' => e = .returned (.bool (Lib.contains s.data.toList sub.data.toList)) ∧ w' = w := Any.strings_Contains Tryd.lays144 s sub m w hs hm
def Tryd.laysM219_ren : Go.Shelf.Ren := ⟨fun | 219 => 129 | 217 => 136 | 225 => 137 | 224 => 138 | 267 => 139 | 266 => 155 | 314 => 156 | n => n, fun | 9 => 9 | 3 => 3 | 4 => 4 | 5 => 5 | 46 => 151 | 146 => 170 | 51 => 169 | n => n, fun | 1 => 1 | n => n⟩
theorem Tryd.laysM219 : Go.Proofs.LaysM.n219 Tryd.prog Tryd.laysM219_ren := {
  mixed := by kernel_rfl
  f217 := Tryd.func136.trans (congrArg some (by kernel_rfl))
  f219 := Tryd.func129.trans (congrArg some (by kernel_rfl))
  f224 := Tryd.func138.trans (congrArg some (by kernel_rfl))
  f225 := Tryd.func137.trans (congrArg some (by kernel_rfl))
  f266 := Tryd.func155.trans (congrArg some (by kernel_rfl))
  f267 := Tryd.func139.trans (congrArg some (by kernel_rfl))
  f314 := Tryd.func156.trans (congrArg some (by kernel_rfl))
  t3 := Tryd.underlying3
  a3 := Tryd.isAgg3
  z3 := Tryd.sizeOf3
  v3 := Tryd.zeroValue3
  t4 := Tryd.underlying4
  a4 := Tryd.isAgg4
  z4 := Tryd.sizeOf4
  v4 := Tryd.zeroValue4
  t5 := Tryd.underlying5
  a5 := Tryd.isAgg5
  z5 := Tryd.sizeOf5
  v5 := Tryd.zeroValue5
  t9 := Tryd.underlying9
  a9 := Tryd.isAgg9
  z9 := Tryd.sizeOf9
  v9 := Tryd.zeroValue9
  t46 := Tryd.underlying151
  a46 := Tryd.isAgg151
  z46 := Tryd.sizeOf151
  v46 := Tryd.zeroValue151
  t51 := Tryd.underlying169
  a51 := Tryd.isAgg169
  z51 := Tryd.sizeOf169
  v51 := Tryd.zeroValue169
  t146 := Tryd.underlying170
  a146 := Tryd.isAgg170
  z146 := Tryd.sizeOf170
  v146 := Tryd.zeroValue170
  g1 := by kernel_rfl
  i3 := by kernel_rfl
  i4 := by kernel_rfl
  i5 := by kernel_rfl
  i9 := by kernel_rfl
  i46 := by kernel_rfl
  i51 := by kernel_rfl
  i146 := by kernel_rfl
  m1 := by kernel_rfl
  s1_3 := fun w h => Go.Proofs.cell_of_shapedOpen_int (zero := #[.int .i64 0]) (t := 3) h (of_decide_eq_true (by kernel_rfl)) (by kernel_rfl) rfl (by kernel_rfl) (by kernel_rfl) Tryd.underlying3 }
def Tryd.laysM143_ren : Go.Shelf.Ren := ⟨fun | 143 => 117 | 219 => 129 | 217 => 136 | 225 => 137 | 224 => 138 | 267 => 139 | 266 => 155 | 314 => 156 | n => n, fun | 9 => 9 | 3 => 3 | 4 => 4 | 5 => 5 | 46 => 151 | 146 => 170 | 51 => 169 | n => n, fun | 1 => 1 | n => n⟩
theorem Tryd.laysM143 : Go.Proofs.LaysM.n143 Tryd.prog Tryd.laysM143_ren := {
  mixed := by kernel_rfl
  f143 := Tryd.func117.trans (congrArg some (by kernel_rfl))
  f217 := Tryd.func136.trans (congrArg some (by kernel_rfl))
  f219 := Tryd.func129.trans (congrArg some (by kernel_rfl))
  f224 := Tryd.func138.trans (congrArg some (by kernel_rfl))
  f225 := Tryd.func137.trans (congrArg some (by kernel_rfl))
  f266 := Tryd.func155.trans (congrArg some (by kernel_rfl))
  f267 := Tryd.func139.trans (congrArg some (by kernel_rfl))
  f314 := Tryd.func156.trans (congrArg some (by kernel_rfl))
  t3 := Tryd.underlying3
  a3 := Tryd.isAgg3
  z3 := Tryd.sizeOf3
  v3 := Tryd.zeroValue3
  t4 := Tryd.underlying4
  a4 := Tryd.isAgg4
  z4 := Tryd.sizeOf4
  v4 := Tryd.zeroValue4
  t5 := Tryd.underlying5
  a5 := Tryd.isAgg5
  z5 := Tryd.sizeOf5
  v5 := Tryd.zeroValue5
  t9 := Tryd.underlying9
  a9 := Tryd.isAgg9
  z9 := Tryd.sizeOf9
  v9 := Tryd.zeroValue9
  t46 := Tryd.underlying151
  a46 := Tryd.isAgg151
  z46 := Tryd.sizeOf151
  v46 := Tryd.zeroValue151
  t51 := Tryd.underlying169
  a51 := Tryd.isAgg169
  z51 := Tryd.sizeOf169
  v51 := Tryd.zeroValue169
  t146 := Tryd.underlying170
  a146 := Tryd.isAgg170
  z146 := Tryd.sizeOf170
  v146 := Tryd.zeroValue170
  g1 := by kernel_rfl
  i3 := by kernel_rfl
  i4 := by kernel_rfl
  i5 := by kernel_rfl
  i9 := by kernel_rfl
  i46 := by kernel_rfl
  i51 := by kernel_rfl
  i146 := by kernel_rfl
  m1 := by kernel_rfl
  s1_3 := fun w h => Go.Proofs.cell_of_shapedOpen_int (zero := #[.int .i64 0]) (t := 3) h (of_decide_eq_true (by kernel_rfl)) (by kernel_rfl) rfl (by kernel_rfl) (by kernel_rfl) Tryd.underlying3 }
def Tryd.laysM144_ren : Go.Shelf.Ren := ⟨fun | 144 => 90 | 143 => 117 | 219 => 129 | 217 => 136 | 225 => 137 | 224 => 138 | 267 => 139 | 266 => 155 | 314 => 156 | n => n, fun | 9 => 9 | 4 => 4 | 3 => 3 | 5 => 5 | 46 => 151 | 146 => 170 | 51 => 169 | n => n, fun | 1 => 1 | n => n⟩
theorem Tryd.laysM144 : Go.Proofs.LaysM.n144 Tryd.prog Tryd.laysM144_ren := {
  mixed := by kernel_rfl
  f143 := Tryd.func117.trans (congrArg some (by kernel_rfl))
  f144 := Tryd.func90.trans (congrArg some (by kernel_rfl))
  f217 := Tryd.func136.trans (congrArg some (by kernel_rfl))
  f219 := Tryd.func129.trans (congrArg some (by kernel_rfl))
  f224 := Tryd.func138.trans (congrArg some (by kernel_rfl))
  f225 := Tryd.func137.trans (congrArg some (by kernel_rfl))
  f266 := Tryd.func155.trans (congrArg some (by kernel_rfl))
  f267 := Tryd.func139.trans (congrArg some (by kernel_rfl))
  f314 := Tryd.func156.trans (congrArg some (by kernel_rfl))
  t3 := Tryd.underlying3
  a3 := Tryd.isAgg3
  z3 := Tryd.sizeOf3
  v3 := Tryd.zeroValue3
  t4 := Tryd.underlying4
  a4 := Tryd.isAgg4
  z4 := Tryd.sizeOf4
  v4 := Tryd.zeroValue4
  t5 := Tryd.underlying5
  a5 := Tryd.isAgg5
  z5 := Tryd.sizeOf5
  v5 := Tryd.zeroValue5
  t9 := Tryd.underlying9
  a9 := Tryd.isAgg9
  z9 := Tryd.sizeOf9
  v9 := Tryd.zeroValue9
  t46 := Tryd.underlying151
  a46 := Tryd.isAgg151
  z46 := Tryd.sizeOf151
  v46 := Tryd.zeroValue151
  t51 := Tryd.underlying169
  a51 := Tryd.isAgg169
  z51 := Tryd.sizeOf169
  v51 := Tryd.zeroValue169
  t146 := Tryd.underlying170
  a146 := Tryd.isAgg170
  z146 := Tryd.sizeOf170
  v146 := Tryd.zeroValue170
  g1 := by kernel_rfl
  i3 := by kernel_rfl
  i4 := by kernel_rfl
  i5 := by kernel_rfl
  i9 := by kernel_rfl
  i46 := by kernel_rfl
  i51 := by kernel_rfl
  i146 := by kernel_rfl
  m1 := by kernel_rfl
  s1_3 := fun w h => Go.Proofs.cell_of_shapedOpen_int (zero := #[.int .i64 0]) (t := 3) h (of_decide_eq_true (by kernel_rfl)) (by kernel_rfl) rfl (by kernel_rfl) (by kernel_rfl) Tryd.underlying3 }
def Tryd.lays189_ren : Go.Shelf.Ren := ⟨fun | 189 => 122 | 125 => 131 | 257 => 130 | 128 => 149 | 129 => 150 | 294 => 140 | 295 => 141 | 296 => 142 | 297 => 143 | 298 => 144 | 299 => 145 | 216 => 146 | 300 => 147 | 301 => 148 | 328 => 157 | 329 => 158 | 330 => 159 | 331 => 160 | 332 => 161 | 215 => 162 | 343 => 165 | n => n, fun | 28 => 93 | 3 => 3 | 46 => 151 | 0 => 0 | 51 => 169 | 53 => 172 | 4 => 4 | 183 => 192 | 182 => 191 | 131 => 145 | 5 => 5 | 9 => 9 | 218 => 203 | 222 => 98 | 228 => 208 | 229 => 75 | n => n, fun | n => n⟩
theorem Tryd.lays189 : Go.Proofs.Lays.n189 Tryd.prog Tryd.lays189_ren := {
  mixed := by kernel_rfl
  f125 := Tryd.func131.trans (congrArg some (by kernel_rfl))
  f128 := Tryd.func149.trans (congrArg some (by kernel_rfl))
  f129 := Tryd.func150.trans (congrArg some (by kernel_rfl))
  f189 := Tryd.func122.trans (congrArg some (by kernel_rfl))
  f215 := Tryd.func162.trans (congrArg some (by kernel_rfl))
  f216 := Tryd.func146.trans (congrArg some (by kernel_rfl))
  f257 := Tryd.func130.trans (congrArg some (by kernel_rfl))
  f294 := Tryd.func140.trans (congrArg some (by kernel_rfl))
  f295 := Tryd.func141.trans (congrArg some (by kernel_rfl))
  f296 := Tryd.func142.trans (congrArg some (by kernel_rfl))
  f297 := Tryd.func143.trans (congrArg some (by kernel_rfl))
  f298 := Tryd.func144.trans (congrArg some (by kernel_rfl))
  f299 := Tryd.func145.trans (congrArg some (by kernel_rfl))
  f300 := Tryd.func147.trans (congrArg some (by kernel_rfl))
  f301 := Tryd.func148.trans (congrArg some (by kernel_rfl))
  f328 := Tryd.func157.trans (congrArg some (by kernel_rfl))
  f329 := Tryd.func158.trans (congrArg some (by kernel_rfl))
  f330 := Tryd.func159.trans (congrArg some (by kernel_rfl))
  f331 := Tryd.func160.trans (congrArg some (by kernel_rfl))
  f332 := Tryd.func161.trans (congrArg some (by kernel_rfl))
  f343 := Tryd.func165.trans (congrArg some (by kernel_rfl))
  t0 := Tryd.underlying0
  a0 := Tryd.isAgg0
  z0 := Tryd.sizeOf0
  v0 := Tryd.zeroValue0
  t3 := Tryd.underlying3
  a3 := Tryd.isAgg3
  z3 := Tryd.sizeOf3
  v3 := Tryd.zeroValue3
  t4 := Tryd.underlying4
  a4 := Tryd.isAgg4
  z4 := Tryd.sizeOf4
  v4 := Tryd.zeroValue4
  t5 := Tryd.underlying5
  a5 := Tryd.isAgg5
  z5 := Tryd.sizeOf5
  v5 := Tryd.zeroValue5
  t9 := Tryd.underlying9
  a9 := Tryd.isAgg9
  z9 := Tryd.sizeOf9
  v9 := Tryd.zeroValue9
  t28 := Tryd.underlying93
  a28 := Tryd.isAgg93
  z28 := Tryd.sizeOf93
  v28 := Tryd.zeroValue93
  t46 := Tryd.underlying151
  a46 := Tryd.isAgg151
  z46 := Tryd.sizeOf151
  v46 := Tryd.zeroValue151
  t51 := Tryd.underlying169
  a51 := Tryd.isAgg169
  z51 := Tryd.sizeOf169
  v51 := Tryd.zeroValue169
  t53 := Tryd.underlying172
  a53 := Tryd.isAgg172
  z53 := Tryd.sizeOf172
  v53 := Tryd.zeroValue172
  t131 := Tryd.underlying145
  a131 := Tryd.isAgg145
  z131 := Tryd.sizeOf145
  v131 := Tryd.zeroValue145
  t182 := Tryd.underlying191
  a182 := Tryd.isAgg191
  z182 := Tryd.sizeOf191
  v182 := Tryd.zeroValue191
  t183 := Tryd.underlying192
  a183 := Tryd.isAgg192
  z183 := Tryd.sizeOf192
  v183 := Tryd.zeroValue192
  t218 := Tryd.underlying203
  a218 := Tryd.isAgg203
  z218 := Tryd.sizeOf203
  v218 := Tryd.zeroValue203
  t222 := Tryd.underlying98
  a222 := Tryd.isAgg98
  z222 := Tryd.sizeOf98
  v222 := Tryd.zeroValue98
  t228 := Tryd.underlying208
  a228 := Tryd.isAgg208
  z228 := Tryd.sizeOf208
  v228 := Tryd.zeroValue208
  t229 := Tryd.underlying75
  a229 := Tryd.isAgg75
  z229 := Tryd.sizeOf75
  v229 := Tryd.zeroValue75 }
def Tryd.lays264_ren : Go.Shelf.Ren := ⟨fun | 264 => 121 | n => n, fun | 53 => 172 | 46 => 151 | n => n, fun | n => n⟩
theorem Tryd.lays264 : Go.Proofs.Lays.n264 Tryd.prog Tryd.lays264_ren := {
  mixed := by kernel_rfl
  f264 := Tryd.func121.trans (congrArg some (by kernel_rfl))
  t46 := Tryd.underlying151
  a46 := Tryd.isAgg151
  z46 := Tryd.sizeOf151
  v46 := Tryd.zeroValue151
  t53 := Tryd.underlying172
  a53 := Tryd.isAgg172
  z53 := Tryd.sizeOf172
  v53 := Tryd.zeroValue172 }
def Tryd.lays212_ren : Go.Shelf.Ren := ⟨fun | 212 => 100 | 263 => 120 | 264 => 121 | n => n, fun | 46 => 151 | 51 => 169 | 146 => 170 | 53 => 172 | 148 => 173 | n => n, fun | n => n⟩
theorem Tryd.lays212 : Go.Proofs.Lays.n212 Tryd.prog Tryd.lays212_ren := {
  mixed := by kernel_rfl
  f212 := Tryd.func100.trans (congrArg some (by kernel_rfl))
  f263 := Tryd.func120.trans (congrArg some (by kernel_rfl))
  f264 := Tryd.func121.trans (congrArg some (by kernel_rfl))
  t46 := Tryd.underlying151
  a46 := Tryd.isAgg151
  z46 := Tryd.sizeOf151
  v46 := Tryd.zeroValue151
  t51 := Tryd.underlying169
  a51 := Tryd.isAgg169
  z51 := Tryd.sizeOf169
  v51 := Tryd.zeroValue169
  t53 := Tryd.underlying172
  a53 := Tryd.isAgg172
  z53 := Tryd.sizeOf172
  v53 := Tryd.zeroValue172
  t146 := Tryd.underlying170
  a146 := Tryd.isAgg170
  z146 := Tryd.sizeOf170
  v146 := Tryd.zeroValue170
  t148 := Tryd.underlying173
  a148 := Tryd.isAgg173
  z148 := Tryd.sizeOf173
  v148 := Tryd.zeroValue173 }
def Tryd.laysNm220_ren : Go.Shelf.Ren := ⟨fun | 20 => 123 | n => n, fun | 22 => 93 | 3 => 3 | 4 => 4 | 0 => 0 | n => n, fun | n => n⟩
theorem Tryd.laysNm220 : Go.Proofs.Lays2.n20 Tryd.prog Tryd.laysNm220_ren := {
  mixed := by kernel_rfl
  f20 := Tryd.func123.trans (congrArg some (by kernel_rfl))
  t0 := Tryd.underlying0
  a0 := Tryd.isAgg0
  z0 := Tryd.sizeOf0
  v0 := Tryd.zeroValue0
  t3 := Tryd.underlying3
  a3 := Tryd.isAgg3
  z3 := Tryd.sizeOf3
  v3 := Tryd.zeroValue3
  t4 := Tryd.underlying4
  a4 := Tryd.isAgg4
  z4 := Tryd.sizeOf4
  v4 := Tryd.zeroValue4
  t22 := Tryd.underlying93
  a22 := Tryd.isAgg93
  z22 := Tryd.sizeOf93
  v22 := Tryd.zeroValue93
  i3 := by kernel_rfl }
def Tryd.laysNm237_ren : Go.Shelf.Ren := ⟨fun | 37 => 162 | n => n, fun | 3 => 3 | 4 => 4 | n => n, fun | n => n⟩
theorem Tryd.laysNm237 : Go.Proofs.Lays2.n37 Tryd.prog Tryd.laysNm237_ren := {
  mixed := by kernel_rfl
  f37 := Tryd.func162.trans (congrArg some (by kernel_rfl))
  t3 := Tryd.underlying3
  a3 := Tryd.isAgg3
  z3 := Tryd.sizeOf3
  v3 := Tryd.zeroValue3
  t4 := Tryd.underlying4
  a4 := Tryd.isAgg4
  z4 := Tryd.sizeOf4
  v4 := Tryd.zeroValue4 }
def Tryd.laysNm231_ren : Go.Shelf.Ren := ⟨fun | 31 => 146 | 37 => 162 | n => n, fun | 3 => 3 | 4 => 4 | n => n, fun | n => n⟩
theorem Tryd.laysNm231 : Go.Proofs.Lays2.n31 Tryd.prog Tryd.laysNm231_ren := {
  mixed := by kernel_rfl
  f31 := Tryd.func146.trans (congrArg some (by kernel_rfl))
  f37 := Tryd.func162.trans (congrArg some (by kernel_rfl))
  t3 := Tryd.underlying3
  a3 := Tryd.isAgg3
  z3 := Tryd.sizeOf3
  v3 := Tryd.zeroValue3
  t4 := Tryd.underlying4
  a4 := Tryd.isAgg4
  z4 := Tryd.sizeOf4
  v4 := Tryd.zeroValue4 }
end Go.Proofs

namespace Go.Proofs.YtfkfpcciacplkaaDoor.CR
open Go.RowKit Go.Proofs.YtfkfpcciacplkaaDoorW.PrintWords Go.Proofs.YtfkfpcciacplkaaDoor.F
set_option linter.unusedVariables false
set_option linter.unusedSimpArgs false
set_option linter.unusedSectionVars false
def opsL : List (List UInt8 × List UInt8) := [([], []), ([115, 101, 116], [97, 110]), ([97, 100, 100], [97, 98, 99]), ([106, 117, 109, 112], [110]), ([122, 101, 114, 111], [97, 110]), ([110, 101, 119], [97]), ([110, 105, 108], [97]), ([109, 111, 118, 101], [97, 98]), ([108, 111, 97, 100, 105], [97, 98, 110]), ([115, 116, 111, 114, 101, 105], [97, 110, 98]), ([108, 111, 97, 100, 112], [97, 98, 110]), ([115, 116, 111, 114, 101, 112], [97, 110, 98]), ([108, 111, 97, 100, 103], [97, 98]), ([115, 116, 111, 114, 101, 103], [97, 98]), ([112, 114, 105, 110, 116], [97]), ([115, 97, 109, 101], [97, 98, 99])]
def opsC : List Value := (opsL.map fun x => [Value.string ⟨x.1.toArray⟩, Value.string ⟨x.2.toArray⟩]).flatten
def hasOf (o : Nat) : List UInt8 := (opsL.getD o ([], [])).2
def OT (w : World) : Prop := w.var? Tryd.prog "lockstitch/code.ops" = some opsC.toArray
theorem opsG : Tryd.prog.globalNamed "lockstitch/code.ops" = some 0 := by kernel_rfl
theorem OT_below {w w' : World} (h : OT w) (hb : Below w.heap.size w w') : OT w' := by
  unfold OT World.var? at h ⊢
  rw [opsG] at h ⊢
  simp only [Option.bind_some] at h ⊢
  have hlt : 0 < w.heap.size := by
    rcases Nat.lt_or_ge 0 w.heap.size with h' | h'
    · exact h'
    · rw [Array.getElem?_eq_none h'] at h; cases h
  rw [hb.block 0 hlt]
  exact h
theorem OT.cell {w : World} (h : OT w) {o : Nat} (ho : o < 16) : w.cell? ⟨0, o * 2 + 1, none⟩ = some (.string ⟨(hasOf o).toArray⟩) := by
  have := World.var?_cell opsG h (o * 2 + 1)
  rw [this]
  obtain rfl | rfl | rfl | rfl | rfl | rfl | rfl | rfl | rfl | rfl | rfl | rfl | rfl | rfl | rfl | rfl : o = 0 ∨ o = 1 ∨ o = 2 ∨ o = 3 ∨ o = 4 ∨ o = 5 ∨ o = 6 ∨ o = 7 ∨ o = 8 ∨ o = 9 ∨ o = 10 ∨ o = 11 ∨ o = 12 ∨ o = 13 ∨ o = 14 ∨ o = 15 := by omega
  all_goals rfl
def hs (o : Nat) (c : UInt8) : Bool := decide (0 ≤ Lib.indexByte (hasOf o) c)
set_option maxRecDepth 100000 in
theorem has_calls (w : World) (B o : Nat) (ho : o < 16) (c : UInt8) (hot : OT w) (hb : w.cell? ⟨B, 0, none⟩ = some (.int .u8 o)) :
    Calls Tryd.prog 89 #[.string ⟨#[c]⟩, .pointer (some ⟨B, 0, none⟩)] w fun e w' => e = .returned (.bool (hs o c)) ∧ w' = w := by
  have hc := hot.cell ho
  have o0 : (0 : Int) ≤ o := by omega
  have o1 : (o : Int) < 16 := by omega
  clear hot
  go_enter Tryd.func89, Tryd.ntmps89
  go_wp2_with (first
    | (go_at_call 90; (with_reducible refine (Tryd.strings_Contains_one ⟨(hasOf o).toArray⟩ c w).mono ?_); rintro e w' ⟨rfl, rfl⟩))
  go_ret
  exact ⟨rfl, rfl⟩
def rightB (o : Nat) (f1 f2 f3 f4 : Int) : Bool := (hs o 98 || f2 == 0) && ((hs o 99 || f3 == 0) && ((hs o 110 || f4 == 0) && (hs o 97 || f1 == 0)))
section
variable (w : World) (o : Nat) (f1 f2 f3 f4 : Int) (hot : OT w)
include hot
set_option maxRecDepth 100000 in
theorem right_out (ho : o < 1 ∨ 15 < o) : Calls Tryd.prog 56 #[.agg #[.int .u8 o, .int .u8 f1, .int .u8 f2, .int .u8 f3, .int .i64 f4]] w fun e w' => e = .returned (.bool false) ∧ Below w.heap.size w w' := by
  clear hot
  rcases ho with ho | ho
  · have h1 : (o : Int) < 1 := by omega
    go_enter Tryd.func56, Tryd.ntmps56
    go_wp2
    go_ret
    exact ⟨rfl, below_alloc (Below.refl _ _) _⟩
  · have h1 : ¬ (o : Int) < 1 := by omega
    have h2 : (o : Int) > 15 := by omega
    go_enter Tryd.func56, Tryd.ntmps56
    go_wp2
    go_ret
    exact ⟨rfl, below_alloc (Below.refl _ _) _⟩
set_option maxHeartbeats 4000000 in
set_option maxRecDepth 100000 in
theorem right_in (h1 : 1 ≤ o) (h15 : o ≤ 15) : Calls Tryd.prog 56 #[.agg #[.int .u8 o, .int .u8 f1, .int .u8 f2, .int .u8 f3, .int .i64 f4]] w fun e w' => e = .returned (.bool (rightB o f1 f2 f3 f4)) ∧ Below w.heap.size w w' := by
  have HOT := Aside0.mk (OT_below hot (below_alloc (Below.refl _ _) (.cells #[.int .u8 o, .int .u8 f1, .int .u8 f2, .int .u8 f3, .int .i64 f4] 68)))
  have HK := Aside0.mk (show (w.alloc (.cells #[.int .u8 o, .int .u8 f1, .int .u8 f2, .int .u8 f3, .int .i64 f4] 68)).cell? ⟨w.heap.size, 0, none⟩ = some (.int .u8 o) by rw [cell_of_row _ _ _ _ _ _ (heap_alloc_new _ _)]; rfl)
  have H16 := Aside0.mk (show o < 16 by omega)
  have n1 : ¬ (o : Int) < 1 := by omega
  have n2 : ¬ (o : Int) > 15 := by omega
  clear hot h1 h15
  unfold rightB
  obtain ⟨b98, h98⟩ : ∃ b, hs o 98 = b := ⟨_, rfl⟩
  obtain ⟨b99, h99⟩ : ∃ b, hs o 99 = b := ⟨_, rfl⟩
  obtain ⟨b110, h110⟩ : ∃ b, hs o 110 = b := ⟨_, rfl⟩
  obtain ⟨b97, h97⟩ : ∃ b, hs o 97 = b := ⟨_, rfl⟩
  rw [h98, h99, h110, h97]
  have C98 := Aside0.mk h98
  have C99 := Aside0.mk h99
  have C110 := Aside0.mk h110
  have C97 := Aside0.mk h97
  clear h98 h99 h110 h97
  go_enter Tryd.func56, Tryd.ntmps56
  go_upto_region 1 with (fail)
  obtain ⟨W0, hW0⟩ : ∃ W0 : World, W0 = w.alloc (.cells #[.int .u8 o, .int .u8 f1, .int .u8 f2, .int .u8 f3, .int .i64 f4] 68) := ⟨_, rfl⟩
  have kR := fun j => cell_of_row W0 w.heap.size j _ _ _ (show W0.heap[w.heap.size]? = some (.cells #[.int .u8 o, .int .u8 f1, .int .u8 f2, .int .u8 f3, .int .i64 f4] 68 (0, 0)) by rw [hW0]; exact heap_alloc_new _ _)
  have HW := Aside0.mk (show Below w.heap.size w W0 by rw [hW0]; exact below_alloc (Below.refl _ _) _)
  rw [← hW0] at HOT HK ⊢
  clear hW0
  go_wp2_with (first
    | (go_at_call 89; (with_reducible refine (has_calls _ w.heap.size o H16.out 98 HOT.out HK.out).mono ?_); rintro e w' ⟨rfl, rfl⟩; rw [C98.out])
    | (go_at_call 89; (with_reducible refine (has_calls _ w.heap.size o H16.out 99 HOT.out HK.out).mono ?_); rintro e w' ⟨rfl, rfl⟩; rw [C99.out])
    | (go_at_call 89; (with_reducible refine (has_calls _ w.heap.size o H16.out 110 HOT.out HK.out).mono ?_); rintro e w' ⟨rfl, rfl⟩; rw [C110.out])
    | (go_at_call 89; (with_reducible refine (has_calls _ w.heap.size o H16.out 97 HOT.out HK.out).mono ?_); rintro e w' ⟨rfl, rfl⟩; rw [C97.out]))
  all_goals
    go_ret
    refine ⟨?_, HW.out⟩
    simp [*]
end
open Classical in
noncomputable def code_Right.f (f0 f1 f2 f3 f4 : Int) : Option Bool := if 0 ≤ f0 then some (if f0 < 1 ∨ 15 < f0 then false else rightB f0.toNat f1 f2 f3 f4) else none
theorem code_Right.calls (a0_0 a0_1 a0_2 a0_3 a0_4 : Int) (r : Bool) (w : World) (h : code_Right.f a0_0 a0_1 a0_2 a0_3 a0_4 = some r) (hot : OT w) :
    Calls Tryd.prog 56 #[.agg #[.int .u8 a0_0, .int .u8 a0_1, .int .u8 a0_2, .int .u8 a0_3, .int .i64 a0_4]] w fun e w' => e = .returned (.bool r) ∧ Below w.heap.size w w' := by
  unfold code_Right.f at h
  split at h
  · rename_i h0
    obtain ⟨o, rfl⟩ := Int.eq_ofNat_of_zero_le h0
    obtain rfl := Option.some.inj h
    by_cases ho : (o : Int) < 1 ∨ 15 < (o : Int)
    · rw [if_pos ho]
      exact right_out w o a0_1 a0_2 a0_3 a0_4 hot (by omega)
    · rw [if_neg ho, Int.toNat_natCast]
      exact right_in w o a0_1 a0_2 a0_3 a0_4 hot (by omega) (by omega)
  · cases h
end Go.Proofs.YtfkfpcciacplkaaDoor.CR

namespace Go.Proofs.YtfkfpcciacplkaaDoor.TRO
open Go.ChangeShapes Go.ChangeAt Go.RowKit Go.WideShapes Go.Proofs.YtfkfpcciacplkaaDoorW.PrintWords Go.Proofs.YtfkfpcciacplkaaDoor.F Go.Proofs.YtfkfpcciacplkaaDoor.T Go.Proofs.YtfkfpcciacplkaaDoor.CR
set_option linter.unusedVariables false
theorem add_add (a : Addr) (i j : Nat) : (a.add i).add j = a.add (i + j) := by
  unfold Addr.add
  by_cases h1 : i = 0 <;> by_cases h2 : j = 0 <;> simp [h1, h2, Nat.add_assoc]
theorem wf_u8 {n : Int} (h : (Lit.int .u8 n).wf = true) : 0 ≤ n ∧ n ≤ 255 := by
  simp [Lit.wf, IntKind.min, IntKind.max, IntKind.signed, IntKind.bits] at h
  omega
section
variable {H : Type} {enc : TypeId × Value → H} {P : Program} {W : World} {held : Bool} {sp : Nat → Bool}
theorem slice_row {α : Type} (d : Kd α) (z : α) {t e : TypeId} (ht : P.underlying t = some (.slice e)) (hsz : P.cellsOf e = d.sz)
    (each : ∀ {fuel : Nat} {cs : List Value} {x : DataW H × List MemPlace}, DataW.trod enc P W 0 sp held fuel e cs = some x → ∃ a, d.K W a cs)
    {fuel : Nat} {v : Value} {x : DataW H × List MemPlace} (h : DataW.trod enc P W 0 sp held fuel t [v] = some x) :
    ∃ (A : Option Addr) (c : Nat) (l : List α), v = .slice A l.length c ∧ l.length ≤ c ∧ Kd.C d W A l.length l := by
  rcases DataW.trod_slice ht h with ⟨h0, _⟩ | ⟨a, len, cap, elems, rest, n, _, h0, _, hb, hl, hm, hlen, hel, _, _⟩
  · injection h0 with h0
    exact ⟨none, 0, [], h0, Nat.le_refl _, Kd.C_nil _ _⟩
  · injection h0 with h0
    have each' : ∀ i, ∃ s : α, i < len → ∃ cs, d.K W s cs ∧ ∀ j u, cs[j]? = some u → W.cell? (a.add (i * d.sz + j)) = some u := by
      intro i
      by_cases hi : i < len
      · have h1 := hel i hi
        rw [List.getElem?_eq_getElem (by omega), hsz, Option.bind_eq_some_iff] at h1
        obtain ⟨cs, h2, h3⟩ := h1
        obtain ⟨s, hs⟩ := each h3
        obtain ⟨_, hln, h4⟩ := World.cells?_some h2
        refine ⟨s, fun _ => ⟨cs, hs, fun j u hu => ?_⟩⟩
        have hj := (List.getElem?_eq_some_iff.1 hu).1
        have h5 := h4 j (by omega)
        rw [hu] at h5
        rw [← h5, add_add]
      · exact ⟨z, fun h => absurd h hi⟩
    obtain ⟨f, hf⟩ := Classical.axiomOfChoice each'
    have hlm : ((List.range len).map f).length = len := by simp
    refine ⟨some a, cap, (List.range len).map f, by rw [hlm]; exact h0, by rw [hlm]; exact hl, ?_⟩
    rw [hlm]
    refine ⟨hlm, by unfold maxLen at hm; omega, fun _ => ⟨a, rfl, fun j p hp => ?_⟩⟩
    rw [List.getElem?_map] at hp
    by_cases hj : j < len
    · rw [List.getElem?_range hj] at hp
      obtain rfl := Option.some.inj hp
      obtain ⟨cs, hk, hc⟩ := hf j hj
      exact ⟨cs, d.K_len hk, hk, hc⟩
    · rw [List.getElem?_eq_none (by simpa using hj)] at hp
      cases hp
end
section
variable {H : Type} {enc : TypeId × Value → H} {W : World} {held : Bool} {sp : Nat → Bool}
theorem ints_row {fuel : Nat} {v : Value} {x : DataW H × List MemPlace} (h : DataW.trod enc Tryd.prog W 0 sp held fuel 23 [v] = some x) :
    ∃ (A : Option Addr) (c : Nat) (l : List Int), v = .slice A l.length c ∧ l.length ≤ c ∧ Kd.C (Kd.int .i64) W A l.length l :=
  slice_row (Kd.int .i64) 0 Tryd.underlying23 (by kernel_rfl) (fun h => by
    obtain ⟨n, e, _⟩ := DataW.trod_int Tryd.underlying2 h
    exact ⟨n, e⟩) h
set_option maxRecDepth 100000 in
theorem ops_cells {base fuel : Nat} {cs : List Value} {p : List MemPlace} (h : DataW.trod enc Tryd.prog W base sp held fuel 142 cs = some (.agg (opsL.map fun x => .agg [.lit (.string x.1), .lit (.string x.2)]), p)) : cs = opsC := by
  obtain ⟨xs, m, _, hx, hl, hxl, hf⟩ := DataW.trod_array Tryd.underlying142 h
  have hc : Tryd.prog.cellsOf 142 = 32 := by kernel_rfl
  have ce : Tryd.prog.cellsOf 141 = 2 := by kernel_rfl
  have cs1 : Tryd.prog.cellsOf 9 = 1 := by kernel_rfl
  rw [hc] at hl
  rw [ce] at hf
  have hm : xs.map (·.1) = opsL.map fun x => (.agg [.lit (.string x.1), .lit (.string x.2)] : DataW H) := by
    have := congrArg Prod.fst hx
    injection this with this
    exact this.symm
  have key : ∀ q, q < 16 → ∀ a b, opsL[q]? = some (a, b) → (cs.drop (q * 2)).take 2 = [Value.string ⟨a.toArray⟩, Value.string ⟨b.toArray⟩] := by
    intro q hq a b hab
    have h1 := hf q hq
    have h2 : (xs[q]?).map (·.1) = some (.agg [.lit (.string a), .lit (.string b)]) := by
      rw [← List.getElem?_map, hm, List.getElem?_map, hab]
      rfl
    rw [← h1, Option.map_eq_some_iff] at h2
    obtain ⟨y, h3, h4⟩ := h2
    obtain ⟨ys, n, _, hy, hyl, hys, hg⟩ := DataW.trod_struct Tryd.underlying141 h3
    rw [ce] at hyl
    generalize (cs.drop (q * 2)).take 2 = l at hyl hg ⊢
    match l, hyl with
    | [u, v], _ =>
      match ys, hys with
      | [y0, y1], _ =>
        obtain ⟨s0, e0, f0, _⟩ := DataW.trod_string Tryd.underlying9 (hg 0 _ rfl)
        obtain ⟨s1, e1, f1, _⟩ := DataW.trod_string Tryd.underlying9 (hg 1 _ rfl)
        have e0' : u = .string s0 := by simpa [cs1] using e0
        have e1' : v = .string s1 := by simpa [cs1] using e1
        rw [hy] at h4
        simp only [List.map_cons, List.map_nil] at h4
        injection h4 with h4
        injection h4 with h5 h6
        injection h6 with h6 _
        have g0 := congrArg Prod.fst f0
        have g1 := congrArg Prod.fst f1
        simp only at g0 g1
        rw [g0] at h5
        rw [g1] at h6
        injection h5 with h5
        injection h5 with h5
        injection h6 with h6
        injection h6 with h6
        rw [e0', e1', ← h5, ← h6]
  apply List.ext_getElem?
  intro i
  by_cases hi : i < 32
  · have hr : i % 2 < 2 := Nat.mod_lt _ (by decide)
    have hd : i / 2 < 16 := by omega
    have hi2 : i = i / 2 * 2 + i % 2 := by omega
    generalize i / 2 = q at hd hi2
    generalize i % 2 = r at hr hi2
    subst hi2
    have e : cs[q * 2 + r]? = ((cs.drop (q * 2)).take 2)[r]? := by
      rw [List.getElem?_take, if_pos hr, List.getElem?_drop]
    rw [e]
    have hq : ∃ a b, opsL[q]? = some (a, b) := by
      have : q < opsL.length := hd
      exact ⟨_, _, List.getElem?_eq_getElem this⟩
    obtain ⟨a, b, hab⟩ := hq
    rw [key q hd a b hab]
    clear e key hf hm hx h hl hi
    obtain rfl | rfl | rfl | rfl | rfl | rfl | rfl | rfl | rfl | rfl | rfl | rfl | rfl | rfl | rfl | rfl : q = 0 ∨ q = 1 ∨ q = 2 ∨ q = 3 ∨ q = 4 ∨ q = 5 ∨ q = 6 ∨ q = 7 ∨ q = 8 ∨ q = 9 ∨ q = 10 ∨ q = 11 ∨ q = 12 ∨ q = 13 ∨ q = 14 ∨ q = 15 := by omega
    all_goals
      obtain ⟨rfl, rfl⟩ := Prod.mk.inj (Option.some.inj hab)
      obtain rfl | rfl : r = 0 ∨ r = 1 := by omega
      all_goals rfl
  · rw [List.getElem?_eq_none (by omega), List.getElem?_eq_none (by show 32 ≤ i; omega)]
end
def L22 : List (String × DataW Unit) := [("lockstitch/code.ops", Rows.laid_lockstitch_code_ops)]
theorem door_met (os : Os) (args : Array Value) : laidMetH Tryd.prog L22 ((World.doorLaid Tryd.prog 400 os).forCall (fun _ _ => 0) ⟨#[], args, []⟩).memory :=
  laidMetH_of_parts3 (fuel := 8) (laidMet_of_run' 8 (by kernel_rfl) (by kernel_rfl)) (by kernel_rfl) (by kernel_rfl)
theorem ot {W : World} (h : laidMetH Tryd.prog L22 W) : OT W := by
  rw [MakeChecks.laidMetH_plain _ _ _ (by kernel_rfl)] at h
  obtain ⟨ps, ⟨g0, t0, cs0, f0, p0, q0, hg, ht, hv, hd, _, _⟩, _, _⟩ := h
  obtain rfl := Option.some.inj ((show Tryd.prog.globalNamed "lockstitch/code.ops" = some 0 by kernel_rfl).symm.trans hg)
  obtain rfl := Option.some.inj ((show (Tryd.prog.globals[0]?).map (·.type) = some 142 by kernel_rfl).symm.trans ht)
  have e := ops_cells hd
  unfold OT
  rw [hv, ← e]
end Go.Proofs.YtfkfpcciacplkaaDoor.TRO

namespace Go.Proofs.YtfkfpcciacplkaaDoor.FM
open Go.RowKit Go.Proofs.YtfkfpcciacplkaaDoorW.PrintWords
def TB (w : World) : Prop := Lib.TabIs Tryd.prog w "internal/strconv.uint64pow10" .u64 Lib.pow10Tab
theorem TB_below {w w' : World} (h : TB w) (hb : Below w.heap.size w w') : TB w' := by
  have hg : Tryd.prog.globalNamed "internal/strconv.uint64pow10" = some 2 := by kernel_rfl
  unfold TB Lib.TabIs World.var? at h ⊢
  rw [hg] at h ⊢
  simp only [Option.bind_some] at h ⊢
  have hlt : 2 < w.heap.size := by
    rcases Nat.lt_or_ge 2 w.heap.size with h' | h'
    · exact h'
    · rw [Array.getElem?_eq_none h'] at h; cases h
  rw [hb.block 2 hlt]
  exact h
def num (n : Int) : ByteArray := ⟨(Lib.itoa n).toArray⟩
def strconv_FormatInt.f (a0 : Int) (a1 : Int) : Option ByteArray := if a1 = 10 ∧ -9223372036854775808 ≤ a0 ∧ a0 ≤ 9223372036854775807 then some (num a0) else none
theorem strconv_FormatInt.calls (a0 : Int) (a1 : Int) (r : ByteArray) (w : World) (h : strconv_FormatInt.f a0 a1 = some r) (ht : TB w) :
    Calls Tryd.prog 113 #[.int .i64 a0, .int .i64 a1] w fun e w' => e = .returned (.string r) ∧ Below w.heap.size w w' := by
  unfold strconv_FormatInt.f at h
  split at h
  · rename_i hh
    obtain ⟨rfl, h0, h1⟩ := hh
    obtain rfl := Option.some.inj h
    refine (Tryd.strconv_FormatInt_10 a0 h0 h1 w ht).mono ?_
    rintro e w' ⟨he, k, os, rfl⟩
    exact ⟨he, Lib.below_grow _ w (Nat.le_refl _) k os⟩
  · cases h
end Go.Proofs.YtfkfpcciacplkaaDoor.FM

namespace Go.Proofs.YtfkfpcciacplkaaDoor.KP
open Go.RowKit Go.Proofs.YtfkfpcciacplkaaDoorW.PrintWords Go.Proofs.YtfkfpcciacplkaaDoor.Scan Go.Proofs.YtfkfpcciacplkaaDoor.F
def dg (c n : Int) : Int := if 48 ≤ c ∧ c - 48 < n then c - 48 else -1
theorem ref_digit_val {c n : Int} (h0 : 0 ≤ c) (h1 : c ≤ 255) : lockstitchref03_digit.f c n = some (dg c n) := by
  unfold lockstitchref03_digit.f dg
  by_cases h : c < 48
  · rw [if_pos h, if_neg (by omega)]
  · have e : (c - 48) % 256 = c - 48 := by omega
    rw [if_neg h, e]
    by_cases h' : c - 48 < n
    · rw [if_neg (by omega), if_pos (by omega)]
    · rw [if_pos (by omega), if_neg (by omega)]
def OkC (n c : Int) : Prop := c = 105 ∨ 0 ≤ dg c n
instance (n c : Int) : Decidable (OkC n c) := by unfold OkC; infer_instance
def AllC (n : Int) (s : ByteArray) : Prop := ∀ j : Int, 0 ≤ j → j < s.size → OkC n (bt s j)
def AllD (n : Int) (s : ByteArray) : Prop := ∀ j : Int, 0 ≤ j → j < s.size → 0 ≤ dg (bt s j) n
def OkT (n : Int) (s : ByteArray) : Prop := 1 ≤ s.size ∧ s.size ≤ 6 ∧ AllC n s
def Rt (ts : List ByteArray) : Prop := (∀ i : Int, 0 ≤ i → i < ts.length → OkT ts.length (rdOf ByteArray.empty ts i)) ∧ 1 ≤ ts.length ∧ ts.length ≤ 8
open Classical in
noncomputable def right (ts : List ByteArray) : Bool := decide (Rt ts)
open Classical in
noncomputable def refs (ts : List ByteArray) (s : ByteArray) : Bool := decide (Rt ts ∧ AllD ts.length s)
theorem right_iff (ts : List ByteArray) : right ts = true ↔ Rt ts := by simp [right]
theorem refs_iff (ts : List ByteArray) (s : ByteArray) : refs ts s = true ↔ Rt ts ∧ AllD ts.length s := by simp [refs]
theorem wrap_succ {i n : Int} (h0 : 0 ≤ i) (h : i < n) (hn : n ≤ 9223372036854775807) : wrap64 (i + 1) = i + 1 := by unfold wrap64; omega
theorem toList_nil (s : ByteArray) : s.toList = [] ↔ s.size = 0 := by
  rw [ByteArray.toList_eq]
  constructor
  · intro h
    have := data_length s
    rw [h] at this
    simpa using this.symm
  · intro h
    have := data_length s
    rw [h] at this
    exact List.length_eq_zero_iff.1 this
theorem rd_size (ts : List ByteArray) (hs : ∀ s ∈ ts, (s.size : Int) ≤ 9223372036854775807) (i : Int) : ((rdOf ByteArray.empty ts i).size : Int) ≤ 9223372036854775807 := by
  unfold rdOf
  rw [List.getD_eq_getElem?_getD]
  cases h : ts[i.toNat]? with
  | none => simp
  | some s => exact hs s (List.mem_of_getElem? h)
theorem ref_l1_step (ts : List ByteArray) (i : Int) (s : ByteArray) (hz : (s.size : Int) ≤ 9223372036854775807) (j : Int) (q : Bool) (h0 : 0 ≤ j) (h1 : j < s.size) (hk : OkC ts.length (bt s j))
    (hq : Ev (fun k => lockstitchref03_Right.l1 k ts i s (j + 1)) q) : Ev (fun k => lockstitchref03_Right.l1 k ts i s j) q := by
  refine ev_step (fun k => ?_) hq
  have hb := bt_range s j
  show lockstitchref03_Right.l1 (k + 1) ts i s j = lockstitchref03_Right.l1 k ts i s (j + 1)
  rw [lockstitchref03_Right.l1, if_pos h1, if_pos h0, wrap_succ h0 h1 hz]
  by_cases hc : bt s j = 105
  · rw [if_pos hc]
  · rw [if_neg hc, ref_digit_val hb.1 hb.2, Option.bind_some, if_neg (by have := hk.resolve_left hc; omega)]
theorem ref_l1_bad (ts : List ByteArray) (i : Int) (s : ByteArray) (j : Int) (h0 : 0 ≤ j) (h1 : j < s.size) (hk : ¬ OkC ts.length (bt s j)) :
    Ev (fun k => lockstitchref03_Right.l1 k ts i s j) false := by
  refine ev_some fun k => ?_
  have hb := bt_range s j
  rw [lockstitchref03_Right.l1, if_pos h1, if_pos h0]
  rw [if_neg (fun hc => hk (.inl hc)), ref_digit_val hb.1 hb.2, Option.bind_some, if_pos (by have : ¬ 0 ≤ dg (bt s j) ts.length := fun hd => hk (.inr hd); omega)]
theorem ref_Right_ev (ts : List ByteArray) (hl : (ts.length : Int) ≤ 9223372036854775807) (hs : ∀ s ∈ ts, (s.size : Int) ≤ 9223372036854775807) : Ev (fun k => lockstitchref03_Right.f k ts) (right ts) := by
  classical
  have H1 : ∀ i q, 0 ≤ i → i < (ts.length : Int) → OkT ts.length (rdOf ByteArray.empty ts i) → Ev (fun k => lockstitchref03_Right.l0 k ts (i + 1)) q → Ev (fun k => lockstitchref03_Right.l0 k ts i) q := by
    intro i q h0 h1 hk hq
    have hz := rd_size ts hs i
    refine ev_step (f := fun k => lockstitchref03_Right.l1 k ts i (rdOf ByteArray.empty ts i) 0) (fun k => ?_) ?_
    · show lockstitchref03_Right.l0 (k + 1) ts i = _
      rw [lockstitchref03_Right.l0, if_pos h1, if_pos h0]
    · refine scan0_good (fun k j => lockstitchref03_Right.l1 k ts i (rdOf ByteArray.empty ts i) j) _ q _ (by omega) (fun j q' a b c d => ref_l1_step ts i _ hz j q' a b c d) ?_ hk.2.2
      refine ev_step (fun k => ?_) hq
      show lockstitchref03_Right.l1 (k + 1) _ _ _ _ = _
      have := hk.1
      have := hk.2.1
      rw [lockstitchref03_Right.l1, if_neg (by omega), if_neg (by omega), if_neg (by omega), wrap_succ h0 h1 hl]
  have H2 : ∀ i, 0 ≤ i → i < (ts.length : Int) → ¬ OkT ts.length (rdOf ByteArray.empty ts i) → Ev (fun k => lockstitchref03_Right.l0 k ts i) false := by
    intro i h0 h1 hk
    have hz := rd_size ts hs i
    refine ev_step (f := fun k => lockstitchref03_Right.l1 k ts i (rdOf ByteArray.empty ts i) 0) (fun k => ?_) ?_
    · show lockstitchref03_Right.l0 (k + 1) ts i = _
      rw [lockstitchref03_Right.l0, if_pos h1, if_pos h0]
    · by_cases ha : AllC ts.length (rdOf ByteArray.empty ts i)
      · refine scan0_good (fun k j => lockstitchref03_Right.l1 k ts i (rdOf ByteArray.empty ts i) j) _ false _ (by omega) (fun j q' a b c d => ref_l1_step ts i _ hz j q' a b c d) (ev_some fun k => ?_) ha
        rw [lockstitchref03_Right.l1, if_neg (by omega)]
        by_cases h1' : ((rdOf ByteArray.empty ts i).size : Int) < 1
        · rw [if_pos h1']
        · rw [if_neg h1', if_pos]
          have : ¬ (1 ≤ (rdOf ByteArray.empty ts i).size ∧ (rdOf ByteArray.empty ts i).size ≤ 6) := fun h => hk ⟨h.1, h.2, ha⟩
          omega
      · exact scan0_bad (fun k j => lockstitchref03_Right.l1 k ts i (rdOf ByteArray.empty ts i) j) _ false (fun j => OkC ts.length (bt (rdOf ByteArray.empty ts i) j)) (by omega) (fun j q' a b c d => ref_l1_step ts i _ hz j q' a b c d) (fun j a b c => ref_l1_bad ts i _ j a b c) ha
  show Ev (fun k => lockstitchref03_Right.l0 k ts 0) (right ts)
  by_cases h : ∀ i : Int, 0 ≤ i → i < ts.length → OkT ts.length (rdOf ByteArray.empty ts i)
  · have e : right ts = decide (1 ≤ ts.length ∧ ts.length ≤ 8) := by
      unfold right
      rw [decide_eq_decide]
      exact ⟨fun x => x.2, fun x => ⟨h, x⟩⟩
    rw [e]
    refine scan0_good (fun k i => lockstitchref03_Right.l0 k ts i) _ _ _ (by omega) H1 (ev_some fun k => ?_) h
    simp only [lockstitchref03_Right.l0]
    rw [if_neg (by omega)]
    by_cases h : 1 ≤ ts.length
    · rw [if_pos (by omega)]
      congr 1
      rw [decide_eq_decide]
      omega
    · rw [if_neg (by omega)]
      congr 1
      symm
      rw [decide_eq_false_iff_not]
      omega
  · have e : right ts = false := by
      unfold right
      rw [decide_eq_false_iff_not]
      exact fun x => h x.1
    rw [e]
    exact scan0_bad (fun k i => lockstitchref03_Right.l0 k ts i) _ false _ (by omega) H1 H2 h
theorem ref_Refs_ev (ts : List ByteArray) (s : ByteArray) (hl : (ts.length : Int) ≤ 9223372036854775807) (hs : ∀ s ∈ ts, (s.size : Int) ≤ 9223372036854775807) (hz : (s.size : Int) ≤ 9223372036854775807) :
    Ev (fun k => lockstitchref03_Refs.f k ts s) (refs ts s) := by
  classical
  have H1 : ∀ i q, 0 ≤ i → i < (s.size : Int) → 0 ≤ dg (bt s i) ts.length → Ev (fun k => lockstitchref03_Refs.l0 k ts s (i + 1)) q → Ev (fun k => lockstitchref03_Refs.l0 k ts s i) q := by
    intro i q h0 h1 hk hq
    have hb := bt_range s i
    refine ev_step (fun k => ?_) hq
    show lockstitchref03_Refs.l0 (k + 1) _ _ _ = lockstitchref03_Refs.l0 k ts s (i + 1)
    rw [lockstitchref03_Refs.l0, if_pos h1, if_pos h0, ref_digit_val hb.1 hb.2, Option.bind_some, if_neg (by omega), wrap_succ h0 h1 hz]
  have H2 : ∀ i, 0 ≤ i → i < (s.size : Int) → ¬ 0 ≤ dg (bt s i) ts.length → Ev (fun k => lockstitchref03_Refs.l0 k ts s i) false := by
    intro i h0 h1 hk
    have hb := bt_range s i
    refine ev_some fun k => ?_
    rw [lockstitchref03_Refs.l0, if_pos h1, if_pos h0, ref_digit_val hb.1 hb.2, Option.bind_some, if_pos (by omega)]
  show Ev (fun k => lockstitchref03_Refs.l0 k ts s 0) (refs ts s)
  by_cases h : AllD ts.length s
  · have e : refs ts s = right ts := by
      unfold refs right
      rw [decide_eq_decide]
      exact ⟨fun x => x.1, fun x => ⟨x, h⟩⟩
    rw [e]
    refine scan0_good (fun k i => lockstitchref03_Refs.l0 k ts s i) _ _ _ (by omega) H1 ?_ h
    refine ev_step (f := fun k => (lockstitchref03_Right.f k ts).bind fun t => some t) (fun k => ?_) (ev_bind (ref_Right_ev ts hl hs) ev_const)
    show lockstitchref03_Refs.l0 (k + 1) _ _ _ = _
    rw [lockstitchref03_Refs.l0, if_neg (by omega)]
  · have e : refs ts s = false := by
      unfold refs
      rw [decide_eq_false_iff_not]
      exact fun x => h x.2
    rw [e]
    exact scan0_bad (fun k i => lockstitchref03_Refs.l0 k ts s i) _ false _ (by omega) H1 H2 h
def Is (ts : List ByteArray) (t : Int) : Prop := Rt ts ∧ 0 ≤ t ∧ t < ts.length
open Classical in
noncomputable def typ (ts : List ByteArray) (t : Int) : ByteArray := if Is ts t then rdOf ByteArray.empty ts t else ⟨#[]⟩
theorem typ_is {ts : List ByteArray} {t : Int} (h : Is ts t) : typ ts t = rdOf ByteArray.empty ts t := by unfold typ; rw [if_pos h]
theorem typ_not {ts : List ByteArray} {t : Int} (h : ¬ Is ts t) : typ ts t = ⟨#[]⟩ := by unfold typ; rw [if_neg h]
theorem typ_ok {ts : List ByteArray} {t : Int} (h : Is ts t) : OkT ts.length (typ ts t) := by rw [typ_is h]; exact h.1.1 t h.2.1 h.2.2
theorem typ_le (ts : List ByteArray) (t : Int) : (typ ts t).size ≤ 6 := by
  by_cases h : Is ts t
  · exact (typ_ok h).2.1
  · rw [typ_not h]; decide
noncomputable def size (ts : List ByteArray) (t : Int) : Int := ((typ ts t).size : Int)
open Classical in
noncomputable def to_ (ts : List ByteArray) (t f : Int) : Int := if 0 ≤ f ∧ f < size ts t then dg (bt (typ ts t) f) ts.length else -1
theorem right_cases (ts : List ByteArray) : (right ts = true ∧ Rt ts) ∨ (right ts = false ∧ ¬ Rt ts) := by
  classical
  by_cases h : Rt ts
  · exact .inl ⟨(right_iff ts).2 h, h⟩
  · refine .inr ⟨?_, h⟩
    cases e : right ts
    · rfl
    · exact absurd ((right_iff ts).1 e) h
section
variable (ts : List ByteArray) (hl : (ts.length : Int) ≤ 9223372036854775807) (hs : ∀ s ∈ ts, (s.size : Int) ≤ 9223372036854775807)
include hl hs
open Classical in
theorem ref_is_ev (t : Int) : Ev (fun k => lockstitchref03_is.f k ts t) (decide (Is ts t)) := by
  refine ev_bind (ref_Right_ev ts hl hs) (ev_all fun k => ?_)
  rcases right_cases ts with ⟨e, h⟩ | ⟨e, h⟩
  · rw [e, if_pos rfl]
    by_cases h0 : t ≥ 0
    · rw [if_pos h0]
      congr 1
      rw [decide_eq_decide]
      exact ⟨fun x => ⟨h, h0, x⟩, fun x => x.2.2⟩
    · rw [if_neg h0]
      congr 1
      symm
      rw [decide_eq_false_iff_not]
      exact fun x => h0 x.2.1
  · rw [e, if_neg (by decide)]
    congr 1
    symm
    rw [decide_eq_false_iff_not]
    exact fun x => h x.1
theorem ref_Size_ev (t : Int) : Ev (fun k => lockstitchref03_Size.f k ts t) (size ts t) := by
  classical
  refine ev_bind (ref_is_ev ts hl hs t) (ev_all fun k => ?_)
  unfold size
  by_cases h : Is ts t
  · rw [decide_eq_true h, if_pos rfl, if_pos h.2.1, if_pos h.2.2, typ_is h]
  · rw [decide_eq_false h, if_neg (by decide), typ_not h]
    rfl
theorem ref_To_ev (t f : Int) : Ev (fun k => lockstitchref03_To.f k ts t f) (to_ ts t f) := by
  classical
  refine ev_bind (ref_is_ev ts hl hs t) (ev_all fun k => ?_)
  unfold to_ size
  by_cases h : Is ts t
  · have hb := bt_range (rdOf ByteArray.empty ts t) f
    rw [decide_eq_true h, if_pos rfl, typ_is h]
    by_cases h0 : f < 0
    · rw [if_pos h0, if_neg (by omega)]
    · by_cases h1 : f ≥ (rdOf ByteArray.empty ts t).size
      · rw [if_neg h0, if_pos h.2.1, if_pos h.2.2, if_pos h1, if_neg (by omega)]
      · rw [if_neg h0, if_pos h.2.1, if_pos h.2.2, if_neg h1, if_pos (by omega), if_pos (by omega), ref_digit_val hb.1 hb.2, if_pos (by omega)]
        rfl
  · rw [decide_eq_false h, if_neg (by decide), typ_not h, if_neg]
    have : (⟨#[]⟩ : ByteArray).size = 0 := rfl
    omega
end
noncomputable def mk (ts : List ByteArray) (t : Int) : Nat → Int
  | 0 => 0
  | i + 1 => mk ts t i + if 0 ≤ to_ ts t i then 2 ^ i else 0
noncomputable def mask (ts : List ByteArray) (t : Int) : Int := mk ts t (typ ts t).size
section
variable (ts : List ByteArray) (hl : (ts.length : Int) ≤ 9223372036854775807) (hs : ∀ s ∈ ts, (s.size : Int) ≤ 9223372036854775807)
include hl hs
end
def Few (ts : List ByteArray) : Prop := (∀ i : Int, 0 ≤ i → i < ts.length → ((rdOf ByteArray.empty ts i).size : Int) ≤ 50) ∧ ts.length ≤ 20
open Classical in
theorem rd_eq (xs : List Int) (i : Nat) (h : i < xs.length) : rd xs i = xs[i] := by
  unfold rd
  rw [Int.toNat_natCast, List.getD_eq_getElem?_getD, List.getElem?_eq_getElem h, Option.getD_some]
end Go.Proofs.YtfkfpcciacplkaaDoor.KP

namespace Go.Proofs.YtfkfpcciacplkaaDoor.SH
set_option linter.unusedVariables false
def intsB (o : Nat) (f1 f2 f3 : Int) : Bool := if o = 1 ∨ o = 4 ∨ o = 8 ∨ o = 14 ∨ o = 15 then decide (f1 < 8) else if o = 2 then decide (f1 < 8) && (decide (f2 < 8) && decide (f3 < 8)) else if o = 9 then decide (f2 < 8) else true
end Go.Proofs.YtfkfpcciacplkaaDoor.SH

namespace Go.Proofs.YtfkfpcciacplkaaDoor.PL
open Go.RowKit Go.Proofs.YtfkfpcciacplkaaDoorW.PrintWords Go.Proofs.YtfkfpcciacplkaaDoor.F Go.Proofs.YtfkfpcciacplkaaDoor.KP Go.Proofs.YtfkfpcciacplkaaDoor.CR Go.Proofs.YtfkfpcciacplkaaDoor.SH
set_option linter.unusedVariables false
noncomputable def atv (ts : List ByteArray) (s : ByteArray) (a : Int) : Int := if a < s.size ∧ refs ts (s.extract a.toNat (a + 1).toNat) = true then (bt s a - 48) % 256 else -1
theorem atv_lt {ts : List ByteArray} {s : ByteArray} {a : Int} (h : 0 ≤ atv ts s a) : a < s.size := by
  unfold atv at h
  split at h
  · rename_i hh
    exact hh.1
  · omega
def KindsP (ts : List ByteArray) (la gl : ByteArray) (o : Nat) (f1 f2 f3 f4 : Int) : Prop :=
  (o = 5 ∨ o = 6 → 0 ≤ atv ts la f1) ∧ (o = 7 → 0 ≤ atv ts la f1 ∧ atv ts la f1 = atv ts la f2) ∧ (o = 15 → 0 ≤ atv ts la f2 ∧ atv ts la f2 = atv ts la f3) ∧
  (o = 8 → 0 ≤ atv ts la f2 ∧ 0 ≤ f4 ∧ f4 < size ts (atv ts la f2) ∧ to_ ts (atv ts la f2) f4 < 0) ∧ (o = 9 → 0 ≤ atv ts la f1 ∧ 0 ≤ f4 ∧ f4 < size ts (atv ts la f1) ∧ to_ ts (atv ts la f1) f4 < 0) ∧
  (o = 10 → 0 ≤ atv ts la f2 ∧ 0 ≤ atv ts la f1 ∧ atv ts la f1 = to_ ts (atv ts la f2) f4) ∧ (o = 11 → 0 ≤ atv ts la f1 ∧ 0 ≤ atv ts la f2 ∧ atv ts la f2 = to_ ts (atv ts la f1) f4) ∧
  (o = 12 → 0 ≤ atv ts la f1 ∧ atv ts la f1 = atv ts gl f2) ∧ (o = 13 → 0 ≤ atv ts la f2 ∧ atv ts la f2 = atv ts gl f1)
structure InsP (ts : List ByteArray) (la gl : ByteArray) (n : Nat) (o : Nat) (f1 f2 f3 f4 : Int) : Prop where
  op : 1 ≤ o ∧ o ≤ 15
  right : rightB o f1 f2 f3 f4 = true
  jump : o = 3 ∨ o = 4 → 0 ≤ f4 ∧ f4 ≤ n
  ints : intsB o f1 f2 f3 = true
  kinds : KindsP ts la gl o f1 f2 f3 f4
end Go.Proofs.YtfkfpcciacplkaaDoor.PL

namespace Go.Proofs.YtfkfpcciacplkaaDoor.PL
open Go.RowKit Go.Proofs.YtfkfpcciacplkaaDoorW.PrintWords Go.Proofs.YtfkfpcciacplkaaDoor.Scan Go.Proofs.YtfkfpcciacplkaaDoor.F Go.Proofs.YtfkfpcciacplkaaDoor.KP Go.Proofs.YtfkfpcciacplkaaDoor.CR Go.Proofs.YtfkfpcciacplkaaDoor.SH Go.Proofs.YtfkfpcciacplkaaDoor.FM
set_option linter.unusedVariables false
set_option linter.unusedSectionVars false
abbrev Fit (s : ByteArray) : Prop := (s.size : Int) ≤ 9223372036854775807
theorem extract_fit {s : ByteArray} (h : Fit s) (a b : Nat) : Fit (s.extract a b) := by
  unfold Fit at *
  rw [ByteArray.size_extract]
  omega
def WfI (x0 x1 x2 x3 x4 : Int) : Prop := (0 ≤ x0 ∧ x0 ≤ 255) ∧ (0 ≤ x1 ∧ x1 ≤ 255) ∧ (0 ≤ x2 ∧ x2 ≤ 255) ∧ (0 ≤ x3 ∧ x3 ≤ 255) ∧ -9223372036854775808 ≤ x4 ∧ x4 ≤ 9223372036854775807
def WfC (code : List S68) : Prop := ∀ x ∈ code, WfI x.f0 x.f1 x.f2 x.f3 x.f4
structure Pg where
  A0 : Option Addr
  c0 : Nat
  ts : List ByteArray
  la : ByteArray
  gl : ByteArray
  A3 : Option Addr
  c3 : Nat
  code : List S68
abbrev Pg.v (p : Pg) : Value := .agg #[.slice p.A0 p.ts.length p.c0, .string p.la, .string p.gl, .slice p.A3 p.code.length p.c3]
structure Pg.In (p : Pg) (w : World) : Prop where
  hT : Kd.C Kd.string w p.A0 p.ts.length p.ts
  hc0 : p.ts.length ≤ p.c0
  hC : Kd.C k68 w p.A3 p.code.length p.code
  hc3 : p.code.length ≤ p.c3
  hs : ∀ s ∈ p.ts, Fit s
  hla : Fit p.la
  hgl : Fit p.gl
  hw : WfC p.code
  tb : TB w
theorem Pg.In.below {p : Pg} {w w' : World} (h : p.In w) (hb : Below w.heap.size w w') : p.In w' := ⟨Kd.C_below h.hT hb, h.hc0, Kd.C_below h.hC hb, h.hc3, h.hs, h.hla, h.hgl, h.hw, TB_below h.tb hb⟩
theorem Pg.In.hl {p : Pg} {w : World} (h : p.In w) : (p.ts.length : Int) ≤ 9223372036854775807 := by have := Kd.C_max h.hT; omega
theorem Pg.In.hc {p : Pg} {w : World} (h : p.In w) : (p.code.length : Int) ≤ 9223372036854775807 := by have := Kd.C_max h.hC; omega
section
variable (ts : List ByteArray) (hl : (ts.length : Int) ≤ 9223372036854775807) (hs : ∀ s ∈ ts, (s.size : Int) ≤ 9223372036854775807) (la gl : ByteArray) (code : List S68)
include hl hs
theorem at_ev (s : ByteArray) (hz : Fit s) (a : Int) (h0 : 0 ≤ a) (h255 : a ≤ 255) : Ev (fun k => lockstitchref05_at.f k ts s a) (atv ts s a) := by
  have e : wrap64 a = a := by unfold wrap64; omega
  have e1 : wrap64 (a + 1) = a + 1 := by unfold wrap64; omega
  unfold lockstitchref05_at.f atv
  simp only [e, e1]
  by_cases h : a ≥ (s.size : Int)
  · refine Ev.congr (fun k => if_pos h) ?_
    rw [if_neg (fun hh => by omega)]
    exact ev_const
  · have hr := ref_Refs_ev ts (s.extract a.toNat (a + 1).toNat) hl hs (extract_fit hz _ _)
    refine Ev.congr (fun k => if_neg h) (Ev.congr (fun k => if_pos h0) (Ev.congr (fun k => if_pos (by omega)) (Ev.congr (fun k => if_pos (by omega)) (ev_bind hr ?_))))
    by_cases hb : refs ts (s.extract a.toNat (a + 1).toNat) = true
    · refine Ev.congr (fun k => if_pos hb) (Ev.congr (fun k => if_pos h0) (Ev.congr (fun k => if_pos (by omega)) ?_))
      rw [if_pos ⟨by omega, hb⟩]
      exact ev_const
    · refine Ev.congr (fun k => if_neg hb) ?_
      rw [if_neg (fun hh => hb hh.2)]
      exact ev_const
noncomputable def numB (ts : List ByteArray) (t n : Int) : Bool := if n < 0 ∨ n ≥ size ts t then false else decide (to_ ts t n < 0)
theorem number_ev (t n : Int) : Ev (fun k => lockstitchref05_number.f k ts la gl code t n) (numB ts t n) := by
  unfold numB
  by_cases h0 : n < 0
  · rw [if_pos (.inl h0)]
    exact Ev.congr (fun k => if_pos h0) ev_const
  · by_cases h1 : n ≥ size ts t
    · rw [if_pos (.inr h1)]
      exact Ev.congr (fun k => if_neg h0) (ev_bind (ref_Size_ev ts hl hs t) (Ev.congr (fun k => if_pos h1) ev_const))
    · rw [if_neg (by rintro (h | h); exact h0 h; exact h1 h)]
      exact Ev.congr (fun k => if_neg h0) (ev_bind (ref_Size_ev ts hl hs t) (Ev.congr (fun k => if_neg h1) (ev_bind (ref_To_ev ts hl hs t n) ev_const)))
theorem to_ev (t n : Int) : Ev (fun k => lockstitchref05_to.f k ts la gl code t n) (to_ ts t n) := by
  by_cases h0 : n < 0
  · rw [show to_ ts t n = -1 from if_neg (by omega)]
    exact Ev.congr (fun k => if_pos h0) ev_const
  · refine Ev.congr (fun k => if_neg h0) ?_
    by_cases h6 : n > 6
    · have := typ_le ts t
      rw [show to_ ts t n = -1 from if_neg (by unfold size; omega)]
      exact Ev.congr (fun k => if_pos h6) ev_const
    · exact Ev.congr (fun k => if_neg h6) (ev_bind (ref_To_ev ts hl hs t n) ev_const)
end
section
variable (p : Pg) (w : World) (h : p.In w)
include h
theorem Local_c (a : Int) (h0 : 0 ≤ a) (h1 : a ≤ 255) : Calls Tryd.prog 82 #[p.v, .int .u8 a] w fun e w' => e = .returned (.int .i64 (atv p.ts p.la a)) ∧ Below w.heap.size w w' := by
  obtain ⟨k, hk⟩ := ev_at (ev_bind (f := fun _ x => some x) (at_ev p.ts h.hl h.hs p.la h.hla a h0 h1) ev_const)
  exact lockstitchref05_Local.calls k p.A0 p.c0 p.ts p.la p.gl p.A3 p.c3 p.code a _ w h.hT h.hc0 h.hC h.hc3 hk
theorem Glob_c (a : Int) (h0 : 0 ≤ a) (h1 : a ≤ 255) : Calls Tryd.prog 86 #[p.v, .int .u8 a] w fun e w' => e = .returned (.int .i64 (atv p.ts p.gl a)) ∧ Below w.heap.size w w' := by
  obtain ⟨k, hk⟩ := ev_at (ev_bind (f := fun _ x => some x) (at_ev p.ts h.hl h.hs p.gl h.hgl a h0 h1) ev_const)
  exact lockstitchref05_Glob.calls k p.A0 p.c0 p.ts p.la p.gl p.A3 p.c3 p.code a _ w h.hT h.hc0 h.hC h.hc3 hk
theorem number_c (t n : Int) : Calls Tryd.prog 84 #[p.v, .int .i64 t, .int .i64 n] w fun e w' => e = .returned (.bool (numB p.ts t n)) ∧ Below w.heap.size w w' := by
  obtain ⟨k, hk⟩ := ev_at (number_ev p.ts h.hl h.hs p.la p.gl p.code t n)
  exact lockstitchref05_number.calls k p.A0 p.c0 p.ts p.la p.gl p.A3 p.c3 p.code t n _ w h.hT h.hc0 h.hC h.hc3 hk
theorem to_c (t n : Int) : Calls Tryd.prog 85 #[p.v, .int .i64 t, .int .i64 n] w fun e w' => e = .returned (.int .i64 (to_ p.ts t n)) ∧ Below w.heap.size w w' := by
  obtain ⟨k, hk⟩ := ev_at (to_ev p.ts h.hl h.hs p.la p.gl p.code t n)
  exact lockstitchref05_to.calls k p.A0 p.c0 p.ts p.la p.gl p.A3 p.c3 p.code t n _ w h.hT h.hc0 h.hC h.hc3 hk
end
def oneB (a b : Int) : Bool := decide (0 ≤ a) && a == b
theorem one_c (w : World) (a b : Int) : Calls Tryd.prog 83 #[.int .i64 a, .int .i64 b] w fun e w' => e = .returned (.bool (oneB a b)) ∧ Below w.heap.size w w' := by
  refine (lockstitchref05_one.calls a b (oneB a b) w ?_).mono fun e w' h => ⟨h.1, h.2.below⟩
  unfold lockstitchref05_one.f oneB
  by_cases h : a ≥ 0
  · rw [if_pos h, decide_eq_true (by omega : 0 ≤ a)]
    rfl
  · rw [if_neg h, decide_eq_false (by omega : ¬ 0 ≤ a)]
    rfl
def InsAt (ts : List ByteArray) (la gl : ByteArray) (code : List S68) (j : Nat) : Prop :=
  ∃ o : Nat, (rd_T68 code j).f0 = o ∧ InsP ts la gl code.length o (rd_T68 code j).f1 (rd_T68 code j).f2 (rd_T68 code j).f3 (rd_T68 code j).f4
structure SpP (p : Pg) : Prop where
  refs : refs p.ts p.la = true ∧ KP.refs p.ts p.gl = true
  locals : p.la.size ≤ 8
  globals : p.gl.size ≤ 4
  len : 1 ≤ p.code.length ∧ p.code.length ≤ 200
  all : ∀ j, j < p.code.length → InsAt p.ts p.la p.gl p.code j
theorem WfC.rd {code : List S68} (h : WfC code) (i : Nat) (hi : i < code.length) : WfI (rd_T68 code i).f0 (rd_T68 code i).f1 (rd_T68 code i).f2 (rd_T68 code i).f3 (rd_T68 code i).f4 := by
  have e : rd_T68 code i = code[i] := by
    unfold rd_T68
    rw [Int.toNat_natCast, List.getD_eq_getElem?_getD, List.getElem?_eq_getElem hi]
    rfl
  rw [e]
  exact h _ (List.getElem_mem hi)
end Go.Proofs.YtfkfpcciacplkaaDoor.PL

namespace Go.Proofs.YtfkfpcciacplkaaDoor.PK
open Go.RowKit Go.Proofs.YtfkfpcciacplkaaDoorW.PrintWords Go.Proofs.YtfkfpcciacplkaaDoorW.PrintLast Go.Proofs.YtfkfpcciacplkaaDoorW.PrintMore
attribute [local go_sem] max2_int min2_int max_two min_two max_three min_three max_four min_four
set_option linter.unusedVariables false
set_option linter.unusedSimpArgs false
open Go.Proofs.YtfkfpcciacplkaaDoor.F
end Go.Proofs.YtfkfpcciacplkaaDoor.PK

namespace Go.Proofs.YtfkfpcciacplkaaDoor.PK
open Go.RowKit Go.Proofs.YtfkfpcciacplkaaDoorW.PrintWords Go.Proofs.YtfkfpcciacplkaaDoorW.PrintLast Go.Proofs.YtfkfpcciacplkaaDoorW.PrintMore
attribute [local go_sem] max2_int min2_int max_two min_two max_three min_three max_four min_four
set_option linter.unusedVariables false
set_option linter.unusedSimpArgs false
open Go.Proofs.YtfkfpcciacplkaaDoor.F
noncomputable def kind_digit.f (a0 : Int) (a1 : Int) : Option (Int) := if (wrap64 ((wrap64 (a0)) - 48)) ≥ 0 then (if (wrap64 ((wrap64 (a0)) - 48)) < a1 then (some (wrap64 ((wrap64 (a0)) - 48))) else (some (-1))) else (some (-1))
set_option maxHeartbeats 8000000 in
set_option maxRecDepth 100000 in
theorem kind_digit.calls (a0 : Int) (a1 : Int) (r : Int) (w : World) (h : kind_digit.f a0 a1 = some r) :
    Calls Tryd.prog 87 #[.int .u8 a0, .int .i64 a1] w fun e w' => e = .returned (.int .i64 r) ∧ Drawn0 w w' := by
  have H : (if (wrap64 ((wrap64 (a0)) - 48)) ≥ 0 then (if (wrap64 ((wrap64 (a0)) - 48)) < a1 then (some (wrap64 ((wrap64 (a0)) - 48))) else (some (-1))) else (some (-1))) = some r := h
  clear h
  by_cases c3 : (wrap64 ((wrap64 (a0)) - 48)) ≥ 0
  · rw [if_pos c3] at H
    have c3b0 : decide (0 ≤ (wrap64 ((wrap64 (a0)) - 48))) = true := decide_eq_true c3
    clear c3
    by_cases c4 : (wrap64 ((wrap64 (a0)) - 48)) < a1
    · rw [if_pos c4] at H
      have c4b0 : decide ((wrap64 ((wrap64 (a0)) - 48)) < a1) = true := decide_eq_true c4
      clear c4
      obtain rfl := Option.some.inj H
      go_enter Tryd.func87, Tryd.ntmps87
      go_wp2
      go_ret
      exact ⟨by first | rfl | (simp; done) | (simp [*]; done), by repeat (first | exact Drawn0.refl _ | apply Drawn0.step)⟩
    · rw [if_neg c4] at H
      have c4b0 : decide ((wrap64 ((wrap64 (a0)) - 48)) < a1) = false := decide_eq_false c4
      clear c4
      obtain rfl := Option.some.inj H
      go_enter Tryd.func87, Tryd.ntmps87
      go_wp2
      go_ret
      exact ⟨by first | rfl | (simp; done) | (simp [*]; done), by repeat (first | exact Drawn0.refl _ | apply Drawn0.step)⟩
  · rw [if_neg c3] at H
    have c3b0 : decide (0 ≤ (wrap64 ((wrap64 (a0)) - 48))) = false := decide_eq_false c3
    clear c3
    obtain rfl := Option.some.inj H
    go_enter Tryd.func87, Tryd.ntmps87
    go_wp2
    go_ret
    exact ⟨by first | rfl | (simp; done) | (simp [*]; done), by repeat (first | exact Drawn0.refl _ | apply Drawn0.step)⟩
mutual
noncomputable def kind_Right.l0 : Nat → List ByteArray → List ByteArray → Int → Int → Option (Bool)
  | 0, _, _, _, _ => none
  | k + 1, x0, x6, x7, x8 => if x8 < x7 then (if 0 ≤ x8 then (if x8 < (x6.length : Int) then (if (rdOf ByteArray.empty x6 x8).toList = ([] : List UInt8) then (kind_Right.j1 k x0 (rdOf ByteArray.empty x6 x8) x6 x7 x8 true) else (kind_Right.j1 k x0 (rdOf ByteArray.empty x6 x8) x6 x7 x8 (decide (((rdOf ByteArray.empty x6 x8).size : Int) > 6)))) else (none)) else (none)) else (if (x0.length : Int) ≥ 1 then (some (decide ((x0.length : Int) ≤ 8))) else (some false))
noncomputable def kind_Right.j1 : Nat → List ByteArray → ByteArray → List ByteArray → Int → Int → Bool → Option (Bool)
  | 0, _, _, _, _, _, _ => none
  | k + 1, x0, x4, x6, x7, x8, x18 => if x18 = true then (some false) else (kind_Right.l1 k x0 x4 x6 x7 x8 (x4.size : Int) 0)
noncomputable def kind_Right.l1 : Nat → List ByteArray → ByteArray → List ByteArray → Int → Int → Int → Int → Option (Bool)
  | 0, _, _, _, _, _, _, _ => none
  | k + 1, x0, x4, x6, x7, x8, x20, x21 => if x21 < x20 then (if 0 ≤ x21 then (if x21 < (x4.size : Int) then (if (bt x4 x21) = 105 then (kind_Right.l1 k x0 x4 x6 x7 x8 x20 (wrap64 (x21 + 1))) else ((kind_digit.f (bt x4 x21) (x0.length : Int)).bind fun t102 => (if t102 < 0 then (some false) else (kind_Right.l1 k x0 x4 x6 x7 x8 x20 (wrap64 (x21 + 1)))))) else (none)) else (none)) else (kind_Right.l0 k x0 x6 x7 (wrap64 (x8 + 1)))
end
noncomputable def kind_Right.f (k : Nat) (l0 : List ByteArray) : Option (Bool) := kind_Right.l0 k l0 l0 (l0.length : Int) 0
theorem kind_Right.mono_l : ∀ k, (∀ y0 y1 y2 y3, LeO (kind_Right.l0 k y0 y1 y2 y3) (kind_Right.l0 (k + 1) y0 y1 y2 y3)) ∧ (∀ y0 y1 y2 y3 y4 y5, LeO (kind_Right.j1 k y0 y1 y2 y3 y4 y5) (kind_Right.j1 (k + 1) y0 y1 y2 y3 y4 y5)) ∧ (∀ y0 y1 y2 y3 y4 y5 y6, LeO (kind_Right.l1 k y0 y1 y2 y3 y4 y5 y6) (kind_Right.l1 (k + 1) y0 y1 y2 y3 y4 y5 y6))
  | 0 => ⟨fun _ _ _ _ r h => by simp [kind_Right.l0] at h, fun _ _ _ _ _ _ r h => by simp [kind_Right.j1] at h, fun _ _ _ _ _ _ _ r h => by simp [kind_Right.l1] at h⟩
  | k + 1 => by
    obtain ⟨ih0, ih1, ih2⟩ := kind_Right.mono_l k
    refine ⟨?_, ?_, ?_⟩
    · intro y0 y1 y2 y3
      unfold kind_Right.l0
      repeat' first
      | (with_reducible exact ih0 _ _ _ _)
      | (with_reducible exact ih1 _ _ _ _ _ _)
      | (with_reducible exact ih2 _ _ _ _ _ _ _)
      | (with_reducible exact LeO.refl _)
      | (with_reducible exact LeO.none _)
      | (with_reducible refine LeO.ite ?_ ?_)
      | (with_reducible refine LeO.bind ?_ (fun _ => ?_))
      | exact ih0 _ _ _ _
      | exact ih1 _ _ _ _ _ _
      | exact ih2 _ _ _ _ _ _ _
      | exact LeO.none _
      | refine LeO.ite ?_ ?_
      | refine LeO.bind ?_ (fun _ => ?_)
    · intro y0 y1 y2 y3 y4 y5
      unfold kind_Right.j1
      repeat' first
      | (with_reducible exact ih0 _ _ _ _)
      | (with_reducible exact ih1 _ _ _ _ _ _)
      | (with_reducible exact ih2 _ _ _ _ _ _ _)
      | (with_reducible exact LeO.refl _)
      | (with_reducible exact LeO.none _)
      | (with_reducible refine LeO.ite ?_ ?_)
      | (with_reducible refine LeO.bind ?_ (fun _ => ?_))
      | exact ih0 _ _ _ _
      | exact ih1 _ _ _ _ _ _
      | exact ih2 _ _ _ _ _ _ _
      | exact LeO.none _
      | refine LeO.ite ?_ ?_
      | refine LeO.bind ?_ (fun _ => ?_)
    · intro y0 y1 y2 y3 y4 y5 y6
      unfold kind_Right.l1
      repeat' first
      | (with_reducible exact ih0 _ _ _ _)
      | (with_reducible exact ih1 _ _ _ _ _ _)
      | (with_reducible exact ih2 _ _ _ _ _ _ _)
      | (with_reducible exact LeO.refl _)
      | (with_reducible exact LeO.none _)
      | (with_reducible refine LeO.ite ?_ ?_)
      | (with_reducible refine LeO.bind ?_ (fun _ => ?_))
      | exact ih0 _ _ _ _
      | exact ih1 _ _ _ _ _ _
      | exact ih2 _ _ _ _ _ _ _
      | exact LeO.none _
      | refine LeO.ite ?_ ?_
      | refine LeO.bind ?_ (fun _ => ?_)
theorem kind_Right.mono : ∀ a0 k, LeO (kind_Right.f k a0) (kind_Right.f (k + 1) a0) := by
  intro a0 k
  obtain ⟨ih0, ih1, ih2⟩ := kind_Right.mono_l k
  unfold kind_Right.f
  repeat' first
      | (with_reducible exact ih0 _ _ _ _)
      | (with_reducible exact ih1 _ _ _ _ _ _)
      | (with_reducible exact ih2 _ _ _ _ _ _ _)
      | (with_reducible exact LeO.refl _)
      | (with_reducible exact LeO.none _)
      | (with_reducible refine LeO.ite ?_ ?_)
      | (with_reducible refine LeO.bind ?_ (fun _ => ?_))
      | exact ih0 _ _ _ _
      | exact ih1 _ _ _ _ _ _
      | exact ih2 _ _ _ _ _ _ _
      | exact LeO.none _
      | refine LeO.ite ?_ ?_
      | refine LeO.bind ?_ (fun _ => ?_)
set_option maxHeartbeats 8000000 in
set_option maxRecDepth 100000 in
theorem kind_Right.calls (k : Nat) (A0 : Option Addr) (c0 : Nat) (l0 : List ByteArray) (r : Bool) (w : World) (hr0 : Kd.C Kd.string w A0 l0.length l0) (hc0 : l0.length ≤ c0) (h : kind_Right.f k l0 = some r) :
    Calls Tryd.prog 88 #[.slice A0 l0.length c0] w fun e w' => e = .returned (.bool r) ∧ Drawn0 w w' := by
  have HR0 := Aside0.mk hr0
  have HC0 := Aside0.mk hc0
  clear hr0 hc0
  have H : (kind_Right.l0 k l0 l0 (l0.length : Int) 0) = some r := h
  clear h
  have H' := Aside0.mk H
  clear H
  go_enter Tryd.func88, Tryd.ntmps88
  go_wp2
  go_loopg [8] k (fun kq v8 w' => ∃ (x8_1 : Int), v8 = .int .i64 x8_1 ∧ Aside0 (kind_Right.l0 kq l0 l0 (l0.length : Int) x8_1 = some r) ∧ Aside0 (kq ≤ k) ∧ Drawn0 w w')
  case atStart => exact ⟨(0), (by first | rfl | (simp; done) | (simp [*]; done)), H', ⟨Nat.le_refl _⟩, by repeat (first | exact Drawn0.refl _ | apply Drawn0.step)⟩
  case round =>
    clear H'
    obtain ⟨x8_1, rfl, HA, HK1, ⟨m1, rfl⟩⟩ := hrel
    cases gk with
    | zero => exact absurd HA.out (by simp [kind_Right.l0])
    | succ k1 =>
      have H := HA.out
      clear HA
      simp only [kind_Right.l0] at H
      by_cases c2 : x8_1 < (l0.length : Int)
      · rw [if_pos c2] at H
        have c2b0 : decide (x8_1 < (l0.length : Int)) = true := decide_eq_true c2
        clear c2
        by_cases c3 : 0 ≤ x8_1
        · rw [if_pos c3] at H
          have c3b0 : decide (0 ≤ x8_1) = true := decide_eq_true c3
          clear c3
          by_cases c4 : x8_1 < (l0.length : Int)
          · rw [if_pos c4] at H
            have c4b0 : decide (x8_1 < (l0.length : Int)) = true := decide_eq_true c4
            clear c4
            have HC5 := Aside0.mk H
            clear H
            have p101 : 0 ≤ (x8_1 : Int) := of_decide_eq_true (by first | (with_reducible assumption) | assumption)
            have q101 : x8_1 < (l0.length : Int) := of_decide_eq_true (by first | (with_reducible assumption) | assumption)
            obtain ⟨ad101, e101, hx101_0⟩ := Kd.at_string HR0.out x8_1 p101 q101
            cases e101
            replace p101 := eq_true p101
            replace q101 := eq_true q101
            go_upto_region 4 with (fail)
            go_cut [18] (fun v18 wc => ∃ (kq : Nat) (x18_4 : Bool), v18 = .bool x18_4 ∧ Aside0 (kind_Right.j1 kq l0 (rdOf ByteArray.empty l0 x8_1) l0 (l0.length : Int) x8_1 x18_4 = some r) ∧ Aside0 (kq ≤ k1) ∧ Drawn0 w wc)
            case first =>
              have H := HC5.out
              clear HC5
              by_cases c6 : (rdOf ByteArray.empty l0 x8_1).toList = ([] : List UInt8)
              · rw [if_pos c6] at H
                have c6b0 : ((rdOf ByteArray.empty l0 x8_1).toList == ([] : List UInt8)) = true := beq_iff_eq.mpr c6
                have c6b1 : ((rdOf ByteArray.empty l0 x8_1).toList != ([] : List UInt8)) = false := bne_eq_false_iff_eq.mpr c6
                clear c6
                (first | rw [c6b0] | (simp only [i64_w, i32_w]; rw [c6b0]) | skip)
                have H' := Aside0.mk H
                clear H
                go_wp2
                go_meet
                case rel => exact ⟨_, (true), (by first | rfl | (simp; done) | (simp [*]; done)), H', ⟨by have := HK1.out; first | omega | exact Nat.le_refl _⟩, by repeat (first | exact Drawn0.refl _ | apply Drawn0.step)⟩
              · rw [if_neg c6] at H
                have c6b0 : ((rdOf ByteArray.empty l0 x8_1).toList == ([] : List UInt8)) = false := beq_eq_false_iff_ne.mpr c6
                have c6b1 : ((rdOf ByteArray.empty l0 x8_1).toList != ([] : List UInt8)) = true := bne_iff_ne.mpr c6
                (first | rw [c6b0] | (simp only [i64_w, i32_w]; rw [c6b0]) | skip)
                have H' := Aside0.mk H
                clear H
                go_wp2
                go_meet
                case rel => exact ⟨_, (decide (((rdOf ByteArray.empty l0 x8_1).size : Int) > 6)), (by first | rfl | (simp; done) | (simp [*]; done)), H', ⟨by have := HK1.out; first | omega | exact Nat.le_refl _⟩, by repeat (first | exact Drawn0.refl _ | apply Drawn0.step)⟩
            case rest =>
              clear HC5
              try clear p1
              try clear q1
              try clear hx1
              try clear c2
              try clear c2b0
              try clear p2
              try clear c3
              try clear c3b0
              try clear c4
              try clear c4b0
              try clear c6
              try clear c6b0
              try clear c6b1
              try clear hx101_0
              try clear p101
              try clear q101
              obtain ⟨kq, x18_4, rfl, HA, HJ4, ⟨mc4, rfl⟩⟩ := hcut
              cases kq with
              | zero => exact absurd HA.out (by simp [kind_Right.j1])
              | succ kj4 =>
                have H := HA.out
                clear HA
                simp only [kind_Right.j1] at H
                by_cases c7 : x18_4 = true
                · subst c7
                  have H1 : (some false) = some r := by rw [if_pos rfl] at H; exact H
                  clear H
                  have H := H1
                  clear H1
                  obtain rfl := Option.some.inj H
                  go_wp2
                  go_ret
                  exact ⟨by first | rfl | (simp; done) | (simp [*]; done), by repeat (first | exact Drawn0.refl _ | apply Drawn0.step)⟩
                · replace c7 := Bool.eq_false_iff.mpr c7
                  subst c7
                  have H1 : (kind_Right.l1 kj4 l0 (rdOf ByteArray.empty l0 x8_1) l0 (l0.length : Int) x8_1 ((rdOf ByteArray.empty l0 x8_1).size : Int) 0) = some r := by rw [if_neg (show ¬ (false = true) by decide)] at H; exact H
                  clear H
                  have H := H1
                  clear H1
                  have H' := Aside0.mk H
                  clear H
                  go_wp2
                  go_loopg [21] kj4 (fun kq v21 w' => ∃ (x21_3 : Int), v21 = .int .i64 x21_3 ∧ Aside0 (kind_Right.l1 kq l0 (rdOf ByteArray.empty l0 x8_1) l0 (l0.length : Int) x8_1 ((rdOf ByteArray.empty l0 x8_1).size : Int) x21_3 = some r) ∧ Aside0 (kq ≤ kj4) ∧ Drawn0 w w')
                  case atStart => exact ⟨(0), (by first | rfl | (simp; done) | (simp [*]; done)), H', ⟨Nat.le_refl _⟩, by repeat (first | exact Drawn0.refl _ | apply Drawn0.step)⟩
                  case round =>
                    clear H'
                    try clear p1
                    try clear q1
                    try clear hx1
                    try clear c2
                    try clear c2b0
                    try clear p2
                    try clear c3
                    try clear c3b0
                    try clear c4
                    try clear c4b0
                    try clear c6
                    try clear c6b0
                    try clear c6b1
                    try clear c7
                    try clear hx101_0
                    try clear p1
                    try clear p101
                    try clear p2
                    try clear q1
                    try clear q101
                    obtain ⟨x21_3, rfl, HA, HK3, ⟨m3, rfl⟩⟩ := hrel
                    cases gk with
                    | zero => exact absurd HA.out (by simp [kind_Right.l1])
                    | succ k3 =>
                      have H := HA.out
                      clear HA
                      simp only [kind_Right.l1] at H
                      by_cases c8 : x21_3 < ((rdOf ByteArray.empty l0 x8_1).size : Int)
                      · rw [if_pos c8] at H
                        have c8b0 : decide (x21_3 < ((rdOf ByteArray.empty l0 x8_1).size : Int)) = true := decide_eq_true c8
                        clear c8
                        by_cases c9 : 0 ≤ x21_3
                        · rw [if_pos c9] at H
                          have c9b0 : decide (0 ≤ x21_3) = true := decide_eq_true c9
                          clear c9
                          by_cases c10 : x21_3 < ((rdOf ByteArray.empty l0 x8_1).size : Int)
                          · rw [if_pos c10] at H
                            have c10b0 : decide (x21_3 < ((rdOf ByteArray.empty l0 x8_1).size : Int)) = true := decide_eq_true c10
                            clear c10
                            by_cases c12 : (bt (rdOf ByteArray.empty l0 x8_1) x21_3) = 105
                            · rw [if_pos c12] at H
                              have c12b0 : ((bt (rdOf ByteArray.empty l0 x8_1) x21_3) == 105) = true := beq_iff_eq.mpr c12
                              have c12b1 : ((bt (rdOf ByteArray.empty l0 x8_1) x21_3) != 105) = false := bne_eq_false_iff_eq.mpr c12
                              clear c12
                              have H' := Aside0.mk H
                              clear H
                              have p11 : 0 ≤ (x21_3 : Int) := of_decide_eq_true (by first | (with_reducible assumption) | assumption)
                              have q11 : x21_3 < ((rdOf ByteArray.empty l0 x8_1).size : Int) := of_decide_eq_true (by first | (with_reducible assumption) | assumption)
                              have hx11 := bt_at (rdOf ByteArray.empty l0 x8_1) x21_3
                              replace p11 := eq_true p11
                              replace q11 := eq_true q11
                              go_wp2
                              go_roundg k3
                              case measure => have := HK1.out; have := HJ4.out; have := HK3.out; omega
                              case rel => exact ⟨(wrap64 (x21_3 + 1)), (by first | rfl | (simp; done) | (simp [*]; done)), H', ⟨by have := HK1.out; have := HJ4.out; have := HK3.out; omega⟩, by repeat (first | exact Drawn0.refl _ | apply Drawn0.step)⟩
                            · rw [if_neg c12] at H
                              have c12b0 : ((bt (rdOf ByteArray.empty l0 x8_1) x21_3) == 105) = false := beq_eq_false_iff_ne.mpr c12
                              have c12b1 : ((bt (rdOf ByteArray.empty l0 x8_1) x21_3) != 105) = true := bne_iff_ne.mpr c12
                              replace H := Option.bind_eq_some_iff.mp H
                              obtain ⟨t102, A140, H⟩ := H
                              replace H : (if t102 < 0 then (some false) else (kind_Right.l1 k3 l0 (rdOf ByteArray.empty l0 x8_1) l0 (l0.length : Int) x8_1 ((rdOf ByteArray.empty l0 x8_1).size : Int) (wrap64 (x21_3 + 1)))) = some r := H
                              have A14 := Aside0.mk A140
                              clear A140
                              by_cases c15 : t102 < 0
                              · rw [if_pos c15] at H
                                have c15b0 : decide (t102 < 0) = true := decide_eq_true c15
                                clear c15
                                obtain rfl := Option.some.inj H
                                have p11 : 0 ≤ (x21_3 : Int) := of_decide_eq_true (by first | (with_reducible assumption) | assumption)
                                have q11 : x21_3 < ((rdOf ByteArray.empty l0 x8_1).size : Int) := of_decide_eq_true (by first | (with_reducible assumption) | assumption)
                                have hx11 := bt_at (rdOf ByteArray.empty l0 x8_1) x21_3
                                replace p11 := eq_true p11
                                replace q11 := eq_true q11
                                have p13 : 0 ≤ (x21_3 : Int) := of_decide_eq_true (by first | (with_reducible assumption) | assumption)
                                have q13 : x21_3 < ((rdOf ByteArray.empty l0 x8_1).size : Int) := of_decide_eq_true (by first | (with_reducible assumption) | assumption)
                                have hx13 := bt_at (rdOf ByteArray.empty l0 x8_1) x21_3
                                replace p13 := eq_true p13
                                replace q13 := eq_true q13
                                go_wp2_with (first | (go_at_call 87; (with_reducible refine (kind_digit.calls (bt (rdOf ByteArray.empty l0 x8_1) x21_3) (l0.length : Int) t102 _ A14.out).mono ?_); rintro e w' ⟨rfl, ⟨nd, rfl⟩⟩))
                                go_ret
                                exact ⟨by first | rfl | (simp; done) | (simp [*]; done), by repeat (first | exact Drawn0.refl _ | apply Drawn0.step)⟩
                              · rw [if_neg c15] at H
                                have c15b0 : decide (t102 < 0) = false := decide_eq_false c15
                                clear c15
                                have H' := Aside0.mk H
                                clear H
                                have p11 : 0 ≤ (x21_3 : Int) := of_decide_eq_true (by first | (with_reducible assumption) | assumption)
                                have q11 : x21_3 < ((rdOf ByteArray.empty l0 x8_1).size : Int) := of_decide_eq_true (by first | (with_reducible assumption) | assumption)
                                have hx11 := bt_at (rdOf ByteArray.empty l0 x8_1) x21_3
                                replace p11 := eq_true p11
                                replace q11 := eq_true q11
                                have p13 : 0 ≤ (x21_3 : Int) := of_decide_eq_true (by first | (with_reducible assumption) | assumption)
                                have q13 : x21_3 < ((rdOf ByteArray.empty l0 x8_1).size : Int) := of_decide_eq_true (by first | (with_reducible assumption) | assumption)
                                have hx13 := bt_at (rdOf ByteArray.empty l0 x8_1) x21_3
                                replace p13 := eq_true p13
                                replace q13 := eq_true q13
                                go_wp2_with (first | (go_at_call 87; (with_reducible refine (kind_digit.calls (bt (rdOf ByteArray.empty l0 x8_1) x21_3) (l0.length : Int) t102 _ A14.out).mono ?_); rintro e w' ⟨rfl, ⟨nd, rfl⟩⟩))
                                go_roundg k3
                                case measure => have := HK1.out; have := HJ4.out; have := HK3.out; omega
                                case rel => exact ⟨(wrap64 (x21_3 + 1)), (by first | rfl | (simp; done) | (simp [*]; done)), H', ⟨by have := HK1.out; have := HJ4.out; have := HK3.out; omega⟩, by repeat (first | exact Drawn0.refl _ | apply Drawn0.step)⟩
                          · rw [if_neg c10] at H
                            exact absurd H (by simp)
                        · rw [if_neg c9] at H
                          exact absurd H (by simp)
                      · rw [if_neg c8] at H
                        have c8b0 : decide (x21_3 < ((rdOf ByteArray.empty l0 x8_1).size : Int)) = false := decide_eq_false c8
                        clear c8
                        have H' := Aside0.mk H
                        clear H
                        go_wp2
                        go_roundg k3
                        case measure => have := HK1.out; have := HJ4.out; have := HK3.out; omega
                        case rel => exact ⟨(wrap64 (x8_1 + 1)), (by first | rfl | (simp; done) | (simp [*]; done)), H', ⟨by have := HK1.out; have := HJ4.out; have := HK3.out; omega⟩, by repeat (first | exact Drawn0.refl _ | apply Drawn0.step)⟩
          · rw [if_neg c4] at H
            exact absurd H (by simp)
        · rw [if_neg c3] at H
          exact absurd H (by simp)
      · rw [if_neg c2] at H
        have c2b0 : decide (x8_1 < (l0.length : Int)) = false := decide_eq_false c2
        clear c2
        by_cases c16 : (l0.length : Int) ≥ 1
        · rw [if_pos c16] at H
          have c16b0 : decide (1 ≤ (l0.length : Int)) = true := decide_eq_true c16
          have c16b1 : decide (1 ≤ l0.length) = true := decide_eq_true (by omega)
          clear c16
          obtain rfl := Option.some.inj H
          go_wp2
          go_ret
          exact ⟨by first | rfl | (simp; done) | (simp [*]; done), by repeat (first | exact Drawn0.refl _ | apply Drawn0.step)⟩
        · rw [if_neg c16] at H
          have c16b0 : decide (1 ≤ (l0.length : Int)) = false := decide_eq_false c16
          have c16b1 : decide (1 ≤ l0.length) = false := decide_eq_false (by omega)
          clear c16
          obtain rfl := Option.some.inj H
          go_wp2
          go_ret
          exact ⟨by first | rfl | (simp; done) | (simp [*]; done), by repeat (first | exact Drawn0.refl _ | apply Drawn0.step)⟩
noncomputable def kind_Refs.l0 : Nat → List ByteArray → ByteArray → Int → Int → Option (Bool)
  | 0, _, _, _, _ => none
  | k + 1, x0, x1, x7, x8 => if x8 < x7 then (if 0 ≤ x8 then (if x8 < (x1.size : Int) then ((kind_digit.f (bt x1 x8) (x0.length : Int)).bind fun t103 => (if t103 < 0 then (some false) else (kind_Refs.l0 k x0 x1 x7 (wrap64 (x8 + 1))))) else (none)) else (none)) else ((kind_Right.f k x0).bind fun t104 => (some t104))
noncomputable def kind_Refs.f (k : Nat) (l0 : List ByteArray) (a1 : ByteArray) : Option (Bool) := kind_Refs.l0 k l0 a1 (a1.size : Int) 0
set_option maxHeartbeats 8000000 in
set_option maxRecDepth 100000 in
theorem kind_Refs.calls (k : Nat) (A0 : Option Addr) (c0 : Nat) (l0 : List ByteArray) (a1 : ByteArray) (r : Bool) (w : World) (hr0 : Kd.C Kd.string w A0 l0.length l0) (hc0 : l0.length ≤ c0) (h : kind_Refs.f k l0 a1 = some r) :
    Calls Tryd.prog 55 #[.slice A0 l0.length c0, .string a1] w fun e w' => e = .returned (.bool r) ∧ Drawn0 w w' := by
  have HR0 := Aside0.mk hr0
  have HC0 := Aside0.mk hc0
  clear hr0 hc0
  have H : (kind_Refs.l0 k l0 a1 (a1.size : Int) 0) = some r := h
  clear h
  have H' := Aside0.mk H
  clear H
  go_enter Tryd.func55, Tryd.ntmps55
  go_wp2
  go_loopg [8] k (fun kq v8 w' => ∃ (x8_1 : Int), v8 = .int .i64 x8_1 ∧ Aside0 (kind_Refs.l0 kq l0 a1 (a1.size : Int) x8_1 = some r) ∧ Aside0 (kq ≤ k) ∧ Drawn0 w w')
  case atStart => exact ⟨(0), (by first | rfl | (simp; done) | (simp [*]; done)), H', ⟨Nat.le_refl _⟩, by repeat (first | exact Drawn0.refl _ | apply Drawn0.step)⟩
  case round =>
    clear H'
    try clear p2
    obtain ⟨x8_1, rfl, HA, HK1, ⟨m1, rfl⟩⟩ := hrel
    cases gk with
    | zero => exact absurd HA.out (by simp [kind_Refs.l0])
    | succ k1 =>
      have H := HA.out
      clear HA
      simp only [kind_Refs.l0] at H
      by_cases c3 : x8_1 < (a1.size : Int)
      · rw [if_pos c3] at H
        have c3b0 : decide (x8_1 < (a1.size : Int)) = true := decide_eq_true c3
        clear c3
        by_cases c4 : 0 ≤ x8_1
        · rw [if_pos c4] at H
          have c4b0 : decide (0 ≤ x8_1) = true := decide_eq_true c4
          clear c4
          by_cases c5 : x8_1 < (a1.size : Int)
          · rw [if_pos c5] at H
            have c5b0 : decide (x8_1 < (a1.size : Int)) = true := decide_eq_true c5
            clear c5
            replace H := Option.bind_eq_some_iff.mp H
            obtain ⟨t103, A70, H⟩ := H
            replace H : (if t103 < 0 then (some false) else (kind_Refs.l0 k1 l0 a1 (a1.size : Int) (wrap64 (x8_1 + 1)))) = some r := H
            have A7 := Aside0.mk A70
            clear A70
            by_cases c8 : t103 < 0
            · rw [if_pos c8] at H
              have c8b0 : decide (t103 < 0) = true := decide_eq_true c8
              clear c8
              obtain rfl := Option.some.inj H
              have p6 : 0 ≤ (x8_1 : Int) := of_decide_eq_true (by first | (with_reducible assumption) | assumption)
              have q6 : x8_1 < (a1.size : Int) := of_decide_eq_true (by first | (with_reducible assumption) | assumption)
              have hx6 := bt_at a1 x8_1
              replace p6 := eq_true p6
              replace q6 := eq_true q6
              go_wp2_with (first | ((with_reducible refine gate_callee (f := 87) rfl ?_); refine goesL_ (some 16) rfl rfl Tryd.func87 (by kernel_rfl) rfl #[.int .u8 (bt a1 x8_1), .int .i64 (l0.length : Int)] rfl (by (try simp only [List.map_toArray, List.map_cons, List.map_nil]); first | done | rfl | (simp only [List.length_drop, List.length_take]; rfl)) ?_; (with_reducible refine (kind_digit.calls (bt a1 x8_1) (l0.length : Int) t103 _ A7.out).mono ?_); rintro e w' ⟨rfl, ⟨nd, rfl⟩⟩; refine ⟨_, rfl, ?_⟩))
              go_ret
              exact ⟨by first | rfl | (simp; done) | (simp [*]; done), by repeat (first | exact Drawn0.refl _ | apply Drawn0.step)⟩
            · rw [if_neg c8] at H
              have c8b0 : decide (t103 < 0) = false := decide_eq_false c8
              clear c8
              have H' := Aside0.mk H
              clear H
              have p6 : 0 ≤ (x8_1 : Int) := of_decide_eq_true (by first | (with_reducible assumption) | assumption)
              have q6 : x8_1 < (a1.size : Int) := of_decide_eq_true (by first | (with_reducible assumption) | assumption)
              have hx6 := bt_at a1 x8_1
              replace p6 := eq_true p6
              replace q6 := eq_true q6
              go_wp2_with (first | ((with_reducible refine gate_callee (f := 87) rfl ?_); refine goesL_ (some 16) rfl rfl Tryd.func87 (by kernel_rfl) rfl #[.int .u8 (bt a1 x8_1), .int .i64 (l0.length : Int)] rfl (by (try simp only [List.map_toArray, List.map_cons, List.map_nil]); first | done | rfl | (simp only [List.length_drop, List.length_take]; rfl)) ?_; (with_reducible refine (kind_digit.calls (bt a1 x8_1) (l0.length : Int) t103 _ A7.out).mono ?_); rintro e w' ⟨rfl, ⟨nd, rfl⟩⟩; refine ⟨_, rfl, ?_⟩))
              go_roundg k1
              case measure => have := HK1.out; omega
              case rel => exact ⟨(wrap64 (x8_1 + 1)), (by first | rfl | (simp; done) | (simp [*]; done)), H', ⟨by have := HK1.out; omega⟩, by repeat (first | exact Drawn0.refl _ | apply Drawn0.step)⟩
          · rw [if_neg c5] at H
            exact absurd H (by simp)
        · rw [if_neg c4] at H
          exact absurd H (by simp)
      · rw [if_neg c3] at H
        have c3b0 : decide (x8_1 < (a1.size : Int)) = false := decide_eq_false c3
        clear c3
        replace H := Option.bind_eq_some_iff.mp H
        obtain ⟨t104, A90, H⟩ := H
        replace H : (some t104) = some r := H
        have A9 := Aside0.mk A90
        clear A90
        obtain rfl := Option.some.inj H
        go_wp2_with (first | ((with_reducible refine gate_callee (f := 88) rfl ?_); refine goesL_ (some 20) rfl rfl Tryd.func88 (by kernel_rfl) rfl #[.slice A0 l0.length c0] rfl (by (try simp only [List.map_toArray, List.map_cons, List.map_nil]); first | done | rfl | (simp only [List.length_drop, List.length_take]; rfl)) ?_; (with_reducible refine (kind_Right.calls k1 _ _ l0 t104 _ ?side1 ?side2 A9.out).mono ?_); (case side1 => repeat (first | exact HR0.out | (with_reducible refine Kd.C_alloc ?_ _) | (with_reducible refine Kd.C_drewN ?_ _) | (with_reducible refine Kd.C_drew ?_))); (case side2 => exact HC0.out); rintro e w' ⟨rfl, ⟨nd, rfl⟩⟩; refine ⟨_, rfl, ?_⟩))
        go_ret
        exact ⟨by first | rfl | (simp; done) | (simp [*]; done), by repeat (first | exact Drawn0.refl _ | apply Drawn0.step)⟩
noncomputable def kind_of.f (k : Nat) (l0 : List ByteArray) (a1 : Int) : Option (ByteArray) := (kind_Right.f k l0).bind fun t105 => (if t105 = true then (if a1 < 0 then (some (⟨#[]⟩ : ByteArray)) else (if a1 ≥ (l0.length : Int) then (some (⟨#[]⟩ : ByteArray)) else (if 0 ≤ a1 then (if a1 < (l0.length : Int) then (some (rdOf ByteArray.empty l0 a1)) else (none)) else (none)))) else (some (⟨#[]⟩ : ByteArray)))
set_option maxHeartbeats 8000000 in
set_option maxRecDepth 100000 in
theorem kind_of.calls (k : Nat) (A0 : Option Addr) (c0 : Nat) (l0 : List ByteArray) (a1 : Int) (r : ByteArray) (w : World) (hr0 : Kd.C Kd.string w A0 l0.length l0) (hc0 : l0.length ≤ c0) (h : kind_of.f k l0 a1 = some r) :
    Calls Tryd.prog 106 #[.slice A0 l0.length c0, .int .i64 a1] w fun e w' => e = .returned (.string r) ∧ Drawn0 w w' := by
  have HR0 := Aside0.mk hr0
  have HC0 := Aside0.mk hc0
  clear hr0 hc0
  have H : ((kind_Right.f k l0).bind fun t105 => (if t105 = true then (if a1 < 0 then (some (⟨#[]⟩ : ByteArray)) else (if a1 ≥ (l0.length : Int) then (some (⟨#[]⟩ : ByteArray)) else (if 0 ≤ a1 then (if a1 < (l0.length : Int) then (some (rdOf ByteArray.empty l0 a1)) else (none)) else (none)))) else (some (⟨#[]⟩ : ByteArray)))) = some r := h
  clear h
  replace H := Option.bind_eq_some_iff.mp H
  obtain ⟨t105, A30, H⟩ := H
  replace H : (if t105 = true then (if a1 < 0 then (some (⟨#[]⟩ : ByteArray)) else (if a1 ≥ (l0.length : Int) then (some (⟨#[]⟩ : ByteArray)) else (if 0 ≤ a1 then (if a1 < (l0.length : Int) then (some (rdOf ByteArray.empty l0 a1)) else (none)) else (none)))) else (some (⟨#[]⟩ : ByteArray))) = some r := H
  have A3 := Aside0.mk A30
  clear A30
  by_cases c4 : t105 = true
  · subst c4
    have H1 : (if a1 < 0 then (some (⟨#[]⟩ : ByteArray)) else (if a1 ≥ (l0.length : Int) then (some (⟨#[]⟩ : ByteArray)) else (if 0 ≤ a1 then (if a1 < (l0.length : Int) then (some (rdOf ByteArray.empty l0 a1)) else (none)) else (none)))) = some r := by rw [if_pos rfl] at H; exact H
    clear H
    have H := H1
    clear H1
    by_cases c5 : a1 < 0
    · rw [if_pos c5] at H
      have c5b0 : decide (a1 < 0) = true := decide_eq_true c5
      clear c5
      obtain rfl := Option.some.inj H
      go_enter Tryd.func106, Tryd.ntmps106
      go_wp2_with (first | ((with_reducible refine gate_callee (f := 88) rfl ?_); refine goesL_ (some 6) rfl rfl Tryd.func88 (by kernel_rfl) rfl #[.slice A0 l0.length c0] rfl (by (try simp only [List.map_toArray, List.map_cons, List.map_nil]); first | done | rfl | (simp only [List.length_drop, List.length_take]; rfl)) ?_; (with_reducible refine (kind_Right.calls k _ _ l0 true _ ?side1 ?side2 A3.out).mono ?_); (case side1 => repeat (first | exact HR0.out | (with_reducible refine Kd.C_alloc ?_ _) | (with_reducible refine Kd.C_drewN ?_ _) | (with_reducible refine Kd.C_drew ?_))); (case side2 => exact HC0.out); rintro e w' ⟨rfl, ⟨nd, rfl⟩⟩; refine ⟨_, rfl, ?_⟩))
      go_ret
      exact ⟨by first | rfl | (simp; done) | (simp [*]; done), by repeat (first | exact Drawn0.refl _ | apply Drawn0.step)⟩
    · rw [if_neg c5] at H
      have c5b0 : decide (a1 < 0) = false := decide_eq_false c5
      clear c5
      by_cases c6 : a1 ≥ (l0.length : Int)
      · rw [if_pos c6] at H
        have c6b0 : decide ((l0.length : Int) ≤ a1) = true := decide_eq_true c6
        clear c6
        obtain rfl := Option.some.inj H
        go_enter Tryd.func106, Tryd.ntmps106
        go_wp2_with (first | ((with_reducible refine gate_callee (f := 88) rfl ?_); refine goesL_ (some 6) rfl rfl Tryd.func88 (by kernel_rfl) rfl #[.slice A0 l0.length c0] rfl (by (try simp only [List.map_toArray, List.map_cons, List.map_nil]); first | done | rfl | (simp only [List.length_drop, List.length_take]; rfl)) ?_; (with_reducible refine (kind_Right.calls k _ _ l0 true _ ?side1 ?side2 A3.out).mono ?_); (case side1 => repeat (first | exact HR0.out | (with_reducible refine Kd.C_alloc ?_ _) | (with_reducible refine Kd.C_drewN ?_ _) | (with_reducible refine Kd.C_drew ?_))); (case side2 => exact HC0.out); rintro e w' ⟨rfl, ⟨nd, rfl⟩⟩; refine ⟨_, rfl, ?_⟩))
        go_ret
        exact ⟨by first | rfl | (simp; done) | (simp [*]; done), by repeat (first | exact Drawn0.refl _ | apply Drawn0.step)⟩
      · rw [if_neg c6] at H
        have c6b0 : decide ((l0.length : Int) ≤ a1) = false := decide_eq_false c6
        clear c6
        by_cases c7 : 0 ≤ a1
        · rw [if_pos c7] at H
          have c7b0 : decide (0 ≤ a1) = true := decide_eq_true c7
          clear c7
          by_cases c8 : a1 < (l0.length : Int)
          · rw [if_pos c8] at H
            have c8b0 : decide (a1 < (l0.length : Int)) = true := decide_eq_true c8
            clear c8
            obtain rfl := Option.some.inj H
            go_enter Tryd.func106, Tryd.ntmps106
            go_wp2_with (first | ((with_reducible refine gate_callee (f := 88) rfl ?_); refine goesL_ (some 6) rfl rfl Tryd.func88 (by kernel_rfl) rfl #[.slice A0 l0.length c0] rfl (by (try simp only [List.map_toArray, List.map_cons, List.map_nil]); first | done | rfl | (simp only [List.length_drop, List.length_take]; rfl)) ?_; (with_reducible refine (kind_Right.calls k _ _ l0 true _ ?side1 ?side2 A3.out).mono ?_); (case side1 => repeat (first | exact HR0.out | (with_reducible refine Kd.C_alloc ?_ _) | (with_reducible refine Kd.C_drewN ?_ _) | (with_reducible refine Kd.C_drew ?_))); (case side2 => exact HC0.out); rintro e w' ⟨rfl, ⟨nd, rfl⟩⟩; refine ⟨_, rfl, ?_⟩; have p106 : 0 ≤ (a1 : Int) := of_decide_eq_true (by first | (with_reducible assumption) | assumption); have q106 : a1 < (l0.length : Int) := of_decide_eq_true (by first | (with_reducible assumption) | assumption); obtain ⟨ad106, e106, hx106_0⟩ := Kd.at_string HR0.out a1 p106 q106; cases e106; replace p106 := eq_true p106; replace q106 := eq_true q106))
            go_ret
            exact ⟨by first | rfl | (simp; done) | (simp [*]; done), by repeat (first | exact Drawn0.refl _ | apply Drawn0.step)⟩
          · rw [if_neg c8] at H
            exact absurd H (by simp)
        · rw [if_neg c7] at H
          exact absurd H (by simp)
  · replace c4 := Bool.eq_false_iff.mpr c4
    subst c4
    have H1 : (some (⟨#[]⟩ : ByteArray)) = some r := by rw [if_neg (show ¬ (false = true) by decide)] at H; exact H
    clear H
    have H := H1
    clear H1
    obtain rfl := Option.some.inj H
    go_enter Tryd.func106, Tryd.ntmps106
    go_wp2_with (first | ((with_reducible refine gate_callee (f := 88) rfl ?_); refine goesL_ (some 6) rfl rfl Tryd.func88 (by kernel_rfl) rfl #[.slice A0 l0.length c0] rfl (by (try simp only [List.map_toArray, List.map_cons, List.map_nil]); first | done | rfl | (simp only [List.length_drop, List.length_take]; rfl)) ?_; (with_reducible refine (kind_Right.calls k _ _ l0 false _ ?side1 ?side2 A3.out).mono ?_); (case side1 => repeat (first | exact HR0.out | (with_reducible refine Kd.C_alloc ?_ _) | (with_reducible refine Kd.C_drewN ?_ _) | (with_reducible refine Kd.C_drew ?_))); (case side2 => exact HC0.out); rintro e w' ⟨rfl, ⟨nd, rfl⟩⟩; refine ⟨_, rfl, ?_⟩))
    go_ret
    exact ⟨by first | rfl | (simp; done) | (simp [*]; done), by repeat (first | exact Drawn0.refl _ | apply Drawn0.step)⟩
noncomputable def kind_Size.f (k : Nat) (l0 : List ByteArray) (a1 : Int) : Option (Int) := (kind_of.f k l0 a1).bind fun t107 => (some (t107.size : Int))
set_option maxHeartbeats 8000000 in
set_option maxRecDepth 100000 in
theorem kind_Size.calls (k : Nat) (A0 : Option Addr) (c0 : Nat) (l0 : List ByteArray) (a1 : Int) (r : Int) (w : World) (hr0 : Kd.C Kd.string w A0 l0.length l0) (hc0 : l0.length ≤ c0) (h : kind_Size.f k l0 a1 = some r) :
    Calls Tryd.prog 70 #[.slice A0 l0.length c0, .int .i64 a1] w fun e w' => e = .returned (.int .i64 r) ∧ Drawn0 w w' := by
  have HR0 := Aside0.mk hr0
  have HC0 := Aside0.mk hc0
  clear hr0 hc0
  have H : ((kind_of.f k l0 a1).bind fun t107 => (some (t107.size : Int))) = some r := h
  clear h
  replace H := Option.bind_eq_some_iff.mp H
  obtain ⟨t107, A30, H⟩ := H
  replace H : (some (t107.size : Int)) = some r := H
  have A3 := Aside0.mk A30
  clear A30
  obtain rfl := Option.some.inj H
  go_enter Tryd.func70, Tryd.ntmps70
  go_wp2_with (first | ((with_reducible refine gate_callee (f := 106) rfl ?_); refine goesL_ (some 7) rfl rfl Tryd.func106 (by kernel_rfl) rfl #[.slice A0 l0.length c0, .int .i64 a1] rfl (by (try simp only [List.map_toArray, List.map_cons, List.map_nil]); first | done | rfl | (simp only [List.length_drop, List.length_take]; rfl)) ?_; (with_reducible refine (kind_of.calls k _ _ l0 a1 t107 _ ?side1 ?side2 A3.out).mono ?_); (case side1 => repeat (first | exact HR0.out | (with_reducible refine Kd.C_alloc ?_ _) | (with_reducible refine Kd.C_drewN ?_ _) | (with_reducible refine Kd.C_drew ?_))); (case side2 => exact HC0.out); rintro e w' ⟨rfl, ⟨nd, rfl⟩⟩; refine ⟨_, rfl, ?_⟩))
  go_ret
  exact ⟨by first | rfl | (simp; done) | (simp [*]; done), by repeat (first | exact Drawn0.refl _ | apply Drawn0.step)⟩
noncomputable def kind_To.f (k : Nat) (l0 : List ByteArray) (a1 : Int) (a2 : Int) : Option (Int) := (kind_of.f k l0 a1).bind fun t108 => (if a2 < 0 then (some (-1)) else (if a2 ≥ (t108.size : Int) then (some (-1)) else (if 0 ≤ a2 then (if a2 < (t108.size : Int) then ((kind_digit.f (bt t108 a2) (l0.length : Int)).bind fun t109 => (some t109)) else (none)) else (none))))
set_option maxHeartbeats 8000000 in
set_option maxRecDepth 100000 in
theorem kind_To.calls (k : Nat) (A0 : Option Addr) (c0 : Nat) (l0 : List ByteArray) (a1 : Int) (a2 : Int) (r : Int) (w : World) (hr0 : Kd.C Kd.string w A0 l0.length l0) (hc0 : l0.length ≤ c0) (h : kind_To.f k l0 a1 a2 = some r) :
    Calls Tryd.prog 118 #[.slice A0 l0.length c0, .int .i64 a1, .int .i64 a2] w fun e w' => e = .returned (.int .i64 r) ∧ Drawn0 w w' := by
  have HR0 := Aside0.mk hr0
  have HC0 := Aside0.mk hc0
  clear hr0 hc0
  have H : ((kind_of.f k l0 a1).bind fun t108 => (if a2 < 0 then (some (-1)) else (if a2 ≥ (t108.size : Int) then (some (-1)) else (if 0 ≤ a2 then (if a2 < (t108.size : Int) then ((kind_digit.f (bt t108 a2) (l0.length : Int)).bind fun t109 => (some t109)) else (none)) else (none))))) = some r := h
  clear h
  replace H := Option.bind_eq_some_iff.mp H
  obtain ⟨t108, A40, H⟩ := H
  replace H : (if a2 < 0 then (some (-1)) else (if a2 ≥ (t108.size : Int) then (some (-1)) else (if 0 ≤ a2 then (if a2 < (t108.size : Int) then ((kind_digit.f (bt t108 a2) (l0.length : Int)).bind fun t109 => (some t109)) else (none)) else (none)))) = some r := H
  have A4 := Aside0.mk A40
  clear A40
  by_cases c5 : a2 < 0
  · rw [if_pos c5] at H
    have c5b0 : decide (a2 < 0) = true := decide_eq_true c5
    clear c5
    obtain rfl := Option.some.inj H
    go_enter Tryd.func118, Tryd.ntmps118
    go_wp2_with (first | ((with_reducible refine gate_callee (f := 106) rfl ?_); refine goesL_ (some 10) rfl rfl Tryd.func106 (by kernel_rfl) rfl #[.slice A0 l0.length c0, .int .i64 a1] rfl (by (try simp only [List.map_toArray, List.map_cons, List.map_nil]); first | done | rfl | (simp only [List.length_drop, List.length_take]; rfl)) ?_; (with_reducible refine (kind_of.calls k _ _ l0 a1 t108 _ ?side1 ?side2 A4.out).mono ?_); (case side1 => repeat (first | exact HR0.out | (with_reducible refine Kd.C_alloc ?_ _) | (with_reducible refine Kd.C_drewN ?_ _) | (with_reducible refine Kd.C_drew ?_))); (case side2 => exact HC0.out); rintro e w' ⟨rfl, ⟨nd, rfl⟩⟩; refine ⟨_, rfl, ?_⟩))
    go_ret
    exact ⟨by first | rfl | (simp; done) | (simp [*]; done), by repeat (first | exact Drawn0.refl _ | apply Drawn0.step)⟩
  · rw [if_neg c5] at H
    have c5b0 : decide (a2 < 0) = false := decide_eq_false c5
    clear c5
    by_cases c6 : a2 ≥ (t108.size : Int)
    · rw [if_pos c6] at H
      have c6b0 : decide ((t108.size : Int) ≤ a2) = true := decide_eq_true c6
      clear c6
      obtain rfl := Option.some.inj H
      go_enter Tryd.func118, Tryd.ntmps118
      go_wp2_with (first | ((with_reducible refine gate_callee (f := 106) rfl ?_); refine goesL_ (some 10) rfl rfl Tryd.func106 (by kernel_rfl) rfl #[.slice A0 l0.length c0, .int .i64 a1] rfl (by (try simp only [List.map_toArray, List.map_cons, List.map_nil]); first | done | rfl | (simp only [List.length_drop, List.length_take]; rfl)) ?_; (with_reducible refine (kind_of.calls k _ _ l0 a1 t108 _ ?side1 ?side2 A4.out).mono ?_); (case side1 => repeat (first | exact HR0.out | (with_reducible refine Kd.C_alloc ?_ _) | (with_reducible refine Kd.C_drewN ?_ _) | (with_reducible refine Kd.C_drew ?_))); (case side2 => exact HC0.out); rintro e w' ⟨rfl, ⟨nd, rfl⟩⟩; refine ⟨_, rfl, ?_⟩))
      go_ret
      exact ⟨by first | rfl | (simp; done) | (simp [*]; done), by repeat (first | exact Drawn0.refl _ | apply Drawn0.step)⟩
    · rw [if_neg c6] at H
      have c6b0 : decide ((t108.size : Int) ≤ a2) = false := decide_eq_false c6
      clear c6
      by_cases c7 : 0 ≤ a2
      · rw [if_pos c7] at H
        have c7b0 : decide (0 ≤ a2) = true := decide_eq_true c7
        clear c7
        by_cases c8 : a2 < (t108.size : Int)
        · rw [if_pos c8] at H
          have c8b0 : decide (a2 < (t108.size : Int)) = true := decide_eq_true c8
          clear c8
          replace H := Option.bind_eq_some_iff.mp H
          obtain ⟨t109, A100, H⟩ := H
          replace H : (some t109) = some r := H
          have A10 := Aside0.mk A100
          clear A100
          obtain rfl := Option.some.inj H
          go_enter Tryd.func118, Tryd.ntmps118
          go_wp2_with (first | ((with_reducible refine gate_callee (f := 106) rfl ?_); refine goesL_ (some 10) rfl rfl Tryd.func106 (by kernel_rfl) rfl #[.slice A0 l0.length c0, .int .i64 a1] rfl (by (try simp only [List.map_toArray, List.map_cons, List.map_nil]); first | done | rfl | (simp only [List.length_drop, List.length_take]; rfl)) ?_; (with_reducible refine (kind_of.calls k _ _ l0 a1 t108 _ ?side1 ?side2 A4.out).mono ?_); (case side1 => repeat (first | exact HR0.out | (with_reducible refine Kd.C_alloc ?_ _) | (with_reducible refine Kd.C_drewN ?_ _) | (with_reducible refine Kd.C_drew ?_))); (case side2 => exact HC0.out); rintro e w' ⟨rfl, ⟨nd, rfl⟩⟩; refine ⟨_, rfl, ?_⟩; have p9 : 0 ≤ (a2 : Int) := of_decide_eq_true (by first | (with_reducible assumption) | assumption); have q9 : a2 < (t108.size : Int) := of_decide_eq_true (by first | (with_reducible assumption) | assumption); have hx9 := bt_at t108 a2; replace p9 := eq_true p9; replace q9 := eq_true q9) | ((with_reducible refine gate_callee (f := 87) rfl ?_); refine goesL_ (some 24) rfl rfl Tryd.func87 (by kernel_rfl) rfl #[.int .u8 (bt t108 a2), .int .i64 (l0.length : Int)] rfl (by (try simp only [List.map_toArray, List.map_cons, List.map_nil]); first | done | rfl | (simp only [List.length_drop, List.length_take]; rfl)) ?_; (with_reducible refine (kind_digit.calls (bt t108 a2) (l0.length : Int) t109 _ A10.out).mono ?_); rintro e w' ⟨rfl, ⟨nd, rfl⟩⟩; refine ⟨_, rfl, ?_⟩))
          go_ret
          exact ⟨by first | rfl | (simp; done) | (simp [*]; done), by repeat (first | exact Drawn0.refl _ | apply Drawn0.step)⟩
        · rw [if_neg c8] at H
          exact absurd H (by simp)
      · rw [if_neg c7] at H
        exact absurd H (by simp)
noncomputable def check_named.f (k : Nat) (l0 : List ByteArray) (a1 : ByteArray) (a2 : Int) : Option (Int) := if (wrap64 (a2)) ≥ (a1.size : Int) then (some (-1)) else (if 0 ≤ (wrap64 (a2)) then (if (wrap64 (a2)) ≤ (wrap64 ((wrap64 (a2)) + 1)) then (if (wrap64 ((wrap64 (a2)) + 1)) ≤ (a1.size : Int) then ((kind_Refs.f k l0 (a1.extract ((wrap64 (a2)) : Int).toNat ((wrap64 ((wrap64 (a2)) + 1)) : Int).toNat)).bind fun t110 => (if t110 = true then (if 0 ≤ a2 then (if a2 < (a1.size : Int) then (some (((bt a1 a2) - 48) % 256)) else (none)) else (none)) else (some (-1)))) else (none)) else (none)) else (none))
set_option maxHeartbeats 8000000 in
set_option maxRecDepth 100000 in
theorem check_named.calls (k : Nat) (A0 : Option Addr) (c0 : Nat) (l0 : List ByteArray) (a1 : ByteArray) (a2 : Int) (r : Int) (w : World) (hr0 : Kd.C Kd.string w A0 l0.length l0) (hc0 : l0.length ≤ c0) (h : check_named.f k l0 a1 a2 = some r) :
    Calls Tryd.prog 107 #[.slice A0 l0.length c0, .string a1, .int .u8 a2] w fun e w' => e = .returned (.int .i64 r) ∧ Drawn0 w w' := by
  have HR0 := Aside0.mk hr0
  have HC0 := Aside0.mk hc0
  clear hr0 hc0
  have H : (if (wrap64 (a2)) ≥ (a1.size : Int) then (some (-1)) else (if 0 ≤ (wrap64 (a2)) then (if (wrap64 (a2)) ≤ (wrap64 ((wrap64 (a2)) + 1)) then (if (wrap64 ((wrap64 (a2)) + 1)) ≤ (a1.size : Int) then ((kind_Refs.f k l0 (a1.extract ((wrap64 (a2)) : Int).toNat ((wrap64 ((wrap64 (a2)) + 1)) : Int).toNat)).bind fun t110 => (if t110 = true then (if 0 ≤ a2 then (if a2 < (a1.size : Int) then (some (((bt a1 a2) - 48) % 256)) else (none)) else (none)) else (some (-1)))) else (none)) else (none)) else (none))) = some r := h
  clear h
  by_cases c4 : (wrap64 (a2)) ≥ (a1.size : Int)
  · rw [if_pos c4] at H
    have c4b0 : decide ((a1.size : Int) ≤ (wrap64 (a2))) = true := decide_eq_true c4
    clear c4
    obtain rfl := Option.some.inj H
    go_enter Tryd.func107, Tryd.ntmps107
    go_wp2
    go_ret
    exact ⟨by first | rfl | (simp; done) | (simp [*]; done), by repeat (first | exact Drawn0.refl _ | apply Drawn0.step)⟩
  · rw [if_neg c4] at H
    have c4b0 : decide ((a1.size : Int) ≤ (wrap64 (a2))) = false := decide_eq_false c4
    clear c4
    obtain ⟨ji5, hji5⟩ : ∃ j_ : Int, (wrap64 (a2)) = j_ := ⟨_, rfl⟩
    replace H : (if 0 ≤ (ji5) then (if (ji5) ≤ (wrap64 ((ji5) + 1)) then (if (wrap64 ((ji5) + 1)) ≤ (a1.size : Int) then ((kind_Refs.f k l0 (a1.extract ((ji5) : Int).toNat ((wrap64 ((ji5) + 1)) : Int).toNat)).bind fun t110 => (if t110 = true then (if 0 ≤ a2 then (if a2 < (a1.size : Int) then (some (((bt a1 a2) - 48) % 256)) else (none)) else (none)) else (some (-1)))) else (none)) else (none)) else (none)) = some r := by first | (rw [hji5] at H; exact H) | (simp only [hji5] at H ⊢; exact H)
    (try rw [hji5] at c4b0)
    have hji5w : (IntKind.i64.wrap (a2)) = ji5 := (i64_w _).trans hji5
    by_cases c6 : 0 ≤ (ji5)
    · rw [if_pos c6] at H
      have c6b0 := eq_true c6
      have c6b1 : decide (0 ≤ (ji5)) = true := decide_eq_true c6
      clear c6
      by_cases c7 : (ji5) ≤ (wrap64 ((ji5) + 1))
      · rw [if_pos c7] at H
        have c7b0 := eq_true c7
        have c7b1 : decide ((ji5) ≤ (wrap64 ((ji5) + 1))) = true := decide_eq_true c7
        by_cases c8 : (wrap64 ((ji5) + 1)) ≤ (a1.size : Int)
        · rw [if_pos c8] at H
          have c8b0 := eq_true c8
          have c8b1 : decide ((wrap64 ((ji5) + 1)) ≤ (a1.size : Int)) = true := decide_eq_true c8
          replace H := Option.bind_eq_some_iff.mp H
          obtain ⟨t110, A90, H⟩ := H
          replace H : (if t110 = true then (if 0 ≤ a2 then (if a2 < (a1.size : Int) then (some (((bt a1 a2) - 48) % 256)) else (none)) else (none)) else (some (-1))) = some r := H
          have A9 := Aside0.mk A90
          clear A90
          by_cases c10 : t110 = true
          · subst c10
            have H1 : (if 0 ≤ a2 then (if a2 < (a1.size : Int) then (some (((bt a1 a2) - 48) % 256)) else (none)) else (none)) = some r := by rw [if_pos rfl] at H; exact H
            clear H
            have H := H1
            clear H1
            by_cases c11 : 0 ≤ a2
            · rw [if_pos c11] at H
              have c11b0 : decide (0 ≤ a2) = true := decide_eq_true c11
              clear c11
              by_cases c12 : a2 < (a1.size : Int)
              · rw [if_pos c12] at H
                have c12b0 : decide (a2 < (a1.size : Int)) = true := decide_eq_true c12
                clear c12
                obtain rfl := Option.some.inj H
                go_enter Tryd.func107, Tryd.ntmps107
                go_wp2_with (first | (go_at_call 55; (with_reducible refine (kind_Refs.calls k _ _ l0 (a1.extract ((ji5) : Int).toNat ((wrap64 ((ji5) + 1)) : Int).toNat) true _ ?side1 ?side2 A9.out).mono ?_); (case side1 => repeat (first | exact HR0.out | (with_reducible refine Kd.C_alloc ?_ _) | (with_reducible refine Kd.C_drewN ?_ _) | (with_reducible refine Kd.C_drew ?_))); (case side2 => exact HC0.out); rintro e w' ⟨rfl, ⟨nd, rfl⟩⟩; have p13 : 0 ≤ (a2 : Int) := of_decide_eq_true (by first | (with_reducible assumption) | assumption); have q13 : a2 < (a1.size : Int) := of_decide_eq_true (by first | (with_reducible assumption) | assumption); have hx13 := bt_at a1 a2; replace p13 := eq_true p13; replace q13 := eq_true q13))
                go_ret
                exact ⟨by first | rfl | (simp; done) | (simp only [← hji5] <;> (first | rfl | simp)) | (simp [*]; done), by repeat (first | exact Drawn0.refl _ | apply Drawn0.step)⟩
              · rw [if_neg c12] at H
                exact absurd H (by simp)
            · rw [if_neg c11] at H
              exact absurd H (by simp)
          · replace c10 := Bool.eq_false_iff.mpr c10
            subst c10
            have H1 : (some (-1)) = some r := by rw [if_neg (show ¬ (false = true) by decide)] at H; exact H
            clear H
            have H := H1
            clear H1
            obtain rfl := Option.some.inj H
            go_enter Tryd.func107, Tryd.ntmps107
            go_wp2_with (first | (go_at_call 55; (with_reducible refine (kind_Refs.calls k _ _ l0 (a1.extract ((ji5) : Int).toNat ((wrap64 ((ji5) + 1)) : Int).toNat) false _ ?side1 ?side2 A9.out).mono ?_); (case side1 => repeat (first | exact HR0.out | (with_reducible refine Kd.C_alloc ?_ _) | (with_reducible refine Kd.C_drewN ?_ _) | (with_reducible refine Kd.C_drew ?_))); (case side2 => exact HC0.out); rintro e w' ⟨rfl, ⟨nd, rfl⟩⟩))
            go_ret
            exact ⟨by first | rfl | (simp; done) | (simp only [← hji5] <;> (first | rfl | simp)) | (simp [*]; done), by repeat (first | exact Drawn0.refl _ | apply Drawn0.step)⟩
        · rw [if_neg c8] at H
          exact absurd H (by simp)
      · rw [if_neg c7] at H
        exact absurd H (by simp)
    · rw [if_neg c6] at H
      exact absurd H (by simp)
noncomputable def check_Local.f (k : Nat) (l0_0 : List ByteArray) (a0_1 : ByteArray) (a0_2 : ByteArray) (l0_3 : List (S68)) (a1 : Int) : Option (Int) := (check_named.f k l0_0 a0_1 a1).bind fun t112 => (some t112)
set_option maxHeartbeats 8000000 in
set_option maxRecDepth 100000 in
theorem check_Local.calls (k : Nat) (A0_0 : Option Addr) (c0_0 : Nat) (l0_0 : List ByteArray) (a0_1 : ByteArray) (a0_2 : ByteArray) (A0_3 : Option Addr) (c0_3 : Nat) (l0_3 : List (S68)) (a1 : Int) (r : Int) (w : World) (hr0_0 : Kd.C Kd.string w A0_0 l0_0.length l0_0) (hc0_0 : l0_0.length ≤ c0_0) (hr0_3 : Kd.C k68 w A0_3 l0_3.length l0_3) (hc0_3 : l0_3.length ≤ c0_3) (h : check_Local.f k l0_0 a0_1 a0_2 l0_3 a1 = some r) :
    Calls Tryd.prog 71 #[.agg #[.slice A0_0 l0_0.length c0_0, .string a0_1, .string a0_2, .slice A0_3 l0_3.length c0_3], .int .u8 a1] w fun e w' => e = .returned (.int .i64 r) ∧ Below w.heap.size w w' := by
  have hu46 := Tryd.underlying46
  have HR0_0 := Aside0.mk hr0_0
  have HC0_0 := Aside0.mk hc0_0
  clear hr0_0 hc0_0
  have HR0_3 := Aside0.mk hr0_3
  have HC0_3 := Aside0.mk hc0_3
  clear hr0_3 hc0_3
  have HB := Aside0.mk (Below.refl w.heap.size w)
  have H : ((check_named.f k l0_0 a0_1 a1).bind fun t112 => (some t112)) = some r := h
  clear h
  replace H := Option.bind_eq_some_iff.mp H
  obtain ⟨t112, A30, H⟩ := H
  replace H : (some t112) = some r := H
  have A3 := Aside0.mk A30
  clear A30
  obtain rfl := Option.some.inj H
  go_enter Tryd.func71, Tryd.ntmps71
  go_wp2_with (first | ((with_reducible refine gate_dst (N := 2) rfl ?_); refine box_event ?hg (N := 2) ?hd (cs := #[.slice A0_0 l0_0.length c0_0, .string a0_1, .string a0_2, .slice A0_3 l0_3.length c0_3]) (t := 46) ?hr ?_; (case hd => rfl); (case hg => rfl); (case hr => first | (go_simp; done) | (go_simp; rfl)); intro gb111 hg w4 hbox hb; have n0_ := Aside0.mk (below_step (by repeat (first | (with_reducible first | exact HB.out | apply below_alloc | apply pw_below_drewN | apply below_drew1) | exact HB.out)) hb); have n1_ := Aside0.mk (hbox); have n2_ := Aside0.mk ((by rw [hg]; exact (below_size (by repeat (first | (with_reducible first | exact HB.out | apply below_alloc | apply pw_below_drewN | apply below_drew1) | exact HB.out))) : w.heap.size ≤ gb111)); have n3_ := Aside0.mk ((by rw [hg]; exact (below_size (by repeat (first | (with_reducible first | exact HB.out | apply below_alloc | apply pw_below_drewN | apply below_drew1) | exact HB.out))) : w.heap.size ≤ gb111)); clear HB; have HB := n0_; have BK111 := n1_; have GW111 := n2_; have GE111 := n3_; clear n0_ n1_ n2_ n3_; clear hb hbox hg; have hcz5_0 : w4.cell? ⟨gb111, 0, none⟩ = some (.slice A0_0 l0_0.length c0_0) := (blk_cell BK111.out 0).trans rfl; have hcz5_1 : w4.cell? ⟨gb111, 1, none⟩ = some (.string a0_1) := (blk_cell BK111.out 1).trans rfl; have hcz5_2 : w4.cell? ⟨gb111, 2, none⟩ = some (.string a0_2) := (blk_cell BK111.out 2).trans rfl; have hcz5_3 : w4.cell? ⟨gb111, 3, none⟩ = some (.slice A0_3 l0_3.length c0_3) := (blk_cell BK111.out 3).trans rfl; have hfz5_0 := blk_frozen BK111.out 0; have hfz5_1 := blk_frozen BK111.out 1; have hfz5_2 := blk_frozen BK111.out 2; have hfz5_3 := blk_frozen BK111.out 3) | ((with_reducible refine gate_callee (f := 107) rfl ?_); refine goesL_ (some 10) rfl rfl Tryd.func107 (by kernel_rfl) rfl #[.slice A0_0 l0_0.length c0_0, .string a0_1, .int .u8 a1] rfl (by (try simp only [List.map_toArray, List.map_cons, List.map_nil]); first | done | rfl | (simp only [List.length_drop, List.length_take]; rfl)) ?_; (with_reducible refine (check_named.calls k _ _ l0_0 a0_1 a1 t112 _ ?side1 ?side2 A3.out).mono ?_); (case side1 => repeat (first | exact (Kd.C_below HR0_0.out HB.out) | (with_reducible refine Kd.C_alloc ?_ _) | (with_reducible refine Kd.C_drewN ?_ _) | (with_reducible refine Kd.C_drew ?_))); (case side2 => exact HC0_0.out); rintro e w' ⟨rfl, ⟨nd, rfl⟩⟩; refine ⟨_, rfl, ?_⟩))
  go_ret
  exact ⟨by first | rfl | (simp [errW_none, errW_some] <;> rfl) | (simp [*, errW_none, errW_some] <;> rfl), by repeat (first | (with_reducible first | exact HB.out | apply below_alloc | apply pw_below_drewN | apply below_drew1 | refine below_set ?_ GE111.out) | exact HB.out)⟩
noncomputable def check_Glob.f (k : Nat) (l0_0 : List ByteArray) (a0_1 : ByteArray) (a0_2 : ByteArray) (l0_3 : List (S68)) (a1 : Int) : Option (Int) := (check_named.f k l0_0 a0_2 a1).bind fun t114 => (some t114)
set_option maxHeartbeats 8000000 in
set_option maxRecDepth 100000 in
theorem check_Glob.calls (k : Nat) (A0_0 : Option Addr) (c0_0 : Nat) (l0_0 : List ByteArray) (a0_1 : ByteArray) (a0_2 : ByteArray) (A0_3 : Option Addr) (c0_3 : Nat) (l0_3 : List (S68)) (a1 : Int) (r : Int) (w : World) (hr0_0 : Kd.C Kd.string w A0_0 l0_0.length l0_0) (hc0_0 : l0_0.length ≤ c0_0) (hr0_3 : Kd.C k68 w A0_3 l0_3.length l0_3) (hc0_3 : l0_3.length ≤ c0_3) (h : check_Glob.f k l0_0 a0_1 a0_2 l0_3 a1 = some r) :
    Calls Tryd.prog 95 #[.agg #[.slice A0_0 l0_0.length c0_0, .string a0_1, .string a0_2, .slice A0_3 l0_3.length c0_3], .int .u8 a1] w fun e w' => e = .returned (.int .i64 r) ∧ Below w.heap.size w w' := by
  have hu46 := Tryd.underlying46
  have HR0_0 := Aside0.mk hr0_0
  have HC0_0 := Aside0.mk hc0_0
  clear hr0_0 hc0_0
  have HR0_3 := Aside0.mk hr0_3
  have HC0_3 := Aside0.mk hc0_3
  clear hr0_3 hc0_3
  have HB := Aside0.mk (Below.refl w.heap.size w)
  have H : ((check_named.f k l0_0 a0_2 a1).bind fun t114 => (some t114)) = some r := h
  clear h
  replace H := Option.bind_eq_some_iff.mp H
  obtain ⟨t114, A30, H⟩ := H
  replace H : (some t114) = some r := H
  have A3 := Aside0.mk A30
  clear A30
  obtain rfl := Option.some.inj H
  go_enter Tryd.func95, Tryd.ntmps95
  go_wp2_with (first | ((with_reducible refine gate_dst (N := 2) rfl ?_); refine box_event ?hg (N := 2) ?hd (cs := #[.slice A0_0 l0_0.length c0_0, .string a0_1, .string a0_2, .slice A0_3 l0_3.length c0_3]) (t := 46) ?hr ?_; (case hd => rfl); (case hg => rfl); (case hr => first | (go_simp; done) | (go_simp; rfl)); intro gb113 hg w4 hbox hb; have n0_ := Aside0.mk (below_step (by repeat (first | (with_reducible first | exact HB.out | apply below_alloc | apply pw_below_drewN | apply below_drew1) | exact HB.out)) hb); have n1_ := Aside0.mk (hbox); have n2_ := Aside0.mk ((by rw [hg]; exact (below_size (by repeat (first | (with_reducible first | exact HB.out | apply below_alloc | apply pw_below_drewN | apply below_drew1) | exact HB.out))) : w.heap.size ≤ gb113)); have n3_ := Aside0.mk ((by rw [hg]; exact (below_size (by repeat (first | (with_reducible first | exact HB.out | apply below_alloc | apply pw_below_drewN | apply below_drew1) | exact HB.out))) : w.heap.size ≤ gb113)); clear HB; have HB := n0_; have BK113 := n1_; have GW113 := n2_; have GE113 := n3_; clear n0_ n1_ n2_ n3_; clear hb hbox hg; have hcz5_0 : w4.cell? ⟨gb113, 0, none⟩ = some (.slice A0_0 l0_0.length c0_0) := (blk_cell BK113.out 0).trans rfl; have hcz5_1 : w4.cell? ⟨gb113, 1, none⟩ = some (.string a0_1) := (blk_cell BK113.out 1).trans rfl; have hcz5_2 : w4.cell? ⟨gb113, 2, none⟩ = some (.string a0_2) := (blk_cell BK113.out 2).trans rfl; have hcz5_3 : w4.cell? ⟨gb113, 3, none⟩ = some (.slice A0_3 l0_3.length c0_3) := (blk_cell BK113.out 3).trans rfl; have hfz5_0 := blk_frozen BK113.out 0; have hfz5_1 := blk_frozen BK113.out 1; have hfz5_2 := blk_frozen BK113.out 2; have hfz5_3 := blk_frozen BK113.out 3) | ((with_reducible refine gate_callee (f := 107) rfl ?_); refine goesL_ (some 10) rfl rfl Tryd.func107 (by kernel_rfl) rfl #[.slice A0_0 l0_0.length c0_0, .string a0_2, .int .u8 a1] rfl (by (try simp only [List.map_toArray, List.map_cons, List.map_nil]); first | done | rfl | (simp only [List.length_drop, List.length_take]; rfl)) ?_; (with_reducible refine (check_named.calls k _ _ l0_0 a0_2 a1 t114 _ ?side1 ?side2 A3.out).mono ?_); (case side1 => repeat (first | exact (Kd.C_below HR0_0.out HB.out) | (with_reducible refine Kd.C_alloc ?_ _) | (with_reducible refine Kd.C_drewN ?_ _) | (with_reducible refine Kd.C_drew ?_))); (case side2 => exact HC0_0.out); rintro e w' ⟨rfl, ⟨nd, rfl⟩⟩; refine ⟨_, rfl, ?_⟩))
  go_ret
  exact ⟨by first | rfl | (simp [errW_none, errW_some] <;> rfl) | (simp [*, errW_none, errW_some] <;> rfl), by repeat (first | (with_reducible first | exact HB.out | apply below_alloc | apply pw_below_drewN | apply below_drew1 | refine below_set ?_ GE113.out) | exact HB.out)⟩
end Go.Proofs.YtfkfpcciacplkaaDoor.PK

namespace Go.Proofs.YtfkfpcciacplkaaDoor.PK
open Go.RowKit Go.Proofs.YtfkfpcciacplkaaDoorW.PrintWords Go.Proofs.YtfkfpcciacplkaaDoorW.PrintLast Go.Proofs.YtfkfpcciacplkaaDoorW.PrintMore
attribute [local go_sem] max2_int min2_int max_two min_two max_three min_three max_four min_four
set_option linter.unusedVariables false
set_option linter.unusedSimpArgs false
open Go.Proofs.YtfkfpcciacplkaaDoor.F
noncomputable def check_field.f (k : Nat) (l0_0 : List ByteArray) (a0_1 : ByteArray) (a0_2 : ByteArray) (l0_3 : List (S68)) (a1 : Int) (a2 : Int) : Option (Int × Bool) := if a1 < 0 then (some ((-1), false)) else (if a2 < 0 then (some ((-1), false)) else ((kind_Size.f k l0_0 a1).bind fun t116 => (if a2 ≥ t116 then (some ((-1), false)) else ((kind_To.f k l0_0 a1 a2).bind fun t117 => (some (t117, true))))))
set_option maxHeartbeats 8000000 in
set_option maxRecDepth 100000 in
theorem check_field.calls (k : Nat) (A0_0 : Option Addr) (c0_0 : Nat) (l0_0 : List ByteArray) (a0_1 : ByteArray) (a0_2 : ByteArray) (A0_3 : Option Addr) (c0_3 : Nat) (l0_3 : List (S68)) (a1 : Int) (a2 : Int) (r1 : Int) (r2 : Bool) (w : World) (hr0_0 : Kd.C Kd.string w A0_0 l0_0.length l0_0) (hc0_0 : l0_0.length ≤ c0_0) (hr0_3 : Kd.C k68 w A0_3 l0_3.length l0_3) (hc0_3 : l0_3.length ≤ c0_3) (h : check_field.f k l0_0 a0_1 a0_2 l0_3 a1 a2 = some (r1, r2)) :
    Calls Tryd.prog 94 #[.agg #[.slice A0_0 l0_0.length c0_0, .string a0_1, .string a0_2, .slice A0_3 l0_3.length c0_3], .int .i64 a1, .int .i64 a2] w fun e w' => e = .returned (.tuple #[.int .i64 r1, .bool r2]) ∧ Below w.heap.size w w' := by
  have hu46 := Tryd.underlying46
  have HR0_0 := Aside0.mk hr0_0
  have HC0_0 := Aside0.mk hc0_0
  clear hr0_0 hc0_0
  have HR0_3 := Aside0.mk hr0_3
  have HC0_3 := Aside0.mk hc0_3
  clear hr0_3 hc0_3
  have HB := Aside0.mk (Below.refl w.heap.size w)
  have H : (if a1 < 0 then (some ((-1), false)) else (if a2 < 0 then (some ((-1), false)) else ((kind_Size.f k l0_0 a1).bind fun t116 => (if a2 ≥ t116 then (some ((-1), false)) else ((kind_To.f k l0_0 a1 a2).bind fun t117 => (some (t117, true))))))) = some (r1, r2) := h
  clear h
  by_cases c4 : a1 < 0
  · rw [if_pos c4] at H
    have c4b0 : decide (a1 < 0) = true := decide_eq_true c4
    clear c4
    simp only [Option.some.injEq, Prod.mk.injEq] at H
    obtain ⟨rfl, rfl⟩ := H
    go_enter Tryd.func94, Tryd.ntmps94
    go_wp2_with (first | ((with_reducible refine gate_dst (N := 3) rfl ?_); refine box_event ?hg (N := 3) ?hd (cs := #[.slice A0_0 l0_0.length c0_0, .string a0_1, .string a0_2, .slice A0_3 l0_3.length c0_3]) (t := 46) ?hr ?_; (case hd => rfl); (case hg => rfl); (case hr => first | (go_simp; done) | (go_simp; rfl)); intro gb115 hg w5 hbox hb; have n0_ := Aside0.mk (below_step (by repeat (first | (with_reducible first | exact HB.out | apply below_alloc | apply pw_below_drewN | apply below_drew1) | exact HB.out)) hb); have n1_ := Aside0.mk (hbox); have n2_ := Aside0.mk ((by rw [hg]; exact (below_size (by repeat (first | (with_reducible first | exact HB.out | apply below_alloc | apply pw_below_drewN | apply below_drew1) | exact HB.out))) : w.heap.size ≤ gb115)); have n3_ := Aside0.mk ((by rw [hg]; exact (below_size (by repeat (first | (with_reducible first | exact HB.out | apply below_alloc | apply pw_below_drewN | apply below_drew1) | exact HB.out))) : w.heap.size ≤ gb115)); clear HB; have HB := n0_; have BK115 := n1_; have GW115 := n2_; have GE115 := n3_; clear n0_ n1_ n2_ n3_; clear hb hbox hg))
    go_ret2
    exact ⟨by first | rfl | (simp [errW_none, errW_some] <;> rfl) | (simp [*, errW_none, errW_some] <;> rfl), by repeat (first | (with_reducible first | exact HB.out | apply below_alloc | apply pw_below_drewN | apply below_drew1 | refine below_set ?_ GE115.out) | exact HB.out)⟩
  · rw [if_neg c4] at H
    have c4b0 : decide (a1 < 0) = false := decide_eq_false c4
    clear c4
    by_cases c6 : a2 < 0
    · rw [if_pos c6] at H
      have c6b0 : decide (a2 < 0) = true := decide_eq_true c6
      clear c6
      simp only [Option.some.injEq, Prod.mk.injEq] at H
      obtain ⟨rfl, rfl⟩ := H
      go_enter Tryd.func94, Tryd.ntmps94
      go_wp2_with (first | ((with_reducible refine gate_dst (N := 3) rfl ?_); refine box_event ?hg (N := 3) ?hd (cs := #[.slice A0_0 l0_0.length c0_0, .string a0_1, .string a0_2, .slice A0_3 l0_3.length c0_3]) (t := 46) ?hr ?_; (case hd => rfl); (case hg => rfl); (case hr => first | (go_simp; done) | (go_simp; rfl)); intro gb115 hg w7 hbox hb; have n0_ := Aside0.mk (below_step (by repeat (first | (with_reducible first | exact HB.out | apply below_alloc | apply pw_below_drewN | apply below_drew1) | exact HB.out)) hb); have n1_ := Aside0.mk (hbox); have n2_ := Aside0.mk ((by rw [hg]; exact (below_size (by repeat (first | (with_reducible first | exact HB.out | apply below_alloc | apply pw_below_drewN | apply below_drew1) | exact HB.out))) : w.heap.size ≤ gb115)); have n3_ := Aside0.mk ((by rw [hg]; exact (below_size (by repeat (first | (with_reducible first | exact HB.out | apply below_alloc | apply pw_below_drewN | apply below_drew1) | exact HB.out))) : w.heap.size ≤ gb115)); clear HB; have HB := n0_; have BK115 := n1_; have GW115 := n2_; have GE115 := n3_; clear n0_ n1_ n2_ n3_; clear hb hbox hg))
      go_ret2
      exact ⟨by first | rfl | (simp [errW_none, errW_some] <;> rfl) | (simp [*, errW_none, errW_some] <;> rfl), by repeat (first | (with_reducible first | exact HB.out | apply below_alloc | apply pw_below_drewN | apply below_drew1 | refine below_set ?_ GE115.out) | exact HB.out)⟩
    · rw [if_neg c6] at H
      have c6b0 : decide (a2 < 0) = false := decide_eq_false c6
      clear c6
      replace H := Option.bind_eq_some_iff.mp H
      obtain ⟨t116, A80, H⟩ := H
      replace H : (if a2 ≥ t116 then (some ((-1), false)) else ((kind_To.f k l0_0 a1 a2).bind fun t117 => (some (t117, true)))) = some (r1, r2) := H
      have A8 := Aside0.mk A80
      clear A80
      by_cases c9 : a2 ≥ t116
      · rw [if_pos c9] at H
        have c9b0 : decide (t116 ≤ a2) = true := decide_eq_true c9
        clear c9
        simp only [Option.some.injEq, Prod.mk.injEq] at H
        obtain ⟨rfl, rfl⟩ := H
        go_enter Tryd.func94, Tryd.ntmps94
        go_wp2_with (first | ((with_reducible refine gate_dst (N := 3) rfl ?_); refine box_event ?hg (N := 3) ?hd (cs := #[.slice A0_0 l0_0.length c0_0, .string a0_1, .string a0_2, .slice A0_3 l0_3.length c0_3]) (t := 46) ?hr ?_; (case hd => rfl); (case hg => rfl); (case hr => first | (go_simp; done) | (go_simp; rfl)); intro gb115 hg w10 hbox hb; have n0_ := Aside0.mk (below_step (by repeat (first | (with_reducible first | exact HB.out | apply below_alloc | apply pw_below_drewN | apply below_drew1) | exact HB.out)) hb); have n1_ := Aside0.mk (hbox); have n2_ := Aside0.mk ((by rw [hg]; exact (below_size (by repeat (first | (with_reducible first | exact HB.out | apply below_alloc | apply pw_below_drewN | apply below_drew1) | exact HB.out))) : w.heap.size ≤ gb115)); have n3_ := Aside0.mk ((by rw [hg]; exact (below_size (by repeat (first | (with_reducible first | exact HB.out | apply below_alloc | apply pw_below_drewN | apply below_drew1) | exact HB.out))) : w.heap.size ≤ gb115)); clear HB; have HB := n0_; have BK115 := n1_; have GW115 := n2_; have GE115 := n3_; clear n0_ n1_ n2_ n3_; clear hb hbox hg; have hcz11_0 : w10.cell? ⟨gb115, 0, none⟩ = some (.slice A0_0 l0_0.length c0_0) := (blk_cell BK115.out 0).trans rfl; have hcz11_1 : w10.cell? ⟨gb115, 1, none⟩ = some (.string a0_1) := (blk_cell BK115.out 1).trans rfl; have hcz11_2 : w10.cell? ⟨gb115, 2, none⟩ = some (.string a0_2) := (blk_cell BK115.out 2).trans rfl; have hcz11_3 : w10.cell? ⟨gb115, 3, none⟩ = some (.slice A0_3 l0_3.length c0_3) := (blk_cell BK115.out 3).trans rfl; have hfz11_0 := blk_frozen BK115.out 0; have hfz11_1 := blk_frozen BK115.out 1; have hfz11_2 := blk_frozen BK115.out 2; have hfz11_3 := blk_frozen BK115.out 3) | (go_at_call 70; (with_reducible refine (kind_Size.calls k _ _ l0_0 a1 t116 _ ?side1 ?side2 A8.out).mono ?_); (case side1 => repeat (first | exact (Kd.C_below HR0_0.out HB.out) | (with_reducible refine Kd.C_alloc ?_ _) | (with_reducible refine Kd.C_drewN ?_ _) | (with_reducible refine Kd.C_drew ?_))); (case side2 => exact HC0_0.out); rintro e w' ⟨rfl, ⟨nd, rfl⟩⟩))
        go_ret2
        exact ⟨by first | rfl | (simp [errW_none, errW_some] <;> rfl) | (simp [*, errW_none, errW_some] <;> rfl), by repeat (first | (with_reducible first | exact HB.out | apply below_alloc | apply pw_below_drewN | apply below_drew1 | refine below_set ?_ GE115.out) | exact HB.out)⟩
      · rw [if_neg c9] at H
        have c9b0 : decide (t116 ≤ a2) = false := decide_eq_false c9
        clear c9
        replace H := Option.bind_eq_some_iff.mp H
        obtain ⟨t117, A120, H⟩ := H
        replace H : (some (t117, true)) = some (r1, r2) := H
        have A12 := Aside0.mk A120
        clear A120
        simp only [Option.some.injEq, Prod.mk.injEq] at H
        obtain ⟨rfl, rfl⟩ := H
        go_enter Tryd.func94, Tryd.ntmps94
        go_wp2_with (first | ((with_reducible refine gate_dst (N := 3) rfl ?_); refine box_event ?hg (N := 3) ?hd (cs := #[.slice A0_0 l0_0.length c0_0, .string a0_1, .string a0_2, .slice A0_3 l0_3.length c0_3]) (t := 46) ?hr ?_; (case hd => rfl); (case hg => rfl); (case hr => first | (go_simp; done) | (go_simp; rfl)); intro gb115 hg w13 hbox hb; have n0_ := Aside0.mk (below_step (by repeat (first | (with_reducible first | exact HB.out | apply below_alloc | apply pw_below_drewN | apply below_drew1) | exact HB.out)) hb); have n1_ := Aside0.mk (hbox); have n2_ := Aside0.mk ((by rw [hg]; exact (below_size (by repeat (first | (with_reducible first | exact HB.out | apply below_alloc | apply pw_below_drewN | apply below_drew1) | exact HB.out))) : w.heap.size ≤ gb115)); have n3_ := Aside0.mk ((by rw [hg]; exact (below_size (by repeat (first | (with_reducible first | exact HB.out | apply below_alloc | apply pw_below_drewN | apply below_drew1) | exact HB.out))) : w.heap.size ≤ gb115)); clear HB; have HB := n0_; have BK115 := n1_; have GW115 := n2_; have GE115 := n3_; clear n0_ n1_ n2_ n3_; clear hb hbox hg; have hcz14_0 : w13.cell? ⟨gb115, 0, none⟩ = some (.slice A0_0 l0_0.length c0_0) := (blk_cell BK115.out 0).trans rfl; have hcz14_1 : w13.cell? ⟨gb115, 1, none⟩ = some (.string a0_1) := (blk_cell BK115.out 1).trans rfl; have hcz14_2 : w13.cell? ⟨gb115, 2, none⟩ = some (.string a0_2) := (blk_cell BK115.out 2).trans rfl; have hcz14_3 : w13.cell? ⟨gb115, 3, none⟩ = some (.slice A0_3 l0_3.length c0_3) := (blk_cell BK115.out 3).trans rfl; have hfz14_0 := blk_frozen BK115.out 0; have hfz14_1 := blk_frozen BK115.out 1; have hfz14_2 := blk_frozen BK115.out 2; have hfz14_3 := blk_frozen BK115.out 3) | (go_at_call 70; (with_reducible refine (kind_Size.calls k _ _ l0_0 a1 t116 _ ?side1 ?side2 A8.out).mono ?_); (case side1 => repeat (first | exact (Kd.C_below HR0_0.out HB.out) | (with_reducible refine Kd.C_alloc ?_ _) | (with_reducible refine Kd.C_drewN ?_ _) | (with_reducible refine Kd.C_drew ?_))); (case side2 => exact HC0_0.out); rintro e w' ⟨rfl, ⟨nd, rfl⟩⟩) | ((with_reducible refine gate_callee (f := 118) rfl ?_); refine goesL_ (some 26) rfl rfl Tryd.func118 (by kernel_rfl) rfl #[.slice A0_0 l0_0.length c0_0, .int .i64 a1, .int .i64 a2] rfl (by (try simp only [List.map_toArray, List.map_cons, List.map_nil]); first | done | rfl | (simp only [List.length_drop, List.length_take]; rfl)) ?_; (with_reducible refine (kind_To.calls k _ _ l0_0 a1 a2 t117 _ ?side1 ?side2 A12.out).mono ?_); (case side1 => repeat (first | exact (Kd.C_below HR0_0.out (by repeat (first | (with_reducible first | exact HB.out | apply below_alloc | apply pw_below_drewN | apply below_drew1 | refine below_set ?_ GE115.out) | exact HB.out))) | (with_reducible refine Kd.C_alloc ?_ _) | (with_reducible refine Kd.C_drewN ?_ _) | (with_reducible refine Kd.C_drew ?_))); (case side2 => exact HC0_0.out); rintro e w' ⟨rfl, ⟨nd, rfl⟩⟩; refine ⟨_, rfl, ?_⟩))
        go_ret2
        exact ⟨by first | rfl | (simp [errW_none, errW_some] <;> rfl) | (simp [*, errW_none, errW_some] <;> rfl), by repeat (first | (with_reducible first | exact HB.out | apply below_alloc | apply pw_below_drewN | apply below_drew1 | refine below_set ?_ GE115.out) | exact HB.out)⟩
noncomputable def check_number.f (k : Nat) (l0_0 : List ByteArray) (a0_1 : ByteArray) (a0_2 : ByteArray) (l0_3 : List (S68)) (a1 : Int) (a2 : Int) : Option (Bool) := (check_field.f k l0_0 a0_1 a0_2 l0_3 a1 a2).bind fun bt119 => (if bt119.2 = true then (some (decide (bt119.1 < 0))) else (some false))
set_option maxHeartbeats 8000000 in
set_option maxRecDepth 100000 in
theorem check_number.calls (k : Nat) (A0_0 : Option Addr) (c0_0 : Nat) (l0_0 : List ByteArray) (a0_1 : ByteArray) (a0_2 : ByteArray) (A0_3 : Option Addr) (c0_3 : Nat) (l0_3 : List (S68)) (a1 : Int) (a2 : Int) (r : Bool) (w : World) (hr0_0 : Kd.C Kd.string w A0_0 l0_0.length l0_0) (hc0_0 : l0_0.length ≤ c0_0) (hr0_3 : Kd.C k68 w A0_3 l0_3.length l0_3) (hc0_3 : l0_3.length ≤ c0_3) (h : check_number.f k l0_0 a0_1 a0_2 l0_3 a1 a2 = some r) :
    Calls Tryd.prog 93 #[.agg #[.slice A0_0 l0_0.length c0_0, .string a0_1, .string a0_2, .slice A0_3 l0_3.length c0_3], .int .i64 a1, .int .i64 a2] w fun e w' => e = .returned (.bool r) ∧ Below w.heap.size w w' := by
  have hu46 := Tryd.underlying46
  have HR0_0 := Aside0.mk hr0_0
  have HC0_0 := Aside0.mk hc0_0
  clear hr0_0 hc0_0
  have HR0_3 := Aside0.mk hr0_3
  have HC0_3 := Aside0.mk hc0_3
  clear hr0_3 hc0_3
  have HB := Aside0.mk (Below.refl w.heap.size w)
  have H : ((check_field.f k l0_0 a0_1 a0_2 l0_3 a1 a2).bind fun bt119 => (if bt119.2 = true then (some (decide (bt119.1 < 0))) else (some false))) = some r := h
  clear h
  replace H := Option.bind_eq_some_iff.mp H
  obtain ⟨⟨t119, t120⟩, A40, H⟩ := H
  replace H : (if t120 = true then (some (decide (t119 < 0))) else (some false)) = some r := H
  have A4 := Aside0.mk A40
  clear A40
  by_cases c5 : t120 = true
  · subst c5
    have H1 : (some (decide (t119 < 0))) = some r := by rw [if_pos rfl] at H; exact H
    clear H
    have H := H1
    clear H1
    obtain rfl := Option.some.inj H
    go_enter Tryd.func93, Tryd.ntmps93
    go_wp2_with (first | ((with_reducible refine gate_dst (N := 3) rfl ?_); refine box_event ?hg (N := 3) ?hd (cs := #[.slice A0_0 l0_0.length c0_0, .string a0_1, .string a0_2, .slice A0_3 l0_3.length c0_3]) (t := 46) ?hr ?_; (case hd => rfl); (case hg => rfl); (case hr => first | (go_simp; done) | (go_simp; rfl)); intro gb118 hg w6 hbox hb; have n0_ := Aside0.mk (below_step (by repeat (first | (with_reducible first | exact HB.out | apply below_alloc | apply pw_below_drewN | apply below_drew1) | exact HB.out)) hb); have n1_ := Aside0.mk (hbox); have n2_ := Aside0.mk ((by rw [hg]; exact (below_size (by repeat (first | (with_reducible first | exact HB.out | apply below_alloc | apply pw_below_drewN | apply below_drew1) | exact HB.out))) : w.heap.size ≤ gb118)); have n3_ := Aside0.mk ((by rw [hg]; exact (below_size (by repeat (first | (with_reducible first | exact HB.out | apply below_alloc | apply pw_below_drewN | apply below_drew1) | exact HB.out))) : w.heap.size ≤ gb118)); clear HB; have HB := n0_; have BK118 := n1_; have GW118 := n2_; have GE118 := n3_; clear n0_ n1_ n2_ n3_; clear hb hbox hg; have hcz7_0 : w6.cell? ⟨gb118, 0, none⟩ = some (.slice A0_0 l0_0.length c0_0) := (blk_cell BK118.out 0).trans rfl; have hcz7_1 : w6.cell? ⟨gb118, 1, none⟩ = some (.string a0_1) := (blk_cell BK118.out 1).trans rfl; have hcz7_2 : w6.cell? ⟨gb118, 2, none⟩ = some (.string a0_2) := (blk_cell BK118.out 2).trans rfl; have hcz7_3 : w6.cell? ⟨gb118, 3, none⟩ = some (.slice A0_3 l0_3.length c0_3) := (blk_cell BK118.out 3).trans rfl; have hfz7_0 := blk_frozen BK118.out 0; have hfz7_1 := blk_frozen BK118.out 1; have hfz7_2 := blk_frozen BK118.out 2; have hfz7_3 := blk_frozen BK118.out 3) | ((with_reducible refine gate_callee (f := 94) rfl ?_); refine goesL_ (some 13) rfl rfl Tryd.func94 (by kernel_rfl) rfl #[.agg #[.slice A0_0 l0_0.length c0_0, .string a0_1, .string a0_2, .slice A0_3 l0_3.length c0_3], .int .i64 a1, .int .i64 a2] rfl (by (try simp only [List.map_toArray, List.map_cons, List.map_nil]); first | done | rfl | (simp only [List.length_drop, List.length_take]; rfl)) ?_; (with_reducible refine (check_field.calls k _ _ l0_0 a0_1 a0_2 _ _ l0_3 a1 a2 t119 true _ ?side1 ?side2 ?side3 ?side4 A4.out).mono ?_); (case side1 => repeat (first | exact (Kd.C_below HR0_0.out HB.out) | (with_reducible refine Kd.C_alloc ?_ _) | (with_reducible refine Kd.C_drewN ?_ _) | (with_reducible refine Kd.C_drew ?_))); (case side2 => exact HC0_0.out); (case side3 => repeat (first | exact (Kd.C_below HR0_3.out HB.out) | (with_reducible refine Kd.C_alloc ?_ _) | (with_reducible refine Kd.C_drewN ?_ _) | (with_reducible refine Kd.C_drew ?_))); (case side4 => exact HC0_3.out); rintro e w8 ⟨rfl, hb⟩; refine ⟨_, rfl, ?_⟩; have n0_ := Aside0.mk (blk_below (g := gb118) (o := .cells #[.slice A0_0 l0_0.length c0_0, .string a0_1, .string a0_2, .slice A0_3 l0_3.length c0_3] 46 (0, 0)) (by (with_reducible repeat (first | refine blk_drewN ?_ _ | refine blk_drew ?_ | refine blk_alloc ?_ _)); exact BK118.out) hb); have n1_ := Aside0.mk (below_step (by repeat (first | (with_reducible first | exact HB.out | apply below_alloc | apply pw_below_drewN | apply below_drew1 | refine below_set ?_ GE118.out) | exact HB.out)) hb); clear BK118; clear HB; have BK118 := n0_; have HB := n1_; clear n0_ n1_; (try clear hb); (try clear hb2); (try clear hk); (try clear hi)))
    go_ret
    exact ⟨by first | rfl | (simp [errW_none, errW_some] <;> rfl) | (simp [*, errW_none, errW_some] <;> rfl), by repeat (first | (with_reducible first | exact HB.out | apply below_alloc | apply pw_below_drewN | apply below_drew1 | refine below_set ?_ GE118.out) | exact HB.out)⟩
  · replace c5 := Bool.eq_false_iff.mpr c5
    subst c5
    have H1 : (some false) = some r := by rw [if_neg (show ¬ (false = true) by decide)] at H; exact H
    clear H
    have H := H1
    clear H1
    obtain rfl := Option.some.inj H
    go_enter Tryd.func93, Tryd.ntmps93
    go_wp2_with (first | ((with_reducible refine gate_dst (N := 3) rfl ?_); refine box_event ?hg (N := 3) ?hd (cs := #[.slice A0_0 l0_0.length c0_0, .string a0_1, .string a0_2, .slice A0_3 l0_3.length c0_3]) (t := 46) ?hr ?_; (case hd => rfl); (case hg => rfl); (case hr => first | (go_simp; done) | (go_simp; rfl)); intro gb118 hg w9 hbox hb; have n0_ := Aside0.mk (below_step (by repeat (first | (with_reducible first | exact HB.out | apply below_alloc | apply pw_below_drewN | apply below_drew1) | exact HB.out)) hb); have n1_ := Aside0.mk (hbox); have n2_ := Aside0.mk ((by rw [hg]; exact (below_size (by repeat (first | (with_reducible first | exact HB.out | apply below_alloc | apply pw_below_drewN | apply below_drew1) | exact HB.out))) : w.heap.size ≤ gb118)); have n3_ := Aside0.mk ((by rw [hg]; exact (below_size (by repeat (first | (with_reducible first | exact HB.out | apply below_alloc | apply pw_below_drewN | apply below_drew1) | exact HB.out))) : w.heap.size ≤ gb118)); clear HB; have HB := n0_; have BK118 := n1_; have GW118 := n2_; have GE118 := n3_; clear n0_ n1_ n2_ n3_; clear hb hbox hg; have hcz10_0 : w9.cell? ⟨gb118, 0, none⟩ = some (.slice A0_0 l0_0.length c0_0) := (blk_cell BK118.out 0).trans rfl; have hcz10_1 : w9.cell? ⟨gb118, 1, none⟩ = some (.string a0_1) := (blk_cell BK118.out 1).trans rfl; have hcz10_2 : w9.cell? ⟨gb118, 2, none⟩ = some (.string a0_2) := (blk_cell BK118.out 2).trans rfl; have hcz10_3 : w9.cell? ⟨gb118, 3, none⟩ = some (.slice A0_3 l0_3.length c0_3) := (blk_cell BK118.out 3).trans rfl; have hfz10_0 := blk_frozen BK118.out 0; have hfz10_1 := blk_frozen BK118.out 1; have hfz10_2 := blk_frozen BK118.out 2; have hfz10_3 := blk_frozen BK118.out 3) | ((with_reducible refine gate_callee (f := 94) rfl ?_); refine goesL_ (some 13) rfl rfl Tryd.func94 (by kernel_rfl) rfl #[.agg #[.slice A0_0 l0_0.length c0_0, .string a0_1, .string a0_2, .slice A0_3 l0_3.length c0_3], .int .i64 a1, .int .i64 a2] rfl (by (try simp only [List.map_toArray, List.map_cons, List.map_nil]); first | done | rfl | (simp only [List.length_drop, List.length_take]; rfl)) ?_; (with_reducible refine (check_field.calls k _ _ l0_0 a0_1 a0_2 _ _ l0_3 a1 a2 t119 false _ ?side1 ?side2 ?side3 ?side4 A4.out).mono ?_); (case side1 => repeat (first | exact (Kd.C_below HR0_0.out HB.out) | (with_reducible refine Kd.C_alloc ?_ _) | (with_reducible refine Kd.C_drewN ?_ _) | (with_reducible refine Kd.C_drew ?_))); (case side2 => exact HC0_0.out); (case side3 => repeat (first | exact (Kd.C_below HR0_3.out HB.out) | (with_reducible refine Kd.C_alloc ?_ _) | (with_reducible refine Kd.C_drewN ?_ _) | (with_reducible refine Kd.C_drew ?_))); (case side4 => exact HC0_3.out); rintro e w11 ⟨rfl, hb⟩; refine ⟨_, rfl, ?_⟩; have n0_ := Aside0.mk (blk_below (g := gb118) (o := .cells #[.slice A0_0 l0_0.length c0_0, .string a0_1, .string a0_2, .slice A0_3 l0_3.length c0_3] 46 (0, 0)) (by (with_reducible repeat (first | refine blk_drewN ?_ _ | refine blk_drew ?_ | refine blk_alloc ?_ _)); exact BK118.out) hb); have n1_ := Aside0.mk (below_step (by repeat (first | (with_reducible first | exact HB.out | apply below_alloc | apply pw_below_drewN | apply below_drew1 | refine below_set ?_ GE118.out) | exact HB.out)) hb); clear BK118; clear HB; have BK118 := n0_; have HB := n1_; clear n0_ n1_; (try clear hb); (try clear hb2); (try clear hk); (try clear hi)))
    go_ret
    exact ⟨by first | rfl | (simp [errW_none, errW_some] <;> rfl) | (simp [*, errW_none, errW_some] <;> rfl), by repeat (first | (with_reducible first | exact HB.out | apply below_alloc | apply pw_below_drewN | apply below_drew1 | refine below_set ?_ GE118.out) | exact HB.out)⟩
noncomputable def check_one.f (a0 : Int) (a1 : Int) : Option (Bool) := if a0 ≥ 0 then (some (a0 == a1)) else (some false)
set_option maxHeartbeats 8000000 in
set_option maxRecDepth 100000 in
theorem check_one.calls (a0 : Int) (a1 : Int) (r : Bool) (w : World) (h : check_one.f a0 a1 = some r) :
    Calls Tryd.prog 92 #[.int .i64 a0, .int .i64 a1] w fun e w' => e = .returned (.bool r) ∧ Drawn0 w w' := by
  have H : (if a0 ≥ 0 then (some (a0 == a1)) else (some false)) = some r := h
  clear h
  by_cases c3 : a0 ≥ 0
  · rw [if_pos c3] at H
    have c3b0 : decide (0 ≤ a0) = true := decide_eq_true c3
    clear c3
    obtain rfl := Option.some.inj H
    go_enter Tryd.func92, Tryd.ntmps92
    go_wp2
    go_ret
    exact ⟨by first | rfl | (simp; done) | (simp [*]; done), by repeat (first | exact Drawn0.refl _ | apply Drawn0.step)⟩
  · rw [if_neg c3] at H
    have c3b0 : decide (0 ≤ a0) = false := decide_eq_false c3
    clear c3
    obtain rfl := Option.some.inj H
    go_enter Tryd.func92, Tryd.ntmps92
    go_wp2
    go_ret
    exact ⟨by first | rfl | (simp; done) | (simp [*]; done), by repeat (first | exact Drawn0.refl _ | apply Drawn0.step)⟩
noncomputable def check_ints.l0 : Nat → List Int → Int → Int → Option (Bool)
  | 0, _, _, _ => none
  | k + 1, x5, x6, x7 => if x7 < x6 then (if 0 ≤ x7 then (if x7 < (x5.length : Int) then (if (rd x5 x7) ≥ 8 then (some false) else (check_ints.l0 k x5 x6 (wrap64 (x7 + 1)))) else (none)) else (none)) else (some true)
noncomputable def check_ints.f (k : Nat) (l0 : List Int) : Option (Bool) := check_ints.l0 k l0 (l0.length : Int) 0
set_option maxHeartbeats 8000000 in
set_option maxRecDepth 100000 in
theorem check_ints.calls (k : Nat) (A0 : Option Addr) (c0 : Nat) (l0 : List Int) (r : Bool) (w : World) (hr0 : Kd.C (Kd.int .u8) w A0 l0.length l0) (hc0 : l0.length ≤ c0) (h : check_ints.f k l0 = some r) :
    Calls Tryd.prog 91 #[.slice A0 l0.length c0] w fun e w' => e = .returned (.bool r) ∧ Drawn0 w w' := by
  have HR0 := Aside0.mk hr0
  have HC0 := Aside0.mk hc0
  clear hr0 hc0
  have H : (check_ints.l0 k l0 (l0.length : Int) 0) = some r := h
  clear h
  have H' := Aside0.mk H
  clear H
  go_enter Tryd.func91, Tryd.ntmps91
  go_wp2
  go_loopg [7] k (fun kq v7 w' => ∃ (x7_1 : Int), v7 = .int .i64 x7_1 ∧ Aside0 (check_ints.l0 kq l0 (l0.length : Int) x7_1 = some r) ∧ Aside0 (kq ≤ k) ∧ Drawn0 w w')
  case atStart => exact ⟨(0), (by first | rfl | (simp; done) | (simp [*]; done)), H', ⟨Nat.le_refl _⟩, by repeat (first | exact Drawn0.refl _ | apply Drawn0.step)⟩
  case round =>
    clear H'
    obtain ⟨x7_1, rfl, HA, HK1, ⟨m1, rfl⟩⟩ := hrel
    cases gk with
    | zero => exact absurd HA.out (by simp [check_ints.l0])
    | succ k1 =>
      have H := HA.out
      clear HA
      simp only [check_ints.l0] at H
      by_cases c2 : x7_1 < (l0.length : Int)
      · rw [if_pos c2] at H
        have c2b0 : decide (x7_1 < (l0.length : Int)) = true := decide_eq_true c2
        clear c2
        by_cases c3 : 0 ≤ x7_1
        · rw [if_pos c3] at H
          have c3b0 : decide (0 ≤ x7_1) = true := decide_eq_true c3
          clear c3
          by_cases c4 : x7_1 < (l0.length : Int)
          · rw [if_pos c4] at H
            have c4b0 : decide (x7_1 < (l0.length : Int)) = true := decide_eq_true c4
            clear c4
            by_cases c5 : (rd l0 x7_1) ≥ 8
            · rw [if_pos c5] at H
              have c5b0 : decide (8 ≤ (rd l0 x7_1)) = true := decide_eq_true c5
              clear c5
              obtain rfl := Option.some.inj H
              have p121 : 0 ≤ (x7_1 : Int) := of_decide_eq_true (by first | (with_reducible assumption) | assumption)
              have q121 : x7_1 < (l0.length : Int) := of_decide_eq_true (by first | (with_reducible assumption) | assumption)
              obtain ⟨ad121, e121, hx121_0⟩ := Kd.at_int HR0.out x7_1 p121 q121
              cases e121
              replace p121 := eq_true p121
              replace q121 := eq_true q121
              go_wp2
              go_ret
              exact ⟨by first | rfl | (simp; done) | (simp [*]; done), by repeat (first | exact Drawn0.refl _ | apply Drawn0.step)⟩
            · rw [if_neg c5] at H
              have c5b0 : decide (8 ≤ (rd l0 x7_1)) = false := decide_eq_false c5
              clear c5
              have H' := Aside0.mk H
              clear H
              have p121 : 0 ≤ (x7_1 : Int) := of_decide_eq_true (by first | (with_reducible assumption) | assumption)
              have q121 : x7_1 < (l0.length : Int) := of_decide_eq_true (by first | (with_reducible assumption) | assumption)
              obtain ⟨ad121, e121, hx121_0⟩ := Kd.at_int HR0.out x7_1 p121 q121
              cases e121
              replace p121 := eq_true p121
              replace q121 := eq_true q121
              go_wp2
              go_roundg k1
              case measure => have := HK1.out; omega
              case rel => exact ⟨(wrap64 (x7_1 + 1)), (by first | rfl | (simp; done) | (simp [*]; done)), H', ⟨by have := HK1.out; omega⟩, by repeat (first | exact Drawn0.refl _ | apply Drawn0.step)⟩
          · rw [if_neg c4] at H
            exact absurd H (by simp)
        · rw [if_neg c3] at H
          exact absurd H (by simp)
      · rw [if_neg c2] at H
        have c2b0 : decide (x7_1 < (l0.length : Int)) = false := decide_eq_false c2
        clear c2
        obtain rfl := Option.some.inj H
        go_wp2
        go_ret
        exact ⟨by first | rfl | (simp; done) | (simp [*]; done), by repeat (first | exact Drawn0.refl _ | apply Drawn0.step)⟩
end Go.Proofs.YtfkfpcciacplkaaDoor.PK

namespace Go.Proofs.YtfkfpcciacplkaaDoor.PK
open Go.RowKit Go.Proofs.YtfkfpcciacplkaaDoorW.PrintWords Go.Proofs.YtfkfpcciacplkaaDoorW.PrintLast Go.Proofs.YtfkfpcciacplkaaDoorW.PrintMore
attribute [local go_sem] max2_int min2_int max_two min_two max_three min_three max_four min_four
set_option linter.unusedVariables false
set_option linter.unusedSimpArgs false
open Go.Proofs.YtfkfpcciacplkaaDoor.F
end Go.Proofs.YtfkfpcciacplkaaDoor.PK

namespace Go.Proofs.YtfkfpcciacplkaaDoor.KP
open Go.RowKit Go.Proofs.YtfkfpcciacplkaaDoorW.PrintWords Go.Proofs.YtfkfpcciacplkaaDoor.Scan Go.Proofs.YtfkfpcciacplkaaDoor.F Go.Proofs.YtfkfpcciacplkaaDoor.PK
theorem kind_digit_val {c n : Int} (h0 : 0 ≤ c) (h1 : c ≤ 255) : kind_digit.f c n = some (dg c n) := by
  have e1 : wrap64 c = c := by unfold wrap64; omega
  have e2 : wrap64 (c - 48) = c - 48 := by unfold wrap64; omega
  unfold kind_digit.f dg
  rw [e1, e2]
  by_cases h : 48 ≤ c
  · by_cases h' : c - 48 < n
    · rw [if_pos (by omega), if_pos h', if_pos ⟨h, h'⟩]
    · rw [if_pos (by omega), if_neg h', if_neg (by omega)]
  · rw [if_neg (by omega), if_neg (by omega)]
theorem kind_l1_step (ts : List ByteArray) (i : Int) (s : ByteArray) (hz : (s.size : Int) ≤ 9223372036854775807) (j : Int) (q : Bool) (h0 : 0 ≤ j) (h1 : j < s.size) (hk : OkC ts.length (bt s j))
    (hq : Ev (fun k => kind_Right.l1 k ts s ts (ts.length : Int) i (s.size : Int) (j + 1)) q) : Ev (fun k => kind_Right.l1 k ts s ts (ts.length : Int) i (s.size : Int) j) q := by
  refine ev_step (fun k => ?_) hq
  have hb := bt_range s j
  show kind_Right.l1 (k + 1) ts s ts (ts.length : Int) i (s.size : Int) j = kind_Right.l1 k ts s ts (ts.length : Int) i (s.size : Int) (j + 1)
  rw [kind_Right.l1, if_pos h1, if_pos h0, if_pos h1, wrap_succ h0 h1 hz]
  by_cases hc : bt s j = 105
  · rw [if_pos hc]
  · rw [if_neg hc, kind_digit_val hb.1 hb.2, Option.bind_some, if_neg (by have := hk.resolve_left hc; omega)]
theorem kind_l1_bad (ts : List ByteArray) (i : Int) (s : ByteArray) (j : Int) (h0 : 0 ≤ j) (h1 : j < s.size) (hk : ¬ OkC ts.length (bt s j)) :
    Ev (fun k => kind_Right.l1 k ts s ts (ts.length : Int) i (s.size : Int) j) false := by
  refine ev_some fun k => ?_
  have hb := bt_range s j
  rw [kind_Right.l1, if_pos h1, if_pos h0, if_pos h1]
  rw [if_neg (fun hc => hk (.inl hc)), kind_digit_val hb.1 hb.2, Option.bind_some, if_pos (by have : ¬ 0 ≤ dg (bt s j) ts.length := fun hd => hk (.inr hd); omega)]
theorem kind_Right_ev (ts : List ByteArray) (hl : (ts.length : Int) ≤ 9223372036854775807) (hs : ∀ s ∈ ts, (s.size : Int) ≤ 9223372036854775807) : Ev (fun k => kind_Right.f k ts) (right ts) := by
  classical
  have H1 : ∀ i q, 0 ≤ i → i < (ts.length : Int) → OkT ts.length (rdOf ByteArray.empty ts i) → Ev (fun k => kind_Right.l0 k ts ts (ts.length : Int) (i + 1)) q → Ev (fun k => kind_Right.l0 k ts ts (ts.length : Int) i) q := by
    intro i q h0 h1 hk hq
    have hz := rd_size ts hs i
    have hlen : (rdOf ByteArray.empty ts i).toList ≠ [] := fun e => by
      have := (toList_nil _).1 e
      have := hk.1
      omega
    refine ev_step (f := fun k => kind_Right.j1 k ts (rdOf ByteArray.empty ts i) ts (ts.length : Int) i false) (fun k => ?_) (ev_step (f := fun k => kind_Right.l1 k ts (rdOf ByteArray.empty ts i) ts (ts.length : Int) i ((rdOf ByteArray.empty ts i).size : Int) 0) (fun k => ?_) ?_)
    · show kind_Right.l0 (k + 1) ts ts (ts.length : Int) i = _
      rw [kind_Right.l0, if_pos h1, if_pos h0, if_pos h1, if_neg hlen]
      congr 1
      rw [decide_eq_false_iff_not]
      have := hk.2.1
      omega
    · show kind_Right.j1 (k + 1) _ _ _ _ _ _ = _
      rw [kind_Right.j1, if_neg (by decide)]
    · refine scan0_good (fun k j => kind_Right.l1 k ts (rdOf ByteArray.empty ts i) ts (ts.length : Int) i ((rdOf ByteArray.empty ts i).size : Int) j) _ q _ (by omega) (fun j q' a b c d => kind_l1_step ts i _ hz j q' a b c d) ?_ hk.2.2
      refine ev_step (fun k => ?_) hq
      show kind_Right.l1 (k + 1) _ _ _ _ _ _ _ = _
      rw [kind_Right.l1, if_neg (by omega), wrap_succ h0 h1 hl]
  have H2 : ∀ i, 0 ≤ i → i < (ts.length : Int) → ¬ OkT ts.length (rdOf ByteArray.empty ts i) → Ev (fun k => kind_Right.l0 k ts ts (ts.length : Int) i) false := by
    intro i h0 h1 hk
    have hz := rd_size ts hs i
    by_cases he : (rdOf ByteArray.empty ts i).toList = []
    · refine ev_step (f := fun k => kind_Right.j1 k ts (rdOf ByteArray.empty ts i) ts (ts.length : Int) i true) (fun k => ?_) (ev_some fun k => ?_)
      · show kind_Right.l0 (k + 1) ts ts (ts.length : Int) i = _
        rw [kind_Right.l0, if_pos h1, if_pos h0, if_pos h1, if_pos he]
      · rw [kind_Right.j1, if_pos rfl]
    · have hn : (rdOf ByteArray.empty ts i).size ≠ 0 := fun e => he ((toList_nil _).2 e)
      refine ev_step (f := fun k => kind_Right.j1 k ts (rdOf ByteArray.empty ts i) ts (ts.length : Int) i (decide (((rdOf ByteArray.empty ts i).size : Int) > 6))) (fun k => ?_) ?_
      · show kind_Right.l0 (k + 1) ts ts (ts.length : Int) i = _
        rw [kind_Right.l0, if_pos h1, if_pos h0, if_pos h1, if_neg he]
      · by_cases h6 : ((rdOf ByteArray.empty ts i).size : Int) > 6
        · refine ev_some fun k => ?_
          rw [kind_Right.j1, if_pos (decide_eq_true h6)]
        · refine ev_step (f := fun k => kind_Right.l1 k ts (rdOf ByteArray.empty ts i) ts (ts.length : Int) i ((rdOf ByteArray.empty ts i).size : Int) 0) (fun k => ?_) ?_
          · show kind_Right.j1 (k + 1) _ _ _ _ _ _ = _
            rw [kind_Right.j1, if_neg (by simpa using h6)]
          · exact scan0_bad (fun k j => kind_Right.l1 k ts (rdOf ByteArray.empty ts i) ts (ts.length : Int) i ((rdOf ByteArray.empty ts i).size : Int) j) _ false (fun j => OkC ts.length (bt (rdOf ByteArray.empty ts i) j)) (by omega) (fun j q' a b c d => kind_l1_step ts i _ hz j q' a b c d) (fun j a b c => kind_l1_bad ts i _ j a b c) fun ha => hk ⟨by omega, by omega, ha⟩
  show Ev (fun k => kind_Right.l0 k ts ts (ts.length : Int) 0) (right ts)
  by_cases h : ∀ i : Int, 0 ≤ i → i < ts.length → OkT ts.length (rdOf ByteArray.empty ts i)
  · have e : right ts = decide (1 ≤ ts.length ∧ ts.length ≤ 8) := by
      unfold right
      rw [decide_eq_decide]
      exact ⟨fun x => x.2, fun x => ⟨h, x⟩⟩
    rw [e]
    refine scan0_good (fun k i => kind_Right.l0 k ts ts (ts.length : Int) i) _ _ _ (by omega) H1 (ev_some fun k => ?_) h
    simp only [kind_Right.l0]
    rw [if_neg (by omega)]
    by_cases h : 1 ≤ ts.length
    · rw [if_pos (by omega)]
      congr 1
      rw [decide_eq_decide]
      omega
    · rw [if_neg (by omega)]
      congr 1
      symm
      rw [decide_eq_false_iff_not]
      omega
  · have e : right ts = false := by
      unfold right
      rw [decide_eq_false_iff_not]
      exact fun x => h x.1
    rw [e]
    exact scan0_bad (fun k i => kind_Right.l0 k ts ts (ts.length : Int) i) _ false _ (by omega) H1 H2 h
theorem kind_Refs_ev (ts : List ByteArray) (s : ByteArray) (hl : (ts.length : Int) ≤ 9223372036854775807) (hs : ∀ s ∈ ts, (s.size : Int) ≤ 9223372036854775807) (hz : (s.size : Int) ≤ 9223372036854775807) :
    Ev (fun k => kind_Refs.f k ts s) (refs ts s) := by
  classical
  have H1 : ∀ i q, 0 ≤ i → i < (s.size : Int) → 0 ≤ dg (bt s i) ts.length → Ev (fun k => kind_Refs.l0 k ts s (s.size : Int) (i + 1)) q → Ev (fun k => kind_Refs.l0 k ts s (s.size : Int) i) q := by
    intro i q h0 h1 hk hq
    have hb := bt_range s i
    refine ev_step (fun k => ?_) hq
    show kind_Refs.l0 (k + 1) _ _ _ _ = kind_Refs.l0 k ts s (s.size : Int) (i + 1)
    rw [kind_Refs.l0, if_pos h1, if_pos h0, if_pos h1, kind_digit_val hb.1 hb.2, Option.bind_some, if_neg (by omega), wrap_succ h0 h1 hz]
  have H2 : ∀ i, 0 ≤ i → i < (s.size : Int) → ¬ 0 ≤ dg (bt s i) ts.length → Ev (fun k => kind_Refs.l0 k ts s (s.size : Int) i) false := by
    intro i h0 h1 hk
    have hb := bt_range s i
    refine ev_some fun k => ?_
    rw [kind_Refs.l0, if_pos h1, if_pos h0, if_pos h1, kind_digit_val hb.1 hb.2, Option.bind_some, if_pos (by omega)]
  show Ev (fun k => kind_Refs.l0 k ts s (s.size : Int) 0) (refs ts s)
  by_cases h : AllD ts.length s
  · have e : refs ts s = right ts := by
      unfold refs right
      rw [decide_eq_decide]
      exact ⟨fun x => x.1, fun x => ⟨x, h⟩⟩
    rw [e]
    refine scan0_good (fun k i => kind_Refs.l0 k ts s (s.size : Int) i) _ _ _ (by omega) H1 ?_ h
    refine ev_step (f := fun k => (kind_Right.f k ts).bind fun t => some t) (fun k => ?_) (ev_bind (kind_Right_ev ts hl hs) ev_const)
    show kind_Refs.l0 (k + 1) _ _ _ _ = _
    rw [kind_Refs.l0, if_neg (by omega)]
  · have e : refs ts s = false := by
      unfold refs
      rw [decide_eq_false_iff_not]
      exact fun x => h x.2
    rw [e]
    exact scan0_bad (fun k i => kind_Refs.l0 k ts s (s.size : Int) i) _ false _ (by omega) H1 H2 h
section
variable (ts : List ByteArray) (hl : (ts.length : Int) ≤ 9223372036854775807) (hs : ∀ s ∈ ts, (s.size : Int) ≤ 9223372036854775807)
include hl hs
theorem kind_of_ev (t : Int) : Ev (fun k => kind_of.f k ts t) (typ ts t) := by
  refine ev_bind (kind_Right_ev ts hl hs) (ev_all fun k => ?_)
  rcases right_cases ts with ⟨e, h⟩ | ⟨e, h⟩
  · rw [e, if_pos rfl]
    by_cases h0 : t < 0
    · rw [if_pos h0, typ_not fun x => by have := x.2.1; omega]
    · by_cases h1 : t ≥ ts.length
      · rw [if_neg h0, if_pos h1, typ_not fun x => by have := x.2.2; omega]
      · rw [if_neg h0, if_neg h1, if_pos (by omega), if_pos (by omega), typ_is ⟨h, by omega, by omega⟩]
  · rw [e, if_neg (by decide), typ_not fun x => h x.1]
theorem kind_Size_ev (t : Int) : Ev (fun k => kind_Size.f k ts t) (size ts t) :=
  ev_bind (kind_of_ev ts hl hs t) (ev_all fun _ => rfl)
theorem kind_To_ev (t f : Int) : Ev (fun k => kind_To.f k ts t f) (to_ ts t f) := by
  refine ev_bind (kind_of_ev ts hl hs t) (ev_all fun k => ?_)
  have hb := bt_range (typ ts t) f
  unfold to_ size
  by_cases h0 : f < 0
  · rw [if_pos h0, if_neg (by omega)]
  · by_cases h1 : f ≥ (typ ts t).size
    · rw [if_neg h0, if_pos h1, if_neg (by omega)]
    · rw [if_neg h0, if_neg h1, if_pos (by omega), if_pos (by omega), kind_digit_val hb.1 hb.2, if_pos (by omega)]
      rfl
end
end Go.Proofs.YtfkfpcciacplkaaDoor.KP

namespace Go.Proofs.YtfkfpcciacplkaaDoor.PL
open Go.RowKit Go.Proofs.YtfkfpcciacplkaaDoorW.PrintWords Go.Proofs.YtfkfpcciacplkaaDoor.Scan Go.Proofs.YtfkfpcciacplkaaDoor.F Go.Proofs.YtfkfpcciacplkaaDoor.KP Go.Proofs.YtfkfpcciacplkaaDoor.CR Go.Proofs.YtfkfpcciacplkaaDoor.SH Go.Proofs.YtfkfpcciacplkaaDoor.FM Go.Proofs.YtfkfpcciacplkaaDoor.PK
set_option linter.unusedVariables false
set_option linter.unusedSectionVars false
structure Pg.On (p : Pg) (w : World) : Prop where
  hT : Kd.C Kd.string w p.A0 p.ts.length p.ts
  hc0 : p.ts.length ≤ p.c0
  hC : Kd.C k68 w p.A3 p.code.length p.code
  hc3 : p.code.length ≤ p.c3
  hs : ∀ s ∈ p.ts, Fit s
  hla : p.la.size ≤ 1000000000000000
  hgl : p.gl.size ≤ 1000000000000000
  hw : WfC p.code
  ot : OT w
theorem Pg.On.below {p : Pg} {w w' : World} (h : p.On w) (hb : Below w.heap.size w w') : p.On w' := ⟨Kd.C_below h.hT hb, h.hc0, Kd.C_below h.hC hb, h.hc3, h.hs, h.hla, h.hgl, h.hw, OT_below h.ot hb⟩
theorem Pg.On.hl {p : Pg} {w : World} (h : p.On w) : (p.ts.length : Int) ≤ 9223372036854775807 := by have := Kd.C_max h.hT; omega
theorem Pg.On.hc {p : Pg} {w : World} (h : p.On w) : (p.code.length : Int) ≤ 9223372036854775807 := by have := Kd.C_max h.hC; omega
theorem named_ev (ts : List ByteArray) (hl : (ts.length : Int) ≤ 9223372036854775807) (hs : ∀ s ∈ ts, (s.size : Int) ≤ 9223372036854775807) (s : ByteArray) (hz : Fit s) (a : Int) (h0 : 0 ≤ a) (h255 : a ≤ 255) : Ev (fun k => check_named.f k ts s a) (atv ts s a) := by
  have e : wrap64 a = a := by unfold wrap64; omega
  have e1 : wrap64 (a + 1) = a + 1 := by unfold wrap64; omega
  unfold check_named.f atv
  simp only [e, e1]
  by_cases h : a ≥ (s.size : Int)
  · refine Ev.congr (fun k => if_pos h) ?_
    rw [if_neg (fun hh => by omega)]
    exact ev_const
  · have hr := kind_Refs_ev ts (s.extract a.toNat (a + 1).toNat) hl hs (extract_fit hz _ _)
    refine Ev.congr (fun k => if_neg h) (Ev.congr (fun k => if_pos h0) (Ev.congr (fun k => if_pos (by omega)) (Ev.congr (fun k => if_pos (by omega)) (ev_bind hr ?_))))
    by_cases hb : refs ts (s.extract a.toNat (a + 1).toNat) = true
    · refine Ev.congr (fun k => if_pos hb) (Ev.congr (fun k => if_pos h0) (Ev.congr (fun k => if_pos (by omega)) ?_))
      rw [if_pos ⟨by omega, hb⟩]
      exact ev_const
    · refine Ev.congr (fun k => if_neg hb) ?_
      rw [if_neg (fun hh => hb hh.2)]
      exact ev_const
noncomputable def numP (ts : List ByteArray) (t n : Int) : Bool := decide (0 ≤ t ∧ 0 ≤ n ∧ n < size ts t ∧ to_ ts t n < 0)
noncomputable def toP (ts : List ByteArray) (t n : Int) : Int := if 0 ≤ t then to_ ts t n else -1
noncomputable def isP (ts : List ByteArray) (t n : Int) : Bool := decide (0 ≤ t ∧ 0 ≤ n ∧ n < size ts t)
theorem field_ev (ts : List ByteArray) (hl : (ts.length : Int) ≤ 9223372036854775807) (hs : ∀ s ∈ ts, (s.size : Int) ≤ 9223372036854775807) (la gl : ByteArray) (code : List S68) (t n : Int) : Ev (fun k => check_field.f k ts la gl code t n) (toP ts t n, isP ts t n) := by
  have hn : ∀ q : ¬ (0 ≤ t ∧ 0 ≤ n ∧ n < size ts t), (toP ts t n, isP ts t n) = (-1, false) := fun q => by
    have h1 : toP ts t n = -1 := by
      unfold toP to_
      split
      · rw [if_neg (by omega)]
      · rfl
    rw [h1, show isP ts t n = false from decide_eq_false q]
  unfold check_field.f
  by_cases h0 : t < 0
  · rw [hn (by omega)]
    exact Ev.congr (fun k => if_pos h0) ev_const
  · refine Ev.congr (fun k => if_neg h0) ?_
    by_cases h1 : n < 0
    · rw [hn (by omega)]
      exact Ev.congr (fun k => if_pos h1) ev_const
    · refine Ev.congr (fun k => if_neg h1) (ev_bind (kind_Size_ev ts hl hs t) ?_)
      by_cases h2 : n ≥ size ts t
      · rw [hn (by omega)]
        exact Ev.congr (fun k => if_pos h2) ev_const
      · refine Ev.congr (fun k => if_neg h2) (ev_bind (kind_To_ev ts hl hs t n) ?_)
        rw [show toP ts t n = to_ ts t n from if_pos (by omega), show isP ts t n = true from decide_eq_true (by omega)]
        exact ev_const
theorem numP_ev (ts : List ByteArray) (hl : (ts.length : Int) ≤ 9223372036854775807) (hs : ∀ s ∈ ts, (s.size : Int) ≤ 9223372036854775807) (la gl : ByteArray) (code : List S68) (t n : Int) : Ev (fun k => check_number.f k ts la gl code t n) (numP ts t n) := by
  refine ev_bind (field_ev ts hl hs la gl code t n) ?_
  unfold numP isP toP
  by_cases h : 0 ≤ t ∧ 0 ≤ n ∧ n < size ts t
  · refine Ev.congr (fun k => if_pos (decide_eq_true h)) ?_
    rw [show decide (0 ≤ t ∧ 0 ≤ n ∧ n < size ts t ∧ to_ ts t n < 0) = decide (to_ ts t n < 0) by rw [decide_eq_decide]; exact ⟨fun q => q.2.2.2, fun q => ⟨h.1, h.2.1, h.2.2, q⟩⟩]
    simp only [if_pos h.1]
    exact ev_const
  · refine Ev.congr (fun k => if_neg (by rw [decide_eq_false h]; exact Bool.false_ne_true)) ?_
    rw [decide_eq_false (fun q => h ⟨q.1, q.2.1, q.2.2.1⟩)]
    exact ev_const
section
variable (p : Pg) (w : World) (h : p.On w)
include h
theorem pLocal_c (a : Int) (h0 : 0 ≤ a) (h1 : a ≤ 255) : Calls Tryd.prog 71 #[p.v, .int .u8 a] w fun e w' => e = .returned (.int .i64 (atv p.ts p.la a)) ∧ Below w.heap.size w w' := by
  obtain ⟨k, hk⟩ := ev_at (ev_bind (f := fun _ x => some x) (named_ev p.ts h.hl h.hs p.la (by have := h.hla; unfold Fit; omega) a h0 h1) ev_const)
  exact check_Local.calls k p.A0 p.c0 p.ts p.la p.gl p.A3 p.c3 p.code a _ w h.hT h.hc0 h.hC h.hc3 hk
theorem pGlob_c (a : Int) (h0 : 0 ≤ a) (h1 : a ≤ 255) : Calls Tryd.prog 95 #[p.v, .int .u8 a] w fun e w' => e = .returned (.int .i64 (atv p.ts p.gl a)) ∧ Below w.heap.size w w' := by
  obtain ⟨k, hk⟩ := ev_at (ev_bind (f := fun _ x => some x) (named_ev p.ts h.hl h.hs p.gl (by have := h.hgl; unfold Fit; omega) a h0 h1) ev_const)
  exact check_Glob.calls k p.A0 p.c0 p.ts p.la p.gl p.A3 p.c3 p.code a _ w h.hT h.hc0 h.hC h.hc3 hk
theorem pnumber_c (t n : Int) : Calls Tryd.prog 93 #[p.v, .int .i64 t, .int .i64 n] w fun e w' => e = .returned (.bool (numP p.ts t n)) ∧ Below w.heap.size w w' := by
  obtain ⟨k, hk⟩ := ev_at (numP_ev p.ts h.hl h.hs p.la p.gl p.code t n)
  exact check_number.calls k p.A0 p.c0 p.ts p.la p.gl p.A3 p.c3 p.code t n _ w h.hT h.hc0 h.hC h.hc3 hk
theorem pfield_c (t n : Int) : Calls Tryd.prog 94 #[p.v, .int .i64 t, .int .i64 n] w fun e w' => e = .returned (.tuple #[.int .i64 (toP p.ts t n), .bool (isP p.ts t n)]) ∧ Below w.heap.size w w' := by
  obtain ⟨k, hk⟩ := ev_at (field_ev p.ts h.hl h.hs p.la p.gl p.code t n)
  exact check_field.calls k p.A0 p.c0 p.ts p.la p.gl p.A3 p.c3 p.code t n _ _ w h.hT h.hc0 h.hC h.hc3 hk
theorem pRefs_c (s : ByteArray) (hz : s.size ≤ 2000000000000000) : Calls Tryd.prog 55 #[.slice p.A0 p.ts.length p.c0, .string s] w fun e w' => e = .returned (.bool (refs p.ts s)) ∧ Below w.heap.size w w' := by
  obtain ⟨k, hk⟩ := ev_at (kind_Refs_ev p.ts s h.hl h.hs (by omega))
  exact (kind_Refs.calls k p.A0 p.c0 p.ts s _ w h.hT h.hc0 hk).mono fun e w' h => ⟨h.1, h.2.below⟩
end
theorem pone_c (w : World) (a b : Int) : Calls Tryd.prog 92 #[.int .i64 a, .int .i64 b] w fun e w' => e = .returned (.bool (oneB a b)) ∧ Below w.heap.size w w' := by
  refine (check_one.calls a b (oneB a b) w ?_).mono fun e w' h => ⟨h.1, h.2.below⟩
  unfold check_one.f oneB
  by_cases h : a ≥ 0
  · rw [if_pos h, decide_eq_true (by omega : 0 ≤ a)]
    rfl
  · rw [if_neg h, decide_eq_false (by omega : ¬ 0 ≤ a)]
    rfl
theorem ints_ev (l : List Int) (hl : l.length ≤ 3) : Ev (fun k => check_ints.f k l) (l.all fun x => decide (x < 8)) := by
  have H : ∀ d i : Nat, i + d = l.length → Ev (fun k => check_ints.l0 k l l.length i) ((l.drop i).all fun x => decide (x < 8)) := by
    intro d
    induction d with
    | zero =>
      intro i hi
      rw [List.drop_of_length_le (by omega)]
      refine ev_some fun k => ?_
      rw [check_ints.l0, if_neg (by omega)]
      rfl
    | succ d ih =>
      intro i hi
      have er : rd l i = l[i]'(by omega) := rd_eq l i (by omega)
      rw [List.drop_eq_getElem_cons (by omega), List.all_cons, ← er]
      by_cases h : rd l i ≥ 8
      · refine ev_some fun k => ?_
        rw [check_ints.l0, if_pos (by omega), if_pos (by omega), if_pos (by omega), if_pos h, decide_eq_false (by omega)]
        rfl
      · rw [decide_eq_true (by omega : rd l i < 8), Bool.true_and]
        refine ev_step (fun k => ?_) (ih (i + 1) (by omega))
        show check_ints.l0 (k + 1) l l.length i = check_ints.l0 k l l.length ((i + 1 : Nat) : Int)
        rw [check_ints.l0, if_pos (by omega), if_pos (by omega), if_pos (by omega), if_neg h]
        congr 1
        unfold wrap64
        omega
  exact H l.length 0 (by omega)
theorem u8s_C (w : World) (t : TypeId) (l : List Int) (hl : l.length ≤ 3) : Kd.C (Kd.int .u8) (w.alloc (.cells (l.map (Value.int .u8)).toArray t)) (some ⟨w.heap.size, 0, none⟩) l.length l := by
  refine ⟨rfl, by omega, fun _ => ⟨_, rfl, fun j x hj => ⟨[.int .u8 x], rfl, rfl, fun i u hu => ?_⟩⟩⟩
  obtain ⟨rfl, rfl⟩ : i = 0 ∧ u = .int .u8 x := by
    cases i with
    | zero => exact ⟨rfl, (Option.some.inj hu).symm⟩
    | succ i => cases hu
  have e : (⟨w.heap.size, 0, none⟩ : Addr).add (j * 1 + 0) = ⟨w.heap.size, j, none⟩ := by
    unfold Addr.add
    split
    · rename_i h
      simp at h
      rw [h]
    · simp
  rw [show (Kd.int .u8).sz = 1 from rfl, e, cell_of_row _ _ _ _ _ _ (heap_alloc_new _ _)]
  simp [hj]
theorem ints_l (w : World) (t : TypeId) (l : List Int) (hl : l.length ≤ 3) : Calls Tryd.prog 91 #[.slice (some ⟨w.heap.size, 0, none⟩) l.length l.length] (w.alloc (.cells (l.map (Value.int .u8)).toArray t)) fun e w' => e = .returned (.bool (l.all fun x => decide (x < 8))) ∧ Below (w.alloc (.cells (l.map (Value.int .u8)).toArray t)).heap.size (w.alloc (.cells (l.map (Value.int .u8)).toArray t)) w' := by
  obtain ⟨k, hk⟩ := ev_at (ints_ev l hl)
  exact (check_ints.calls k _ _ l _ _ (u8s_C w t l hl) (Nat.le_refl _) hk).mono fun e w' h => ⟨h.1, h.2.below⟩
theorem ints1_c (w : World) (t : TypeId) (x : Int) (b : Bool) (hb : decide (x < 8) = b) : Calls Tryd.prog 91 #[.slice (some ⟨w.heap.size, 0, none⟩) 1 1] (w.alloc (.cells #[.int .u8 x] t)) fun e w' => e = .returned (.bool b) ∧ Below (w.alloc (.cells #[.int .u8 x] t)).heap.size (w.alloc (.cells #[.int .u8 x] t)) w' := by
  have h := ints_l w t [x] (by simp)
  simp only [List.all_cons, List.all_nil, Bool.and_true, hb] at h
  exact h
theorem ints3_c (w : World) (t : TypeId) (x y z : Int) : Calls Tryd.prog 91 #[.slice (some ⟨w.heap.size, 0, none⟩) 3 3] (w.alloc (.cells #[.int .u8 x, .int .u8 y, .int .u8 z] t)) fun e w' => e = .returned (.bool (decide (x < 8) && (decide (y < 8) && decide (z < 8)))) ∧ Below (w.alloc (.cells #[.int .u8 x, .int .u8 y, .int .u8 z] t)).heap.size (w.alloc (.cells #[.int .u8 x, .int .u8 y, .int .u8 z] t)) w' := by
  have h := ints_l w t [x, y, z] (by simp)
  simp only [List.all_cons, List.all_nil, Bool.and_true] at h
  exact h
end Go.Proofs.YtfkfpcciacplkaaDoor.PL

namespace Go.Proofs.YtfkfpcciacplkaaDoor.PRW
open Go.ChangeShapes Go.ChangeAt Go.RowKit Go.WideShapes Go.Proofs.YtfkfpcciacplkaaDoorW.PrintWords Go.Proofs.YtfkfpcciacplkaaDoor.F Go.Proofs.YtfkfpcciacplkaaDoor.T Go.Proofs.YtfkfpcciacplkaaDoor.CR Go.Proofs.YtfkfpcciacplkaaDoor.FM Go.Proofs.YtfkfpcciacplkaaDoor.PL Go.Proofs.YtfkfpcciacplkaaDoor.KP Go.Proofs.YtfkfpcciacplkaaDoor.TRO
set_option linter.unusedVariables false
theorem wf_i64 {n : Int} (h : (Lit.int .i64 n).wf = true) : -9223372036854775808 ≤ n ∧ n ≤ 9223372036854775807 := by
  simp [Lit.wf, IntKind.min, IntKind.max, IntKind.signed, IntKind.bits] at h
  omega
def IsStrs (w : World) (a : Option Addr) (len cap : Nat) (zs : List ByteArray) : Prop :=
  (a = none ∧ len = 0 ∧ cap = 0 ∧ zs = []) ∨
  ∃ x, a = some x ∧ len ≤ cap ∧ cap ≤ maxLen ∧ zs.length = cap ∧ (∀ i, i < zs.length → w.cell? (x.add i) = some (.string (zs.getD i ByteArray.empty))) ∧ ∀ s ∈ zs, s.size ≤ maxLen
theorem strs_C {w : World} {a : Option Addr} {len cap : Nat} {zs : List ByteArray} (h : IsStrs w a len cap zs) :
    ∃ l0 : List ByteArray, len = l0.length ∧ l0.length ≤ cap ∧ Kd.C Kd.string w a l0.length l0 ∧ ∀ s ∈ l0, (s.size : Int) ≤ 9223372036854775807 := by
  rcases h with ⟨rfl, rfl, rfl, rfl⟩ | ⟨x, rfl, hl, hm, hz, hc, hs⟩
  · exact ⟨[], rfl, Nat.le_refl _, Kd.C_nil _ _, fun s hs => by cases hs⟩
  · have hlen : (zs.take len).length = len := by rw [List.length_take]; omega
    refine ⟨zs.take len, hlen.symm, by omega, Kd.C_of_reads (d := ByteArray.empty) ⟨rfl, ?_, fun _ => ⟨x, rfl, fun j hj => ?_⟩⟩, fun s h => ?_⟩
    · rw [hlen]; unfold maxLen at hm; omega
    · rw [hlen] at hj
      rw [hc j (by omega)]
      congr 2
      rw [List.getD_eq_getElem?_getD, List.getD_eq_getElem?_getD, List.getElem?_take, if_pos hj]
    · have := hs s (List.mem_of_mem_take h)
      unfold maxLen at this
      omega
section
variable {H : Type} {enc : TypeId × Value → H} {W : World} {held : Bool} {sp : Nat → Bool}
set_option maxRecDepth 100000 in
theorem ins_at {fuel : Nat} {cs : List Value} {x : DataW H × List MemPlace} (h : DataW.trod enc Tryd.prog W 0 sp held fuel 68 cs = some x) :
    ∃ s : S68, cs = [.int .u8 s.f0, .int .u8 s.f1, .int .u8 s.f2, .int .u8 s.f3, .int .i64 s.f4] ∧ WfI s.f0 s.f1 s.f2 s.f3 s.f4 := by
  obtain ⟨xs, n, _, _, hl, hxl, hf⟩ := DataW.trod_struct Tryd.underlying68 h
  have hc5 : Tryd.prog.cellsOf 68 = 5 := by kernel_rfl
  have c1 : Tryd.prog.cellsOf 5 = 1 := by kernel_rfl
  have c2 : Tryd.prog.cellsOf 2 = 1 := by kernel_rfl
  rw [hc5] at hl
  match cs, hl with
  | [a, b, c, d, e], _ =>
    match xs, hxl with
    | [x0, x1, x2, x3, x4], _ =>
      obtain ⟨n0, e0, _, w0⟩ := DataW.trod_int Tryd.underlying5 (hf 0 _ rfl)
      obtain ⟨n1, e1, _, w1⟩ := DataW.trod_int Tryd.underlying5 (hf 1 _ rfl)
      obtain ⟨n2, e2, _, w2⟩ := DataW.trod_int Tryd.underlying5 (hf 2 _ rfl)
      obtain ⟨n3, e3, _, w3⟩ := DataW.trod_int Tryd.underlying5 (hf 3 _ rfl)
      obtain ⟨n4, e4, _, w4⟩ := DataW.trod_int Tryd.underlying2 (hf 4 _ rfl)
      have e0' : a = .int .u8 n0 := by simpa [c1, c2] using e0
      have e1' : b = .int .u8 n1 := by simpa [c1, c2] using e1
      have e2' : c = .int .u8 n2 := by simpa [c1, c2] using e2
      have e3' : d = .int .u8 n3 := by simpa [c1, c2] using e3
      have e4' : e = .int .i64 n4 := by simpa [c1, c2] using e4
      exact ⟨⟨n0, n1, n2, n3, n4⟩, by rw [e0', e1', e2', e3', e4'], wf_u8 w0, wf_u8 w1, wf_u8 w2, wf_u8 w3, wf_i64 w4⟩
set_option maxRecDepth 100000 in
theorem ins_row {fuel : Nat} {v : Value} {x : DataW H × List MemPlace} (h : DataW.trod enc Tryd.prog W 0 sp held fuel 44 [v] = some x) :
    ∃ (A : Option Addr) (c : Nat) (code : List S68), v = .slice A code.length c ∧ code.length ≤ c ∧ Kd.C k68 W A code.length code ∧ WfC code := by
  have hc5 : Tryd.prog.cellsOf 68 = 5 := by kernel_rfl
  rcases DataW.trod_slice Tryd.underlying44 h with ⟨h0, _⟩ | ⟨a, len, cap, elems, rest, n, _, h0, _, hb, hl, hm, hlen, hel, _, _⟩
  · injection h0 with h0
    exact ⟨none, 0, [], h0, Nat.le_refl _, Kd.C_nil _ _, fun x hx => by cases hx⟩
  · injection h0 with h0
    have each : ∀ i, ∃ s : S68, i < len → (∀ j u, ([.int .u8 s.f0, .int .u8 s.f1, .int .u8 s.f2, .int .u8 s.f3, .int .i64 s.f4] : List Value)[j]? = some u → W.cell? (a.add (i * 5 + j)) = some u) ∧ WfI s.f0 s.f1 s.f2 s.f3 s.f4 := by
      intro i
      by_cases hi : i < len
      · have h1 := hel i hi
        rw [List.getElem?_eq_getElem (by omega), hc5, Option.bind_eq_some_iff] at h1
        obtain ⟨cs, h2, h3⟩ := h1
        obtain ⟨s, rfl, hw⟩ := ins_at h3
        obtain ⟨_, _, h4⟩ := World.cells?_some h2
        refine ⟨s, fun _ => ⟨fun j u hu => ?_, hw⟩⟩
        have hj : j < 5 := by
          have := (List.getElem?_eq_some_iff.1 hu).1
          simpa using this
        have h5 := h4 j hj
        rw [hu] at h5
        rw [← h5]
        rw [TRO.add_add]
      · exact ⟨z68, fun h => absurd h hi⟩
    obtain ⟨f, hf⟩ := Classical.axiomOfChoice each
    have hlm : ((List.range len).map f).length = len := by simp
    refine ⟨some a, cap, (List.range len).map f, by rw [hlm]; exact h0, by rw [hlm]; exact hl, ?_, fun s hs => ?_⟩
    · rw [hlm]
      refine ⟨hlm, by unfold maxLen at hm; omega, fun _ => ⟨a, rfl, fun j p hp => ?_⟩⟩
      rw [List.getElem?_map] at hp
      by_cases hj : j < len
      · rw [List.getElem?_range hj] at hp
        obtain rfl := Option.some.inj hp
        exact ⟨_, rfl, k68_mk W (f j), fun i u hu => ((hf j) hj).1 i u hu⟩
      · rw [List.getElem?_eq_none (by simpa using hj)] at hp
        cases hp
    · obtain ⟨j, hj, rfl⟩ := List.mem_map.1 hs
      exact ((hf j) (List.mem_range.1 hj)).2
set_option maxRecDepth 100000 in
theorem open_prog {r : Reach} {b0 : Nat} {v : Value} {d : DataW H} {ps : List MemPlace} (hval : Value.okWide Tryd.prog W r b0 46 v) (hd : DataW.Trod enc Tryd.prog W 0 (fun _ => true) held 46 v d ps)
    (hw : (d.weights Tryd.prog 46).all (· ≤ reachBytes) = true) (hot : OT W) (htb : TB W) : ∃ p : Pg, v = p.v ∧ p.On W ∧ p.In W := by
  obtain ⟨cs, rfl, hn⟩ := okWide_struct Tryd.underlying46 hval
  have hc4 : Tryd.prog.cellsOf 46 = 4 := by kernel_rfl
  have c1 : Tryd.prog.cellsOf 9 = 1 := by kernel_rfl
  have c2 : Tryd.prog.cellsOf 43 = 1 := by kernel_rfl
  have c3' : Tryd.prog.cellsOf 44 = 1 := by kernel_rfl
  rw [hc4] at hn
  obtain ⟨fuel, hf⟩ := hd
  obtain ⟨xs, n, _, hx, _, hxl, hfl⟩ := DataW.trod_struct Tryd.underlying46 hf
  obtain ⟨l⟩ := cs
  match l, hn with
  | [a, b, c, e], _ =>
    match xs, hxl with
    | [x0, x1, x2, x3], _ =>
      have f0 : DataW.trod enc Tryd.prog W 0 (fun _ => true) held n 43 [a] = some x0 := by simpa [c2, Value.cells] using hfl 0 _ rfl
      have f1 : DataW.trod enc Tryd.prog W 0 (fun _ => true) held n 9 [b] = some x1 := by simpa [c1, Value.cells] using hfl 1 _ rfl
      have f2 : DataW.trod enc Tryd.prog W 0 (fun _ => true) held n 9 [c] = some x2 := by simpa [c1, Value.cells] using hfl 2 _ rfl
      have f3 : DataW.trod enc Tryd.prog W 0 (fun _ => true) held n 44 [e] = some x3 := by simpa [c3', Value.cells] using hfl 3 _ rfl
      obtain ⟨s1, e1, q1, w1⟩ := DataW.trod_string Tryd.underlying9 f1
      obtain ⟨s2, e2, q2, w2⟩ := DataW.trod_string Tryd.underlying9 f2
      obtain ⟨A3, c3, code, e3, hc3, hC3, hwf⟩ := ins_row f3
      injection e1 with e1
      injection e2 with e2
      have hS : ∃ A len cap zs, a = .slice A len cap ∧ IsStrs W A len cap zs := by
        rcases open_strings Tryd.underlying43 Tryd.underlying9 c1 f0 with ⟨hcs, _⟩ | ⟨x, l, c, zs, hcs, _, hl, hm, hz, _, hcell, hwz⟩
        · injection hcs with hcs
          exact ⟨none, 0, 0, [], hcs, .inl ⟨rfl, rfl, rfl, rfl⟩⟩
        · injection hcs with hcs
          exact ⟨some x, l, c, zs, hcs, .inr ⟨x, rfl, hl, hm, by simpa using hz, hcell, hwz⟩⟩
      obtain ⟨A0, len0, cap0, zs, e0, hz⟩ := hS
      obtain ⟨ts, rfl, hc0, hC0, hS0⟩ := strs_C hz
      subst e0 e1 e2 e3
      have hd := congrArg Prod.fst hx
      simp only [List.map_cons, List.map_nil] at hd
      rw [hd, q1, q2] at hw
      have hsz : s1.size ≤ 140737488355328 ∧ s2.size ≤ 140737488355328 := by
        simp [DataW.weights, Tryd.underlying46, DataW.weightsEach, reachBytes] at hw
        have h1 := of_decide_eq_true hw.2.1
        have h2 := of_decide_eq_true hw.2.2.1
        omega
      unfold maxLen at w1 w2
      exact ⟨⟨A0, cap0, ts, s1, s2, A3, c3, code⟩, rfl, ⟨hC0, hc0, hC3, hc3, hS0, by show s1.size ≤ _; omega, by show s2.size ≤ _; omega, hwf, hot⟩, ⟨hC0, hc0, hC3, hc3, hS0, by show (s1.size : Int) ≤ _; omega, by show (s2.size : Int) ≤ _; omega, hwf, htb⟩⟩
set_option maxRecDepth 100000 in
theorem open_res {r : Reach} {b0 : Nat} {v : Value} {d : DataW H} {ps : List MemPlace} (hval : Value.okWide Tryd.prog W r b0 27 v) (hd : DataW.Trod enc Tryd.prog W 0 (fun _ => true) held 27 v d ps) :
    ∃ (A : Option Addr) (c : Nat) (l : List Int) (o : Bool) (e s y : Int), v = .agg #[.slice A l.length c, .bool o, .int .i64 e, .int .i64 s, .int .i64 y] ∧ l.length ≤ c ∧ Kd.C (Kd.int .i64) W A l.length l := by
  obtain ⟨cs, rfl, hn⟩ := okWide_struct Tryd.underlying27 hval
  have hc5 : Tryd.prog.cellsOf 27 = 5 := by kernel_rfl
  have c1 : Tryd.prog.cellsOf 23 = 1 := by kernel_rfl
  have c2 : Tryd.prog.cellsOf 4 = 1 := by kernel_rfl
  have c3 : Tryd.prog.cellsOf 3 = 1 := by kernel_rfl
  rw [hc5] at hn
  obtain ⟨fuel, hf⟩ := hd
  obtain ⟨xs, n, _, _, _, hxl, hfl⟩ := DataW.trod_struct Tryd.underlying27 hf
  obtain ⟨l⟩ := cs
  match l, hn with
  | [a, b, c, d, e], _ =>
    match xs, hxl with
    | [x0, x1, x2, x3, x4], _ =>
      obtain ⟨A0, c0, l0, e0, l0', hC⟩ := ints_row (by simpa [c1, Value.cells] using hfl 0 _ rfl)
      obtain ⟨n1, e1, _⟩ := DataW.trod_bool Tryd.underlying4 (hfl 1 _ rfl)
      obtain ⟨n2, e2, _⟩ := DataW.trod_int Tryd.underlying3 (hfl 2 _ rfl)
      obtain ⟨n3, e3, _⟩ := DataW.trod_int Tryd.underlying3 (hfl 3 _ rfl)
      obtain ⟨n4, e4, _⟩ := DataW.trod_int Tryd.underlying3 (hfl 4 _ rfl)
      have e1' : b = .bool n1 := by simpa [c1, c2, c3, Value.cells] using e1
      have e2' : c = .int .i64 n2 := by simpa [c1, c2, c3, Value.cells] using e2
      have e3' : d = .int .i64 n3 := by simpa [c1, c2, c3, Value.cells] using e3
      have e4' : e = .int .i64 n4 := by simpa [c1, c2, c3, Value.cells] using e4
      subst e0 e1' e2' e3' e4'
      exact ⟨A0, c0, l0, n1, n2, n3, n4, rfl, l0', hC⟩
end
def L4 : List (String × DataW Unit) := [("math/bits.deBruijn32tab", Rows.laid_math_bits_deBruijn32tab), ("math/bits.deBruijn64tab", Rows.laid_math_bits_deBruijn64tab), ("internal/strconv.uint64pow10", Rows.laid_internal_strconv_uint64pow10), ("lockstitch/code.ops", Rows.laid_lockstitch_code_ops)]
theorem door_met (os : Os) (args : Array Value) : laidMetH Tryd.prog L4 ((World.doorLaid Tryd.prog 400 os).forCall (fun _ _ => 0) ⟨#[], args, []⟩).memory :=
  laidMetH_of_parts3 (fuel := 8) (laidMet_of_run' 8 (by kernel_rfl) (by kernel_rfl)) (by kernel_rfl) (by kernel_rfl)
theorem tabs {W : World} (h : laidMetH Tryd.prog L4 W) : TB W ∧ OT W := by
  rw [MakeChecks.laidMetH_plain _ _ _ (by kernel_rfl)] at h
  obtain ⟨ps, ⟨g0, t0, cs0, f0, p0, q0, _, _, _, _, ⟨g1, t1, cs1, f1, p1, q1, _, _, _, _, ⟨g2, t2, cs2, f2, p2, q2, hg2, ht2, hv2, hd2, ⟨g3, t3, cs3, f3, p3, q3, hg3, ht3, hv3, hd3, _, _⟩, _⟩, _⟩, _⟩, _, _⟩ := h
  obtain rfl := Option.some.inj ((show Tryd.prog.globalNamed "internal/strconv.uint64pow10" = some 2 by kernel_rfl).symm.trans hg2)
  obtain rfl := Option.some.inj ((show (Tryd.prog.globals[2]?).map (·.type) = some 199 by kernel_rfl).symm.trans ht2)
  obtain rfl := Option.some.inj ((show Tryd.prog.globalNamed "lockstitch/code.ops" = some 0 by kernel_rfl).symm.trans hg3)
  obtain rfl := Option.some.inj ((show (Tryd.prog.globals[0]?).map (·.type) = some 142 by kernel_rfl).symm.trans ht3)
  have e := Lib.cells_of_tab (k := .u64) (zs := Lib.pow10Tab) Tryd.underlying199 Tryd.underlying172 (by kernel_rfl) (by kernel_rfl) hd2
  have e' := ops_cells hd3
  constructor
  · unfold TB Lib.TabIs
    rw [hv2, ← e]
  · unfold OT
    rw [hv3, ← e']
theorem w_first {H : Type} {P : Program} {t : TypeId} {ts : List TypeId} {d : DataW H} {ds : List (DataW H)} (h : (DataW.weightsEach P (t :: ts) (d :: ds)).all (· ≤ reachBytes) = true) : (d.weights P t).all (· ≤ reachBytes) = true := by
  simp only [DataW.weightsEach, List.all_append, Bool.and_eq_true] at h
  exact h.1
end Go.Proofs.YtfkfpcciacplkaaDoor.PRW

namespace Go.Proofs.YtfkfpcciacplkaaDoor.DO1
open Go.RowKit Go.Proofs.YtfkfpcciacplkaaDoorW.PrintWords Go.Proofs.YtfkfpcciacplkaaDoor.F Go.Proofs.YtfkfpcciacplkaaDoor.KP Go.Proofs.YtfkfpcciacplkaaDoor.CR Go.Proofs.YtfkfpcciacplkaaDoor.SH Go.Proofs.YtfkfpcciacplkaaDoor.FM Go.Proofs.YtfkfpcciacplkaaDoor.ST0 Go.Proofs.YtfkfpcciacplkaaDoor.PL
set_option linter.unusedVariables false
set_option linter.unusedSectionVars false
set_option linter.unusedSimpArgs false
attribute [local go_sem ↓] Go.wp_at_zero Go.wp_at_succ
abbrev stR (v : Value) (at_ steps : Int) : Array Value := #[.int .i64 0, .int .i64 0, .int .i64 0, .int .i64 0, .int .i64 0, .int .i64 0, .int .i64 0, .int .i64 0, .int .i64 0, .int .i64 0, .int .i64 0, .int .i64 0, .int .i64 0, .int .i64 0, .int .i64 0, .int .i64 0, .int .i64 0, .int .i64 0, .int .i64 0, .int .i64 0, .slice none 0 0, v, .int .i64 at_, .int .i64 steps]
theorem inf64' : (Tryd.prog.info? 2).map (fun i => (i.zero, i.size, i.bytes)) = some (some (.int .i64 0), 1, 8) := by kernel_rfl
theorem below_alloc' {B : Nat} {w W : World} {o : Obj} (h : Below B w W) (hb : B ≤ W.heap.size) : Below B w (W.alloc o) := h.alloc hb o
set_option maxHeartbeats 4000000 in
set_option maxRecDepth 100000 in
theorem do_print (w : World) (g : Nat) (A0 : Option Addr) (n0 c0 : Nat) (la gl : ByteArray) (A3 : Option Addr) (n3 c3 : Nat) (hg : w.heap[g]? = some (.cells (stR (.slice none 0 0) 0 0) 88 (0, 0))) :
    Calls Tryd.prog 49 #[.pointer (some ⟨g, 0, none⟩), .agg #[.slice A0 n0 c0, .string la, .string gl, .slice A3 n3 c3], .agg #[.int .u8 14, .int .u8 0, .int .u8 0, .int .u8 0, .int .i64 0]] w fun e w' => e = .returned (.int .i64 0) ∧ ∃ A c, 1 ≤ c ∧ w'.heap[g]? = some (.cells (stR (.slice A 1 c) 1 1) 88 (0, 0)) ∧ Kd.C (Kd.int .i64) w' A 1 [0] ∧ Below g w w' := by
  have HG := Aside0.mk hg
  have hgw := blk_lt hg
  clear hg
  go_enter Tryd.func49, Tryd.ntmps49
  go_upto_region 1 with (fail)
  obtain ⟨W0, hW0⟩ : ∃ W0 : World, W0 = (w.alloc (.cells #[.slice A0 n0 c0, .string la, .string gl, .slice A3 n3 c3] 46)).alloc (.cells #[.int .u8 14, .int .u8 0, .int .u8 0, .int .u8 0, .int .i64 0] 68) := ⟨_, rfl⟩
  have RG : W0.heap[g]? = some (.cells (stR (.slice none 0 0) 0 0) 88 (0, 0)) := by rw [hW0]; exact row_old _ _ _ (by simp; omega) (row_old _ _ _ hgw HG.out)
  have RI : W0.heap[w.heap.size + 1]? = some (.cells #[.int .u8 14, .int .u8 0, .int .u8 0, .int .u8 0, .int .i64 0] 68 (0, 0)) := by rw [hW0]; exact row_new _ _ _ (by simp)
  have HW := Aside0.mk (show Below w.heap.size w W0 by rw [hW0]; exact below_alloc (below_alloc (Below.refl _ _) _) _)
  rw [← hW0]
  clear hW0
  have HRG := Aside0.mk RG
  have HRI := Aside0.mk RI
  have k21 : W0.cell? ⟨g, 21, none⟩ = some (.slice none 0 0) := (blk_cell RG 21).trans rfl
  have k22 : W0.cell? ⟨g, 22, none⟩ = some (.int .i64 0) := (blk_cell RG 22).trans rfl
  have k23 : W0.cell? ⟨g, 23, none⟩ = some (.int .i64 0) := (blk_cell RG 23).trans rfl
  have kf : ∀ j, W0.frozen? ⟨g, j, none⟩ = false := fun j => blk_frozen RG j
  have kI := fun j => cell_of_row W0 (w.heap.size + 1) j _ _ _ RI
  clear RG RI
  go_upto_region 26 with (fail)
  obtain ⟨W1, hW1⟩ : ∃ W1 : World, W1 = (W0.setCell ⟨g, 22, none⟩ (.int .i64 1)).setCell ⟨g, 23, none⟩ (.int .i64 1) := ⟨_, rfl⟩
  have RG : W1.heap[g]? = some (.cells (stR (.slice none 0 0) 1 1) 88 (0, 0)) := by rw [hW1]; exact row_cellS _ (row_cellS _ HRG.out)
  have RI : W1.heap[w.heap.size + 1]? = some (.cells #[.int .u8 14, .int .u8 0, .int .u8 0, .int .u8 0, .int .i64 0] 68 (0, 0)) := by rw [hW1]; exact row_cellO _ _ (by simp; omega) (row_cellO _ _ (by simp; omega) HRI.out)
  have HW := Aside0.mk (show Below g w W1 by rw [hW1]; exact (((HW.out.mono (Nat.le_of_lt hgw)).setCell (Nat.le_refl _) _).setCell (Nat.le_refl _) _))
  have hz := Nat.lt_of_lt_of_le hgw HW.out.size
  rw [← hW1]
  clear hW1 k21 k22 k23 kf kI HRG HRI
  have HRG := Aside0.mk RG
  have e0 : W1.cell? ⟨g, 0, none⟩ = some (.int .i64 0) := (blk_cell RG 0).trans rfl
  have e21 : W1.cell? ⟨g, 21, none⟩ = some (.slice none 0 0) := (blk_cell RG 21).trans rfl
  have eI : W1.cell? ⟨w.heap.size + 1, 1, none⟩ = some (.int .u8 0) := (blk_cell RI 1).trans rfl
  have kf : W1.frozen? ⟨g, 21, none⟩ = false := blk_frozen RG 21
  have n1 := World.new_ne _ _ e0
  have n2 := World.new_ne _ _ eI
  clear RG
  obtain ⟨i0, hi0, hz0, hz1, hz2⟩ := info_parts inf64'
  go_region_law ((refine step_append_lies _ (by rfl) _ _ _ (by rfl) W1.heap.size 2 i0 _ 1 8 Tryd.underlying23 hi0 hz0 hz1 hz2 rfl (by decide) (.slice none 0 0) 0 [] (by rfl) (own_nil _ _ _ _) ⟨W1.heap.size, 0, none⟩ 1 1 [.int .i64 0] (by rfl) rfl (World.news_of_block (cs := #[.int .i64 0]) (heap_alloc_new W1 _)) (by simp [Value.oneCell']) (by decide) (by decide) (by decide) (by simp) (W1.heap.size + 1) (by simp) ?_; intro g' cap w2 hown hgrow hat hlt; have RG2 := (hgrow.block g (by simp; omega) (by simp [Value.ownBlock])).trans (row_drew (row_old W1 (.cells #[.int .i64 0] 2) _ (blk_lt HRG.out) HRG.out)); have f21 := blk_frozen RG2 21; have k21 := (blk_cell RG2 21).trans (rfl : _ = some (Value.slice none 0 0)); have HO := Aside0.mk hown; have HRG2 := Aside0.mk RG2; have HGR := Aside0.mk hgrow; clear hown RG2 hgrow hat hlt))
  all_goals
    go_wp2
    go_ret
    refine ⟨rfl, some ⟨g', 0, none⟩, cap, ?_, ?_, ?_, ?_⟩
    · exact own_le HO.out
    · exact row_cellS _ HRG2.out
    · have ho := own_setCell HO.out (p := ⟨g, 21, none⟩) (own_ne HO.out HRG2.out (by decide)) (.slice (some ⟨g', 0, none⟩) 1 cap)
      obtain ⟨A, c, hv, _, hr⟩ := OwnRow.reads (R := (Kd.int .i64).K (w2.setCell ⟨g, 21, none⟩ (.slice (some ⟨g', 0, none⟩) 1 cap))) (ps := [(0 : Int)]) ⟨[.int .i64 0], ho, Kd.reps_scalar [0]⟩
      injection hv with hA _ _
      rw [← hA] at hr
      exact hr
    · exact ((below_drew1 (below_alloc' HW.out (Nat.le_of_lt hz))).grown HGR.out (by simp; omega) (fun k hk => by simp [Value.ownBlock] at hk)).setCell (Nat.le_refl _) _
end Go.Proofs.YtfkfpcciacplkaaDoor.DO1

namespace Go.Proofs.YtfkfpcciacplkaaDoor.PL
open Go.RowKit Go.Proofs.YtfkfpcciacplkaaDoorW.PrintWords Go.Proofs.YtfkfpcciacplkaaDoor.F Go.Proofs.YtfkfpcciacplkaaDoor.KP Go.Proofs.YtfkfpcciacplkaaDoor.CR Go.Proofs.YtfkfpcciacplkaaDoor.SH Go.Proofs.YtfkfpcciacplkaaDoor.FM Go.Proofs.YtfkfpcciacplkaaDoor.ST0
set_option linter.unusedVariables false
set_option linter.unusedSectionVars false
set_option linter.unusedSimpArgs false
noncomputable def kindsD (ts : List ByteArray) (la gl : ByteArray) (o : Nat) (f1 f2 f3 f4 : Int) : Bool :=
  if o = 1 ∨ o = 4 ∨ o = 14 then decide (f1 < 8) else if o = 2 then decide (f1 < 8) && (decide (f2 < 8) && decide (f3 < 8)) else if o = 5 ∨ o = 6 then decide (0 ≤ atv ts la f1)
  else if o = 7 then oneB (atv ts la f1) (atv ts la f2) else if o = 8 then decide (f1 < 8) && numP ts (atv ts la f2) f4 else if o = 9 then decide (f2 < 8) && numP ts (atv ts la f1) f4
  else if o = 10 then oneB (atv ts la f1) (toP ts (atv ts la f2) f4) else if o = 11 then oneB (atv ts la f2) (toP ts (atv ts la f1) f4)
  else if o = 12 then oneB (atv ts la f1) (atv ts gl f2) else if o = 13 then oneB (atv ts la f2) (atv ts gl f1) else if o = 15 then decide (f1 < 8) && oneB (atv ts la f2) (atv ts la f3) else true
theorem oneB_iff' (a b : Int) : oneB a b = true ↔ 0 ≤ a ∧ a = b := by simp [oneB]
theorem kindsD_iff {ts : List ByteArray} {la gl : ByteArray} {o : Nat} {f1 f2 f3 f4 : Int} (h1 : 1 ≤ o) (h15 : o ≤ 15) : kindsD ts la gl o f1 f2 f3 f4 = true ↔ intsB o f1 f2 f3 = true ∧ KindsP ts la gl o f1 f2 f3 f4 := by
  unfold kindsD KindsP intsB numP toP
  obtain rfl | rfl | rfl | rfl | rfl | rfl | rfl | rfl | rfl | rfl | rfl | rfl | rfl | rfl | rfl : o = 1 ∨ o = 2 ∨ o = 3 ∨ o = 4 ∨ o = 5 ∨ o = 6 ∨ o = 7 ∨ o = 8 ∨ o = 9 ∨ o = 10 ∨ o = 11 ∨ o = 12 ∨ o = 13 ∨ o = 14 ∨ o = 15 := by omega
  all_goals simp [oneB_iff']
  all_goals split <;> omega
section
variable (p : Pg) (w : World) (o : Nat) (f1 f2 f3 f4 : Int) (h1 : 1 ≤ o) (h15 : o ≤ 15) (hx : WfI o f1 f2 f3 f4) (hp : p.On w)
include h1 h15 hx hp
set_option maxHeartbeats 8000000 in
set_option maxRecDepth 100000 in
theorem pkinds_c : Calls Tryd.prog 57 #[p.v, .agg #[.int .u8 o, .int .u8 f1, .int .u8 f2, .int .u8 f3, .int .i64 f4]] w fun e w' => e = .returned (.bool (kindsD p.ts p.la p.gl o f1 f2 f3 f4)) ∧ Below w.heap.size w w' := by
  obtain ⟨_, ⟨a0, a1⟩, ⟨b0, b1⟩, ⟨c0', c1⟩, _⟩ := hx
  obtain ⟨A0, c0, ts, la, gl, A3, c3, code⟩ := p
  have HP := Aside0.mk hp
  have HA := Aside0.mk (And.intro a0 a1)
  have HBB := Aside0.mk (And.intro b0 b1)
  have HCC := Aside0.mk (And.intro c0' c1)
  clear hp a0 a1 b0 b1 c0' c1
  have LOC : Aside0 (∀ W, Below w.heap.size w W → ∀ a : Int, 0 ≤ a → a ≤ 255 → Calls Tryd.prog 71 #[.agg #[.slice A0 ts.length c0, .string la, .string gl, .slice A3 code.length c3], .int .u8 a] W fun e w' => e = .returned (.int .i64 (atv ts la a)) ∧ Below W.heap.size W w') := ⟨fun W hW a h0 h1 => pLocal_c ⟨A0, c0, ts, la, gl, A3, c3, code⟩ W (HP.out.below hW) a h0 h1⟩
  have HW := Aside0.mk (Below.refl w.heap.size w)
  show Calls Tryd.prog 57 #[.agg #[.slice A0 ts.length c0, .string la, .string gl, .slice A3 code.length c3], .agg #[.int .u8 o, .int .u8 f1, .int .u8 f2, .int .u8 f3, .int .i64 f4]] w fun e w' => e = .returned (.bool (kindsD ts la gl o f1 f2 f3 f4)) ∧ Below w.heap.size w w'
  go_enter Tryd.func57, Tryd.ntmps57
  go_upto_region 1 with (fail)
  obtain ⟨W0, hW0⟩ : ∃ W0 : World, W0 = (w.alloc (.cells #[.slice A0 ts.length c0, .string la, .string gl, .slice A3 code.length c3] 46)).alloc (.cells #[.int .u8 o, .int .u8 f1, .int .u8 f2, .int .u8 f3, .int .i64 f4] 68) := ⟨_, rfl⟩
  have R0 : W0.heap[w.heap.size]? = some (.cells #[.slice A0 ts.length c0, .string la, .string gl, .slice A3 code.length c3] 46 (0, 0)) := by rw [hW0]; exact row_old _ _ _ (by simp) (heap_alloc_new _ _)
  have R1 : W0.heap[w.heap.size + 1]? = some (.cells #[.int .u8 o, .int .u8 f1, .int .u8 f2, .int .u8 f3, .int .i64 f4] 68 (0, 0)) := by rw [hW0]; exact row_new _ _ _ (by simp)
  have zz : w.heap.size + 1 + 1 ≤ W0.heap.size := by rw [hW0]; simp
  have HW := Aside0.mk (show Below w.heap.size w W0 by rw [hW0]; exact below_alloc (below_alloc (Below.refl _ _) _) _)
  rw [← hW0]
  clear hW0
  have e0 : W0.cell? ⟨w.heap.size, 0, none⟩ = some (.slice A0 ts.length c0) := (cell_of_row _ _ 0 _ _ _ R0).trans rfl
  have e1 : W0.cell? ⟨w.heap.size, 1, none⟩ = some (.string la) := (cell_of_row _ _ 1 _ _ _ R0).trans rfl
  have e2 : W0.cell? ⟨w.heap.size, 2, none⟩ = some (.string gl) := (cell_of_row _ _ 2 _ _ _ R0).trans rfl
  have e3 : W0.cell? ⟨w.heap.size, 3, none⟩ = some (.slice A3 code.length c3) := (cell_of_row _ _ 3 _ _ _ R0).trans rfl
  have g0 : W0.cell? ⟨w.heap.size + 1, 0, none⟩ = some (.int .u8 o) := (cell_of_row _ _ 0 _ _ _ R1).trans rfl
  have g1 : W0.cell? ⟨w.heap.size + 1, 1, none⟩ = some (.int .u8 f1) := (cell_of_row _ _ 1 _ _ _ R1).trans rfl
  have g2 : W0.cell? ⟨w.heap.size + 1, 2, none⟩ = some (.int .u8 f2) := (cell_of_row _ _ 2 _ _ _ R1).trans rfl
  have g3 : W0.cell? ⟨w.heap.size + 1, 3, none⟩ = some (.int .u8 f3) := (cell_of_row _ _ 3 _ _ _ R1).trans rfl
  have g4 : W0.cell? ⟨w.heap.size + 1, 4, none⟩ = some (.int .i64 f4) := (cell_of_row _ _ 4 _ _ _ R1).trans rfl
  clear R0 R1
  go_region_held3 (fun w' => w'.cell? ⟨w.heap.size, 0, none⟩ = some (.slice A0 ts.length c0) ∧ w'.cell? ⟨w.heap.size, 1, none⟩ = some (.string la) ∧ w'.cell? ⟨w.heap.size, 2, none⟩ = some (.string gl) ∧ w'.cell? ⟨w.heap.size, 3, none⟩ = some (.slice A3 code.length c3) ∧ w'.cell? ⟨w.heap.size + 1, 1, none⟩ = some (.int .u8 f1) ∧ w'.cell? ⟨w.heap.size + 1, 2, none⟩ = some (.int .u8 f2))
      (first
        | (exact ⟨e0, e1, e2, e3, g1, g2⟩)
        | go_keep)
      ((first
        | (go_at_call 71; ((with_reducible refine (LOC.out _ ?side1 f1 HA.out.1 HA.out.2).mono ?_); (case side1 => first | exact HW.out | exact below_drew1 HW.out); rintro e w1 ⟨rfl, hb1⟩; obtain ⟨hq1, hf1⟩ := bcell (B := w.heap.size + 1 + 1) (hb1.mono zz); have e0 := (hq1 _ _ (by omega)).trans e0; have e1 := (hq1 _ _ (by omega)).trans e1; have e2 := (hq1 _ _ (by omega)).trans e2; have e3 := (hq1 _ _ (by omega)).trans e3; have g0 := (hq1 _ _ (by omega)).trans g0; have g1 := (hq1 _ _ (by omega)).trans g1; have g2 := (hq1 _ _ (by omega)).trans g2; have g3 := (hq1 _ _ (by omega)).trans g3; have g4 := (hq1 _ _ (by omega)).trans g4; have HW := Aside0.mk (show Below w.heap.size w w1 from below_step (by first | exact HW.out | exact below_drew1 HW.out) hb1); have zz : w.heap.size + 1 + 1 ≤ w1.heap.size := Nat.le_trans zz hb1.size; clear hb1 hq1 hf1))
        | (go_at_call 71; ((with_reducible refine (LOC.out _ ?side1 f2 HBB.out.1 HBB.out.2).mono ?_); (case side1 => first | exact HW.out | exact below_drew1 HW.out); rintro e w1 ⟨rfl, hb1⟩; obtain ⟨hq1, hf1⟩ := bcell (B := w.heap.size + 1 + 1) (hb1.mono zz); have e0 := (hq1 _ _ (by omega)).trans e0; have e1 := (hq1 _ _ (by omega)).trans e1; have e2 := (hq1 _ _ (by omega)).trans e2; have e3 := (hq1 _ _ (by omega)).trans e3; have g0 := (hq1 _ _ (by omega)).trans g0; have g1 := (hq1 _ _ (by omega)).trans g1; have g2 := (hq1 _ _ (by omega)).trans g2; have g3 := (hq1 _ _ (by omega)).trans g3; have g4 := (hq1 _ _ (by omega)).trans g4; have HW := Aside0.mk (show Below w.heap.size w w1 from below_step (by first | exact HW.out | exact below_drew1 HW.out) hb1); have zz : w.heap.size + 1 + 1 ≤ w1.heap.size := Nat.le_trans zz hb1.size; clear hb1 hq1 hf1))))
  have GLB : Aside0 (∀ W, Below w.heap.size w W → ∀ a : Int, 0 ≤ a → a ≤ 255 → Calls Tryd.prog 95 #[.agg #[.slice A0 ts.length c0, .string la, .string gl, .slice A3 code.length c3], .int .u8 a] W fun e w' => e = .returned (.int .i64 (atv ts gl a)) ∧ Below W.heap.size W w') := ⟨fun W hW a h0 h1 => pGlob_c ⟨A0, c0, ts, la, gl, A3, c3, code⟩ W (HP.out.below hW) a h0 h1⟩
  have NUM : Aside0 (∀ W, Below w.heap.size w W → ∀ a n : Int, Calls Tryd.prog 93 #[.agg #[.slice A0 ts.length c0, .string la, .string gl, .slice A3 code.length c3], .int .i64 a, .int .i64 n] W fun e w' => e = .returned (.bool (numP ts a n)) ∧ Below W.heap.size W w') := ⟨fun W hW a n => pnumber_c ⟨A0, c0, ts, la, gl, A3, c3, code⟩ W (HP.out.below hW) a n⟩
  have TO : Aside0 (∀ W, Below w.heap.size w W → ∀ a n : Int, Calls Tryd.prog 94 #[.agg #[.slice A0 ts.length c0, .string la, .string gl, .slice A3 code.length c3], .int .i64 a, .int .i64 n] W fun e w' => e = .returned (.tuple #[.int .i64 (toP ts a n), .bool (isP ts a n)]) ∧ Below W.heap.size W w') := ⟨fun W hW a n => pfield_c ⟨A0, c0, ts, la, gl, A3, c3, code⟩ W (HP.out.below hW) a n⟩
  obtain ⟨b1, hb1⟩ : ∃ b1, decide (f1 < 8) = b1 := ⟨_, rfl⟩
  obtain ⟨b2, hb2⟩ : ∃ b2, decide (f2 < 8) = b2 := ⟨_, rfl⟩
  have D1 := Aside0.mk hb1
  have D2 := Aside0.mk hb2
  clear hb1 hb2
  obtain rfl | rfl | rfl | rfl | rfl | rfl | rfl | ⟨rfl, rfl⟩ | ⟨rfl, rfl⟩ | ⟨rfl, rfl⟩ | ⟨rfl, rfl⟩ | rfl | rfl | rfl | rfl | rfl | ⟨rfl, rfl⟩ | ⟨rfl, rfl⟩ : o = 1 ∨ o = 2 ∨ o = 3 ∨ o = 4 ∨ o = 5 ∨ o = 6 ∨ o = 7 ∨ (o = 8 ∧ b1 = true) ∨ (o = 8 ∧ b1 = false) ∨ (o = 9 ∧ b2 = true) ∨ (o = 9 ∧ b2 = false) ∨ o = 10 ∨ o = 11 ∨ o = 12 ∨ o = 13 ∨ o = 14 ∨ (o = 15 ∧ b1 = true) ∨ (o = 15 ∧ b1 = false) := by
    have := Bool.eq_false_or_eq_true b1
    have := Bool.eq_false_or_eq_true b2
    cases b1 <;> cases b2 <;> simp <;> omega
  all_goals
    go_wp2_with (first
      | (go_at_call 91; (with_reducible refine (ints1_c _ _ f1 _ D1.out).mono ?_); rintro e w2 ⟨rfl, hb2⟩; obtain ⟨hq1, hf1⟩ := bcell (B := w.heap.size + 1 + 1) ((below_step (below_alloc (Below.refl _ _) _) hb2).mono zz); have e0 := (hq1 _ _ (by omega)).trans e0; have e1 := (hq1 _ _ (by omega)).trans e1; have e2 := (hq1 _ _ (by omega)).trans e2; have e3 := (hq1 _ _ (by omega)).trans e3; have g0 := (hq1 _ _ (by omega)).trans g0; have g1 := (hq1 _ _ (by omega)).trans g1; have g2 := (hq1 _ _ (by omega)).trans g2; have g3 := (hq1 _ _ (by omega)).trans g3; have g4 := (hq1 _ _ (by omega)).trans g4; have HW := Aside0.mk (below_step (below_alloc HW.out _) hb2); clear hb2 hq1 hf1)
      | (go_at_call 91; (with_reducible refine (ints1_c _ _ f2 _ D2.out).mono ?_); rintro e w2 ⟨rfl, hb2⟩; obtain ⟨hq1, hf1⟩ := bcell (B := w.heap.size + 1 + 1) ((below_step (below_alloc (Below.refl _ _) _) hb2).mono zz); have e0 := (hq1 _ _ (by omega)).trans e0; have e1 := (hq1 _ _ (by omega)).trans e1; have e2 := (hq1 _ _ (by omega)).trans e2; have e3 := (hq1 _ _ (by omega)).trans e3; have g0 := (hq1 _ _ (by omega)).trans g0; have g1 := (hq1 _ _ (by omega)).trans g1; have g2 := (hq1 _ _ (by omega)).trans g2; have g3 := (hq1 _ _ (by omega)).trans g3; have g4 := (hq1 _ _ (by omega)).trans g4; have HW := Aside0.mk (below_step (below_alloc HW.out _) hb2); clear hb2 hq1 hf1)
      | (go_at_call 91; (with_reducible refine (ints3_c _ _ f1 f2 f3).mono ?_); rintro e w2 ⟨rfl, hb2⟩; have HW := Aside0.mk (below_step (below_alloc HW.out _) hb2); clear hb2)
      | (go_at_call 71; (with_reducible refine (LOC.out _ HW.out f3 HCC.out.1 HCC.out.2).mono ?_); rintro e w2 ⟨rfl, hb2⟩; have HW := Aside0.mk (below_step HW.out hb2); clear hb2)
      | (go_at_call 95; (with_reducible refine (GLB.out _ HW.out f2 HBB.out.1 HBB.out.2).mono ?_); rintro e w2 ⟨rfl, hb2⟩; have HW := Aside0.mk (below_step HW.out hb2); clear hb2)
      | (go_at_call 95; (with_reducible refine (GLB.out _ HW.out f1 HA.out.1 HA.out.2).mono ?_); rintro e w2 ⟨rfl, hb2⟩; have HW := Aside0.mk (below_step HW.out hb2); clear hb2)
      | (go_at_call 93; (with_reducible refine (NUM.out _ HW.out _ f4).mono ?_); rintro e w2 ⟨rfl, hb2⟩; have HW := Aside0.mk (below_step HW.out hb2); clear hb2)
      | (go_at_call 94; (with_reducible refine (TO.out _ HW.out _ f4).mono ?_); rintro e w2 ⟨rfl, hb2⟩; have HW := Aside0.mk (below_step HW.out hb2); clear hb2)
      | (go_at_call 92; (with_reducible refine (pone_c _ _ _).mono ?_); rintro e w2 ⟨rfl, hb2⟩; have HW := Aside0.mk (below_step HW.out hb2); clear hb2))
  all_goals
    go_ret
    refine ⟨?_, HW.out⟩
    first | (simp [kindsD, *]; done) | (simp [kindsD, D1.out, D2.out]; done) | (simp [kindsD]; omega)
end
end Go.Proofs.YtfkfpcciacplkaaDoor.PL

namespace Go.Proofs.YtfkfpcciacplkaaDoor.PL
open Go.RowKit Go.Proofs.YtfkfpcciacplkaaDoorW.PrintWords Go.Proofs.YtfkfpcciacplkaaDoor.F Go.Proofs.YtfkfpcciacplkaaDoor.KP Go.Proofs.YtfkfpcciacplkaaDoor.CR Go.Proofs.YtfkfpcciacplkaaDoor.SH Go.Proofs.YtfkfpcciacplkaaDoor.FM Go.Proofs.YtfkfpcciacplkaaDoor.ST0 Go.Proofs.YtfkfpcciacplkaaDoor.Scan
set_option linter.unusedVariables false
set_option linter.unusedSectionVars false
set_option linter.unusedSimpArgs false
theorem bt_app (a b : ByteArray) (j : Int) (h0 : 0 ≤ j) : bt (a ++ b) j = if j < a.size then bt a j else bt b (j - a.size) := by
  obtain ⟨n, rfl⟩ := Int.eq_ofNat_of_zero_le h0
  have hz : (a ++ b).size = a.size + b.size := ByteArray.size_append
  unfold bt
  simp only [Int.toNat_natCast]
  by_cases h : n < a.size
  · rw [dif_pos (by omega), if_pos (by omega), dif_pos h, ByteArray.getElem_append_left h]
  · rw [if_neg (by omega)]
    have e : ((n : Int) - a.size).toNat = n - a.size := by omega
    by_cases h' : n < (a ++ b).size
    · rw [dif_pos h', dif_pos (by omega), ByteArray.getElem_append_right (by omega)]
      simp only [e]
    · rw [dif_neg h', dif_neg (by omega)]
theorem refs_app (ts : List ByteArray) (a b : ByteArray) : refs ts (a ++ b) = true ↔ refs ts a = true ∧ refs ts b = true := by
  rw [refs_iff, refs_iff, refs_iff]
  have hz : (a ++ b).size = a.size + b.size := ByteArray.size_append
  constructor
  · rintro ⟨hr, h⟩
    refine ⟨⟨hr, fun j h0 h1 => ?_⟩, hr, fun j h0 h1 => ?_⟩
    · have := h j h0 (by omega)
      rwa [bt_app _ _ _ h0, if_pos h1] at this
    · have := h (j + a.size) (by omega) (by omega)
      rwa [bt_app _ _ _ (by omega), if_neg (by omega), Int.add_sub_cancel] at this
  · rintro ⟨⟨hr, h⟩, _, h'⟩
    refine ⟨hr, fun j h0 h1 => ?_⟩
    rw [bt_app _ _ _ h0]
    split
    · exact h j h0 ‹_›
    · exact h' (j - a.size) (by omega) (by omega)
def rgt (o : Nat) (f1 f2 f3 f4 : Int) : Bool := if (o : Int) < 1 ∨ 15 < (o : Int) then false else rightB o f1 f2 f3 f4
theorem Right_c (w : World) (o : Nat) (f1 f2 f3 f4 : Int) (hot : OT w) : Calls Tryd.prog 56 #[.agg #[.int .u8 o, .int .u8 f1, .int .u8 f2, .int .u8 f3, .int .i64 f4]] w fun e w' => e = .returned (.bool (rgt o f1 f2 f3 f4)) ∧ Below w.heap.size w w' := by
  refine code_Right.calls o f1 f2 f3 f4 _ w ?_ hot
  unfold code_Right.f rgt
  rw [if_pos (by omega), Int.toNat_natCast]
theorem rgt_op {o : Nat} {f1 f2 f3 f4 : Int} (h : rgt o f1 f2 f3 f4 = true) : (1 ≤ o ∧ o ≤ 15) ∧ rightB o f1 f2 f3 f4 = true := by
  unfold rgt at h
  split at h
  · cases h
  · exact ⟨by omega, h⟩
def IsT (r : Bool) : Prop := r = true
theorem IsT.mk : IsT true := rfl
def OkI (r kd : Bool) (o : Nat) (f4 : Int) (n : Nat) : Prop := r = true ∧ kd = true ∧ (o = 3 ∨ o = 4 → 0 ≤ f4 ∧ f4 ≤ n)
section
variable (p : Pg) (w : World) (hp : p.On w)
include hp
set_option maxHeartbeats 8000000 in
set_option maxRecDepth 100000 in
theorem pCheck_c : Calls Tryd.prog 41 #[p.v] w fun e w' => ∃ r er : Int, e = .returned (.tuple #[.int .i64 r, .int .i64 er]) ∧ (er = 0 ↔ SpP p) ∧ (er = 0 → r = -1) ∧ Below w.heap.size w w' := by
  have HP := Aside0.mk hp
  have hlc := hp.hc
  have hla := hp.hla
  have hgl := hp.hgl
  obtain ⟨A0, c0, ts, la, gl, A3, c3, code⟩ := p
  simp only at hlc hla hgl
  obtain ⟨b, hb⟩ : ∃ b, refs ts (la ++ gl) = b := ⟨_, rfl⟩
  have REF : Aside0 (∀ W, Below w.heap.size w W → Calls Tryd.prog 55 #[.slice A0 ts.length c0, .string (la ++ gl)] W fun e w' => e = .returned (.bool b) ∧ Below W.heap.size W w') := ⟨fun W hW => by
    rw [← hb]
    exact pRefs_c ⟨A0, c0, ts, la, gl, A3, c3, code⟩ W (HP.out.below hW) (la ++ gl) (by rw [ByteArray.size_append]; omega)⟩
  have HSP := Aside0.mk (show SpP ⟨A0, c0, ts, la, gl, A3, c3, code⟩ → b = true ∧ ¬ (la.size : Int) > 8 ∧ ¬ (gl.size : Int) > 4 ∧ ¬ (code.length : Int) < 1 ∧ ¬ (code.length : Int) > 200 from fun h => ⟨by rw [← hb]; exact (refs_app ts la gl).2 h.refs, by have := h.locals; simp only at this; omega, by have := h.globals; simp only at this; omega, by have := h.len; simp only at this; omega, by have := h.len; simp only at this; omega⟩)
  have HB0 := Aside0.mk hb
  clear hp hb
  have HW := Aside0.mk (Below.refl w.heap.size w)
  show Calls Tryd.prog 41 #[.agg #[.slice A0 ts.length c0, .string la, .string gl, .slice A3 code.length c3]] w fun e w' => ∃ r er : Int, e = .returned (.tuple #[.int .i64 r, .int .i64 er]) ∧ (er = 0 ↔ SpP ⟨A0, c0, ts, la, gl, A3, c3, code⟩) ∧ (er = 0 → r = -1) ∧ Below w.heap.size w w'
  by_cases hall : b = true ∧ ¬ (la.size : Int) > 8 ∧ ¬ (gl.size : Int) > 4 ∧ ¬ (code.length : Int) < 1 ∧ ¬ (code.length : Int) > 200
  · obtain ⟨rfl, h3, h4, h5, h6⟩ := hall
    have HRL := Aside0.mk (show (refs ts la = true ∧ refs ts gl = true) ∧ la.size ≤ 8 ∧ gl.size ≤ 4 ∧ 1 ≤ code.length ∧ code.length ≤ 200 from ⟨(refs_app ts la gl).1 HB0.out, by omega, by omega, by omega, by omega⟩)
    go_enter Tryd.func41, Tryd.ntmps41
    go_wp2_with (go_at_call 55; (with_reducible refine (REF.out _ ?side1).mono ?_); (case side1 => exact below_alloc HW.out _); rintro e w1 ⟨rfl, hb1⟩; have R0 := (hb1.block w.heap.size (by simp)).trans (heap_alloc_new w _); have kR := fun j => cell_of_row w1 w.heap.size j _ _ _ R0; have HW := Aside0.mk (below_step (below_alloc HW.out _) hb1); clear hb1)
    have HR0 := Aside0.mk R0
    clear kR R0 REF
    go_loopw [42] (fun c wr => ∃ i : Nat, i ≤ code.length ∧ c = .int .i64 i ∧ Aside0 (∀ j, j < i → InsAt ts la gl code j) ∧ Aside0 (wr.heap[w.heap.size]? = some (.cells #[.slice A0 ts.length c0, .string la, .string gl, .slice A3 code.length c3] 46 (0, 0))) ∧ Aside0 (Below w.heap.size w wr)) (fun c _ => code.length - (intOf c).toNat)
    case atStart => exact ⟨0, Nat.zero_le _, rfl, ⟨fun j hj => absurd hj (Nat.not_lt_zero _)⟩, HR0, HW⟩
    case round =>
      clear HR0 HW
      obtain ⟨i, hi, rfl, HI, HR, HB⟩ := hrel
      by_cases hlt : (i : Int) < (code.length : Int)
      · have p0 : (0 : Int) ≤ i := by omega
        obtain ⟨ad, rfl, x0, x1, x2, x3, x4⟩ := at_T68 HP.out.hC (i : Int) p0 hlt
        rw [Int.toNat_natCast] at x0 x1 x2 x3 x4
        replace x0 := (HB.out.cell (World.block_lt_of_cell? w _ x0)).trans x0
        replace x1 := (HB.out.cell (World.block_lt_of_cell? w _ x1)).trans x1
        replace x2 := (HB.out.cell (World.block_lt_of_cell? w _ x2)).trans x2
        replace x3 := (HB.out.cell (World.block_lt_of_cell? w _ x3)).trans x3
        replace x4 := (HB.out.cell (World.block_lt_of_cell? w _ x4)).trans x4
        have hwf := HP.out.hw.rd i (show i < code.length by omega)
        obtain ⟨o, ho⟩ := Int.eq_ofNat_of_zero_le hwf.1.1
        rw [ho] at x0 hwf
        have HIA := Aside0.mk (show InsP ts la gl code.length o (rd_T68 code i).f1 (rd_T68 code i).f2 (rd_T68 code i).f3 (rd_T68 code i).f4 → InsAt ts la gl code i from fun h => ⟨o, ho, h⟩)
        have HIB := Aside0.mk (show InsAt ts la gl code i → InsP ts la gl code.length o (rd_T68 code i).f1 (rd_T68 code i).f2 (rd_T68 code i).f3 (rd_T68 code i).f4 from fun ⟨o', ho', h⟩ => by
          have h2 : (o' : Int) = o := ho'.symm.trans ho
          have : o' = o := by omega
          rwa [this] at h)
        obtain ⟨f1, e1⟩ : ∃ f1, (rd_T68 code i).f1 = f1 := ⟨_, rfl⟩
        obtain ⟨f2, e2⟩ : ∃ f2, (rd_T68 code i).f2 = f2 := ⟨_, rfl⟩
        obtain ⟨f3, e3⟩ : ∃ f3, (rd_T68 code i).f3 = f3 := ⟨_, rfl⟩
        obtain ⟨f4, e4⟩ : ∃ f4, (rd_T68 code i).f4 = f4 := ⟨_, rfl⟩
        rw [e1] at x1
        rw [e2] at x2
        rw [e3] at x3
        rw [e4] at x4
        rw [e1, e2, e3, e4] at HIA HIB hwf
        clear e1 e2 e3 e4 ho
        have HWF := Aside0.mk hwf
        clear hwf
        obtain ⟨r, hr⟩ : ∃ r, rgt o f1 f2 f3 f4 = r := ⟨_, rfl⟩
        obtain ⟨kd, hk⟩ : ∃ kd, kindsD ts la gl o f1 f2 f3 f4 = kd := ⟨_, rfl⟩
        have RGT := Aside0.mk (show ∀ W, Below w.heap.size w W → Calls Tryd.prog 56 #[.agg #[.int .u8 o, .int .u8 f1, .int .u8 f2, .int .u8 f3, .int .i64 f4]] W fun e w' => e = .returned (.bool r) ∧ Below W.heap.size W w' from fun W hW => by rw [← hr]; exact Right_c W o f1 f2 f3 f4 (OT_below HP.out.ot hW))
        have KND := Aside0.mk (show IsT r → ∀ W, Below w.heap.size w W → Calls Tryd.prog 57 #[.agg #[.slice A0 ts.length c0, .string la, .string gl, .slice (some ad) code.length c3], .agg #[.int .u8 o, .int .u8 f1, .int .u8 f2, .int .u8 f3, .int .i64 f4]] W fun e w' => e = .returned (.bool kd) ∧ Below W.heap.size W w' from fun ht W hW => by
          rw [← hk]
          have := rgt_op (hr.trans ht)
          exact pkinds_c ⟨A0, c0, ts, la, gl, some ad, c3, code⟩ W o f1 f2 f3 f4 this.1.1 this.1.2 HWF.out (HP.out.below hW))
        have HIP := Aside0.mk (show InsP ts la gl code.length o f1 f2 f3 f4 ↔ OkI r kd o f4 code.length from ⟨fun h => ⟨by
            rw [← hr]
            unfold rgt
            rw [if_neg (by have := h.op; omega)]
            exact h.right, by rw [← hk]; exact (kindsD_iff h.op.1 h.op.2).2 ⟨h.ints, h.kinds⟩, h.jump⟩, fun ⟨h1, h2, h3⟩ => by
            have a := rgt_op (hr.trans h1)
            have b := (kindsD_iff a.1.1 a.1.2).1 (hk.trans h2)
            exact ⟨a.1, a.2, h3, b.1, b.2⟩⟩)
        clear hr hk
        have HSI := Aside0.mk (show SpP ⟨A0, c0, ts, la, gl, some ad, c3, code⟩ → OkI r kd o f4 code.length from fun h => HIP.out.1 (HIB.out (h.all i (by simp only; omega))))
        obtain ⟨wo, rfl⟩ : ∃ wo : World, wo = wr := ⟨_, rfl⟩
        by_cases hgood : OkI r kd o f4 code.length
        · have HOK := Aside0.mk (HIA.out (HIP.out.2 hgood))
          unfold OkI at hgood
          obtain ⟨rfl, rfl, hj⟩ := hgood
          have hq : (((o : Int) == 3) = true ∧ ¬ f4 < 0 ∧ ¬ f4 > (code.length : Int)) ∨ (((o : Int) == 3) = false ∧ ((o : Int) == 4) = true ∧ ¬ f4 < 0 ∧ ¬ f4 > (code.length : Int)) ∨ (((o : Int) == 3) = false ∧ ((o : Int) == 4) = false) := by
            simp only [beq_eq_false_iff_ne, beq_iff_eq]
            omega
          clear hj HSI HIP HIB HIA
          obtain ⟨q3, j1, j2⟩ | ⟨q3, q4, j1, j2⟩ | ⟨q3, q4⟩ := hq
          all_goals
            go_wp2_with (first
              | (go_at_call 56; (with_reducible refine (RGT.out _ ?side1).mono ?_); (case side1 => exact below_alloc HB.out _); rintro e w1 ⟨rfl, hb1⟩; have R1 := (hb1.block wo.heap.size (by simp)).trans (heap_alloc_new wo _); have kR1 := fun j => cell_of_row w1 wo.heap.size j _ _ _ R1; have R0 := (hb1.block w.heap.size (by have := blk_lt HR.out; simp; omega)).trans (row_old _ _ _ (blk_lt HR.out) HR.out); have kR0 := fun j => cell_of_row w1 w.heap.size j _ _ _ R0; have HR := Aside0.mk R0; clear R0; have HB := Aside0.mk (below_step (below_alloc HB.out _) hb1); clear hb1 R1)
              | (go_at_call 57; (with_reducible refine (KND.out IsT.mk _ HB.out).mono ?_); rintro e w2 ⟨rfl, hb2⟩; have HR := Aside0.mk ((hb2.block w.heap.size (blk_lt HR.out)).trans HR.out); have HB := Aside0.mk (below_step HB.out hb2); clear hb2))
            go_roundw
            case rel => exact ⟨i + 1, by omega, by go_num, ⟨fun j hj => by
              rcases Nat.lt_succ_iff_lt_or_eq.1 hj with hj | rfl
              · exact HI.out j hj
              · exact HOK.out⟩, HR, HB⟩
            case measure => simp [intOf]; omega
        · have HNO := Aside0.mk (show ¬ SpP ⟨A0, c0, ts, la, gl, some ad, c3, code⟩ from fun h => hgood (HSI.out h))
          have hq : r = false ∨ (r = true ∧ ((o : Int) == 3) = true ∧ f4 < 0) ∨ (r = true ∧ ((o : Int) == 3) = true ∧ ¬ f4 < 0 ∧ f4 > (code.length : Int)) ∨ (r = true ∧ ((o : Int) == 3) = false ∧ ((o : Int) == 4) = true ∧ f4 < 0) ∨ (r = true ∧ ((o : Int) == 3) = false ∧ ((o : Int) == 4) = true ∧ ¬ f4 < 0 ∧ f4 > (code.length : Int)) ∨ (r = true ∧ kd = false ∧ ((o : Int) == 3) = true ∧ ¬ f4 < 0 ∧ ¬ f4 > (code.length : Int)) ∨ (r = true ∧ kd = false ∧ ((o : Int) == 3) = false ∧ ((o : Int) == 4) = true ∧ ¬ f4 < 0 ∧ ¬ f4 > (code.length : Int)) ∨ (r = true ∧ kd = false ∧ ((o : Int) == 3) = false ∧ ((o : Int) == 4) = false) := by
            unfold OkI at hgood
            simp only [beq_eq_false_iff_ne, beq_iff_eq]
            cases r <;> cases kd <;> simp at hgood ⊢ <;> omega
          clear hgood HSI HIP HIB HIA
          obtain rfl | ⟨rfl, q3, j1⟩ | ⟨rfl, q3, j1, j2⟩ | ⟨rfl, q3, q4, j1⟩ | ⟨rfl, q3, q4, j1, j2⟩ | ⟨rfl, rfl, q3, j1, j2⟩ | ⟨rfl, rfl, q3, q4, j1, j2⟩ | ⟨rfl, rfl, q3, q4⟩ := hq
          all_goals
            go_wp2_with (first
              | (go_at_call 56; (with_reducible refine (RGT.out _ ?side1).mono ?_); (case side1 => exact below_alloc HB.out _); rintro e w1 ⟨rfl, hb1⟩; have R1 := (hb1.block wo.heap.size (by simp)).trans (heap_alloc_new wo _); have kR1 := fun j => cell_of_row w1 wo.heap.size j _ _ _ R1; have R0 := (hb1.block w.heap.size (by have := blk_lt HR.out; simp; omega)).trans (row_old _ _ _ (blk_lt HR.out) HR.out); have kR0 := fun j => cell_of_row w1 w.heap.size j _ _ _ R0; have HR := Aside0.mk R0; clear R0; have HB := Aside0.mk (below_step (below_alloc HB.out _) hb1); clear hb1 R1)
              | (go_at_call 57; (with_reducible refine (KND.out IsT.mk _ HB.out).mono ?_); rintro e w2 ⟨rfl, hb2⟩; have HR := Aside0.mk ((hb2.block w.heap.size (blk_lt HR.out)).trans HR.out); have HB := Aside0.mk (below_step HB.out hb2); clear hb2))
            go_ret2
            exact ⟨_, _, rfl, ⟨fun e => absurd e (by decide), fun h => absurd h HNO.out⟩, fun e => absurd e (by decide), HB.out⟩
      · obtain rfl : i = code.length := by omega
        go_wp2
        go_ret2
        exact ⟨_, _, rfl, ⟨fun _ => ⟨HRL.out.1, HRL.out.2.1, HRL.out.2.2.1, HRL.out.2.2.2, HI.out⟩, fun _ => rfl⟩, fun _ => rfl, HB.out⟩
  · have HN := Aside0.mk (fun h => hall (HSP.out h))
    obtain rfl | ⟨rfl, h3⟩ | ⟨rfl, h3, h4⟩ | ⟨rfl, h3, h4, h5⟩ | ⟨rfl, h3, h4, h5, h6⟩ : b = false ∨ (b = true ∧ (la.size : Int) > 8) ∨ (b = true ∧ ¬ (la.size : Int) > 8 ∧ (gl.size : Int) > 4) ∨ (b = true ∧ ¬ (la.size : Int) > 8 ∧ ¬ (gl.size : Int) > 4 ∧ (code.length : Int) < 1) ∨ (b = true ∧ ¬ (la.size : Int) > 8 ∧ ¬ (gl.size : Int) > 4 ∧ ¬ (code.length : Int) < 1 ∧ (code.length : Int) > 200) := by
      cases b
      · exact .inl rfl
      · refine .inr ?_
        simp only [true_and] at hall ⊢
        omega
    all_goals
      clear hall
      go_enter Tryd.func41, Tryd.ntmps41
      go_wp2_with (go_at_call 55; (with_reducible refine (REF.out _ ?side1).mono ?_); (case side1 => exact below_alloc HW.out _); rintro e w1 ⟨rfl, hb1⟩; have R0 := (hb1.block w.heap.size (by simp)).trans (heap_alloc_new w _); have kR := fun j => cell_of_row w1 w.heap.size j _ _ _ R0; have HW := Aside0.mk (below_step (below_alloc HW.out _) hb1); clear hb1)
      go_ret2
      exact ⟨_, _, rfl, ⟨fun e => absurd e (by decide), fun h => absurd h HN.out⟩, fun e => absurd e (by decide), HW.out⟩
end
end Go.Proofs.YtfkfpcciacplkaaDoor.PL

namespace Go.Proofs.YtfkfpcciacplkaaDoor.TRL
open Go.RowKit Go.Proofs.YtfkfpcciacplkaaDoorW.PrintWords Go.Proofs.YtfkfpcciacplkaaDoorW.PrintLast Go.Proofs.YtfkfpcciacplkaaDoorW.PrintMore Go.Proofs.YtfkfpcciacplkaaDoor.Scan Go.Proofs.YtfkfpcciacplkaaDoor.F Go.Proofs.YtfkfpcciacplkaaDoor.T Go.Proofs.YtfkfpcciacplkaaDoor.ST0 Go.Proofs.YtfkfpcciacplkaaDoor.TRB
set_option linter.unusedVariables false
set_option linter.unusedSimpArgs false
noncomputable def lng (L : List S31) : Nat → Int
  | 0 => -1
  | i + 1 => if lng L i < 0 ∨ (rd_T31 L i).f3 > (rd_T31 L (lng L i)).f3 then i else lng L i
theorem lng_lt (L : List S31) (i : Nat) : -1 ≤ lng L i ∧ lng L i < i := by
  induction i with
  | zero =>
    unfold lng
    omega
  | succ i ih =>
    unfold lng
    split <;> omega
set_option maxHeartbeats 4000000 in
set_option maxRecDepth 100000 in
theorem longest_c (w : World) (A0 : Option Addr) (c0 : Nat) (L : List S31) (h0 : Kd.C k31 w A0 L.length L) (hc0 : L.length ≤ c0) :
    Calls Tryd.prog 22 #[.slice A0 L.length c0] w fun e w' => e = .returned (.int .i64 (lng L L.length)) ∧ Below w.heap.size w w' := by
  have hl : (L.length : Int) ≤ 9223372036854775807 := by have := Kd.C_max h0; omega
  have HR := Aside0.mk h0
  clear h0
  go_enter Tryd.func22, Tryd.ntmps22
  go_wp2
  go_loopw [3, 8] (fun a b wr => ∃ i : Nat, i ≤ L.length ∧ a = .int .i64 (lng L i) ∧ b = .int .i64 i ∧ Aside0 (Below w.heap.size w wr)) (fun _ b _ => L.length - (intOf b).toNat)
  case atStart => exact ⟨0, Nat.zero_le _, rfl, rfl, ⟨Below.refl _ _⟩⟩
  case round =>
    obtain ⟨i, hi, rfl, rfl, HB⟩ := hrel
    by_cases hlt : (i : Int) < (L.length : Int)
    · have p0 : (0 : Int) ≤ i := by omega
      obtain ⟨ad, B0, b0, rfl, x0, x1, x2, x3, x4, xl, xc⟩ := at_T31 HR.out (i : Int) p0 hlt
      rw [Int.toNat_natCast] at x0 x1 x2 x3 x4
      replace x0 := (HB.out.cell (World.block_lt_of_cell? w _ x0)).trans x0
      replace x1 := (HB.out.cell (World.block_lt_of_cell? w _ x1)).trans x1
      replace x2 := (HB.out.cell (World.block_lt_of_cell? w _ x2)).trans x2
      replace x3 := (HB.out.cell (World.block_lt_of_cell? w _ x3)).trans x3
      replace x4 := (HB.out.cell (World.block_lt_of_cell? w _ x4)).trans x4
      clear xl xc
      obtain ⟨wo, rfl⟩ : ∃ wo : World, wo = wr := ⟨_, rfl⟩
      have ha := lng_lt L i
      have hs : lng L (i + 1) = if lng L i < 0 ∨ (rd_T31 L i).f3 > (rd_T31 L (lng L i)).f3 then (i : Int) else lng L i := rfl
      obtain ⟨a, ea⟩ : ∃ a, a = lng L i := ⟨_, rfl⟩
      rw [← ea] at hs ha ⊢
      have HS := Aside0.mk hs
      clear hs ea
      by_cases hn : a < 0
      · go_wp2
        go_quiet (fail)
        go_wp2
        go_roundw
        case rel => exact ⟨i + 1, by omega, by rw [HS.out, if_pos (.inl hn)], by go_num, ⟨by repeat (first | (with_reducible first | exact HB.out | apply below_alloc | apply pw_below_drewN | apply below_drew1))⟩⟩
        case measure => simp [intOf]; omega
      · have a0 : (0 : Int) ≤ a := by omega
        have a1 : a < (L.length : Int) := by omega
        obtain ⟨ad', B0', b0', ead, y0, y1, y2, y3, y4, yl, yc⟩ := at_T31 HR.out a a0 a1
        cases ead
        replace y3 := (HB.out.cell (World.block_lt_of_cell? w _ y3)).trans y3
        clear y0 y1 y2 y4 yl yc
        obtain ⟨n, rfl⟩ := Int.eq_ofNat_of_zero_le a0
        rw [Int.toNat_natCast] at y3
        have hd : decide ((n : Int) < 0) = false := decide_eq_false hn
        by_cases hg : (rd_T31 L i).f3 > (rd_T31 L n).f3
        · go_upto_region 5 with (fail)
          obtain ⟨W0, hW0⟩ : ∃ W0 : World, W0 = wo.alloc (.cells #[.slice B0 (rd_T31 L i).f0.length b0, .bool (rd_T31 L i).f1, .int .i64 (rd_T31 L i).f2, .int .i64 (rd_T31 L i).f3, .int .i64 (rd_T31 L i).f4] 31) := ⟨_, rfl⟩
          have z3 : W0.cell? ⟨wo.heap.size, 3, none⟩ = some (.int .i64 (rd_T31 L i).f3) := by rw [hW0]; exact (cell_of_row _ _ 3 _ _ _ (heap_alloc_new _ _)).trans rfl
          have hb : Below wo.heap.size wo W0 := by rw [hW0]; exact below_alloc (Below.refl _ _) _
          rw [← hW0]
          clear hW0 x0 x1 x2 x3 x4
          replace y3 := (hb.cell (World.block_lt_of_cell? wo _ y3)).trans y3
          have HB := Aside0.mk (below_step HB.out hb)
          clear hb
          go_quiet (fail)
          go_wp2
          go_roundw
          case rel => exact ⟨i + 1, by omega, by rw [HS.out, if_pos (.inr hg)], by go_num, ⟨by repeat (first | (with_reducible first | exact HB.out | apply below_alloc | apply pw_below_drewN | apply below_drew1))⟩⟩
          case measure => simp [intOf]; omega
        · go_upto_region 5 with (fail)
          obtain ⟨W0, hW0⟩ : ∃ W0 : World, W0 = wo.alloc (.cells #[.slice B0 (rd_T31 L i).f0.length b0, .bool (rd_T31 L i).f1, .int .i64 (rd_T31 L i).f2, .int .i64 (rd_T31 L i).f3, .int .i64 (rd_T31 L i).f4] 31) := ⟨_, rfl⟩
          have z3 : W0.cell? ⟨wo.heap.size, 3, none⟩ = some (.int .i64 (rd_T31 L i).f3) := by rw [hW0]; exact (cell_of_row _ _ 3 _ _ _ (heap_alloc_new _ _)).trans rfl
          have hb : Below wo.heap.size wo W0 := by rw [hW0]; exact below_alloc (Below.refl _ _) _
          rw [← hW0]
          clear hW0 x0 x1 x2 x3 x4
          replace y3 := (hb.cell (World.block_lt_of_cell? wo _ y3)).trans y3
          have HB := Aside0.mk (below_step HB.out hb)
          clear hb
          go_quiet (fail)
          go_wp2
          go_roundw
          case rel => exact ⟨i + 1, by omega, by rw [HS.out, if_neg (by rintro (h | h); exact hn h; exact hg h)], by go_num, ⟨by repeat (first | (with_reducible first | exact HB.out | apply below_alloc | apply pw_below_drewN | apply below_drew1))⟩⟩
          case measure => simp [intOf]; omega
    · obtain rfl : i = L.length := by omega
      go_wp2
      go_ret
      exact ⟨rfl, HB.out⟩
end Go.Proofs.YtfkfpcciacplkaaDoor.TRL

namespace Go.Proofs.YtfkfpcciacplkaaDoor.TRA
open Go.RowKit Go.Proofs.YtfkfpcciacplkaaDoorW.PrintWords Go.Proofs.YtfkfpcciacplkaaDoorW.PrintLast Go.Proofs.YtfkfpcciacplkaaDoorW.PrintMore Go.Proofs.YtfkfpcciacplkaaDoor.Scan Go.Proofs.YtfkfpcciacplkaaDoor.F Go.Proofs.YtfkfpcciacplkaaDoor.T Go.Proofs.YtfkfpcciacplkaaDoor.ST0 Go.Proofs.YtfkfpcciacplkaaDoor.TRB
set_option linter.unusedVariables false
set_option linter.unusedSimpArgs false
def th (x : S27) : S31 := ⟨x.f0, x.f1, x.f2, x.f3, x.f4⟩
theorem theirs_c (w : World) (A : Option Addr) (n m : Nat) (o : Bool) (e s c : Int) :
    Calls Tryd.prog 15 #[.agg #[.slice A n m, .bool o, .int .i64 e, .int .i64 s, .int .i64 c]] w fun x w' => x = .returned (.agg #[.slice A n m, .bool o, .int .i64 e, .int .i64 s, .int .i64 c]) ∧ Below w.heap.size w w' := by
  go_enter Tryd.func15, Tryd.ntmps15
  go_wp2
  refine bodyPost_ret (v := .agg #[.slice A n m, .bool o, .int .i64 e, .int .i64 s, .int .i64 c]) (by simp [results, Tryd.results15, go_sem]) rfl ⟨rfl, ?_⟩
  repeat (first | (with_reducible first | exact Below.refl _ _ | apply below_alloc | apply pw_below_drewN | apply below_drew1))
end Go.Proofs.YtfkfpcciacplkaaDoor.TRA

/- Texts of this claim, pruned to what it needs and laid together by prune.py. -/
import Derived.Test.YtocechpmgfhenaaGreatDoorPC0
import Derived.Test.YtocechpmgfhenaaGreatDoorPC1
import Derived.Test.YtocechpmgfhenaaGreatDoorPC22
import Derived.WalkKit
import Derived.KernelRfl
import Derived.Below
import Derived.Lib.LaidTab
import Derived.Test.YtocechpmgfhenaaGreatDoorRows
import Derived.ChangeArms
import Derived.OpenShut
import Derived.LaidMore
import Derived.LaidHandle
import Derived.MakeChecks
import Derived.Stop.Joined
import Derived.WideShapes
import Derived.SliceStrings
import Derived.ProofKit
import Derived.ShutString
import Derived.ChangeOld
import Derived.Lib.AppendIntMem
namespace Go.Proofs.YtocechpmgfhenaaGreatDoor.CR
open Go.RowKit Go.Proofs.YtocechpmgfhenaaGreatDoorW.PrintWords Go.Proofs.YtocechpmgfhenaaGreatDoor.F
set_option linter.unusedVariables false
set_option linter.unusedSimpArgs false
set_option linter.unusedSectionVars false
def opsL : List (List UInt8 × List UInt8) := [([], []), ([115, 101, 116], [97, 110]), ([97, 100, 100], [97, 98, 99]), ([106, 117, 109, 112], [110]), ([122, 101, 114, 111], [97, 110]), ([110, 101, 119], [97]), ([110, 105, 108], [97]), ([109, 111, 118, 101], [97, 98]), ([108, 111, 97, 100, 105], [97, 98, 110]), ([115, 116, 111, 114, 101, 105], [97, 110, 98]), ([108, 111, 97, 100, 112], [97, 98, 110]), ([115, 116, 111, 114, 101, 112], [97, 110, 98]), ([108, 111, 97, 100, 103], [97, 98]), ([115, 116, 111, 114, 101, 103], [97, 98]), ([112, 114, 105, 110, 116], [97]), ([115, 97, 109, 101], [97, 98, 99])]
def opsC : List Value := (opsL.map fun x => [Value.string ⟨x.1.toArray⟩, Value.string ⟨x.2.toArray⟩]).flatten
def hasOf (o : Nat) : List UInt8 := (opsL.getD o ([], [])).2
def OT (w : World) : Prop := w.var? Tryz.prog "lockstitch/code.ops" = some opsC.toArray
theorem opsG : Tryz.prog.globalNamed "lockstitch/code.ops" = some 0 := by kernel_rfl
theorem OT_below {w w' : World} (h : OT w) (hb : Below w.heap.size w w') : OT w' := by
  unfold OT World.var? at h ⊢
  rw [opsG] at h ⊢
  simp only [Option.bind_some] at h ⊢
  have hlt : 0 < w.heap.size := by
    rcases Nat.lt_or_ge 0 w.heap.size with h' | h'
    · exact h'
    · rw [Array.getElem?_eq_none h'] at h; cases h
  rw [hb.block 0 hlt]
  exact h
theorem OT.cell {w : World} (h : OT w) {o : Nat} (ho : o < 16) : w.cell? ⟨0, o * 2 + 1, none⟩ = some (.string ⟨(hasOf o).toArray⟩) := by
  have := World.var?_cell opsG h (o * 2 + 1)
  rw [this]
  obtain rfl | rfl | rfl | rfl | rfl | rfl | rfl | rfl | rfl | rfl | rfl | rfl | rfl | rfl | rfl | rfl : o = 0 ∨ o = 1 ∨ o = 2 ∨ o = 3 ∨ o = 4 ∨ o = 5 ∨ o = 6 ∨ o = 7 ∨ o = 8 ∨ o = 9 ∨ o = 10 ∨ o = 11 ∨ o = 12 ∨ o = 13 ∨ o = 14 ∨ o = 15 := by omega
  all_goals rfl
def hs (o : Nat) (c : UInt8) : Bool := decide (0 ≤ Lib.indexByte (hasOf o) c)
set_option maxRecDepth 100000 in
theorem has_calls (w : World) (B o : Nat) (ho : o < 16) (c : UInt8) (hot : OT w) (hb : w.cell? ⟨B, 0, none⟩ = some (.int .u8 o)) :
    Calls Tryz.prog 84 #[.string ⟨#[c]⟩, .pointer (some ⟨B, 0, none⟩)] w fun e w' => e = .returned (.bool (hs o c)) ∧ w' = w := by
  have hc := hot.cell ho
  have o0 : (0 : Int) ≤ o := by omega
  have o1 : (o : Int) < 16 := by omega
  clear hot
  go_enter Tryz.func84, Tryz.ntmps84
  go_wp2_with (first
    | (go_at_call 85; (with_reducible refine (Tryz.strings_Contains_one ⟨(hasOf o).toArray⟩ c w).mono ?_); rintro e w' ⟨rfl, rfl⟩))
  go_ret
  exact ⟨rfl, rfl⟩
def rightB (o : Nat) (f1 f2 f3 f4 : Int) : Bool := (hs o 98 || f2 == 0) && ((hs o 99 || f3 == 0) && ((hs o 110 || f4 == 0) && (hs o 97 || f1 == 0)))
section
variable (w : World) (o : Nat) (f1 f2 f3 f4 : Int) (hot : OT w)
include hot
set_option maxRecDepth 100000 in
theorem right_out (ho : o < 1 ∨ 15 < o) : Calls Tryz.prog 58 #[.agg #[.int .u8 o, .int .u8 f1, .int .u8 f2, .int .u8 f3, .int .i64 f4]] w fun e w' => e = .returned (.bool false) ∧ Below w.heap.size w w' := by
  clear hot
  rcases ho with ho | ho
  · have h1 : (o : Int) < 1 := by omega
    go_enter Tryz.func58, Tryz.ntmps58
    go_wp2
    go_ret
    exact ⟨rfl, below_alloc (Below.refl _ _) _⟩
  · have h1 : ¬ (o : Int) < 1 := by omega
    have h2 : (o : Int) > 15 := by omega
    go_enter Tryz.func58, Tryz.ntmps58
    go_wp2
    go_ret
    exact ⟨rfl, below_alloc (Below.refl _ _) _⟩
set_option maxHeartbeats 4000000 in
set_option maxRecDepth 100000 in
theorem right_in (h1 : 1 ≤ o) (h15 : o ≤ 15) : Calls Tryz.prog 58 #[.agg #[.int .u8 o, .int .u8 f1, .int .u8 f2, .int .u8 f3, .int .i64 f4]] w fun e w' => e = .returned (.bool (rightB o f1 f2 f3 f4)) ∧ Below w.heap.size w w' := by
  have HOT := Aside0.mk (OT_below hot (below_alloc (Below.refl _ _) (.cells #[.int .u8 o, .int .u8 f1, .int .u8 f2, .int .u8 f3, .int .i64 f4] 46)))
  have HK := Aside0.mk (show (w.alloc (.cells #[.int .u8 o, .int .u8 f1, .int .u8 f2, .int .u8 f3, .int .i64 f4] 46)).cell? ⟨w.heap.size, 0, none⟩ = some (.int .u8 o) by rw [cell_of_row _ _ _ _ _ _ (heap_alloc_new _ _)]; rfl)
  have H16 := Aside0.mk (show o < 16 by omega)
  have n1 : ¬ (o : Int) < 1 := by omega
  have n2 : ¬ (o : Int) > 15 := by omega
  clear hot h1 h15
  unfold rightB
  obtain ⟨b98, h98⟩ : ∃ b, hs o 98 = b := ⟨_, rfl⟩
  obtain ⟨b99, h99⟩ : ∃ b, hs o 99 = b := ⟨_, rfl⟩
  obtain ⟨b110, h110⟩ : ∃ b, hs o 110 = b := ⟨_, rfl⟩
  obtain ⟨b97, h97⟩ : ∃ b, hs o 97 = b := ⟨_, rfl⟩
  rw [h98, h99, h110, h97]
  have C98 := Aside0.mk h98
  have C99 := Aside0.mk h99
  have C110 := Aside0.mk h110
  have C97 := Aside0.mk h97
  clear h98 h99 h110 h97
  go_enter Tryz.func58, Tryz.ntmps58
  go_upto_region 1 with (fail)
  obtain ⟨W0, hW0⟩ : ∃ W0 : World, W0 = w.alloc (.cells #[.int .u8 o, .int .u8 f1, .int .u8 f2, .int .u8 f3, .int .i64 f4] 46) := ⟨_, rfl⟩
  have kR := fun j => cell_of_row W0 w.heap.size j _ _ _ (show W0.heap[w.heap.size]? = some (.cells #[.int .u8 o, .int .u8 f1, .int .u8 f2, .int .u8 f3, .int .i64 f4] 46 (0, 0)) by rw [hW0]; exact heap_alloc_new _ _)
  have HW := Aside0.mk (show Below w.heap.size w W0 by rw [hW0]; exact below_alloc (Below.refl _ _) _)
  rw [← hW0] at HOT HK ⊢
  clear hW0
  go_wp2_with (first
    | (go_at_call 84; (with_reducible refine (has_calls _ w.heap.size o H16.out 98 HOT.out HK.out).mono ?_); rintro e w' ⟨rfl, rfl⟩; rw [C98.out])
    | (go_at_call 84; (with_reducible refine (has_calls _ w.heap.size o H16.out 99 HOT.out HK.out).mono ?_); rintro e w' ⟨rfl, rfl⟩; rw [C99.out])
    | (go_at_call 84; (with_reducible refine (has_calls _ w.heap.size o H16.out 110 HOT.out HK.out).mono ?_); rintro e w' ⟨rfl, rfl⟩; rw [C110.out])
    | (go_at_call 84; (with_reducible refine (has_calls _ w.heap.size o H16.out 97 HOT.out HK.out).mono ?_); rintro e w' ⟨rfl, rfl⟩; rw [C97.out]))
  all_goals
    go_ret
    refine ⟨?_, HW.out⟩
    simp [*]
end
open Classical in
noncomputable def code_Right.f (f0 f1 f2 f3 f4 : Int) : Option Bool := if 0 ≤ f0 then some (if f0 < 1 ∨ 15 < f0 then false else rightB f0.toNat f1 f2 f3 f4) else none
theorem code_Right.calls (a0_0 a0_1 a0_2 a0_3 a0_4 : Int) (r : Bool) (w : World) (h : code_Right.f a0_0 a0_1 a0_2 a0_3 a0_4 = some r) (hot : OT w) :
    Calls Tryz.prog 58 #[.agg #[.int .u8 a0_0, .int .u8 a0_1, .int .u8 a0_2, .int .u8 a0_3, .int .i64 a0_4]] w fun e w' => e = .returned (.bool r) ∧ Below w.heap.size w w' := by
  unfold code_Right.f at h
  split at h
  · rename_i h0
    obtain ⟨o, rfl⟩ := Int.eq_ofNat_of_zero_le h0
    obtain rfl := Option.some.inj h
    by_cases ho : (o : Int) < 1 ∨ 15 < (o : Int)
    · rw [if_pos ho]
      exact right_out w o a0_1 a0_2 a0_3 a0_4 hot (by omega)
    · rw [if_neg ho, Int.toNat_natCast]
      exact right_in w o a0_1 a0_2 a0_3 a0_4 hot (by omega) (by omega)
  · cases h
end Go.Proofs.YtocechpmgfhenaaGreatDoor.CR

namespace Go.Proofs.YtocechpmgfhenaaGreatDoor.TRO
open Go.ChangeShapes Go.ChangeAt Go.RowKit Go.WideShapes Go.Proofs.YtocechpmgfhenaaGreatDoorW.PrintWords Go.Proofs.YtocechpmgfhenaaGreatDoor.F Go.Proofs.YtocechpmgfhenaaGreatDoor.CR
set_option linter.unusedVariables false
theorem add_add (a : Addr) (i j : Nat) : (a.add i).add j = a.add (i + j) := by
  unfold Addr.add
  by_cases h1 : i = 0 <;> by_cases h2 : j = 0 <;> simp [h1, h2, Nat.add_assoc]
theorem wf_u8 {n : Int} (h : (Lit.int .u8 n).wf = true) : 0 ≤ n ∧ n ≤ 255 := by
  simp [Lit.wf, IntKind.min, IntKind.max, IntKind.signed, IntKind.bits] at h
  omega
section
variable {H : Type} {enc : TypeId × Value → H} {P : Program} {W : World} {held : Bool} {sp : Nat → Bool}
theorem slice_row {α : Type} (d : Kd α) (z : α) {t e : TypeId} (ht : P.underlying t = some (.slice e)) (hsz : P.cellsOf e = d.sz)
    (each : ∀ {fuel : Nat} {cs : List Value} {x : DataW H × List MemPlace}, DataW.trod enc P W 0 sp held fuel e cs = some x → ∃ a, d.K W a cs)
    {fuel : Nat} {v : Value} {x : DataW H × List MemPlace} (h : DataW.trod enc P W 0 sp held fuel t [v] = some x) :
    ∃ (A : Option Addr) (c : Nat) (l : List α), v = .slice A l.length c ∧ l.length ≤ c ∧ Kd.C d W A l.length l := by
  rcases DataW.trod_slice ht h with ⟨h0, _⟩ | ⟨a, len, cap, elems, rest, n, _, h0, _, hb, hl, hm, hlen, hel, _, _⟩
  · injection h0 with h0
    exact ⟨none, 0, [], h0, Nat.le_refl _, Kd.C_nil _ _⟩
  · injection h0 with h0
    have each' : ∀ i, ∃ s : α, i < len → ∃ cs, d.K W s cs ∧ ∀ j u, cs[j]? = some u → W.cell? (a.add (i * d.sz + j)) = some u := by
      intro i
      by_cases hi : i < len
      · have h1 := hel i hi
        rw [List.getElem?_eq_getElem (by omega), hsz, Option.bind_eq_some_iff] at h1
        obtain ⟨cs, h2, h3⟩ := h1
        obtain ⟨s, hs⟩ := each h3
        obtain ⟨_, hln, h4⟩ := World.cells?_some h2
        refine ⟨s, fun _ => ⟨cs, hs, fun j u hu => ?_⟩⟩
        have hj := (List.getElem?_eq_some_iff.1 hu).1
        have h5 := h4 j (by omega)
        rw [hu] at h5
        rw [← h5, add_add]
      · exact ⟨z, fun h => absurd h hi⟩
    obtain ⟨f, hf⟩ := Classical.axiomOfChoice each'
    have hlm : ((List.range len).map f).length = len := by simp
    refine ⟨some a, cap, (List.range len).map f, by rw [hlm]; exact h0, by rw [hlm]; exact hl, ?_⟩
    rw [hlm]
    refine ⟨hlm, by unfold maxLen at hm; omega, fun _ => ⟨a, rfl, fun j p hp => ?_⟩⟩
    rw [List.getElem?_map] at hp
    by_cases hj : j < len
    · rw [List.getElem?_range hj] at hp
      obtain rfl := Option.some.inj hp
      obtain ⟨cs, hk, hc⟩ := hf j hj
      exact ⟨cs, d.K_len hk, hk, hc⟩
    · rw [List.getElem?_eq_none (by simpa using hj)] at hp
      cases hp
end
section
variable {H : Type} {enc : TypeId × Value → H} {W : World} {held : Bool} {sp : Nat → Bool}
set_option maxRecDepth 100000 in
theorem ops_cells {base fuel : Nat} {cs : List Value} {p : List MemPlace} (h : DataW.trod enc Tryz.prog W base sp held fuel 132 cs = some (.agg (opsL.map fun x => .agg [.lit (.string x.1), .lit (.string x.2)]), p)) : cs = opsC := by
  obtain ⟨xs, m, _, hx, hl, hxl, hf⟩ := DataW.trod_array Tryz.underlying132 h
  have hc : Tryz.prog.cellsOf 132 = 32 := by kernel_rfl
  have ce : Tryz.prog.cellsOf 131 = 2 := by kernel_rfl
  have cs1 : Tryz.prog.cellsOf 9 = 1 := by kernel_rfl
  rw [hc] at hl
  rw [ce] at hf
  have hm : xs.map (·.1) = opsL.map fun x => (.agg [.lit (.string x.1), .lit (.string x.2)] : DataW H) := by
    have := congrArg Prod.fst hx
    injection this with this
    exact this.symm
  have key : ∀ q, q < 16 → ∀ a b, opsL[q]? = some (a, b) → (cs.drop (q * 2)).take 2 = [Value.string ⟨a.toArray⟩, Value.string ⟨b.toArray⟩] := by
    intro q hq a b hab
    have h1 := hf q hq
    have h2 : (xs[q]?).map (·.1) = some (.agg [.lit (.string a), .lit (.string b)]) := by
      rw [← List.getElem?_map, hm, List.getElem?_map, hab]
      rfl
    rw [← h1, Option.map_eq_some_iff] at h2
    obtain ⟨y, h3, h4⟩ := h2
    obtain ⟨ys, n, _, hy, hyl, hys, hg⟩ := DataW.trod_struct Tryz.underlying131 h3
    rw [ce] at hyl
    generalize (cs.drop (q * 2)).take 2 = l at hyl hg ⊢
    match l, hyl with
    | [u, v], _ =>
      match ys, hys with
      | [y0, y1], _ =>
        obtain ⟨s0, e0, f0, _⟩ := DataW.trod_string Tryz.underlying9 (hg 0 _ rfl)
        obtain ⟨s1, e1, f1, _⟩ := DataW.trod_string Tryz.underlying9 (hg 1 _ rfl)
        have e0' : u = .string s0 := by simpa [cs1] using e0
        have e1' : v = .string s1 := by simpa [cs1] using e1
        rw [hy] at h4
        simp only [List.map_cons, List.map_nil] at h4
        injection h4 with h4
        injection h4 with h5 h6
        injection h6 with h6 _
        have g0 := congrArg Prod.fst f0
        have g1 := congrArg Prod.fst f1
        simp only at g0 g1
        rw [g0] at h5
        rw [g1] at h6
        injection h5 with h5
        injection h5 with h5
        injection h6 with h6
        injection h6 with h6
        rw [e0', e1', ← h5, ← h6]
  apply List.ext_getElem?
  intro i
  by_cases hi : i < 32
  · have hr : i % 2 < 2 := Nat.mod_lt _ (by decide)
    have hd : i / 2 < 16 := by omega
    have hi2 : i = i / 2 * 2 + i % 2 := by omega
    generalize i / 2 = q at hd hi2
    generalize i % 2 = r at hr hi2
    subst hi2
    have e : cs[q * 2 + r]? = ((cs.drop (q * 2)).take 2)[r]? := by
      rw [List.getElem?_take, if_pos hr, List.getElem?_drop]
    rw [e]
    have hq : ∃ a b, opsL[q]? = some (a, b) := by
      have : q < opsL.length := hd
      exact ⟨_, _, List.getElem?_eq_getElem this⟩
    obtain ⟨a, b, hab⟩ := hq
    rw [key q hd a b hab]
    clear e key hf hm hx h hl hi
    obtain rfl | rfl | rfl | rfl | rfl | rfl | rfl | rfl | rfl | rfl | rfl | rfl | rfl | rfl | rfl | rfl : q = 0 ∨ q = 1 ∨ q = 2 ∨ q = 3 ∨ q = 4 ∨ q = 5 ∨ q = 6 ∨ q = 7 ∨ q = 8 ∨ q = 9 ∨ q = 10 ∨ q = 11 ∨ q = 12 ∨ q = 13 ∨ q = 14 ∨ q = 15 := by omega
    all_goals
      obtain ⟨rfl, rfl⟩ := Prod.mk.inj (Option.some.inj hab)
      obtain rfl | rfl : r = 0 ∨ r = 1 := by omega
      all_goals rfl
  · rw [List.getElem?_eq_none (by omega), List.getElem?_eq_none (by show 32 ≤ i; omega)]
end
end Go.Proofs.YtocechpmgfhenaaGreatDoor.TRO

namespace Go.Proofs.YtocechpmgfhenaaGreatDoor.FM
open Go.RowKit Go.Proofs.YtocechpmgfhenaaGreatDoorW.PrintWords
def TB (w : World) : Prop := Lib.TabIs Tryz.prog w "internal/strconv.uint64pow10" .u64 Lib.pow10Tab
theorem TB_below {w w' : World} (h : TB w) (hb : Below w.heap.size w w') : TB w' := by
  have hg : Tryz.prog.globalNamed "internal/strconv.uint64pow10" = some 1 := by kernel_rfl
  unfold TB Lib.TabIs World.var? at h ⊢
  rw [hg] at h ⊢
  simp only [Option.bind_some] at h ⊢
  have hlt : 1 < w.heap.size := by
    rcases Nat.lt_or_ge 1 w.heap.size with h' | h'
    · exact h'
    · rw [Array.getElem?_eq_none h'] at h; cases h
  rw [hb.block 1 hlt]
  exact h
def num (n : Int) : ByteArray := ⟨(Lib.itoa n).toArray⟩
def strconv_FormatInt.f (a0 : Int) (a1 : Int) : Option ByteArray := if a1 = 10 ∧ -9223372036854775808 ≤ a0 ∧ a0 ≤ 9223372036854775807 then some (num a0) else none
theorem strconv_FormatInt.calls (a0 : Int) (a1 : Int) (r : ByteArray) (w : World) (h : strconv_FormatInt.f a0 a1 = some r) (ht : TB w) :
    Calls Tryz.prog 79 #[.int .i64 a0, .int .i64 a1] w fun e w' => e = .returned (.string r) ∧ Below w.heap.size w w' := by
  unfold strconv_FormatInt.f at h
  split at h
  · rename_i hh
    obtain ⟨rfl, h0, h1⟩ := hh
    obtain rfl := Option.some.inj h
    refine (Tryz.strconv_FormatInt_10 a0 h0 h1 w ht).mono ?_
    rintro e w' ⟨he, k, os, rfl⟩
    exact ⟨he, Lib.below_grow _ w (Nat.le_refl _) k os⟩
  · cases h
end Go.Proofs.YtocechpmgfhenaaGreatDoor.FM

namespace Go.Proofs.YtocechpmgfhenaaGreatDoor.Scan
open Go.RowKit Go.Proofs.YtocechpmgfhenaaGreatDoorW.PrintWords
theorem ev_some {α : Type} {g : Nat → Option α} {r : α} (h : ∀ k, g (k + 1) = some r) : Ev g r :=
  ⟨1, fun k hk => by
    obtain ⟨m, rfl⟩ : ∃ m, k = m + 1 := ⟨k - 1, by omega⟩
    exact h m⟩
theorem ev_const {α : Type} {r : α} : Ev (fun _ => some r) r := ⟨0, fun _ _ => rfl⟩
theorem ev_all {α : Type} {g : Nat → Option α} {r : α} (h : ∀ k, g k = some r) : Ev g r := ⟨0, fun k _ => h k⟩
theorem ev_step {α : Type} {g f : Nat → Option α} {r : α} (h : ∀ k, g (k + 1) = f k) (k : Ev f r) : Ev g r := Ev.step h k
theorem ev_bind {α β : Type} {g : Nat → Option α} {f : Nat → α → Option β} {a : α} {r : β} (h : Ev g a) (k : Ev (fun n => f n a) r) :
    Ev (fun n => (g n).bind (f n)) r := Ev.bind h k
theorem ev_at {α : Type} {g : Nat → Option α} {r : α} (h : Ev g r) : ∃ k, g k = some r := h.rounds
theorem scan_bad {ρ : Type} (g : Nat → Int → Option ρ) (n : Int) (bad : ρ) (ok : Int → Prop)
    (h1 : ∀ i q, 0 ≤ i → i < n → ok i → Ev (fun k => g k (i + 1)) q → Ev (fun k => g k i) q)
    (h2 : ∀ i, 0 ≤ i → i < n → ¬ ok i → Ev (fun k => g k i) bad) :
    ∀ (d : Nat) (i : Int), 0 ≤ i → i ≤ n → n - i = d → (∃ j, i ≤ j ∧ j < n ∧ ¬ ok j) → Ev (fun k => g k i) bad := by
  intro d
  induction d with
  | zero => intro i h0 hi hd ⟨j, a, b, _⟩; omega
  | succ d ih =>
    intro i h0 hi hd ⟨j, hj, hn, hj'⟩
    by_cases hk : ok i
    · refine h1 i bad h0 (by omega) hk (ih (i + 1) (by omega) (by omega) (by omega) ⟨j, ?_, hn, hj'⟩)
      have : j ≠ i := fun e => hj' (e ▸ hk)
      omega
    · exact h2 i h0 (by omega) hk
theorem scan0_bad {ρ : Type} (g : Nat → Int → Option ρ) (n : Int) (bad : ρ) (ok : Int → Prop) (hn : 0 ≤ n)
    (h1 : ∀ i q, 0 ≤ i → i < n → ok i → Ev (fun k => g k (i + 1)) q → Ev (fun k => g k i) q)
    (h2 : ∀ i, 0 ≤ i → i < n → ¬ ok i → Ev (fun k => g k i) bad)
    (h : ¬ ∀ j, 0 ≤ j → j < n → ok j) : Ev (fun k => g k 0) bad := by
  refine scan_bad g n bad ok h1 h2 n.toNat 0 (by omega) hn (by omega) ?_
  rcases Classical.not_forall.1 h with ⟨j, hj⟩
  rw [Classical.not_imp, Classical.not_imp] at hj
  exact ⟨j, hj.1, hj.2.1, hj.2.2⟩
theorem scan_good {ρ : Type} (g : Nat → Int → Option ρ) (n : Int) (r : ρ) (ok : Int → Prop)
    (h1 : ∀ i q, 0 ≤ i → i < n → ok i → Ev (fun k => g k (i + 1)) q → Ev (fun k => g k i) q)
    (h3 : Ev (fun k => g k n) r) :
    ∀ (d : Nat) (i : Int), 0 ≤ i → i ≤ n → n - i = d → (∀ j, i ≤ j → j < n → ok j) → Ev (fun k => g k i) r := by
  intro d
  induction d with
  | zero =>
    intro i h0 hi hd _
    have : i = n := by omega
    subst this
    exact h3
  | succ d ih =>
    intro i h0 hi hd h
    exact h1 i r h0 (by omega) (h i (by omega) (by omega)) (ih (i + 1) (by omega) (by omega) (by omega) fun j hj hn => h j (by omega) hn)
theorem scan0_good {ρ : Type} (g : Nat → Int → Option ρ) (n : Int) (r : ρ) (ok : Int → Prop) (hn : 0 ≤ n)
    (h1 : ∀ i q, 0 ≤ i → i < n → ok i → Ev (fun k => g k (i + 1)) q → Ev (fun k => g k i) q)
    (h3 : Ev (fun k => g k n) r) (h : ∀ j, 0 ≤ j → j < n → ok j) : Ev (fun k => g k 0) r :=
  scan_good g n r ok h1 h3 n.toNat 0 (by omega) hn (by omega) h
end Go.Proofs.YtocechpmgfhenaaGreatDoor.Scan

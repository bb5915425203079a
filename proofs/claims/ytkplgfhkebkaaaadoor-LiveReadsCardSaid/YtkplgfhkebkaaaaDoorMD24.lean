/- Texts of this claim, pruned to what it needs and laid together by prune.py. -/
import Derived.Test.YtkplgfhkebkaaaaDoorProg
import Derived.Below
import Derived.Deep.Draws
import Derived.Deep.AppendLies
import Derived.Maps.AppendAt
import Derived.OwnWalk
import Derived.Laws.BytesArg
import Derived.Laws.MakeOwn
import Derived.Laws.OwnMore
import Derived.Deep.OwnRows
import Derived.Tactics
import Derived.Lib.ConvBytes
import Derived.Laws.Slices
import Derived.WalkKit
import Derived.KernelRfl
import Derived.RowKit3
import Derived.Deep.LoopGhost
import Derived.Deep.QuietTactic
import Derived.BigQuiet
import Derived.WideLaws
import Derived.Deep.DeepCutAuto
import Derived.Deep.CutBlock
import Derived.Deep.RegionHeld3
import Derived.Laws.Rows
import Derived.Lib.AppendStr
import Derived.ArgAppend
import Derived.Laws.IdiomCopy
import Derived.OrdersHeld
import Derived.Laws.BitsLemmas
import Derived.RowKit
import Derived.Test.YtkplgfhkebkaaaaDoorMD1
import Derived.Test.YtkplgfhkebkaaaaDoorMD3
import Derived.Test.YtkplgfhkebkaaaaDoorMD15
import Derived.Test.YtkplgfhkebkaaaaDoorMD16
import Derived.Test.YtkplgfhkebkaaaaDoorMD4
import Derived.Test.YtkplgfhkebkaaaaDoorMD5
import Derived.Test.YtkplgfhkebkaaaaDoorMD6
import Derived.Test.YtkplgfhkebkaaaaDoorMD7
import Derived.Test.YtkplgfhkebkaaaaDoorMD8
import Derived.Test.YtkplgfhkebkaaaaDoorMD9
import Derived.Test.YtkplgfhkebkaaaaDoorMD10
import Derived.Test.YtkplgfhkebkaaaaDoorMD11
import Derived.Test.YtkplgfhkebkaaaaDoorMD17
import Derived.Test.YtkplgfhkebkaaaaDoorMD18
import Derived.Test.YtkplgfhkebkaaaaDoorMD19
import Derived.Test.YtkplgfhkebkaaaaDoorMD20
import Derived.Test.YtkplgfhkebkaaaaDoorMD21
import Derived.Test.YtkplgfhkebkaaaaDoorMD22
import Derived.Test.YtkplgfhkebkaaaaDoorMD23
import Derived.Test.YtkplgfhkebkaaaaDoorMD12
import Derived.Test.YtkplgfhkebkaaaaDoorMD13
namespace Go.Proofs.YtkplgfhkebkaaaaDoor.F
open Go.RowKit Go.Proofs.YtkplgfhkebkaaaaDoorW.PrintWords Go.Proofs.YtkplgfhkebkaaaaDoorW.PrintLast Go.Proofs.YtkplgfhkebkaaaaDoorW.PrintMore
attribute [local go_sem] max2_int min2_int max_two min_two max_three min_three max_four min_four
set_option linter.unusedVariables false
set_option linter.unusedSimpArgs false
def errW : Option Int → Value
  | none => .nilIface
  | some c => .iface 0 (.int .i64 c)
theorem errW_none : errW none = .nilIface := rfl
theorem errW_some (c : Int) : errW (some c) = .iface 0 (.int .i64 c) := rfl
structure S47 where
  f0 : Int
  f1 : Int
  f2 : Int
  f3 : Int
  f4 : Int
def z47 : S47 := ⟨(0 : Int), (0 : Int), (0 : Int), (0 : Int), (0 : Int)⟩
def k47 : Kd S47 := Kd.iso (Kd.pair (Kd.int .u8) (Kd.pair (Kd.int .u8) (Kd.pair (Kd.int .u8) (Kd.pair (Kd.int .u8) (Kd.int .i64))))) (fun x : S47 => (x.f0, x.f1, x.f2, x.f3, x.f4))
theorem k47_open {w : World} {x : S47} {cs : List Value} (h : k47.K w x cs) : cs = [.int .u8 x.f0, .int .u8 x.f1, .int .u8 x.f2, .int .u8 x.f3, .int .i64 x.f4] := by
  obtain ⟨_, _, rfl, rfl, ⟨_, _, rfl, rfl, ⟨_, _, rfl, rfl, ⟨_, _, rfl, rfl, rfl⟩⟩⟩⟩ := h; exact rfl
theorem k47_mk (w : World) (x : S47)  : k47.K w x [.int .u8 x.f0, .int .u8 x.f1, .int .u8 x.f2, .int .u8 x.f3, .int .i64 x.f4] := ⟨[.int .u8 x.f0], [.int .u8 x.f1, .int .u8 x.f2, .int .u8 x.f3, .int .i64 x.f4], rfl, rfl, ⟨[.int .u8 x.f1], [.int .u8 x.f2, .int .u8 x.f3, .int .i64 x.f4], rfl, rfl, ⟨[.int .u8 x.f2], [.int .u8 x.f3, .int .i64 x.f4], rfl, rfl, ⟨[.int .u8 x.f3], [.int .i64 x.f4], rfl, rfl, rfl⟩⟩⟩⟩
theorem k47_mkM (w : World) (base : Nat) (ok : Nat → Prop) (x : S47)  : k47.M w base ok x [.int .u8 x.f0, .int .u8 x.f1, .int .u8 x.f2, .int .u8 x.f3, .int .i64 x.f4] := ⟨[.int .u8 x.f0], [.int .u8 x.f1, .int .u8 x.f2, .int .u8 x.f3, .int .i64 x.f4], rfl, rfl, ⟨[.int .u8 x.f1], [.int .u8 x.f2, .int .u8 x.f3, .int .i64 x.f4], rfl, rfl, ⟨[.int .u8 x.f2], [.int .u8 x.f3, .int .i64 x.f4], rfl, rfl, ⟨[.int .u8 x.f3], [.int .i64 x.f4], rfl, rfl, rfl⟩⟩⟩⟩
def rd_T47 (xs : List S47) (i : Int) : S47 := xs.getD i.toNat z47
theorem at_T47 {w : World} {A : Option Addr} {n : Nat} {xs : List S47} (h : Kd.C k47 w A n xs) (i : Int) (h0 : 0 ≤ i) (h1 : i < n) : ∃ ad , A = some ad ∧ w.cell? (ad.add (i.toNat * 5)) = some (.int .u8 (rd_T47 xs i).f0) ∧ w.cell? ⟨(ad.add (i.toNat * 5)).block, (ad.add (i.toNat * 5)).off + 1, none⟩ = some (.int .u8 (rd_T47 xs i).f1) ∧ w.cell? ⟨(ad.add (i.toNat * 5)).block, (ad.add (i.toNat * 5)).off + 2, none⟩ = some (.int .u8 (rd_T47 xs i).f2) ∧ w.cell? ⟨(ad.add (i.toNat * 5)).block, (ad.add (i.toNat * 5)).off + 3, none⟩ = some (.int .u8 (rd_T47 xs i).f3) ∧ w.cell? ⟨(ad.add (i.toNat * 5)).block, (ad.add (i.toNat * 5)).off + 4, none⟩ = some (.int .i64 (rd_T47 xs i).f4) := by
  obtain ⟨ad, c, e, _, hK, hc0⟩ := Kd.C_get h z47 i h0 h1; have hc : ∀ j u, c[j]? = some u → w.cell? (ad.add (i.toNat * 5 + j)) = some u := hc0; obtain rfl := k47_open hK; exact ⟨ad, e, hc 0 _ rfl, by rw [← add_field _ _ 1 (by omega)]; exact hc 1 _ rfl, by rw [← add_field _ _ 2 (by omega)]; exact hc 2 _ rfl, by rw [← add_field _ _ 3 (by omega)]; exact hc 3 _ rfl, by rw [← add_field _ _ 4 (by omega)]; exact hc 4 _ rfl⟩
end Go.Proofs.YtkplgfhkebkaaaaDoor.F

namespace Go.Proofs.YtkplgfhkebkaaaaDoor.F
open Go.RowKit Go.Proofs.YtkplgfhkebkaaaaDoorW.PrintWords Go.Proofs.YtkplgfhkebkaaaaDoorW.PrintLast Go.Proofs.YtkplgfhkebkaaaaDoorW.PrintMore
attribute [local go_sem] max2_int min2_int max_two min_two max_three min_three max_four min_four
set_option linter.unusedVariables false
set_option linter.unusedSimpArgs false
def lockstitchref03_digit.f (a0 : Int) (a1 : Int) : Option (Int) := if a0 < 48 then (some (-1)) else (if ((a0 - 48) % 256) ≥ a1 then (some (-1)) else (some ((a0 - 48) % 256)))
set_option maxHeartbeats 8000000 in
set_option maxRecDepth 100000 in
theorem lockstitchref03_digit.calls (a0 : Int) (a1 : Int) (r : Int) (w : World) (h : lockstitchref03_digit.f a0 a1 = some r) :
    Calls Tryd.prog 50 #[.int .u8 a0, .int .i64 a1] w fun e w' => e = .returned (.int .i64 r) ∧ Drawn0 w w' := by
  have H : (if a0 < 48 then (some (-1)) else (if ((a0 - 48) % 256) ≥ a1 then (some (-1)) else (some ((a0 - 48) % 256)))) = some r := h; clear h; by_cases c3 : a0 < 48
  · rw [if_pos c3] at H; have c3b0 : decide (a0 < 48) = true := decide_eq_true c3; clear c3; obtain rfl := Option.some.inj H
    go_enter Tryd.func50, Tryd.ntmps50
    go_wp2; go_ret; exact ⟨by first | rfl | (simp; done) | (simp [*]; done), by repeat (first | exact Drawn0.refl _ | apply Drawn0.step)⟩
  rw [if_neg c3] at H; have c3b0 : decide (a0 < 48) = false := decide_eq_false c3; clear c3; by_cases c4 : ((a0 - 48) % 256) ≥ a1
  rotate_left
  · rw [if_neg c4] at H; have c4b0 : decide (a1 ≤ ((a0 - 48) % 256)) = false := decide_eq_false c4; clear c4; obtain rfl := Option.some.inj H
    go_enter Tryd.func50, Tryd.ntmps50
    go_wp2; go_ret; exact ⟨by first | rfl | (simp; done) | (simp [*]; done), by repeat (first | exact Drawn0.refl _ | apply Drawn0.step)⟩
  rw [if_pos c4] at H; have c4b0 : decide (a1 ≤ ((a0 - 48) % 256)) = true := decide_eq_true c4; clear c4; obtain rfl := Option.some.inj H
  go_enter Tryd.func50, Tryd.ntmps50
  go_wp2; go_ret; exact ⟨by first | rfl | (simp; done) | (simp [*]; done), by repeat (first | exact Drawn0.refl _ | apply Drawn0.step)⟩
mutual
def lockstitchref03_Right.l0 : Nat → List ByteArray → Int → Option (Bool)
  | 0, _, _ => none
  | k + 1, x0, x3 => if x3 < (x0.length : Int) then (if 0 ≤ x3 then (lockstitchref03_Right.l1 k x0 x3 (rdOf ByteArray.empty x0 x3) 0) else (none)) else (if (x0.length : Int) ≥ 1 then (some (decide ((x0.length : Int) ≤ 8))) else (some false))
def lockstitchref03_Right.l1 : Nat → List ByteArray → Int → ByteArray → Int → Option (Bool)
  | 0, _, _, _, _ => none
  | k + 1, x0, x3, x4, x5 => if x5 < (x4.size : Int) then (if 0 ≤ x5 then (if (bt x4 x5) = 105 then (lockstitchref03_Right.l1 k x0 x3 x4 (wrap64 (x5 + 1))) else ((lockstitchref03_digit.f (bt x4 x5) (x0.length : Int)).bind fun t102 => (if t102 < 0 then (some false) else (lockstitchref03_Right.l1 k x0 x3 x4 (wrap64 (x5 + 1)))))) else (none)) else (if (x4.size : Int) < 1 then (some false) else (if (x4.size : Int) > 6 then (some false) else (lockstitchref03_Right.l0 k x0 (wrap64 (x3 + 1)))))
end
def lockstitchref03_Right.f (k : Nat) (l0 : List ByteArray) : Option (Bool) := lockstitchref03_Right.l0 k l0 0
theorem lockstitchref03_Right.mono_l : ∀ k, (∀ y0 y1, LeO (lockstitchref03_Right.l0 k y0 y1) (lockstitchref03_Right.l0 (k + 1) y0 y1)) ∧ (∀ y0 y1 y2 y3, LeO (lockstitchref03_Right.l1 k y0 y1 y2 y3) (lockstitchref03_Right.l1 (k + 1) y0 y1 y2 y3))
  | 0 => ⟨fun _ _ r h => by simp [lockstitchref03_Right.l0] at h, fun _ _ _ _ r h => by simp [lockstitchref03_Right.l1] at h⟩
  | k + 1 => by
    obtain ⟨ih0, ih1⟩ := lockstitchref03_Right.mono_l k; refine ⟨?_, ?_⟩
    · intro y0 y1
      unfold lockstitchref03_Right.l0
      repeat' first
      | (with_reducible exact ih0 _ _)
      | (with_reducible exact ih1 _ _ _ _)
      | (with_reducible exact LeO.refl _)
      | (with_reducible exact LeO.none _)
      | (with_reducible refine LeO.ite ?_ ?_)
      | (with_reducible refine LeO.bind ?_ (fun _ => ?_))
      | exact ih0 _ _
      | exact ih1 _ _ _ _
      | exact LeO.none _
      | refine LeO.ite ?_ ?_
      | refine LeO.bind ?_ (fun _ => ?_)
    · intro y0 y1 y2 y3
      unfold lockstitchref03_Right.l1
      repeat' first
      | (with_reducible exact ih0 _ _)
      | (with_reducible exact ih1 _ _ _ _)
      | (with_reducible exact LeO.refl _)
      | (with_reducible exact LeO.none _)
      | (with_reducible refine LeO.ite ?_ ?_)
      | (with_reducible refine LeO.bind ?_ (fun _ => ?_))
      | exact ih0 _ _
      | exact ih1 _ _ _ _
      | exact LeO.none _
      | refine LeO.ite ?_ ?_
      | refine LeO.bind ?_ (fun _ => ?_)
theorem lockstitchref03_Right.mono : ∀ a0 k, LeO (lockstitchref03_Right.f k a0) (lockstitchref03_Right.f (k + 1) a0) := by
  intro a0 k; obtain ⟨ih0, ih1⟩ := lockstitchref03_Right.mono_l k
  unfold lockstitchref03_Right.f
  repeat' first
      | (with_reducible exact ih0 _ _)
      | (with_reducible exact ih1 _ _ _ _)
      | (with_reducible exact LeO.refl _)
      | (with_reducible exact LeO.none _)
      | (with_reducible refine LeO.ite ?_ ?_)
      | (with_reducible refine LeO.bind ?_ (fun _ => ?_))
      | exact ih0 _ _
      | exact ih1 _ _ _ _
      | exact LeO.none _
      | refine LeO.ite ?_ ?_
      | refine LeO.bind ?_ (fun _ => ?_)
set_option maxHeartbeats 8000000 in
set_option maxRecDepth 100000 in
theorem lockstitchref03_Right.calls (k : Nat) (A0 : Option Addr) (c0 : Nat) (l0 : List ByteArray) (r : Bool) (w : World) (hr0 : Kd.C Kd.string w A0 l0.length l0) (hc0 : l0.length ≤ c0) (h : lockstitchref03_Right.f k l0 = some r) :
    Calls Tryd.prog 51 #[.slice A0 l0.length c0] w fun e w' => e = .returned (.bool r) ∧ Drawn0 w w' := by
  have HR0 := Aside0.mk hr0; have HC0 := Aside0.mk hc0; clear hr0 hc0; have H : (lockstitchref03_Right.l0 k l0 0) = some r := h; clear h; have H' := Aside0.mk H; clear H
  go_enter Tryd.func51, Tryd.ntmps51
  go_wp2
  go_loopg [3] k (fun kq v3 w' => ∃ (x3_1 : Int), v3 = .int .i64 x3_1 ∧ Aside0 (lockstitchref03_Right.l0 kq l0 x3_1 = some r) ∧ Aside0 (kq ≤ k) ∧ Drawn0 w w')
  case atStart => exact ⟨(0), hB64, H', ⟨Nat.le_refl _⟩, by repeat (first | exact Drawn0.refl _ | apply Drawn0.step)⟩
  case round =>
    clear H'; obtain ⟨x3_1, rfl, HA, HK1, ⟨m1, rfl⟩⟩ := hrel
    cases gk with
    | zero => exact absurd HA.out (by simp [lockstitchref03_Right.l0])
    | succ k1 =>
      have H := HA.out; clear HA; simp only [lockstitchref03_Right.l0] at H; by_cases c2 : x3_1 < (l0.length : Int)
      rotate_left
      · rw [if_neg c2] at H; have c2b0 : decide (x3_1 < (l0.length : Int)) = false := decide_eq_false c2; clear c2; by_cases c13 : (l0.length : Int) ≥ 1
        rotate_left
        · rw [if_neg c13] at H; have c13b0 : decide (1 ≤ (l0.length : Int)) = false := decide_eq_false c13; have c13b1 : decide (1 ≤ l0.length) = false := decide_eq_false (by omega); clear c13; obtain rfl := Option.some.inj H; go_wp2; go_ret; exact ⟨by first | rfl | (simp; done) | (simp [*]; done), by repeat (first | exact Drawn0.refl _ | apply Drawn0.step)⟩
        rw [if_pos c13] at H; have c13b0 : decide (1 ≤ (l0.length : Int)) = true := decide_eq_true c13; have c13b1 : decide (1 ≤ l0.length) = true := decide_eq_true (by omega); clear c13; obtain rfl := Option.some.inj H; go_wp2; go_ret; exact ⟨by first | rfl | (simp; done) | (simp [*]; done), by repeat (first | exact Drawn0.refl _ | apply Drawn0.step)⟩
      rw [if_pos c2] at H; have c2b0 : decide (x3_1 < (l0.length : Int)) = true := decide_eq_true c2; clear c2; by_cases c3 : 0 ≤ x3_1
      rotate_left
      · rw [if_neg c3] at H; exact absurd H (by simp)
      rw [if_pos c3] at H; have c3b0 : decide (0 ≤ x3_1) = true := decide_eq_true c3; clear c3; have H' := Aside0.mk H; clear H; have p101 : 0 ≤ (x3_1 : Int) := of_decide_eq_true hB63; have q101 : x3_1 < (l0.length : Int) := of_decide_eq_true hB63; obtain ⟨ad101, e101, hx101_0⟩ := Kd.at_string HR0.out x3_1 p101 q101
      cases e101
      replace p101 := eq_true p101; replace q101 := eq_true q101; go_wp2
      go_loopg [5] k1 (fun kq v5 w' => ∃ (x5_2 : Int), v5 = .int .i64 x5_2 ∧ Aside0 (lockstitchref03_Right.l1 kq l0 x3_1 (rdOf ByteArray.empty l0 x3_1) x5_2 = some r) ∧ Aside0 (kq ≤ k1) ∧ Drawn0 w w')
      case atStart => exact ⟨(0), hB64, H', ⟨Nat.le_refl _⟩, by repeat (first | exact Drawn0.refl _ | apply Drawn0.step)⟩
      case round =>
        clear H'; (try clear p1); (try clear q1); (try clear hx1); (try clear c2); (try clear c2b0); (try clear p2); (try clear c3); (try clear c3b0); (try clear hx101_0); (try clear p101); (try clear q101); obtain ⟨x5_2, rfl, HA, HK2, ⟨m2, rfl⟩⟩ := hrel
        cases gk with
        | zero => exact absurd HA.out (by simp [lockstitchref03_Right.l1])
        | succ k2 =>
          have H := HA.out; clear HA; simp only [lockstitchref03_Right.l1] at H; by_cases c4 : x5_2 < ((rdOf ByteArray.empty l0 x3_1).size : Int)
          rotate_left
          · rw [if_neg c4] at H; have c4b0 : decide (x5_2 < ((rdOf ByteArray.empty l0 x3_1).size : Int)) = false := decide_eq_false c4; clear c4; by_cases c11 : ((rdOf ByteArray.empty l0 x3_1).size : Int) < 1
            · rw [if_pos c11] at H; have c11b0 : decide (((rdOf ByteArray.empty l0 x3_1).size : Int) < 1) = true := decide_eq_true c11; have c11b1 : decide ((rdOf ByteArray.empty l0 x3_1).size < 1) = true := decide_eq_true (by omega); clear c11; obtain rfl := Option.some.inj H; go_wp2; go_ret; exact ⟨by first | rfl | (simp; done) | (simp [*]; done), by repeat (first | exact Drawn0.refl _ | apply Drawn0.step)⟩
            rw [if_neg c11] at H; have c11b0 : decide (((rdOf ByteArray.empty l0 x3_1).size : Int) < 1) = false := decide_eq_false c11; have c11b1 : decide ((rdOf ByteArray.empty l0 x3_1).size < 1) = false := decide_eq_false (by omega); clear c11; by_cases c12 : ((rdOf ByteArray.empty l0 x3_1).size : Int) > 6
            · rw [if_pos c12] at H; have c12b0 : decide (6 < ((rdOf ByteArray.empty l0 x3_1).size : Int)) = true := decide_eq_true c12; have c12b1 : decide (6 < (rdOf ByteArray.empty l0 x3_1).size) = true := decide_eq_true (by omega); clear c12; obtain rfl := Option.some.inj H; go_wp2; go_ret; exact ⟨by first | rfl | (simp; done) | (simp [*]; done), by repeat (first | exact Drawn0.refl _ | apply Drawn0.step)⟩
            rw [if_neg c12] at H; have c12b0 : decide (6 < ((rdOf ByteArray.empty l0 x3_1).size : Int)) = false := decide_eq_false c12; have c12b1 : decide (6 < (rdOf ByteArray.empty l0 x3_1).size) = false := decide_eq_false (by omega); clear c12; have H' := Aside0.mk H; clear H; go_wp2; go_roundg k2
            case measure => have := HK1.out; have := HK2.out; omega
            case rel => exact ⟨(wrap64 (x3_1 + 1)), hB64, H', ⟨by have := HK1.out; have := HK2.out; omega⟩, by repeat (first | exact Drawn0.refl _ | apply Drawn0.step)⟩
          rw [if_pos c4] at H; have c4b0 : decide (x5_2 < ((rdOf ByteArray.empty l0 x3_1).size : Int)) = true := decide_eq_true c4; clear c4; by_cases c5 : 0 ≤ x5_2
          rotate_left
          · rw [if_neg c5] at H; exact absurd H (by simp)
          rw [if_pos c5] at H; have c5b0 : decide (0 ≤ x5_2) = true := decide_eq_true c5; clear c5; by_cases c7 : (bt (rdOf ByteArray.empty l0 x3_1) x5_2) = 105
          · rw [if_pos c7] at H; have c7b0 : ((bt (rdOf ByteArray.empty l0 x3_1) x5_2) == 105) = true := beq_iff_eq.mpr c7; have c7b1 : ((bt (rdOf ByteArray.empty l0 x3_1) x5_2) != 105) = false := bne_eq_false_iff_eq.mpr c7; clear c7; have H' := Aside0.mk H; clear H; have p6 : 0 ≤ (x5_2 : Int) := of_decide_eq_true hB63; have q6 : x5_2 < ((rdOf ByteArray.empty l0 x3_1).size : Int) := of_decide_eq_true hB63; have hx6 := bt_at (rdOf ByteArray.empty l0 x3_1) x5_2; replace p6 := eq_true p6; replace q6 := eq_true q6; go_wp2; go_roundg k2
            case measure => have := HK1.out; have := HK2.out; omega
            case rel => exact ⟨(wrap64 (x5_2 + 1)), hB64, H', ⟨by have := HK1.out; have := HK2.out; omega⟩, by repeat (first | exact Drawn0.refl _ | apply Drawn0.step)⟩
          rw [if_neg c7] at H; have c7b0 : ((bt (rdOf ByteArray.empty l0 x3_1) x5_2) == 105) = false := beq_eq_false_iff_ne.mpr c7; have c7b1 : ((bt (rdOf ByteArray.empty l0 x3_1) x5_2) != 105) = true := bne_iff_ne.mpr c7; replace H := Option.bind_eq_some_iff.mp H; obtain ⟨t102, A90, H⟩ := H; replace H : (if t102 < 0 then (some false) else (lockstitchref03_Right.l1 k2 l0 x3_1 (rdOf ByteArray.empty l0 x3_1) (wrap64 (x5_2 + 1)))) = some r := H; have A9 := Aside0.mk A90; clear A90; by_cases c10 : t102 < 0
          · rw [if_pos c10] at H; have c10b0 : decide (t102 < 0) = true := decide_eq_true c10; clear c10; obtain rfl := Option.some.inj H; have p6 : 0 ≤ (x5_2 : Int) := of_decide_eq_true hB63; have q6 : x5_2 < ((rdOf ByteArray.empty l0 x3_1).size : Int) := of_decide_eq_true hB63; have hx6 := bt_at (rdOf ByteArray.empty l0 x3_1) x5_2; replace p6 := eq_true p6; replace q6 := eq_true q6; have p8 : 0 ≤ (x5_2 : Int) := of_decide_eq_true hB63; have q8 : x5_2 < ((rdOf ByteArray.empty l0 x3_1).size : Int) := of_decide_eq_true hB63; have hx8 := bt_at (rdOf ByteArray.empty l0 x3_1) x5_2; replace p8 := eq_true p8; replace q8 := eq_true q8
            go_wp2_with (first | (go_at_call 50; (with_reducible refine (lockstitchref03_digit.calls (bt (rdOf ByteArray.empty l0 x3_1) x5_2) (l0.length : Int) t102 _ A9.out).mono ?_); rintro e w' ⟨rfl, ⟨nd, rfl⟩⟩))
            go_ret; exact ⟨by first | rfl | (simp; done) | (simp [*]; done), by repeat (first | exact Drawn0.refl _ | apply Drawn0.step)⟩
          rw [if_neg c10] at H; have c10b0 : decide (t102 < 0) = false := decide_eq_false c10; clear c10; have H' := Aside0.mk H; clear H; have p6 : 0 ≤ (x5_2 : Int) := of_decide_eq_true hB63; have q6 : x5_2 < ((rdOf ByteArray.empty l0 x3_1).size : Int) := of_decide_eq_true hB63; have hx6 := bt_at (rdOf ByteArray.empty l0 x3_1) x5_2; replace p6 := eq_true p6; replace q6 := eq_true q6; have p8 : 0 ≤ (x5_2 : Int) := of_decide_eq_true hB63; have q8 : x5_2 < ((rdOf ByteArray.empty l0 x3_1).size : Int) := of_decide_eq_true hB63; have hx8 := bt_at (rdOf ByteArray.empty l0 x3_1) x5_2; replace p8 := eq_true p8; replace q8 := eq_true q8
          go_wp2_with (first | (go_at_call 50; (with_reducible refine (lockstitchref03_digit.calls (bt (rdOf ByteArray.empty l0 x3_1) x5_2) (l0.length : Int) t102 _ A9.out).mono ?_); rintro e w' ⟨rfl, ⟨nd, rfl⟩⟩))
          go_roundg k2
          case measure => have := HK1.out; have := HK2.out; omega
          case rel => exact ⟨(wrap64 (x5_2 + 1)), hB64, H', ⟨by have := HK1.out; have := HK2.out; omega⟩, by repeat (first | exact Drawn0.refl _ | apply Drawn0.step)⟩
def lockstitchref03_Refs.l0 : Nat → List ByteArray → ByteArray → Int → Option (Bool)
  | 0, _, _, _ => none
  | k + 1, x0, x1, x5 => if x5 < (x1.size : Int) then (if 0 ≤ x5 then ((lockstitchref03_digit.f (bt x1 x5) (x0.length : Int)).bind fun t103 => (if t103 < 0 then (some false) else (lockstitchref03_Refs.l0 k x0 x1 (wrap64 (x5 + 1))))) else (none)) else ((lockstitchref03_Right.f k x0).bind fun t104 => (some t104))
def lockstitchref03_Refs.f (k : Nat) (l0 : List ByteArray) (a1 : ByteArray) : Option (Bool) := lockstitchref03_Refs.l0 k l0 a1 0
theorem lockstitchref03_Refs.mono_l : ∀ k, (∀ y0 y1 y2, LeO (lockstitchref03_Refs.l0 k y0 y1 y2) (lockstitchref03_Refs.l0 (k + 1) y0 y1 y2))
  | 0 => fun _ _ _ r h => by simp [lockstitchref03_Refs.l0] at h
  | k + 1 => by
    have ih0 := lockstitchref03_Refs.mono_l k
    · intro y0 y1 y2
      unfold lockstitchref03_Refs.l0
      repeat' first
      | (with_reducible exact ih0 _ _ _)
      | (with_reducible exact lockstitchref03_Right.mono _ _)
      | (with_reducible exact LeO.refl _)
      | (with_reducible exact LeO.none _)
      | (with_reducible refine LeO.ite ?_ ?_)
      | (with_reducible refine LeO.bind ?_ (fun _ => ?_))
      | exact ih0 _ _ _
      | exact lockstitchref03_Right.mono _ _
      | exact LeO.none _
      | refine LeO.ite ?_ ?_
      | refine LeO.bind ?_ (fun _ => ?_)
theorem lockstitchref03_Refs.mono : ∀ a0 a1 k, LeO (lockstitchref03_Refs.f k a0 a1) (lockstitchref03_Refs.f (k + 1) a0 a1) := by
  intro a0 a1 k; have ih0 := lockstitchref03_Refs.mono_l k
  unfold lockstitchref03_Refs.f
  repeat' first
      | (with_reducible exact ih0 _ _ _)
      | (with_reducible exact lockstitchref03_Right.mono _ _)
      | (with_reducible exact LeO.refl _)
      | (with_reducible exact LeO.none _)
      | (with_reducible refine LeO.ite ?_ ?_)
      | (with_reducible refine LeO.bind ?_ (fun _ => ?_))
      | exact ih0 _ _ _
      | exact lockstitchref03_Right.mono _ _
      | exact LeO.none _
      | refine LeO.ite ?_ ?_
      | refine LeO.bind ?_ (fun _ => ?_)
set_option maxHeartbeats 8000000 in
set_option maxRecDepth 100000 in
theorem lockstitchref03_Refs.calls (k : Nat) (A0 : Option Addr) (c0 : Nat) (l0 : List ByteArray) (a1 : ByteArray) (r : Bool) (w : World) (hr0 : Kd.C Kd.string w A0 l0.length l0) (hc0 : l0.length ≤ c0) (h : lockstitchref03_Refs.f k l0 a1 = some r) :
    Calls Tryd.prog 37 #[.slice A0 l0.length c0, .string a1] w fun e w' => e = .returned (.bool r) ∧ Drawn0 w w' := by
  have HR0 := Aside0.mk hr0; have HC0 := Aside0.mk hc0; clear hr0 hc0; have H : (lockstitchref03_Refs.l0 k l0 a1 0) = some r := h; clear h; have H' := Aside0.mk H; clear H
  go_enter Tryd.func37, Tryd.ntmps37
  go_wp2
  go_loopg [5] k (fun kq v5 w' => ∃ (x5_1 : Int), v5 = .int .i64 x5_1 ∧ Aside0 (lockstitchref03_Refs.l0 kq l0 a1 x5_1 = some r) ∧ Aside0 (kq ≤ k) ∧ Drawn0 w w')
  case atStart => exact ⟨(0), hB64, H', ⟨Nat.le_refl _⟩, by repeat (first | exact Drawn0.refl _ | apply Drawn0.step)⟩
  case round =>
    clear H'; (try clear p2); obtain ⟨x5_1, rfl, HA, HK1, ⟨m1, rfl⟩⟩ := hrel
    cases gk with
    | zero => exact absurd HA.out (by simp [lockstitchref03_Refs.l0])
    | succ k1 =>
      have H := HA.out; clear HA; simp only [lockstitchref03_Refs.l0] at H; by_cases c3 : x5_1 < (a1.size : Int)
      rotate_left
      · rw [if_neg c3] at H; have c3b0 : decide (x5_1 < (a1.size : Int)) = false := decide_eq_false c3; clear c3; replace H := Option.bind_eq_some_iff.mp H; obtain ⟨t104, A80, H⟩ := H; replace H : (some t104) = some r := H; have A8 := Aside0.mk A80; clear A80; obtain rfl := Option.some.inj H
        go_wp2_with (first | ((with_reducible refine gate_callee (f := 51) rfl ?_); refine goesL_ (some 20) rfl rfl Tryd.func51 (by kernel_rfl) rfl #[.slice A0 l0.length c0] rfl hB1 ?_; (with_reducible refine (lockstitchref03_Right.calls k1 _ _ l0 t104 _ ?side1 ?side2 A8.out).mono ?_); (case side1 => repeat (first | exact HR0.out | (with_reducible refine Kd.C_alloc ?_ _) | (with_reducible refine Kd.C_drewN ?_ _) | (with_reducible refine Kd.C_drew ?_))); (case side2 => exact HC0.out); rintro e w' ⟨rfl, ⟨nd, rfl⟩⟩; refine ⟨_, rfl, ?_⟩))
        go_ret; exact ⟨by first | rfl | (simp; done) | (simp [*]; done), by repeat (first | exact Drawn0.refl _ | apply Drawn0.step)⟩
      rw [if_pos c3] at H; have c3b0 : decide (x5_1 < (a1.size : Int)) = true := decide_eq_true c3; clear c3; by_cases c4 : 0 ≤ x5_1
      rotate_left
      · rw [if_neg c4] at H; exact absurd H (by simp)
      rw [if_pos c4] at H; have c4b0 : decide (0 ≤ x5_1) = true := decide_eq_true c4; clear c4; replace H := Option.bind_eq_some_iff.mp H; obtain ⟨t103, A60, H⟩ := H; replace H : (if t103 < 0 then (some false) else (lockstitchref03_Refs.l0 k1 l0 a1 (wrap64 (x5_1 + 1)))) = some r := H; have A6 := Aside0.mk A60; clear A60; by_cases c7 : t103 < 0
      · rw [if_pos c7] at H; have c7b0 : decide (t103 < 0) = true := decide_eq_true c7; clear c7; obtain rfl := Option.some.inj H; have p5 : 0 ≤ (x5_1 : Int) := of_decide_eq_true hB63; have q5 : x5_1 < (a1.size : Int) := of_decide_eq_true hB63; have hx5 := bt_at a1 x5_1; replace p5 := eq_true p5; replace q5 := eq_true q5
        go_wp2_with (first | ((with_reducible refine gate_callee (f := 50) rfl ?_); refine goesL_ (some 17) rfl rfl Tryd.func50 (by kernel_rfl) rfl #[.int .u8 (bt a1 x5_1), .int .i64 (l0.length : Int)] rfl hB1 ?_; (with_reducible refine (lockstitchref03_digit.calls (bt a1 x5_1) (l0.length : Int) t103 _ A6.out).mono ?_); rintro e w' ⟨rfl, ⟨nd, rfl⟩⟩; refine ⟨_, rfl, ?_⟩))
        go_ret; exact ⟨by first | rfl | (simp; done) | (simp [*]; done), by repeat (first | exact Drawn0.refl _ | apply Drawn0.step)⟩
      rw [if_neg c7] at H; have c7b0 : decide (t103 < 0) = false := decide_eq_false c7; clear c7; have H' := Aside0.mk H; clear H; have p5 : 0 ≤ (x5_1 : Int) := of_decide_eq_true hB63; have q5 : x5_1 < (a1.size : Int) := of_decide_eq_true hB63; have hx5 := bt_at a1 x5_1; replace p5 := eq_true p5; replace q5 := eq_true q5
      go_wp2_with (first | ((with_reducible refine gate_callee (f := 50) rfl ?_); refine goesL_ (some 17) rfl rfl Tryd.func50 (by kernel_rfl) rfl #[.int .u8 (bt a1 x5_1), .int .i64 (l0.length : Int)] rfl hB1 ?_; (with_reducible refine (lockstitchref03_digit.calls (bt a1 x5_1) (l0.length : Int) t103 _ A6.out).mono ?_); rintro e w' ⟨rfl, ⟨nd, rfl⟩⟩; refine ⟨_, rfl, ?_⟩))
      go_roundg k1
      case measure => have := HK1.out; omega
      case rel => exact ⟨(wrap64 (x5_1 + 1)), hB64, H', ⟨by have := HK1.out; omega⟩, by repeat (first | exact Drawn0.refl _ | apply Drawn0.step)⟩
def lockstitchref03_is.f (k : Nat) (l0 : List ByteArray) (a1 : Int) : Option (Bool) := (lockstitchref03_Right.f k l0).bind fun t105 => (if t105 = true then (if a1 ≥ 0 then (some (decide (a1 < (l0.length : Int)))) else (some false)) else (some false))
theorem lockstitchref03_is.mono : ∀ a0 a1 k, LeO (lockstitchref03_is.f k a0 a1) (lockstitchref03_is.f (k + 1) a0 a1) := by
  intro a0 a1 k
  unfold lockstitchref03_is.f
  repeat' first
      | (with_reducible exact lockstitchref03_Right.mono _ _)
      | (with_reducible exact LeO.refl _)
      | (with_reducible exact LeO.none _)
      | (with_reducible refine LeO.ite ?_ ?_)
      | (with_reducible refine LeO.bind ?_ (fun _ => ?_))
      | exact lockstitchref03_Right.mono _ _
      | exact LeO.none _
      | refine LeO.ite ?_ ?_
      | refine LeO.bind ?_ (fun _ => ?_)
set_option maxHeartbeats 8000000 in
set_option maxRecDepth 100000 in
theorem lockstitchref03_is.calls (k : Nat) (A0 : Option Addr) (c0 : Nat) (l0 : List ByteArray) (a1 : Int) (r : Bool) (w : World) (hr0 : Kd.C Kd.string w A0 l0.length l0) (hc0 : l0.length ≤ c0) (h : lockstitchref03_is.f k l0 a1 = some r) :
    Calls Tryd.prog 59 #[.slice A0 l0.length c0, .int .i64 a1] w fun e w' => e = .returned (.bool r) ∧ Drawn0 w w' := by
  have HR0 := Aside0.mk hr0; have HC0 := Aside0.mk hc0; clear hr0 hc0; have H : ((lockstitchref03_Right.f k l0).bind fun t105 => (if t105 = true then (if a1 ≥ 0 then (some (decide (a1 < (l0.length : Int)))) else (some false)) else (some false))) = some r := h; clear h; replace H := Option.bind_eq_some_iff.mp H; obtain ⟨t105, A30, H⟩ := H; replace H : (if t105 = true then (if a1 ≥ 0 then (some (decide (a1 < (l0.length : Int)))) else (some false)) else (some false)) = some r := H; have A3 := Aside0.mk A30; clear A30; by_cases c4 : t105 = true
  rotate_left
  · replace c4 := Bool.eq_false_iff.mpr c4; subst c4
    have H1 : (some false) = some r := by rw [if_neg (show ¬ (false = true) by decide)] at H; exact H
    clear H; have H := H1; clear H1; obtain rfl := Option.some.inj H
    go_enter Tryd.func59, Tryd.ntmps59
    go_wp2_with (first | ((with_reducible refine gate_callee (f := 51) rfl ?_); refine goesL_ (some 6) rfl rfl Tryd.func51 (by kernel_rfl) rfl #[.slice A0 l0.length c0] rfl hB1 ?_; (with_reducible refine (lockstitchref03_Right.calls k _ _ l0 false _ ?side1 ?side2 A3.out).mono ?_); (case side1 => repeat (first | exact HR0.out | (with_reducible refine Kd.C_alloc ?_ _) | (with_reducible refine Kd.C_drewN ?_ _) | (with_reducible refine Kd.C_drew ?_))); (case side2 => exact HC0.out); rintro e w' ⟨rfl, ⟨nd, rfl⟩⟩; refine ⟨_, rfl, ?_⟩))
    go_ret; exact ⟨by first | rfl | (simp; done) | (simp [*]; done), by repeat (first | exact Drawn0.refl _ | apply Drawn0.step)⟩
  subst c4
  have H1 : (if a1 ≥ 0 then (some (decide (a1 < (l0.length : Int)))) else (some false)) = some r := by rw [if_pos rfl] at H; exact H
  clear H; have H := H1; clear H1; by_cases c5 : a1 ≥ 0
  rotate_left
  · rw [if_neg c5] at H; have c5b0 : decide (0 ≤ a1) = false := decide_eq_false c5; clear c5; obtain rfl := Option.some.inj H
    go_enter Tryd.func59, Tryd.ntmps59
    go_wp2_with (first | ((with_reducible refine gate_callee (f := 51) rfl ?_); refine goesL_ (some 6) rfl rfl Tryd.func51 (by kernel_rfl) rfl #[.slice A0 l0.length c0] rfl hB1 ?_; (with_reducible refine (lockstitchref03_Right.calls k _ _ l0 true _ ?side1 ?side2 A3.out).mono ?_); (case side1 => repeat (first | exact HR0.out | (with_reducible refine Kd.C_alloc ?_ _) | (with_reducible refine Kd.C_drewN ?_ _) | (with_reducible refine Kd.C_drew ?_))); (case side2 => exact HC0.out); rintro e w' ⟨rfl, ⟨nd, rfl⟩⟩; refine ⟨_, rfl, ?_⟩))
    go_ret; exact ⟨by first | rfl | (simp; done) | (simp [*]; done), by repeat (first | exact Drawn0.refl _ | apply Drawn0.step)⟩
  rw [if_pos c5] at H; have c5b0 : decide (0 ≤ a1) = true := decide_eq_true c5; clear c5; obtain rfl := Option.some.inj H
  go_enter Tryd.func59, Tryd.ntmps59
  go_wp2_with (first | ((with_reducible refine gate_callee (f := 51) rfl ?_); refine goesL_ (some 6) rfl rfl Tryd.func51 (by kernel_rfl) rfl #[.slice A0 l0.length c0] rfl hB1 ?_; (with_reducible refine (lockstitchref03_Right.calls k _ _ l0 true _ ?side1 ?side2 A3.out).mono ?_); (case side1 => repeat (first | exact HR0.out | (with_reducible refine Kd.C_alloc ?_ _) | (with_reducible refine Kd.C_drewN ?_ _) | (with_reducible refine Kd.C_drew ?_))); (case side2 => exact HC0.out); rintro e w' ⟨rfl, ⟨nd, rfl⟩⟩; refine ⟨_, rfl, ?_⟩))
  go_ret; exact ⟨by first | rfl | (simp; done) | (simp [*]; done), by repeat (first | exact Drawn0.refl _ | apply Drawn0.step)⟩
def lockstitchref03_Size.f (k : Nat) (l0 : List ByteArray) (a1 : Int) : Option (Int) := (lockstitchref03_is.f k l0 a1).bind fun t106 => (if t106 = true then (if 0 ≤ a1 then (if a1 < (l0.length : Int) then (some ((rdOf ByteArray.empty l0 a1).size : Int)) else (none)) else (none)) else (some 0))
theorem lockstitchref03_Size.mono : ∀ a0 a1 k, LeO (lockstitchref03_Size.f k a0 a1) (lockstitchref03_Size.f (k + 1) a0 a1) := by
  intro a0 a1 k
  unfold lockstitchref03_Size.f
  repeat' first
      | (with_reducible exact lockstitchref03_is.mono _ _ _)
      | (with_reducible exact LeO.refl _)
      | (with_reducible exact LeO.none _)
      | (with_reducible refine LeO.ite ?_ ?_)
      | (with_reducible refine LeO.bind ?_ (fun _ => ?_))
      | exact lockstitchref03_is.mono _ _ _
      | exact LeO.none _
      | refine LeO.ite ?_ ?_
      | refine LeO.bind ?_ (fun _ => ?_)
set_option maxHeartbeats 8000000 in
set_option maxRecDepth 100000 in
theorem lockstitchref03_Size.calls (k : Nat) (A0 : Option Addr) (c0 : Nat) (l0 : List ByteArray) (a1 : Int) (r : Int) (w : World) (hr0 : Kd.C Kd.string w A0 l0.length l0) (hc0 : l0.length ≤ c0) (h : lockstitchref03_Size.f k l0 a1 = some r) :
    Calls Tryd.prog 41 #[.slice A0 l0.length c0, .int .i64 a1] w fun e w' => e = .returned (.int .i64 r) ∧ Drawn0 w w' := by
  have HR0 := Aside0.mk hr0; have HC0 := Aside0.mk hc0; clear hr0 hc0; have H : ((lockstitchref03_is.f k l0 a1).bind fun t106 => (if t106 = true then (if 0 ≤ a1 then (if a1 < (l0.length : Int) then (some ((rdOf ByteArray.empty l0 a1).size : Int)) else (none)) else (none)) else (some 0))) = some r := h; clear h; replace H := Option.bind_eq_some_iff.mp H; obtain ⟨t106, A30, H⟩ := H; replace H : (if t106 = true then (if 0 ≤ a1 then (if a1 < (l0.length : Int) then (some ((rdOf ByteArray.empty l0 a1).size : Int)) else (none)) else (none)) else (some 0)) = some r := H; have A3 := Aside0.mk A30; clear A30; by_cases c4 : t106 = true
  rotate_left
  · replace c4 := Bool.eq_false_iff.mpr c4; subst c4
    have H1 : (some 0) = some r := by rw [if_neg (show ¬ (false = true) by decide)] at H; exact H
    clear H; have H := H1; clear H1; obtain rfl := Option.some.inj H
    go_enter Tryd.func41, Tryd.ntmps41
    go_wp2_with (first | ((with_reducible refine gate_callee (f := 59) rfl ?_); refine goesL_ (some 7) rfl rfl Tryd.func59 (by kernel_rfl) rfl #[.slice A0 l0.length c0, .int .i64 a1] rfl hB1 ?_; (with_reducible refine (lockstitchref03_is.calls k _ _ l0 a1 false _ ?side1 ?side2 A3.out).mono ?_); (case side1 => repeat (first | exact HR0.out | (with_reducible refine Kd.C_alloc ?_ _) | (with_reducible refine Kd.C_drewN ?_ _) | (with_reducible refine Kd.C_drew ?_))); (case side2 => exact HC0.out); rintro e w' ⟨rfl, ⟨nd, rfl⟩⟩; refine ⟨_, rfl, ?_⟩))
    go_ret; exact ⟨by first | rfl | (simp; done) | (simp [*]; done), by repeat (first | exact Drawn0.refl _ | apply Drawn0.step)⟩
  subst c4
  have H1 : (if 0 ≤ a1 then (if a1 < (l0.length : Int) then (some ((rdOf ByteArray.empty l0 a1).size : Int)) else (none)) else (none)) = some r := by rw [if_pos rfl] at H; exact H
  clear H; have H := H1; clear H1; by_cases c5 : 0 ≤ a1
  rotate_left
  · rw [if_neg c5] at H; exact absurd H (by simp)
  rw [if_pos c5] at H; have c5b0 : decide (0 ≤ a1) = true := decide_eq_true c5; clear c5; by_cases c6 : a1 < (l0.length : Int)
  rotate_left
  · rw [if_neg c6] at H; exact absurd H (by simp)
  rw [if_pos c6] at H; have c6b0 : decide (a1 < (l0.length : Int)) = true := decide_eq_true c6; clear c6; obtain rfl := Option.some.inj H
  go_enter Tryd.func41, Tryd.ntmps41
  go_wp2_with (first | ((with_reducible refine gate_callee (f := 59) rfl ?_); refine goesL_ (some 7) rfl rfl Tryd.func59 (by kernel_rfl) rfl #[.slice A0 l0.length c0, .int .i64 a1] rfl hB1 ?_; (with_reducible refine (lockstitchref03_is.calls k _ _ l0 a1 true _ ?side1 ?side2 A3.out).mono ?_); (case side1 => repeat (first | exact HR0.out | (with_reducible refine Kd.C_alloc ?_ _) | (with_reducible refine Kd.C_drewN ?_ _) | (with_reducible refine Kd.C_drew ?_))); (case side2 => exact HC0.out); rintro e w' ⟨rfl, ⟨nd, rfl⟩⟩; refine ⟨_, rfl, ?_⟩; have p107 : 0 ≤ (a1 : Int) := of_decide_eq_true hB63; have q107 : a1 < (l0.length : Int) := of_decide_eq_true hB63; obtain ⟨ad107, e107, hx107_0⟩ := Kd.at_string HR0.out a1 p107 q107; cases e107; replace p107 := eq_true p107; replace q107 := eq_true q107))
  go_ret; exact ⟨by first | rfl | (simp; done) | (simp [*]; done), by repeat (first | exact Drawn0.refl _ | apply Drawn0.step)⟩
def lockstitchref03_To.f (k : Nat) (l0 : List ByteArray) (a1 : Int) (a2 : Int) : Option (Int) := (lockstitchref03_is.f k l0 a1).bind fun t108 => (if t108 = true then (if a2 < 0 then (some (-1)) else (if 0 ≤ a1 then (if a1 < (l0.length : Int) then (if a2 ≥ ((rdOf ByteArray.empty l0 a1).size : Int) then (some (-1)) else (if 0 ≤ a2 then (if a2 < ((rdOf ByteArray.empty l0 a1).size : Int) then ((lockstitchref03_digit.f (bt (rdOf ByteArray.empty l0 a1) a2) (l0.length : Int)).bind fun t111 => (some t111)) else (none)) else (none))) else (none)) else (none))) else (some (-1)))
theorem lockstitchref03_To.mono : ∀ a0 a1 a2 k, LeO (lockstitchref03_To.f k a0 a1 a2) (lockstitchref03_To.f (k + 1) a0 a1 a2) := by
  intro a0 a1 a2 k
  unfold lockstitchref03_To.f
  repeat' first
      | (with_reducible exact lockstitchref03_is.mono _ _ _)
      | (with_reducible exact LeO.refl _)
      | (with_reducible exact LeO.none _)
      | (with_reducible refine LeO.ite ?_ ?_)
      | (with_reducible refine LeO.bind ?_ (fun _ => ?_))
      | exact lockstitchref03_is.mono _ _ _
      | exact LeO.none _
      | refine LeO.ite ?_ ?_
      | refine LeO.bind ?_ (fun _ => ?_)
set_option maxHeartbeats 8000000 in
set_option maxRecDepth 100000 in
theorem lockstitchref03_To.calls (k : Nat) (A0 : Option Addr) (c0 : Nat) (l0 : List ByteArray) (a1 : Int) (a2 : Int) (r : Int) (w : World) (hr0 : Kd.C Kd.string w A0 l0.length l0) (hc0 : l0.length ≤ c0) (h : lockstitchref03_To.f k l0 a1 a2 = some r) :
    Calls Tryd.prog 82 #[.slice A0 l0.length c0, .int .i64 a1, .int .i64 a2] w fun e w' => e = .returned (.int .i64 r) ∧ Drawn0 w w' := by
  have HR0 := Aside0.mk hr0; have HC0 := Aside0.mk hc0; clear hr0 hc0; have H : ((lockstitchref03_is.f k l0 a1).bind fun t108 => (if t108 = true then (if a2 < 0 then (some (-1)) else (if 0 ≤ a1 then (if a1 < (l0.length : Int) then (if a2 ≥ ((rdOf ByteArray.empty l0 a1).size : Int) then (some (-1)) else (if 0 ≤ a2 then (if a2 < ((rdOf ByteArray.empty l0 a1).size : Int) then ((lockstitchref03_digit.f (bt (rdOf ByteArray.empty l0 a1) a2) (l0.length : Int)).bind fun t111 => (some t111)) else (none)) else (none))) else (none)) else (none))) else (some (-1)))) = some r := h; clear h; replace H := Option.bind_eq_some_iff.mp H; obtain ⟨t108, A40, H⟩ := H; replace H : (if t108 = true then (if a2 < 0 then (some (-1)) else (if 0 ≤ a1 then (if a1 < (l0.length : Int) then (if a2 ≥ ((rdOf ByteArray.empty l0 a1).size : Int) then (some (-1)) else (if 0 ≤ a2 then (if a2 < ((rdOf ByteArray.empty l0 a1).size : Int) then ((lockstitchref03_digit.f (bt (rdOf ByteArray.empty l0 a1) a2) (l0.length : Int)).bind fun t111 => (some t111)) else (none)) else (none))) else (none)) else (none))) else (some (-1))) = some r := H; have A4 := Aside0.mk A40; clear A40; by_cases c5 : t108 = true
  rotate_left
  · replace c5 := Bool.eq_false_iff.mpr c5; subst c5
    have H1 : (some (-1)) = some r := by rw [if_neg (show ¬ (false = true) by decide)] at H; exact H
    clear H; have H := H1; clear H1; obtain rfl := Option.some.inj H
    go_enter Tryd.func82, Tryd.ntmps82
    go_wp2_with (first | ((with_reducible refine gate_callee (f := 59) rfl ?_); refine goesL_ (some 9) rfl rfl Tryd.func59 (by kernel_rfl) rfl #[.slice A0 l0.length c0, .int .i64 a1] rfl hB1 ?_; (with_reducible refine (lockstitchref03_is.calls k _ _ l0 a1 false _ ?side1 ?side2 A4.out).mono ?_); (case side1 => repeat (first | exact HR0.out | (with_reducible refine Kd.C_alloc ?_ _) | (with_reducible refine Kd.C_drewN ?_ _) | (with_reducible refine Kd.C_drew ?_))); (case side2 => exact HC0.out); rintro e w' ⟨rfl, ⟨nd, rfl⟩⟩; refine ⟨_, rfl, ?_⟩))
    go_ret; exact ⟨by first | rfl | (simp; done) | (simp [*]; done), by repeat (first | exact Drawn0.refl _ | apply Drawn0.step)⟩
  subst c5
  have H1 : (if a2 < 0 then (some (-1)) else (if 0 ≤ a1 then (if a1 < (l0.length : Int) then (if a2 ≥ ((rdOf ByteArray.empty l0 a1).size : Int) then (some (-1)) else (if 0 ≤ a2 then (if a2 < ((rdOf ByteArray.empty l0 a1).size : Int) then ((lockstitchref03_digit.f (bt (rdOf ByteArray.empty l0 a1) a2) (l0.length : Int)).bind fun t111 => (some t111)) else (none)) else (none))) else (none)) else (none))) = some r := by rw [if_pos rfl] at H; exact H
  clear H; have H := H1; clear H1; by_cases c6 : a2 < 0
  · rw [if_pos c6] at H; have c6b0 : decide (a2 < 0) = true := decide_eq_true c6; clear c6; obtain rfl := Option.some.inj H
    go_enter Tryd.func82, Tryd.ntmps82
    go_wp2_with (first | ((with_reducible refine gate_callee (f := 59) rfl ?_); refine goesL_ (some 9) rfl rfl Tryd.func59 (by kernel_rfl) rfl #[.slice A0 l0.length c0, .int .i64 a1] rfl hB1 ?_; (with_reducible refine (lockstitchref03_is.calls k _ _ l0 a1 true _ ?side1 ?side2 A4.out).mono ?_); (case side1 => repeat (first | exact HR0.out | (with_reducible refine Kd.C_alloc ?_ _) | (with_reducible refine Kd.C_drewN ?_ _) | (with_reducible refine Kd.C_drew ?_))); (case side2 => exact HC0.out); rintro e w' ⟨rfl, ⟨nd, rfl⟩⟩; refine ⟨_, rfl, ?_⟩))
    go_ret; exact ⟨by first | rfl | (simp; done) | (simp [*]; done), by repeat (first | exact Drawn0.refl _ | apply Drawn0.step)⟩
  rw [if_neg c6] at H; have c6b0 : decide (a2 < 0) = false := decide_eq_false c6; clear c6; by_cases c7 : 0 ≤ a1
  rotate_left
  · rw [if_neg c7] at H; exact absurd H (by simp)
  rw [if_pos c7] at H; have c7b0 : decide (0 ≤ a1) = true := decide_eq_true c7; clear c7; by_cases c8 : a1 < (l0.length : Int)
  rotate_left
  · rw [if_neg c8] at H; exact absurd H (by simp)
  rw [if_pos c8] at H; have c8b0 : decide (a1 < (l0.length : Int)) = true := decide_eq_true c8; clear c8; by_cases c9 : a2 ≥ ((rdOf ByteArray.empty l0 a1).size : Int)
  · rw [if_pos c9] at H; have c9b0 : decide (((rdOf ByteArray.empty l0 a1).size : Int) ≤ a2) = true := decide_eq_true c9; clear c9; obtain rfl := Option.some.inj H
    go_enter Tryd.func82, Tryd.ntmps82
    go_wp2_with (first | ((with_reducible refine gate_callee (f := 59) rfl ?_); refine goesL_ (some 9) rfl rfl Tryd.func59 (by kernel_rfl) rfl #[.slice A0 l0.length c0, .int .i64 a1] rfl hB1 ?_; (with_reducible refine (lockstitchref03_is.calls k _ _ l0 a1 true _ ?side1 ?side2 A4.out).mono ?_); (case side1 => repeat (first | exact HR0.out | (with_reducible refine Kd.C_alloc ?_ _) | (with_reducible refine Kd.C_drewN ?_ _) | (with_reducible refine Kd.C_drew ?_))); (case side2 => exact HC0.out); rintro e w' ⟨rfl, ⟨nd, rfl⟩⟩; refine ⟨_, rfl, ?_⟩; have p109 : 0 ≤ (a1 : Int) := of_decide_eq_true hB63; have q109 : a1 < (l0.length : Int) := of_decide_eq_true hB63; obtain ⟨ad109, e109, hx109_0⟩ := Kd.at_string HR0.out a1 p109 q109; cases e109; replace p109 := eq_true p109; replace q109 := eq_true q109))
    go_ret; exact ⟨by first | rfl | (simp; done) | (simp [*]; done), by repeat (first | exact Drawn0.refl _ | apply Drawn0.step)⟩
  rw [if_neg c9] at H; have c9b0 : decide (((rdOf ByteArray.empty l0 a1).size : Int) ≤ a2) = false := decide_eq_false c9; clear c9; by_cases c10 : 0 ≤ a2
  rotate_left
  · rw [if_neg c10] at H; exact absurd H (by simp)
  rw [if_pos c10] at H; have c10b0 : decide (0 ≤ a2) = true := decide_eq_true c10; clear c10; by_cases c11 : a2 < ((rdOf ByteArray.empty l0 a1).size : Int)
  rotate_left
  · rw [if_neg c11] at H; exact absurd H (by simp)
  rw [if_pos c11] at H; have c11b0 : decide (a2 < ((rdOf ByteArray.empty l0 a1).size : Int)) = true := decide_eq_true c11; clear c11; replace H := Option.bind_eq_some_iff.mp H; obtain ⟨t111, A130, H⟩ := H; replace H : (some t111) = some r := H; have A13 := Aside0.mk A130; clear A130; obtain rfl := Option.some.inj H
  go_enter Tryd.func82, Tryd.ntmps82
  go_wp2_with (first | ((with_reducible refine gate_callee (f := 59) rfl ?_); refine goesL_ (some 9) rfl rfl Tryd.func59 (by kernel_rfl) rfl #[.slice A0 l0.length c0, .int .i64 a1] rfl hB1 ?_; (with_reducible refine (lockstitchref03_is.calls k _ _ l0 a1 true _ ?side1 ?side2 A4.out).mono ?_); (case side1 => repeat (first | exact HR0.out | (with_reducible refine Kd.C_alloc ?_ _) | (with_reducible refine Kd.C_drewN ?_ _) | (with_reducible refine Kd.C_drew ?_))); (case side2 => exact HC0.out); rintro e w' ⟨rfl, ⟨nd, rfl⟩⟩; refine ⟨_, rfl, ?_⟩; have p109 : 0 ≤ (a1 : Int) := of_decide_eq_true hB63; have q109 : a1 < (l0.length : Int) := of_decide_eq_true hB63; obtain ⟨ad109, e109, hx109_0⟩ := Kd.at_string HR0.out a1 p109 q109; cases e109; replace p109 := eq_true p109; replace q109 := eq_true q109; have p110 : 0 ≤ (a1 : Int) := of_decide_eq_true hB63; have q110 : a1 < (l0.length : Int) := of_decide_eq_true hB63; obtain ⟨ad110, e110, hx110_0⟩ := Kd.at_string HR0.out a1 p110 q110; obtain rfl : ad109 = ad110 := (by injection e110); replace p110 := eq_true p110; replace q110 := eq_true q110; have p12 : 0 ≤ (a2 : Int) := of_decide_eq_true hB63; have q12 : a2 < ((rdOf ByteArray.empty l0 a1).size : Int) := of_decide_eq_true hB63; have hx12 := bt_at (rdOf ByteArray.empty l0 a1) a2; replace p12 := eq_true p12; replace q12 := eq_true q12) | ((with_reducible refine gate_callee (f := 50) rfl ?_); refine goesL_ (some 32) rfl rfl Tryd.func50 (by kernel_rfl) rfl #[.int .u8 (bt (rdOf ByteArray.empty l0 a1) a2), .int .i64 (l0.length : Int)] rfl hB1 ?_; (with_reducible refine (lockstitchref03_digit.calls (bt (rdOf ByteArray.empty l0 a1) a2) (l0.length : Int) t111 _ A13.out).mono ?_); rintro e w' ⟨rfl, ⟨nd, rfl⟩⟩; refine ⟨_, rfl, ?_⟩))
  go_ret; exact ⟨by first | rfl | (simp; done) | (simp [*]; done), by repeat (first | exact Drawn0.refl _ | apply Drawn0.step)⟩
def lockstitchref04_rest.f (a0 : Int) : Option (ByteArray × ByteArray) := if a0 = 11 then (some ((⟨#[115, 116, 111, 114, 101, 112]⟩ : ByteArray), (⟨#[97, 110, 98]⟩ : ByteArray))) else (if a0 = 12 then (some ((⟨#[108, 111, 97, 100, 103]⟩ : ByteArray), (⟨#[97, 98]⟩ : ByteArray))) else (if a0 = 13 then (some ((⟨#[115, 116, 111, 114, 101, 103]⟩ : ByteArray), (⟨#[97, 98]⟩ : ByteArray))) else (if a0 = 14 then (some ((⟨#[112, 114, 105, 110, 116]⟩ : ByteArray), (⟨#[97]⟩ : ByteArray))) else (if a0 = 15 then (some ((⟨#[115, 97, 109, 101]⟩ : ByteArray), (⟨#[97, 98, 99]⟩ : ByteArray))) else (some ((⟨#[]⟩ : ByteArray), (⟨#[]⟩ : ByteArray)))))))
set_option maxHeartbeats 8000000 in
set_option maxRecDepth 100000 in
theorem lockstitchref04_rest.calls (a0 : Int) (r1 : ByteArray) (r2 : ByteArray) (w : World) (h : lockstitchref04_rest.f a0 = some (r1, r2)) :
    Calls Tryd.prog 77 #[.int .u8 a0] w fun e w' => e = .returned (.tuple #[.string r1, .string r2]) ∧ Drawn0 w w' := by
  have H : (if a0 = 11 then (some ((⟨#[115, 116, 111, 114, 101, 112]⟩ : ByteArray), (⟨#[97, 110, 98]⟩ : ByteArray))) else (if a0 = 12 then (some ((⟨#[108, 111, 97, 100, 103]⟩ : ByteArray), (⟨#[97, 98]⟩ : ByteArray))) else (if a0 = 13 then (some ((⟨#[115, 116, 111, 114, 101, 103]⟩ : ByteArray), (⟨#[97, 98]⟩ : ByteArray))) else (if a0 = 14 then (some ((⟨#[112, 114, 105, 110, 116]⟩ : ByteArray), (⟨#[97]⟩ : ByteArray))) else (if a0 = 15 then (some ((⟨#[115, 97, 109, 101]⟩ : ByteArray), (⟨#[97, 98, 99]⟩ : ByteArray))) else (some ((⟨#[]⟩ : ByteArray), (⟨#[]⟩ : ByteArray)))))))) = some (r1, r2) := h; clear h; by_cases c2 : a0 = 11
  · rw [if_pos c2] at H; have c2b0 : (a0 == 11) = true := beq_iff_eq.mpr c2; have c2b1 : (a0 != 11) = false := bne_eq_false_iff_eq.mpr c2; clear c2; simp only [Option.some.injEq, Prod.mk.injEq] at H; obtain ⟨rfl, rfl⟩ := H
    go_enter Tryd.func77, Tryd.ntmps77
    go_wp2
    go_ret2
    exact ⟨by first | rfl | (simp; done) | (simp [*]; done), by repeat (first | exact Drawn0.refl _ | apply Drawn0.step)⟩
  rw [if_neg c2] at H; have c2b0 : (a0 == 11) = false := beq_eq_false_iff_ne.mpr c2; have c2b1 : (a0 != 11) = true := bne_iff_ne.mpr c2; by_cases c3 : a0 = 12
  · rw [if_pos c3] at H; have c3b0 : (a0 == 12) = true := beq_iff_eq.mpr c3; have c3b1 : (a0 != 12) = false := bne_eq_false_iff_eq.mpr c3; clear c3; simp only [Option.some.injEq, Prod.mk.injEq] at H; obtain ⟨rfl, rfl⟩ := H
    go_enter Tryd.func77, Tryd.ntmps77
    go_wp2
    go_ret2
    exact ⟨by first | rfl | (simp; done) | (simp [*]; done), by repeat (first | exact Drawn0.refl _ | apply Drawn0.step)⟩
  rw [if_neg c3] at H; have c3b0 : (a0 == 12) = false := beq_eq_false_iff_ne.mpr c3; have c3b1 : (a0 != 12) = true := bne_iff_ne.mpr c3; by_cases c4 : a0 = 13
  · rw [if_pos c4] at H; have c4b0 : (a0 == 13) = true := beq_iff_eq.mpr c4; have c4b1 : (a0 != 13) = false := bne_eq_false_iff_eq.mpr c4; clear c4; simp only [Option.some.injEq, Prod.mk.injEq] at H; obtain ⟨rfl, rfl⟩ := H
    go_enter Tryd.func77, Tryd.ntmps77
    go_wp2
    go_ret2
    exact ⟨by first | rfl | (simp; done) | (simp [*]; done), by repeat (first | exact Drawn0.refl _ | apply Drawn0.step)⟩
  rw [if_neg c4] at H; have c4b0 : (a0 == 13) = false := beq_eq_false_iff_ne.mpr c4; have c4b1 : (a0 != 13) = true := bne_iff_ne.mpr c4; by_cases c5 : a0 = 14
  · rw [if_pos c5] at H; have c5b0 : (a0 == 14) = true := beq_iff_eq.mpr c5; have c5b1 : (a0 != 14) = false := bne_eq_false_iff_eq.mpr c5; clear c5; simp only [Option.some.injEq, Prod.mk.injEq] at H; obtain ⟨rfl, rfl⟩ := H
    go_enter Tryd.func77, Tryd.ntmps77
    go_wp2
    go_ret2
    exact ⟨by first | rfl | (simp; done) | (simp [*]; done), by repeat (first | exact Drawn0.refl _ | apply Drawn0.step)⟩
  rw [if_neg c5] at H; have c5b0 : (a0 == 14) = false := beq_eq_false_iff_ne.mpr c5; have c5b1 : (a0 != 14) = true := bne_iff_ne.mpr c5; by_cases c6 : a0 = 15
  rotate_left
  · rw [if_neg c6] at H; have c6b0 : (a0 == 15) = false := beq_eq_false_iff_ne.mpr c6; have c6b1 : (a0 != 15) = true := bne_iff_ne.mpr c6; simp only [Option.some.injEq, Prod.mk.injEq] at H; obtain ⟨rfl, rfl⟩ := H
    go_enter Tryd.func77, Tryd.ntmps77
    go_wp2
    go_ret2
    exact ⟨by first | rfl | (simp; done) | (simp [*]; done), by repeat (first | exact Drawn0.refl _ | apply Drawn0.step)⟩
  rw [if_pos c6] at H; have c6b0 : (a0 == 15) = true := beq_iff_eq.mpr c6; have c6b1 : (a0 != 15) = false := bne_eq_false_iff_eq.mpr c6; clear c6; simp only [Option.some.injEq, Prod.mk.injEq] at H; obtain ⟨rfl, rfl⟩ := H
  go_enter Tryd.func77, Tryd.ntmps77
  go_wp2
  go_ret2
  exact ⟨by first | rfl | (simp; done) | (simp [*]; done), by repeat (first | exact Drawn0.refl _ | apply Drawn0.step)⟩
def lockstitchref04_shape.f (a0 : Int) : Option (ByteArray × ByteArray) := if a0 = 1 then (some ((⟨#[115, 101, 116]⟩ : ByteArray), (⟨#[97, 110]⟩ : ByteArray))) else (if a0 = 2 then (some ((⟨#[97, 100, 100]⟩ : ByteArray), (⟨#[97, 98, 99]⟩ : ByteArray))) else (if a0 = 3 then (some ((⟨#[106, 117, 109, 112]⟩ : ByteArray), (⟨#[110]⟩ : ByteArray))) else (if a0 = 4 then (some ((⟨#[122, 101, 114, 111]⟩ : ByteArray), (⟨#[97, 110]⟩ : ByteArray))) else (if a0 = 5 then (some ((⟨#[110, 101, 119]⟩ : ByteArray), (⟨#[97]⟩ : ByteArray))) else (if a0 = 6 then (some ((⟨#[110, 105, 108]⟩ : ByteArray), (⟨#[97]⟩ : ByteArray))) else (if a0 = 7 then (some ((⟨#[109, 111, 118, 101]⟩ : ByteArray), (⟨#[97, 98]⟩ : ByteArray))) else (if a0 = 8 then (some ((⟨#[108, 111, 97, 100, 105]⟩ : ByteArray), (⟨#[97, 98, 110]⟩ : ByteArray))) else (if a0 = 9 then (some ((⟨#[115, 116, 111, 114, 101, 105]⟩ : ByteArray), (⟨#[97, 110, 98]⟩ : ByteArray))) else (if a0 = 10 then (some ((⟨#[108, 111, 97, 100, 112]⟩ : ByteArray), (⟨#[97, 98, 110]⟩ : ByteArray))) else ((lockstitchref04_rest.f a0).bind fun bt112 => (some (bt112.1, bt112.2))))))))))))
set_option maxHeartbeats 8000000 in
set_option maxRecDepth 100000 in
theorem lockstitchref04_shape.calls (a0 : Int) (r1 : ByteArray) (r2 : ByteArray) (w : World) (h : lockstitchref04_shape.f a0 = some (r1, r2)) :
    Calls Tryd.prog 52 #[.int .u8 a0] w fun e w' => e = .returned (.tuple #[.string r1, .string r2]) ∧ Drawn0 w w' := by
  have H : (if a0 = 1 then (some ((⟨#[115, 101, 116]⟩ : ByteArray), (⟨#[97, 110]⟩ : ByteArray))) else (if a0 = 2 then (some ((⟨#[97, 100, 100]⟩ : ByteArray), (⟨#[97, 98, 99]⟩ : ByteArray))) else (if a0 = 3 then (some ((⟨#[106, 117, 109, 112]⟩ : ByteArray), (⟨#[110]⟩ : ByteArray))) else (if a0 = 4 then (some ((⟨#[122, 101, 114, 111]⟩ : ByteArray), (⟨#[97, 110]⟩ : ByteArray))) else (if a0 = 5 then (some ((⟨#[110, 101, 119]⟩ : ByteArray), (⟨#[97]⟩ : ByteArray))) else (if a0 = 6 then (some ((⟨#[110, 105, 108]⟩ : ByteArray), (⟨#[97]⟩ : ByteArray))) else (if a0 = 7 then (some ((⟨#[109, 111, 118, 101]⟩ : ByteArray), (⟨#[97, 98]⟩ : ByteArray))) else (if a0 = 8 then (some ((⟨#[108, 111, 97, 100, 105]⟩ : ByteArray), (⟨#[97, 98, 110]⟩ : ByteArray))) else (if a0 = 9 then (some ((⟨#[115, 116, 111, 114, 101, 105]⟩ : ByteArray), (⟨#[97, 110, 98]⟩ : ByteArray))) else (if a0 = 10 then (some ((⟨#[108, 111, 97, 100, 112]⟩ : ByteArray), (⟨#[97, 98, 110]⟩ : ByteArray))) else ((lockstitchref04_rest.f a0).bind fun bt112 => (some (bt112.1, bt112.2))))))))))))) = some (r1, r2) := h; clear h; by_cases c2 : a0 = 1
  · rw [if_pos c2] at H; have c2b0 : (a0 == 1) = true := beq_iff_eq.mpr c2; have c2b1 : (a0 != 1) = false := bne_eq_false_iff_eq.mpr c2; clear c2; simp only [Option.some.injEq, Prod.mk.injEq] at H; obtain ⟨rfl, rfl⟩ := H
    go_enter Tryd.func52, Tryd.ntmps52
    go_wp2
    go_ret2
    exact ⟨by first | rfl | (simp; done) | (simp [*]; done), by repeat (first | exact Drawn0.refl _ | apply Drawn0.step)⟩
  rw [if_neg c2] at H; have c2b0 : (a0 == 1) = false := beq_eq_false_iff_ne.mpr c2; have c2b1 : (a0 != 1) = true := bne_iff_ne.mpr c2; by_cases c3 : a0 = 2
  · rw [if_pos c3] at H; have c3b0 : (a0 == 2) = true := beq_iff_eq.mpr c3; have c3b1 : (a0 != 2) = false := bne_eq_false_iff_eq.mpr c3; clear c3; simp only [Option.some.injEq, Prod.mk.injEq] at H; obtain ⟨rfl, rfl⟩ := H
    go_enter Tryd.func52, Tryd.ntmps52
    go_wp2
    go_ret2
    exact ⟨by first | rfl | (simp; done) | (simp [*]; done), by repeat (first | exact Drawn0.refl _ | apply Drawn0.step)⟩
  rw [if_neg c3] at H; have c3b0 : (a0 == 2) = false := beq_eq_false_iff_ne.mpr c3; have c3b1 : (a0 != 2) = true := bne_iff_ne.mpr c3; by_cases c4 : a0 = 3
  · rw [if_pos c4] at H; have c4b0 : (a0 == 3) = true := beq_iff_eq.mpr c4; have c4b1 : (a0 != 3) = false := bne_eq_false_iff_eq.mpr c4; clear c4; simp only [Option.some.injEq, Prod.mk.injEq] at H; obtain ⟨rfl, rfl⟩ := H
    go_enter Tryd.func52, Tryd.ntmps52
    go_wp2
    go_ret2
    exact ⟨by first | rfl | (simp; done) | (simp [*]; done), by repeat (first | exact Drawn0.refl _ | apply Drawn0.step)⟩
  rw [if_neg c4] at H; have c4b0 : (a0 == 3) = false := beq_eq_false_iff_ne.mpr c4; have c4b1 : (a0 != 3) = true := bne_iff_ne.mpr c4; by_cases c5 : a0 = 4
  · rw [if_pos c5] at H; have c5b0 : (a0 == 4) = true := beq_iff_eq.mpr c5; have c5b1 : (a0 != 4) = false := bne_eq_false_iff_eq.mpr c5; clear c5; simp only [Option.some.injEq, Prod.mk.injEq] at H; obtain ⟨rfl, rfl⟩ := H
    go_enter Tryd.func52, Tryd.ntmps52
    go_wp2
    go_ret2
    exact ⟨by first | rfl | (simp; done) | (simp [*]; done), by repeat (first | exact Drawn0.refl _ | apply Drawn0.step)⟩
  rw [if_neg c5] at H; have c5b0 : (a0 == 4) = false := beq_eq_false_iff_ne.mpr c5; have c5b1 : (a0 != 4) = true := bne_iff_ne.mpr c5; by_cases c6 : a0 = 5
  · rw [if_pos c6] at H; have c6b0 : (a0 == 5) = true := beq_iff_eq.mpr c6; have c6b1 : (a0 != 5) = false := bne_eq_false_iff_eq.mpr c6; clear c6; simp only [Option.some.injEq, Prod.mk.injEq] at H; obtain ⟨rfl, rfl⟩ := H
    go_enter Tryd.func52, Tryd.ntmps52
    go_wp2
    go_ret2
    exact ⟨by first | rfl | (simp; done) | (simp [*]; done), by repeat (first | exact Drawn0.refl _ | apply Drawn0.step)⟩
  rw [if_neg c6] at H; have c6b0 : (a0 == 5) = false := beq_eq_false_iff_ne.mpr c6; have c6b1 : (a0 != 5) = true := bne_iff_ne.mpr c6; by_cases c7 : a0 = 6
  · rw [if_pos c7] at H; have c7b0 : (a0 == 6) = true := beq_iff_eq.mpr c7; have c7b1 : (a0 != 6) = false := bne_eq_false_iff_eq.mpr c7; clear c7; simp only [Option.some.injEq, Prod.mk.injEq] at H; obtain ⟨rfl, rfl⟩ := H
    go_enter Tryd.func52, Tryd.ntmps52
    go_wp2
    go_ret2
    exact ⟨by first | rfl | (simp; done) | (simp [*]; done), by repeat (first | exact Drawn0.refl _ | apply Drawn0.step)⟩
  rw [if_neg c7] at H; have c7b0 : (a0 == 6) = false := beq_eq_false_iff_ne.mpr c7; have c7b1 : (a0 != 6) = true := bne_iff_ne.mpr c7; by_cases c8 : a0 = 7
  · rw [if_pos c8] at H; have c8b0 : (a0 == 7) = true := beq_iff_eq.mpr c8; have c8b1 : (a0 != 7) = false := bne_eq_false_iff_eq.mpr c8; clear c8; simp only [Option.some.injEq, Prod.mk.injEq] at H; obtain ⟨rfl, rfl⟩ := H
    go_enter Tryd.func52, Tryd.ntmps52
    go_wp2
    go_ret2
    exact ⟨by first | rfl | (simp; done) | (simp [*]; done), by repeat (first | exact Drawn0.refl _ | apply Drawn0.step)⟩
  rw [if_neg c8] at H; have c8b0 : (a0 == 7) = false := beq_eq_false_iff_ne.mpr c8; have c8b1 : (a0 != 7) = true := bne_iff_ne.mpr c8; by_cases c9 : a0 = 8
  · rw [if_pos c9] at H; have c9b0 : (a0 == 8) = true := beq_iff_eq.mpr c9; have c9b1 : (a0 != 8) = false := bne_eq_false_iff_eq.mpr c9; clear c9; simp only [Option.some.injEq, Prod.mk.injEq] at H; obtain ⟨rfl, rfl⟩ := H
    go_enter Tryd.func52, Tryd.ntmps52
    go_wp2
    go_ret2
    exact ⟨by first | rfl | (simp; done) | (simp [*]; done), by repeat (first | exact Drawn0.refl _ | apply Drawn0.step)⟩
  rw [if_neg c9] at H; have c9b0 : (a0 == 8) = false := beq_eq_false_iff_ne.mpr c9; have c9b1 : (a0 != 8) = true := bne_iff_ne.mpr c9; by_cases c10 : a0 = 9
  · rw [if_pos c10] at H; have c10b0 : (a0 == 9) = true := beq_iff_eq.mpr c10; have c10b1 : (a0 != 9) = false := bne_eq_false_iff_eq.mpr c10; clear c10; simp only [Option.some.injEq, Prod.mk.injEq] at H; obtain ⟨rfl, rfl⟩ := H
    go_enter Tryd.func52, Tryd.ntmps52
    go_wp2
    go_ret2
    exact ⟨by first | rfl | (simp; done) | (simp [*]; done), by repeat (first | exact Drawn0.refl _ | apply Drawn0.step)⟩
  rw [if_neg c10] at H; have c10b0 : (a0 == 9) = false := beq_eq_false_iff_ne.mpr c10; have c10b1 : (a0 != 9) = true := bne_iff_ne.mpr c10; by_cases c11 : a0 = 10
  · rw [if_pos c11] at H; have c11b0 : (a0 == 10) = true := beq_iff_eq.mpr c11; have c11b1 : (a0 != 10) = false := bne_eq_false_iff_eq.mpr c11; clear c11; simp only [Option.some.injEq, Prod.mk.injEq] at H; obtain ⟨rfl, rfl⟩ := H
    go_enter Tryd.func52, Tryd.ntmps52
    go_wp2
    go_ret2
    exact ⟨by first | rfl | (simp; done) | (simp [*]; done), by repeat (first | exact Drawn0.refl _ | apply Drawn0.step)⟩
  rw [if_neg c11] at H; have c11b0 : (a0 == 10) = false := beq_eq_false_iff_ne.mpr c11; have c11b1 : (a0 != 10) = true := bne_iff_ne.mpr c11; replace H := Option.bind_eq_some_iff.mp H; obtain ⟨⟨t112, t113⟩, A120, H⟩ := H; replace H : (some (t112, t113)) = some (r1, r2) := H; have A12 := Aside0.mk A120; clear A120; simp only [Option.some.injEq, Prod.mk.injEq] at H; obtain ⟨rfl, rfl⟩ := H
  go_enter Tryd.func52, Tryd.ntmps52
  go_wp2_with (first | ((with_reducible refine gate_callee (f := 77) rfl ?_); refine goesL_ (some 26) rfl rfl Tryd.func77 (by kernel_rfl) rfl #[.int .u8 a0] rfl hB1 ?_; (with_reducible refine (lockstitchref04_rest.calls a0 t112 t113 _ A12.out).mono ?_); rintro e w' ⟨rfl, ⟨nd, rfl⟩⟩; refine ⟨_, rfl, ?_⟩))
  go_ret2
  exact ⟨by first | rfl | (simp; done) | (simp [*]; done), by repeat (first | exact Drawn0.refl _ | apply Drawn0.step)⟩
end Go.Proofs.YtkplgfhkebkaaaaDoor.F

namespace Go.Proofs.YtkplgfhkebkaaaaDoor.F
open Go.RowKit Go.Proofs.YtkplgfhkebkaaaaDoorW.PrintWords Go.Proofs.YtkplgfhkebkaaaaDoorW.PrintLast Go.Proofs.YtkplgfhkebkaaaaDoorW.PrintMore
attribute [local go_sem] max2_int min2_int max_two min_two max_three min_three max_four min_four
set_option linter.unusedVariables false
set_option linter.unusedSimpArgs false
def lockstitchref04_part.f (a0_0 : Int) (a0_1 : Int) (a0_2 : Int) (a0_3 : Int) (a0_4 : Int) (a1 : Int) : Option (Int) := if a1 = 97 then (some (wrap64 (a0_1))) else (if a1 = 98 then (some (wrap64 (a0_2))) else (if a1 = 99 then (some (wrap64 (a0_3))) else (some a0_4)))
set_option maxHeartbeats 8000000 in
set_option maxRecDepth 100000 in
theorem lockstitchref04_part.calls (a0_0 : Int) (a0_1 : Int) (a0_2 : Int) (a0_3 : Int) (a0_4 : Int) (a1 : Int) (r : Int) (w : World) (h : lockstitchref04_part.f a0_0 a0_1 a0_2 a0_3 a0_4 a1 = some r) :
    Calls Tryd.prog 81 #[.agg #[.int .u8 a0_0, .int .u8 a0_1, .int .u8 a0_2, .int .u8 a0_3, .int .i64 a0_4], .int .u8 a1] w fun e w' => e = .returned (.int .i64 r) ∧ Below w.heap.size w w' := by
  have hu47 := Tryd.underlying47; have HB := Aside0.mk (Below.refl w.heap.size w); have H : (if a1 = 97 then (some (wrap64 (a0_1))) else (if a1 = 98 then (some (wrap64 (a0_2))) else (if a1 = 99 then (some (wrap64 (a0_3))) else (some a0_4)))) = some r := h; clear h; by_cases c3 : a1 = 97
  · rw [if_pos c3] at H; have c3b0 : (a1 == 97) = true := beq_iff_eq.mpr c3; have c3b1 : (a1 != 97) = false := bne_eq_false_iff_eq.mpr c3; clear c3; obtain rfl := Option.some.inj H
    go_enter Tryd.func81, Tryd.ntmps81
    go_wp2_with (first | ((with_reducible refine gate_dst (N := 2) rfl ?_); refine box_event ?hg (N := 2) ?hd (cs := #[.int .u8 a0_0, .int .u8 a0_1, .int .u8 a0_2, .int .u8 a0_3, .int .i64 a0_4]) (t := 47) ?hr ?_; (case hd => rfl); (case hg => rfl); (case hr => first | (go_simp; done) | (go_simp; rfl)); intro gb114 hg w4 hbox hb; have n0_ := Aside0.mk (below_step hB97 hb); have n1_ := Aside0.mk (hbox); have n2_ := Aside0.mk ((by rw [hg]; exact (below_size hB97) : w.heap.size ≤ gb114)); have n3_ := Aside0.mk ((by rw [hg]; exact (below_size hB97) : w.heap.size ≤ gb114)); clear HB; have HB := n0_; have BK114 := n1_; have GW114 := n2_; have GE114 := n3_; clear n0_ n1_ n2_ n3_; clear hb hbox hg; have hcz5_0 : w4.cell? ⟨gb114, 0, none⟩ = some (.int .u8 a0_0) := (blk_cell BK114.out 0).trans rfl; have hcz5_1 : w4.cell? ⟨gb114, 1, none⟩ = some (.int .u8 a0_1) := (blk_cell BK114.out 1).trans rfl; have hcz5_2 : w4.cell? ⟨gb114, 2, none⟩ = some (.int .u8 a0_2) := (blk_cell BK114.out 2).trans rfl; have hcz5_3 : w4.cell? ⟨gb114, 3, none⟩ = some (.int .u8 a0_3) := (blk_cell BK114.out 3).trans rfl; have hcz5_4 : w4.cell? ⟨gb114, 4, none⟩ = some (.int .i64 a0_4) := (blk_cell BK114.out 4).trans rfl; have hfz5_0 := blk_frozen BK114.out 0; have hfz5_1 := blk_frozen BK114.out 1; have hfz5_2 := blk_frozen BK114.out 2; have hfz5_3 := blk_frozen BK114.out 3; have hfz5_4 := blk_frozen BK114.out 4))
    go_ret; exact ⟨by first | rfl | (simp [errW_none, errW_some] <;> rfl) | (simp [*, errW_none, errW_some] <;> rfl), hB77⟩
  rw [if_neg c3] at H; have c3b0 : (a1 == 97) = false := beq_eq_false_iff_ne.mpr c3; have c3b1 : (a1 != 97) = true := bne_iff_ne.mpr c3; by_cases c6 : a1 = 98
  · rw [if_pos c6] at H; have c6b0 : (a1 == 98) = true := beq_iff_eq.mpr c6; have c6b1 : (a1 != 98) = false := bne_eq_false_iff_eq.mpr c6; clear c6; obtain rfl := Option.some.inj H
    go_enter Tryd.func81, Tryd.ntmps81
    go_wp2_with (first | ((with_reducible refine gate_dst (N := 2) rfl ?_); refine box_event ?hg (N := 2) ?hd (cs := #[.int .u8 a0_0, .int .u8 a0_1, .int .u8 a0_2, .int .u8 a0_3, .int .i64 a0_4]) (t := 47) ?hr ?_; (case hd => rfl); (case hg => rfl); (case hr => first | (go_simp; done) | (go_simp; rfl)); intro gb114 hg w7 hbox hb; have n0_ := Aside0.mk (below_step hB97 hb); have n1_ := Aside0.mk (hbox); have n2_ := Aside0.mk ((by rw [hg]; exact (below_size hB97) : w.heap.size ≤ gb114)); have n3_ := Aside0.mk ((by rw [hg]; exact (below_size hB97) : w.heap.size ≤ gb114)); clear HB; have HB := n0_; have BK114 := n1_; have GW114 := n2_; have GE114 := n3_; clear n0_ n1_ n2_ n3_; clear hb hbox hg; have hcz8_0 : w7.cell? ⟨gb114, 0, none⟩ = some (.int .u8 a0_0) := (blk_cell BK114.out 0).trans rfl; have hcz8_1 : w7.cell? ⟨gb114, 1, none⟩ = some (.int .u8 a0_1) := (blk_cell BK114.out 1).trans rfl; have hcz8_2 : w7.cell? ⟨gb114, 2, none⟩ = some (.int .u8 a0_2) := (blk_cell BK114.out 2).trans rfl; have hcz8_3 : w7.cell? ⟨gb114, 3, none⟩ = some (.int .u8 a0_3) := (blk_cell BK114.out 3).trans rfl; have hcz8_4 : w7.cell? ⟨gb114, 4, none⟩ = some (.int .i64 a0_4) := (blk_cell BK114.out 4).trans rfl; have hfz8_0 := blk_frozen BK114.out 0; have hfz8_1 := blk_frozen BK114.out 1; have hfz8_2 := blk_frozen BK114.out 2; have hfz8_3 := blk_frozen BK114.out 3; have hfz8_4 := blk_frozen BK114.out 4))
    go_ret; exact ⟨by first | rfl | (simp [errW_none, errW_some] <;> rfl) | (simp [*, errW_none, errW_some] <;> rfl), hB77⟩
  rw [if_neg c6] at H; have c6b0 : (a1 == 98) = false := beq_eq_false_iff_ne.mpr c6; have c6b1 : (a1 != 98) = true := bne_iff_ne.mpr c6; by_cases c9 : a1 = 99
  rotate_left
  · rw [if_neg c9] at H; have c9b0 : (a1 == 99) = false := beq_eq_false_iff_ne.mpr c9; have c9b1 : (a1 != 99) = true := bne_iff_ne.mpr c9; obtain rfl := Option.some.inj H
    go_enter Tryd.func81, Tryd.ntmps81
    go_wp2_with (first | ((with_reducible refine gate_dst (N := 2) rfl ?_); refine box_event ?hg (N := 2) ?hd (cs := #[.int .u8 a0_0, .int .u8 a0_1, .int .u8 a0_2, .int .u8 a0_3, .int .i64 a0_4]) (t := 47) ?hr ?_; (case hd => rfl); (case hg => rfl); (case hr => first | (go_simp; done) | (go_simp; rfl)); intro gb114 hg w12 hbox hb; have n0_ := Aside0.mk (below_step hB97 hb); have n1_ := Aside0.mk (hbox); have n2_ := Aside0.mk ((by rw [hg]; exact (below_size hB97) : w.heap.size ≤ gb114)); have n3_ := Aside0.mk ((by rw [hg]; exact (below_size hB97) : w.heap.size ≤ gb114)); clear HB; have HB := n0_; have BK114 := n1_; have GW114 := n2_; have GE114 := n3_; clear n0_ n1_ n2_ n3_; clear hb hbox hg; have hcz13_0 : w12.cell? ⟨gb114, 0, none⟩ = some (.int .u8 a0_0) := (blk_cell BK114.out 0).trans rfl; have hcz13_1 : w12.cell? ⟨gb114, 1, none⟩ = some (.int .u8 a0_1) := (blk_cell BK114.out 1).trans rfl; have hcz13_2 : w12.cell? ⟨gb114, 2, none⟩ = some (.int .u8 a0_2) := (blk_cell BK114.out 2).trans rfl; have hcz13_3 : w12.cell? ⟨gb114, 3, none⟩ = some (.int .u8 a0_3) := (blk_cell BK114.out 3).trans rfl; have hcz13_4 : w12.cell? ⟨gb114, 4, none⟩ = some (.int .i64 a0_4) := (blk_cell BK114.out 4).trans rfl; have hfz13_0 := blk_frozen BK114.out 0; have hfz13_1 := blk_frozen BK114.out 1; have hfz13_2 := blk_frozen BK114.out 2; have hfz13_3 := blk_frozen BK114.out 3; have hfz13_4 := blk_frozen BK114.out 4))
    go_ret; exact ⟨by first | rfl | (simp [errW_none, errW_some] <;> rfl) | (simp [*, errW_none, errW_some] <;> rfl), hB77⟩
  rw [if_pos c9] at H; have c9b0 : (a1 == 99) = true := beq_iff_eq.mpr c9; have c9b1 : (a1 != 99) = false := bne_eq_false_iff_eq.mpr c9; clear c9; obtain rfl := Option.some.inj H
  go_enter Tryd.func81, Tryd.ntmps81
  go_wp2_with (first | ((with_reducible refine gate_dst (N := 2) rfl ?_); refine box_event ?hg (N := 2) ?hd (cs := #[.int .u8 a0_0, .int .u8 a0_1, .int .u8 a0_2, .int .u8 a0_3, .int .i64 a0_4]) (t := 47) ?hr ?_; (case hd => rfl); (case hg => rfl); (case hr => first | (go_simp; done) | (go_simp; rfl)); intro gb114 hg w10 hbox hb; have n0_ := Aside0.mk (below_step hB97 hb); have n1_ := Aside0.mk (hbox); have n2_ := Aside0.mk ((by rw [hg]; exact (below_size hB97) : w.heap.size ≤ gb114)); have n3_ := Aside0.mk ((by rw [hg]; exact (below_size hB97) : w.heap.size ≤ gb114)); clear HB; have HB := n0_; have BK114 := n1_; have GW114 := n2_; have GE114 := n3_; clear n0_ n1_ n2_ n3_; clear hb hbox hg; have hcz11_0 : w10.cell? ⟨gb114, 0, none⟩ = some (.int .u8 a0_0) := (blk_cell BK114.out 0).trans rfl; have hcz11_1 : w10.cell? ⟨gb114, 1, none⟩ = some (.int .u8 a0_1) := (blk_cell BK114.out 1).trans rfl; have hcz11_2 : w10.cell? ⟨gb114, 2, none⟩ = some (.int .u8 a0_2) := (blk_cell BK114.out 2).trans rfl; have hcz11_3 : w10.cell? ⟨gb114, 3, none⟩ = some (.int .u8 a0_3) := (blk_cell BK114.out 3).trans rfl; have hcz11_4 : w10.cell? ⟨gb114, 4, none⟩ = some (.int .i64 a0_4) := (blk_cell BK114.out 4).trans rfl; have hfz11_0 := blk_frozen BK114.out 0; have hfz11_1 := blk_frozen BK114.out 1; have hfz11_2 := blk_frozen BK114.out 2; have hfz11_3 := blk_frozen BK114.out 3; have hfz11_4 := blk_frozen BK114.out 4))
  go_ret; exact ⟨by first | rfl | (simp [errW_none, errW_some] <;> rfl) | (simp [*, errW_none, errW_some] <;> rfl), hB77⟩
mutual
def lockstitchref02_digits.j0 : Nat → ByteArray → ByteArray → Bool → Option (Bool)
  | 0, _, _, _ => none
  | k + 1, x0, x3, x13 => if x13 = true then (if 1 ≤ (x0.size : Int) then (lockstitchref02_digits.j1 k x0 (x0.extract 1 x0.size)) else (none)) else (lockstitchref02_digits.j1 k x0 x3)
def lockstitchref02_digits.j1 : Nat → ByteArray → ByteArray → Option (Bool)
  | 0, _, _ => none
  | k + 1, x0, x3 => if x3.toList = ([] : List UInt8) then (lockstitchref02_digits.j2 k x3 true) else (if 0 < (x3.size : Int) then (if (bt x3 0) = 48 then (if (x3.size : Int) > 1 then (lockstitchref02_digits.j2 k x3 true) else (lockstitchref02_digits.j2 k x3 (decide ((x0.size : Int) > 1)))) else (lockstitchref02_digits.j2 k x3 false)) else (none))
def lockstitchref02_digits.j2 : Nat → ByteArray → Bool → Option (Bool)
  | 0, _, _ => none
  | k + 1, x3, x32 => if x32 = true then (some false) else (lockstitchref02_digits.l0 k x3 0)
def lockstitchref02_digits.l0 : Nat → ByteArray → Int → Option (Bool)
  | 0, _, _ => none
  | k + 1, x3, x4 => if x4 < (x3.size : Int) then (if 0 ≤ x4 then (if (bt x3 x4) < 48 then (some false) else (if (bt x3 x4) > 57 then (some false) else (lockstitchref02_digits.l0 k x3 (wrap64 (x4 + 1))))) else (none)) else (some true)
end
def lockstitchref02_digits.f (k : Nat) (a0 : ByteArray) : Option (Bool) := if (a0.size : Int) > 0 then (if 0 < (a0.size : Int) then (lockstitchref02_digits.j0 k a0 a0 ((bt a0 0) == 45)) else (none)) else (lockstitchref02_digits.j0 k a0 a0 false)
theorem lockstitchref02_digits.mono_l : ∀ k, (∀ y0 y1 y2, LeO (lockstitchref02_digits.j0 k y0 y1 y2) (lockstitchref02_digits.j0 (k + 1) y0 y1 y2)) ∧ (∀ y0 y1, LeO (lockstitchref02_digits.j1 k y0 y1) (lockstitchref02_digits.j1 (k + 1) y0 y1)) ∧ (∀ y0 y1, LeO (lockstitchref02_digits.j2 k y0 y1) (lockstitchref02_digits.j2 (k + 1) y0 y1)) ∧ (∀ y0 y1, LeO (lockstitchref02_digits.l0 k y0 y1) (lockstitchref02_digits.l0 (k + 1) y0 y1))
  | 0 => ⟨fun _ _ _ r h => by simp [lockstitchref02_digits.j0] at h, fun _ _ r h => by simp [lockstitchref02_digits.j1] at h, fun _ _ r h => by simp [lockstitchref02_digits.j2] at h, fun _ _ r h => by simp [lockstitchref02_digits.l0] at h⟩
  | k + 1 => by
    obtain ⟨ih0, ih1, ih2, ih3⟩ := lockstitchref02_digits.mono_l k; refine ⟨?_, ?_, ?_, ?_⟩
    · intro y0 y1 y2
      unfold lockstitchref02_digits.j0
      repeat' first
      | (with_reducible exact ih0 _ _ _)
      | (with_reducible exact ih1 _ _)
      | (with_reducible exact ih2 _ _)
      | (with_reducible exact ih3 _ _)
      | (with_reducible exact LeO.refl _)
      | (with_reducible exact LeO.none _)
      | (with_reducible refine LeO.ite ?_ ?_)
      | (with_reducible refine LeO.bind ?_ (fun _ => ?_))
      | exact ih0 _ _ _
      | exact ih1 _ _
      | exact ih2 _ _
      | exact ih3 _ _
      | exact LeO.none _
      | refine LeO.ite ?_ ?_
      | refine LeO.bind ?_ (fun _ => ?_)
    · intro y0 y1
      unfold lockstitchref02_digits.j1
      repeat' first
      | (with_reducible exact ih0 _ _ _)
      | (with_reducible exact ih1 _ _)
      | (with_reducible exact ih2 _ _)
      | (with_reducible exact ih3 _ _)
      | (with_reducible exact LeO.refl _)
      | (with_reducible exact LeO.none _)
      | (with_reducible refine LeO.ite ?_ ?_)
      | (with_reducible refine LeO.bind ?_ (fun _ => ?_))
      | exact ih0 _ _ _
      | exact ih1 _ _
      | exact ih2 _ _
      | exact ih3 _ _
      | exact LeO.none _
      | refine LeO.ite ?_ ?_
      | refine LeO.bind ?_ (fun _ => ?_)
    · intro y0 y1
      unfold lockstitchref02_digits.j2
      repeat' first
      | (with_reducible exact ih0 _ _ _)
      | (with_reducible exact ih1 _ _)
      | (with_reducible exact ih2 _ _)
      | (with_reducible exact ih3 _ _)
      | (with_reducible exact LeO.refl _)
      | (with_reducible exact LeO.none _)
      | (with_reducible refine LeO.ite ?_ ?_)
      | (with_reducible refine LeO.bind ?_ (fun _ => ?_))
      | exact ih0 _ _ _
      | exact ih1 _ _
      | exact ih2 _ _
      | exact ih3 _ _
      | exact LeO.none _
      | refine LeO.ite ?_ ?_
      | refine LeO.bind ?_ (fun _ => ?_)
    · intro y0 y1
      unfold lockstitchref02_digits.l0
      repeat' first
      | (with_reducible exact ih0 _ _ _)
      | (with_reducible exact ih1 _ _)
      | (with_reducible exact ih2 _ _)
      | (with_reducible exact ih3 _ _)
      | (with_reducible exact LeO.refl _)
      | (with_reducible exact LeO.none _)
      | (with_reducible refine LeO.ite ?_ ?_)
      | (with_reducible refine LeO.bind ?_ (fun _ => ?_))
      | exact ih0 _ _ _
      | exact ih1 _ _
      | exact ih2 _ _
      | exact ih3 _ _
      | exact LeO.none _
      | refine LeO.ite ?_ ?_
      | refine LeO.bind ?_ (fun _ => ?_)
theorem lockstitchref02_digits.mono : ∀ a0 k, LeO (lockstitchref02_digits.f k a0) (lockstitchref02_digits.f (k + 1) a0) := by
  intro a0 k; obtain ⟨ih0, ih1, ih2, ih3⟩ := lockstitchref02_digits.mono_l k
  unfold lockstitchref02_digits.f
  repeat' first
      | (with_reducible exact ih0 _ _ _)
      | (with_reducible exact ih1 _ _)
      | (with_reducible exact ih2 _ _)
      | (with_reducible exact ih3 _ _)
      | (with_reducible exact LeO.refl _)
      | (with_reducible exact LeO.none _)
      | (with_reducible refine LeO.ite ?_ ?_)
      | (with_reducible refine LeO.bind ?_ (fun _ => ?_))
      | exact ih0 _ _ _
      | exact ih1 _ _
      | exact ih2 _ _
      | exact ih3 _ _
      | exact LeO.none _
      | refine LeO.ite ?_ ?_
      | refine LeO.bind ?_ (fun _ => ?_)
set_option maxHeartbeats 8000000 in
set_option maxRecDepth 100000 in
theorem lockstitchref02_digits.calls (k : Nat) (a0 : ByteArray) (r : Bool) (w : World) (h : lockstitchref02_digits.f k a0 = some r) :
    Calls Tryd.prog 102 #[.string a0] w fun e w' => e = .returned (.bool r) ∧ Drawn0 w w' := by
  have H : (if (a0.size : Int) > 0 then (if 0 < (a0.size : Int) then (lockstitchref02_digits.j0 k a0 a0 ((bt a0 0) == 45)) else (none)) else (lockstitchref02_digits.j0 k a0 a0 false)) = some r := h; clear h; have HC2 := Aside0.mk H; clear H
  go_enter Tryd.func102, Tryd.ntmps102
  go_upto_region 2 with (fail)
  go_cut [13] (fun v13 wc => ∃ (kq : Nat) (x13_1 : Bool), v13 = .bool x13_1 ∧ Aside0 (lockstitchref02_digits.j0 kq a0 a0 x13_1 = some r) ∧ Aside0 (kq ≤ k) ∧ Drawn0 w wc)
  case first =>
    have H := HC2.out; clear HC2; by_cases c3 : (a0.size : Int) > 0
    rotate_left
    · rw [if_neg c3] at H; have c3b0 : decide (0 < (a0.size : Int)) = false := decide_eq_false c3; have c3b1 : decide (0 < a0.size) = false := decide_eq_false (by omega); clear c3
      (first | rw [c3b0] | (simp only [i64_w, i32_w]; rw [c3b0]) | skip)
      have H' := Aside0.mk H; clear H; go_wp2; go_meet
      case rel => exact ⟨_, (false), hB64, H', ⟨by first | omega | exact Nat.le_refl _⟩, by repeat (first | exact Drawn0.refl _ | apply Drawn0.step)⟩
    rw [if_pos c3] at H; have c3b0 : decide (0 < (a0.size : Int)) = true := decide_eq_true c3; have c3b1 : decide (0 < a0.size) = true := decide_eq_true (by omega); clear c3
    (first | rw [c3b0] | (simp only [i64_w, i32_w]; rw [c3b0]) | skip)
    by_cases c4 : 0 < (a0.size : Int)
    rotate_left
    · rw [if_neg c4] at H; exact absurd H (by simp)
    rw [if_pos c4] at H; have c4b0 : decide (0 < (a0.size : Int)) = true := decide_eq_true c4; have c4b1 : decide (0 < a0.size) = true := decide_eq_true (by omega); clear c4; have H' := Aside0.mk H; clear H; have p5 : 0 ≤ (0 : Int) := (by omega); have q5 : 0 < a0.size := (by have : (0 : Int) < (a0.size : Int) := of_decide_eq_true hB63; omega); have hx5 : ∀ h : 0 < a0.size, ((a0[0]'h).toNat : Int) = bt a0 0 := bt_at a0 0; clear p5; have qi5 : (0 < (a0.size : Int)) = True := eq_true (of_decide_eq_true hB63); replace q5 := eq_true q5; go_wp2; go_meet
    case rel => exact ⟨_, (((bt a0 0) == 45)), hB64, H', ⟨by first | omega | exact Nat.le_refl _⟩, by repeat (first | exact Drawn0.refl _ | apply Drawn0.step)⟩
  case rest =>
    clear HC2; (try clear c1); (try clear p2); (try clear c3); (try clear c3b0); (try clear c3b1); (try clear c4); (try clear c4b0); (try clear c4b1); (try clear p5); (try clear q5); (try clear hx5); (try clear qi5); (try clear p5); (try clear q5); obtain ⟨kq, x13_1, rfl, HA, HJ1, ⟨mc1, rfl⟩⟩ := hcut
    cases kq with
    | zero => exact absurd HA.out (by simp [lockstitchref02_digits.j0])
    | succ kj1 =>
      have H := HA.out; clear HA; simp only [lockstitchref02_digits.j0] at H; have HC6 := Aside0.mk H; clear H
      go_upto_if 13 with (fail)
      go_cut [3] (fun v3 wc => ∃ (kq : Nat) (x3_5 : ByteArray), v3 = .string x3_5 ∧ Aside0 (lockstitchref02_digits.j1 kq a0 x3_5 = some r) ∧ Aside0 (kq ≤ kj1) ∧ Drawn0 w wc)
      case first =>
        have H := HC6.out; clear HC6; by_cases c7 : x13_1 = true
        rotate_left
        · replace c7 := Bool.eq_false_iff.mpr c7; subst c7
          have H1 : (lockstitchref02_digits.j1 kj1 a0 a0) = some r := by rw [if_neg (show ¬ (false = true) by decide)] at H; exact H
          clear H; have H := H1; clear H1; have H' := Aside0.mk H; clear H; go_wp2; go_meet
          case rel => exact ⟨_, (a0), hB64, H', ⟨hB65⟩, by repeat (first | exact Drawn0.refl _ | apply Drawn0.step)⟩
        subst c7
        have H1 : (if 1 ≤ (a0.size : Int) then (lockstitchref02_digits.j1 kj1 a0 (a0.extract 1 a0.size)) else (none)) = some r := by rw [if_pos rfl] at H; exact H
        clear H; have H := H1; clear H1; by_cases c8 : 1 ≤ (a0.size : Int)
        rotate_left
        · rw [if_neg c8] at H; exact absurd H (by simp)
        rw [if_pos c8] at H; have c8b0 := eq_true c8; have c8b1 : decide (1 ≤ (a0.size : Int)) = true := decide_eq_true c8; clear c8; have H' := Aside0.mk H; clear H; go_wp2; go_meet
        case rel => exact ⟨_, (a0.extract 1 a0.size), hB64, H', ⟨hB65⟩, by repeat (first | exact Drawn0.refl _ | apply Drawn0.step)⟩
      case rest =>
        clear HC6; (try clear c1); (try clear p2); (try clear c3); (try clear c3b0); (try clear c3b1); (try clear c4); (try clear c4b0); (try clear c4b1); (try clear p5); (try clear q5); (try clear hx5); (try clear qi5); (try clear c7); (try clear c8); (try clear c8b0); (try clear c8b1); (try clear p2); (try clear p5); (try clear q5); obtain ⟨kq, x3_5, rfl, HA, HJ5, ⟨mc5, rfl⟩⟩ := hcut
        cases kq with
        | zero => exact absurd HA.out (by simp [lockstitchref02_digits.j1])
        | succ kj5 =>
          have H := HA.out; clear HA; simp only [lockstitchref02_digits.j1] at H; have HC9 := Aside0.mk H; clear H
          go_upto_region 4 with (fail)
          go_cut [32] (fun v32 wc => ∃ (kq : Nat) (x32_8 : Bool), v32 = .bool x32_8 ∧ Aside0 (lockstitchref02_digits.j2 kq x3_5 x32_8 = some r) ∧ Aside0 (kq ≤ kj5) ∧ Drawn0 w wc)
          case first =>
            have H := HC9.out; clear HC9; by_cases c10 : x3_5.toList = ([] : List UInt8)
            · rw [if_pos c10] at H; have c10b0 : (x3_5.toList == ([] : List UInt8)) = true := beq_iff_eq.mpr c10; have c10b1 : (x3_5.toList != ([] : List UInt8)) = false := bne_eq_false_iff_eq.mpr c10; clear c10
              (first | rw [c10b0] | (simp only [i64_w, i32_w]; rw [c10b0]) | skip)
              have H' := Aside0.mk H; clear H; go_wp2; go_meet
              case rel => exact ⟨_, (true), hB64, H', ⟨hB67⟩, by repeat (first | exact Drawn0.refl _ | apply Drawn0.step)⟩
            rw [if_neg c10] at H; have c10b0 : (x3_5.toList == ([] : List UInt8)) = false := beq_eq_false_iff_ne.mpr c10; have c10b1 : (x3_5.toList != ([] : List UInt8)) = true := bne_iff_ne.mpr c10
            (first | rw [c10b0] | (simp only [i64_w, i32_w]; rw [c10b0]) | skip)
            by_cases c11 : 0 < (x3_5.size : Int)
            rotate_left
            · rw [if_neg c11] at H; exact absurd H (by simp)
            rw [if_pos c11] at H; have c11b0 : decide (0 < (x3_5.size : Int)) = true := decide_eq_true c11; have c11b1 : decide (0 < x3_5.size) = true := decide_eq_true (by omega); clear c11; by_cases c13 : (bt x3_5 0) = 48
            rotate_left
            · rw [if_neg c13] at H; have c13b0 : ((bt x3_5 0) == 48) = false := beq_eq_false_iff_ne.mpr c13; have c13b1 : ((bt x3_5 0) != 48) = true := bne_iff_ne.mpr c13; have H' := Aside0.mk H; clear H; have p12 : 0 ≤ (0 : Int) := (by omega); have q12 : 0 < x3_5.size := (by have : (0 : Int) < (x3_5.size : Int) := of_decide_eq_true hB63; omega); have hx12 : ∀ h : 0 < x3_5.size, ((x3_5[0]'h).toNat : Int) = bt x3_5 0 := bt_at x3_5 0; clear p12; have qi12 : (0 < (x3_5.size : Int)) = True := eq_true (of_decide_eq_true hB63); replace q12 := eq_true q12; go_wp2; go_meet
              case rel => exact ⟨_, (false), hB64, H', ⟨hB67⟩, by repeat (first | exact Drawn0.refl _ | apply Drawn0.step)⟩
            rw [if_pos c13] at H; have c13b0 : ((bt x3_5 0) == 48) = true := beq_iff_eq.mpr c13; have c13b1 : ((bt x3_5 0) != 48) = false := bne_eq_false_iff_eq.mpr c13; clear c13; by_cases c14 : (x3_5.size : Int) > 1
            rotate_left
            · rw [if_neg c14] at H; have c14b0 : decide (1 < (x3_5.size : Int)) = false := decide_eq_false c14; have c14b1 : decide (1 < x3_5.size) = false := decide_eq_false (by omega); clear c14; have H' := Aside0.mk H; clear H; have p12 : 0 ≤ (0 : Int) := (by omega); have q12 : 0 < x3_5.size := (by have : (0 : Int) < (x3_5.size : Int) := of_decide_eq_true hB63; omega); have hx12 : ∀ h : 0 < x3_5.size, ((x3_5[0]'h).toNat : Int) = bt x3_5 0 := bt_at x3_5 0; clear p12; have qi12 : (0 < (x3_5.size : Int)) = True := eq_true (of_decide_eq_true hB63); replace q12 := eq_true q12; go_wp2; go_meet
              case rel => exact ⟨_, (decide ((a0.size : Int) > 1)), hB64, H', ⟨hB67⟩, by repeat (first | exact Drawn0.refl _ | apply Drawn0.step)⟩
            rw [if_pos c14] at H; have c14b0 : decide (1 < (x3_5.size : Int)) = true := decide_eq_true c14; have c14b1 : decide (1 < x3_5.size) = true := decide_eq_true (by omega); clear c14; have H' := Aside0.mk H; clear H; have p12 : 0 ≤ (0 : Int) := (by omega); have q12 : 0 < x3_5.size := (by have : (0 : Int) < (x3_5.size : Int) := of_decide_eq_true hB63; omega); have hx12 : ∀ h : 0 < x3_5.size, ((x3_5[0]'h).toNat : Int) = bt x3_5 0 := bt_at x3_5 0; clear p12; have qi12 : (0 < (x3_5.size : Int)) = True := eq_true (of_decide_eq_true hB63); replace q12 := eq_true q12; go_wp2; go_meet
            case rel => exact ⟨_, (true), hB64, H', ⟨hB67⟩, by repeat (first | exact Drawn0.refl _ | apply Drawn0.step)⟩
          case rest =>
            clear HC9; (try clear c1); (try clear p1); (try clear q1); (try clear hx1); (try clear qi1); (try clear p2); (try clear c3); (try clear c3b0); (try clear c3b1); (try clear c4); (try clear c4b0); (try clear c4b1); (try clear c5); (try clear p5); (try clear q5); (try clear hx5); (try clear qi5); (try clear c7); (try clear c8); (try clear c8b0); (try clear c8b1); (try clear c10); (try clear c10b0); (try clear c10b1); (try clear c11); (try clear c11b0); (try clear c11b1); (try clear p12); (try clear q12); (try clear hx12); (try clear qi12); (try clear c13); (try clear c13b0); (try clear c13b1); (try clear c14); (try clear c14b0); (try clear c14b1); (try clear p12); (try clear p2); (try clear p5); (try clear q12); (try clear q5); obtain ⟨kq, x32_8, rfl, HA, HJ8, ⟨mc8, rfl⟩⟩ := hcut
            cases kq with
            | zero => exact absurd HA.out (by simp [lockstitchref02_digits.j2])
            | succ kj8 =>
              have H := HA.out; clear HA; simp only [lockstitchref02_digits.j2] at H; by_cases c15 : x32_8 = true
              · subst c15
                have H1 : (some false) = some r := by rw [if_pos rfl] at H; exact H
                clear H; have H := H1; clear H1; obtain rfl := Option.some.inj H; go_wp2; go_ret; exact ⟨by first | rfl | (simp; done) | (simp [*]; done), by repeat (first | exact Drawn0.refl _ | apply Drawn0.step)⟩
              replace c15 := Bool.eq_false_iff.mpr c15; subst c15
              have H1 : (lockstitchref02_digits.l0 kj8 x3_5 0) = some r := by rw [if_neg (show ¬ (false = true) by decide)] at H; exact H
              clear H; have H := H1; clear H1; have H' := Aside0.mk H; clear H; go_wp2
              go_loopg [4] kj8 (fun kq v4 w' => ∃ (x4_4 : Int), v4 = .int .i64 x4_4 ∧ Aside0 (lockstitchref02_digits.l0 kq x3_5 x4_4 = some r) ∧ Aside0 (kq ≤ kj8) ∧ Drawn0 w w')
              case atStart => exact ⟨(0), hB64, H', ⟨Nat.le_refl _⟩, by repeat (first | exact Drawn0.refl _ | apply Drawn0.step)⟩
              case round =>
                clear H'; (try clear c1); (try clear p1); (try clear q1); (try clear hx1); (try clear qi1); (try clear p2); (try clear c3); (try clear c3b0); (try clear c3b1); (try clear c4); (try clear c4b0); (try clear c4b1); (try clear c5); (try clear p5); (try clear q5); (try clear hx5); (try clear qi5); (try clear c7); (try clear c8); (try clear c8b0); (try clear c8b1); (try clear c10); (try clear c10b0); (try clear c10b1); (try clear c11); (try clear c11b0); (try clear c11b1); (try clear p12); (try clear q12); (try clear hx12); (try clear qi12); (try clear c13); (try clear c13b0); (try clear c13b1); (try clear c14); (try clear c14b0); (try clear c14b1); (try clear c15); (try clear p1); (try clear p12); (try clear p2); (try clear p5); (try clear q1); (try clear q12); (try clear q5); obtain ⟨x4_4, rfl, HA, HK4, ⟨m4, rfl⟩⟩ := hrel
                cases gk with
                | zero => exact absurd HA.out (by simp [lockstitchref02_digits.l0])
                | succ k4 =>
                  have H := HA.out; clear HA; simp only [lockstitchref02_digits.l0] at H; by_cases c16 : x4_4 < (x3_5.size : Int)
                  rotate_left
                  · rw [if_neg c16] at H; have c16b0 : decide (x4_4 < (x3_5.size : Int)) = false := decide_eq_false c16; clear c16; obtain rfl := Option.some.inj H; go_wp2; go_ret; exact ⟨by first | rfl | (simp; done) | (simp [*]; done), by repeat (first | exact Drawn0.refl _ | apply Drawn0.step)⟩
                  rw [if_pos c16] at H; have c16b0 : decide (x4_4 < (x3_5.size : Int)) = true := decide_eq_true c16; clear c16; by_cases c17 : 0 ≤ x4_4
                  rotate_left
                  · rw [if_neg c17] at H; exact absurd H (by simp)
                  rw [if_pos c17] at H; have c17b0 : decide (0 ≤ x4_4) = true := decide_eq_true c17; clear c17; by_cases c19 : (bt x3_5 x4_4) < 48
                  · rw [if_pos c19] at H; have c19b0 : decide ((bt x3_5 x4_4) < 48) = true := decide_eq_true c19; clear c19; obtain rfl := Option.some.inj H; have p18 : 0 ≤ (x4_4 : Int) := of_decide_eq_true hB63; have q18 : x4_4 < (x3_5.size : Int) := of_decide_eq_true hB63; have hx18 := bt_at x3_5 x4_4; replace p18 := eq_true p18; replace q18 := eq_true q18; go_wp2; go_ret; exact ⟨by first | rfl | (simp; done) | (simp [*]; done), by repeat (first | exact Drawn0.refl _ | apply Drawn0.step)⟩
                  rw [if_neg c19] at H; have c19b0 : decide ((bt x3_5 x4_4) < 48) = false := decide_eq_false c19; clear c19; by_cases c21 : (bt x3_5 x4_4) > 57
                  · rw [if_pos c21] at H; have c21b0 : decide (57 < (bt x3_5 x4_4)) = true := decide_eq_true c21; clear c21; obtain rfl := Option.some.inj H; have p18 : 0 ≤ (x4_4 : Int) := of_decide_eq_true hB63; have q18 : x4_4 < (x3_5.size : Int) := of_decide_eq_true hB63; have hx18 := bt_at x3_5 x4_4; replace p18 := eq_true p18; replace q18 := eq_true q18; have p20 : 0 ≤ (x4_4 : Int) := of_decide_eq_true hB63; have q20 : x4_4 < (x3_5.size : Int) := of_decide_eq_true hB63; have hx20 := bt_at x3_5 x4_4; replace p20 := eq_true p20; replace q20 := eq_true q20; go_wp2; go_ret; exact ⟨by first | rfl | (simp; done) | (simp [*]; done), by repeat (first | exact Drawn0.refl _ | apply Drawn0.step)⟩
                  rw [if_neg c21] at H; have c21b0 : decide (57 < (bt x3_5 x4_4)) = false := decide_eq_false c21; clear c21; have H' := Aside0.mk H; clear H; have p18 : 0 ≤ (x4_4 : Int) := of_decide_eq_true hB63; have q18 : x4_4 < (x3_5.size : Int) := of_decide_eq_true hB63; have hx18 := bt_at x3_5 x4_4; replace p18 := eq_true p18; replace q18 := eq_true q18; have p20 : 0 ≤ (x4_4 : Int) := of_decide_eq_true hB63; have q20 : x4_4 < (x3_5.size : Int) := of_decide_eq_true hB63; have hx20 := bt_at x3_5 x4_4; replace p20 := eq_true p20; replace q20 := eq_true q20; go_wp2; go_roundg k4
                  case measure => have := HJ1.out; have := HJ5.out; have := HJ8.out; have := HK4.out; omega
                  case rel => exact ⟨(wrap64 (x4_4 + 1)), hB64, H', ⟨by have := HJ1.out; have := HJ5.out; have := HJ8.out; have := HK4.out; omega⟩, by repeat (first | exact Drawn0.refl _ | apply Drawn0.step)⟩
end Go.Proofs.YtkplgfhkebkaaaaDoor.F

namespace Go.Proofs.YtkplgfhkebkaaaaDoor.F
open Go.RowKit Go.Proofs.YtkplgfhkebkaaaaDoorW.PrintWords Go.Proofs.YtkplgfhkebkaaaaDoorW.PrintLast Go.Proofs.YtkplgfhkebkaaaaDoorW.PrintMore
attribute [local go_sem] max2_int min2_int max_two min_two max_three min_three max_four min_four
set_option linter.unusedVariables false
set_option linter.unusedSimpArgs false
mutual
def lockstitchref02_Number.j0 : Nat → ByteArray → Bool → Option (Int × Int)
  | 0, _, _ => none
  | k + 1, x4, x5 => lockstitchref02_Number.l0 k x4 x5 0 0
def lockstitchref02_Number.j2 : Nat → ByteArray → Bool → Int → Option (Int × Int)
  | 0, _, _, _ => none
  | k + 1, x4, x5, x6 => if (x4.size : Int) > 19 then (lockstitchref02_Number.j3 k x5 x6 (decide ((x4.size : Int) > 19))) else (if x6 > 9223372036854775808 then (lockstitchref02_Number.j3 k x5 x6 (decide (x6 > 9223372036854775808))) else (if x6 = 9223372036854775808 then (lockstitchref02_Number.j3 k x5 x6 (!x5)) else (lockstitchref02_Number.j3 k x5 x6 false)))
def lockstitchref02_Number.j3 : Nat → Bool → Int → Bool → Option (Int × Int)
  | 0, _, _, _ => none
  | k + 1, x5, x6, x36 => if x36 = true then (some (0, 3)) else (if x5 = true then (some (wrap64 (-(wrap64 (x6))), 0)) else (some (wrap64 (x6), 0)))
def lockstitchref02_Number.l0 : Nat → ByteArray → Bool → Int → Int → Option (Int × Int)
  | 0, _, _, _, _ => none
  | k + 1, x4, x5, x6, x7 => if x7 < (x4.size : Int) then (if x7 < 19 then (if 0 ≤ x7 then (lockstitchref02_Number.l0 k x4 x5 (IntKind.u64.wrap ((IntKind.u64.wrap (x6 * 10)) + (((bt x4 x7) - 48) % 256))) (wrap64 (x7 + 1))) else (none)) else (lockstitchref02_Number.j2 k x4 x5 x6)) else (lockstitchref02_Number.j2 k x4 x5 x6)
end
def lockstitchref02_Number.f (k : Nat) (a0 : ByteArray) : Option (Int × Int) := (lockstitchref02_digits.f k a0).bind fun t115 => (if t115 = true then (if 0 < (a0.size : Int) then (if (bt a0 0) = 45 then (if 1 ≤ (a0.size : Int) then (lockstitchref02_Number.j0 k (a0.extract 1 a0.size) ((bt a0 0) == 45)) else (none)) else (lockstitchref02_Number.j0 k a0 ((bt a0 0) == 45))) else (none)) else (some (0, 4)))
theorem lockstitchref02_Number.mono_l : ∀ k, (∀ y0 y1, LeO (lockstitchref02_Number.j0 k y0 y1) (lockstitchref02_Number.j0 (k + 1) y0 y1)) ∧ (∀ y0 y1 y2, LeO (lockstitchref02_Number.j2 k y0 y1 y2) (lockstitchref02_Number.j2 (k + 1) y0 y1 y2)) ∧ (∀ y0 y1 y2, LeO (lockstitchref02_Number.j3 k y0 y1 y2) (lockstitchref02_Number.j3 (k + 1) y0 y1 y2)) ∧ (∀ y0 y1 y2 y3, LeO (lockstitchref02_Number.l0 k y0 y1 y2 y3) (lockstitchref02_Number.l0 (k + 1) y0 y1 y2 y3))
  | 0 => ⟨fun _ _ r h => by simp [lockstitchref02_Number.j0] at h, fun _ _ _ r h => by simp [lockstitchref02_Number.j2] at h, fun _ _ _ r h => by simp [lockstitchref02_Number.j3] at h, fun _ _ _ _ r h => by simp [lockstitchref02_Number.l0] at h⟩
  | k + 1 => by
    obtain ⟨ih0, ih1, ih2, ih3⟩ := lockstitchref02_Number.mono_l k; refine ⟨?_, ?_, ?_, ?_⟩
    · intro y0 y1
      unfold lockstitchref02_Number.j0
      repeat' first
      | (with_reducible exact ih0 _ _)
      | (with_reducible exact ih1 _ _ _)
      | (with_reducible exact ih2 _ _ _)
      | (with_reducible exact ih3 _ _ _ _)
      | (with_reducible exact lockstitchref02_digits.mono _ _)
      | (with_reducible exact LeO.refl _)
      | (with_reducible exact LeO.none _)
      | (with_reducible refine LeO.ite ?_ ?_)
      | (with_reducible refine LeO.bind ?_ (fun _ => ?_))
      | exact ih0 _ _
      | exact ih1 _ _ _
      | exact ih2 _ _ _
      | exact ih3 _ _ _ _
      | exact lockstitchref02_digits.mono _ _
      | exact LeO.none _
      | refine LeO.ite ?_ ?_
      | refine LeO.bind ?_ (fun _ => ?_)
    · intro y0 y1 y2
      unfold lockstitchref02_Number.j2
      repeat' first
      | (with_reducible exact ih0 _ _)
      | (with_reducible exact ih1 _ _ _)
      | (with_reducible exact ih2 _ _ _)
      | (with_reducible exact ih3 _ _ _ _)
      | (with_reducible exact lockstitchref02_digits.mono _ _)
      | (with_reducible exact LeO.refl _)
      | (with_reducible exact LeO.none _)
      | (with_reducible refine LeO.ite ?_ ?_)
      | (with_reducible refine LeO.bind ?_ (fun _ => ?_))
      | exact ih0 _ _
      | exact ih1 _ _ _
      | exact ih2 _ _ _
      | exact ih3 _ _ _ _
      | exact lockstitchref02_digits.mono _ _
      | exact LeO.none _
      | refine LeO.ite ?_ ?_
      | refine LeO.bind ?_ (fun _ => ?_)
    · intro y0 y1 y2
      unfold lockstitchref02_Number.j3
      repeat' first
      | (with_reducible exact ih0 _ _)
      | (with_reducible exact ih1 _ _ _)
      | (with_reducible exact ih2 _ _ _)
      | (with_reducible exact ih3 _ _ _ _)
      | (with_reducible exact lockstitchref02_digits.mono _ _)
      | (with_reducible exact LeO.refl _)
      | (with_reducible exact LeO.none _)
      | (with_reducible refine LeO.ite ?_ ?_)
      | (with_reducible refine LeO.bind ?_ (fun _ => ?_))
      | exact ih0 _ _
      | exact ih1 _ _ _
      | exact ih2 _ _ _
      | exact ih3 _ _ _ _
      | exact lockstitchref02_digits.mono _ _
      | exact LeO.none _
      | refine LeO.ite ?_ ?_
      | refine LeO.bind ?_ (fun _ => ?_)
    · intro y0 y1 y2 y3
      unfold lockstitchref02_Number.l0
      repeat' first
      | (with_reducible exact ih0 _ _)
      | (with_reducible exact ih1 _ _ _)
      | (with_reducible exact ih2 _ _ _)
      | (with_reducible exact ih3 _ _ _ _)
      | (with_reducible exact lockstitchref02_digits.mono _ _)
      | (with_reducible exact LeO.refl _)
      | (with_reducible exact LeO.none _)
      | (with_reducible refine LeO.ite ?_ ?_)
      | (with_reducible refine LeO.bind ?_ (fun _ => ?_))
      | exact ih0 _ _
      | exact ih1 _ _ _
      | exact ih2 _ _ _
      | exact ih3 _ _ _ _
      | exact lockstitchref02_digits.mono _ _
      | exact LeO.none _
      | refine LeO.ite ?_ ?_
      | refine LeO.bind ?_ (fun _ => ?_)
theorem lockstitchref02_Number.mono : ∀ a0 k, LeO (lockstitchref02_Number.f k a0) (lockstitchref02_Number.f (k + 1) a0) := by
  intro a0 k; obtain ⟨ih0, ih1, ih2, ih3⟩ := lockstitchref02_Number.mono_l k
  unfold lockstitchref02_Number.f
  repeat' first
      | (with_reducible exact ih0 _ _)
      | (with_reducible exact ih1 _ _ _)
      | (with_reducible exact ih2 _ _ _)
      | (with_reducible exact ih3 _ _ _ _)
      | (with_reducible exact lockstitchref02_digits.mono _ _)
      | (with_reducible exact LeO.refl _)
      | (with_reducible exact LeO.none _)
      | (with_reducible refine LeO.ite ?_ ?_)
      | (with_reducible refine LeO.bind ?_ (fun _ => ?_))
      | exact ih0 _ _
      | exact ih1 _ _ _
      | exact ih2 _ _ _
      | exact ih3 _ _ _ _
      | exact lockstitchref02_digits.mono _ _
      | exact LeO.none _
      | refine LeO.ite ?_ ?_
      | refine LeO.bind ?_ (fun _ => ?_)
set_option maxHeartbeats 8000000 in
set_option maxRecDepth 100000 in
theorem lockstitchref02_Number.calls (k : Nat) (a0 : ByteArray) (r1 : Int) (r2 : Int) (w : World) (h : lockstitchref02_Number.f k a0 = some (r1, r2)) :
    Calls Tryd.prog 78 #[.string a0] w fun e w' => e = .returned (.tuple #[.int .i64 r1, .int .i64 r2]) ∧ Drawn0 w w' := by
  have H : ((lockstitchref02_digits.f k a0).bind fun t115 => (if t115 = true then (if 0 < (a0.size : Int) then (if (bt a0 0) = 45 then (if 1 ≤ (a0.size : Int) then (lockstitchref02_Number.j0 k (a0.extract 1 a0.size) ((bt a0 0) == 45)) else (none)) else (lockstitchref02_Number.j0 k a0 ((bt a0 0) == 45))) else (none)) else (some (0, 4)))) = some (r1, r2) := h; clear h; replace H := Option.bind_eq_some_iff.mp H; obtain ⟨t115, A20, H⟩ := H; replace H : (if t115 = true then (if 0 < (a0.size : Int) then (if (bt a0 0) = 45 then (if 1 ≤ (a0.size : Int) then (lockstitchref02_Number.j0 k (a0.extract 1 a0.size) ((bt a0 0) == 45)) else (none)) else (lockstitchref02_Number.j0 k a0 ((bt a0 0) == 45))) else (none)) else (some (0, 4))) = some (r1, r2) := H; have A2 := Aside0.mk A20; clear A20; by_cases c3 : t115 = true
  rotate_left
  · replace c3 := Bool.eq_false_iff.mpr c3; subst c3
    have H1 : (some (0, 4)) = some (r1, r2) := by rw [if_neg (show ¬ (false = true) by decide)] at H; exact H
    clear H; have H := H1; clear H1; simp only [Option.some.injEq, Prod.mk.injEq] at H; obtain ⟨rfl, rfl⟩ := H
    go_enter Tryd.func78, Tryd.ntmps78
    go_wp2_with (first | ((with_reducible refine gate_callee (f := 102) rfl ?_); refine goesL_ (some 9) rfl rfl Tryd.func102 (by kernel_rfl) rfl #[.string a0] rfl hB1 ?_; (with_reducible refine (lockstitchref02_digits.calls k a0 false _ A2.out).mono ?_); rintro e w' ⟨rfl, ⟨nd, rfl⟩⟩; refine ⟨_, rfl, ?_⟩))
    go_ret2
    exact ⟨by first | rfl | (simp; done) | (simp [*]; done), by repeat (first | exact Drawn0.refl _ | apply Drawn0.step)⟩
  subst c3
  have H1 : (if 0 < (a0.size : Int) then (if (bt a0 0) = 45 then (if 1 ≤ (a0.size : Int) then (lockstitchref02_Number.j0 k (a0.extract 1 a0.size) ((bt a0 0) == 45)) else (none)) else (lockstitchref02_Number.j0 k a0 ((bt a0 0) == 45))) else (none)) = some (r1, r2) := by rw [if_pos rfl] at H; exact H
  clear H; have H := H1; clear H1; by_cases c4 : 0 < (a0.size : Int)
  rotate_left
  · rw [if_neg c4] at H; exact absurd H (by simp)
  rw [if_pos c4] at H; have c4b0 : decide (0 < (a0.size : Int)) = true := decide_eq_true c4; have c4b1 : decide (0 < a0.size) = true := decide_eq_true (by omega); clear c4; have HC6 := Aside0.mk H; clear H
  go_enter Tryd.func78, Tryd.ntmps78
  go_upto_if 15 with (first | ((with_reducible refine gate_callee (f := 102) rfl ?_); refine goesL_ (some 9) rfl rfl Tryd.func102 (by kernel_rfl) rfl #[.string a0] rfl hB1 ?_; (with_reducible refine (lockstitchref02_digits.calls k a0 true _ A2.out).mono ?_); rintro e w' ⟨rfl, ⟨nd, rfl⟩⟩; refine ⟨_, rfl, ?_⟩; have p5 : 0 ≤ (0 : Int) := (by omega); have q5 : 0 < a0.size := (by have : (0 : Int) < (a0.size : Int) := of_decide_eq_true hB63; omega); have hx5 : ∀ h : 0 < a0.size, ((a0[0]'h).toNat : Int) = bt a0 0 := bt_at a0 0; clear p5; have qi5 : (0 < (a0.size : Int)) = True := eq_true (of_decide_eq_true hB63); replace q5 := eq_true q5))
  (try simp only [Act.put, List.setIfInBounds_toArray, List.set_cons_zero, List.set_cons_succ])
  go_cut [4, 5] (fun v4 v5 wc => ∃ (kq : Nat) (x4_5 : ByteArray), v4 = .string x4_5 ∧ v5 = .bool ((bt a0 0) == 45) ∧ Aside0 (lockstitchref02_Number.j0 kq x4_5 ((bt a0 0) == 45) = some (r1, r2)) ∧ Aside0 (kq ≤ k) ∧ Drawn0 w wc)
  case first =>
    have H := HC6.out; clear HC6; by_cases c7 : (bt a0 0) = 45
    rotate_left
    · rw [if_neg c7] at H; have c7b0 : ((bt a0 0) == 45) = false := beq_eq_false_iff_ne.mpr c7; have c7b1 : ((bt a0 0) != 45) = true := bne_iff_ne.mpr c7
      (first | rw [c7b0] | (simp only [i64_w, i32_w]; rw [c7b0]) | skip)
      have H' := Aside0.mk H; clear H; go_wp2; go_meet
      case rel => exact ⟨_, (a0), hB64, hB64, H', ⟨by first | omega | exact Nat.le_refl _⟩, by repeat (first | exact Drawn0.refl _ | apply Drawn0.step)⟩
    rw [if_pos c7] at H; have c7b0 : ((bt a0 0) == 45) = true := beq_iff_eq.mpr c7; have c7b1 : ((bt a0 0) != 45) = false := bne_eq_false_iff_eq.mpr c7; clear c7
    (first | rw [c7b0] | (simp only [i64_w, i32_w]; rw [c7b0]) | skip)
    by_cases c8 : 1 ≤ (a0.size : Int)
    rotate_left
    · rw [if_neg c8] at H; exact absurd H (by simp)
    rw [if_pos c8] at H; have c8b0 := eq_true c8; have c8b1 : decide (1 ≤ (a0.size : Int)) = true := decide_eq_true c8; clear c8; have H' := Aside0.mk H; clear H; go_wp2; go_meet
    case rel => exact ⟨_, (a0.extract 1 a0.size), hB64, hB64, H', ⟨by first | omega | exact Nat.le_refl _⟩, by repeat (first | exact Drawn0.refl _ | apply Drawn0.step)⟩
  case rest =>
    clear HC6; (try clear c1); (try clear p2); (try clear c3); (try clear c4); (try clear c4b0); (try clear c4b1); (try clear p5); (try clear q5); (try clear hx5); (try clear qi5); (try clear c7); (try clear c7b0); (try clear c7b1); (try clear c8); (try clear c8b0); (try clear c8b1); (try clear p5); (try clear q5); obtain ⟨kq, x4_5, rfl, rfl, HA, HJ5, ⟨mc5, rfl⟩⟩ := hcut
    cases kq with
    | zero => exact absurd HA.out (by simp [lockstitchref02_Number.j0])
    | succ kj5 =>
      have H := HA.out; clear HA; simp only [lockstitchref02_Number.j0] at H; have HC9 := Aside0.mk H; clear H
      go_upto_block 0 with (fail)
      go_cut [6] (fun v6 wc => ∃ (kq : Nat) (x6_8 : Int), v6 = .int .u64 x6_8 ∧ Aside0 (lockstitchref02_Number.j2 kq x4_5 ((bt a0 0) == 45) x6_8 = some (r1, r2)) ∧ Aside0 (kq ≤ kj5) ∧ Drawn0 w wc)
      case first =>
        have H := HC9.out; clear HC9; have H' := Aside0.mk H; clear H; go_wp2
        go_loopg [6, 7] kj5 (fun kq v6 v7 w' => ∃ (x6_2 : Int) (x7_2 : Int), v6 = .int .u64 x6_2 ∧ v7 = .int .i64 x7_2 ∧ Aside0 (lockstitchref02_Number.l0 kq x4_5 ((bt a0 0) == 45) x6_2 x7_2 = some (r1, r2)) ∧ Aside0 (kq ≤ kj5) ∧ Drawn0 w w')
        case atStart => exact ⟨(0), (0), hB64, hB64, H', ⟨Nat.le_refl _⟩, by repeat (first | exact Drawn0.refl _ | apply Drawn0.step)⟩
        case round =>
          clear H'; (try clear c1); (try clear p2); (try clear c3); (try clear c4); (try clear c4b0); (try clear c4b1); (try clear c5); (try clear p5); (try clear q5); (try clear hx5); (try clear qi5); (try clear c7); (try clear c7b0); (try clear c7b1); (try clear c8); (try clear c8b0); (try clear c8b1); (try clear p2); (try clear p5); (try clear q5); obtain ⟨x6_2, x7_2, rfl, rfl, HA, HK2, ⟨m2, rfl⟩⟩ := hrel
          cases gk with
          | zero => exact absurd HA.out (by simp [lockstitchref02_Number.l0])
          | succ k2 =>
            have H := HA.out; clear HA; simp only [lockstitchref02_Number.l0] at H; by_cases c10 : x7_2 < (x4_5.size : Int)
            rotate_left
            · rw [if_neg c10] at H; have c10b0 : decide (x7_2 < (x4_5.size : Int)) = false := decide_eq_false c10; clear c10
              (first | rw [c10b0] | (simp only [i64_w, i32_w]; rw [c10b0]) | skip)
              have H' := Aside0.mk H; clear H; go_wp2; go_meet
              case rel => exact ⟨_, (x6_2), hB64, H', ⟨by have := HJ5.out; have := HK2.out; first | omega | exact Nat.le_refl _⟩, by repeat (first | exact Drawn0.refl _ | apply Drawn0.step)⟩
            rw [if_pos c10] at H; have c10b0 : decide (x7_2 < (x4_5.size : Int)) = true := decide_eq_true c10; clear c10
            (first | rw [c10b0] | (simp only [i64_w, i32_w]; rw [c10b0]) | skip)
            by_cases c11 : x7_2 < 19
            rotate_left
            · rw [if_neg c11] at H; have c11b0 : decide (x7_2 < 19) = false := decide_eq_false c11; clear c11; have H' := Aside0.mk H; clear H; go_wp2; go_meet
              case rel => exact ⟨_, (x6_2), hB64, H', ⟨by have := HJ5.out; have := HK2.out; first | omega | exact Nat.le_refl _⟩, by repeat (first | exact Drawn0.refl _ | apply Drawn0.step)⟩
            rw [if_pos c11] at H; have c11b0 : decide (x7_2 < 19) = true := decide_eq_true c11; clear c11; by_cases c12 : 0 ≤ x7_2
            rotate_left
            · rw [if_neg c12] at H; exact absurd H (by simp)
            rw [if_pos c12] at H; have c12b0 : decide (0 ≤ x7_2) = true := decide_eq_true c12; clear c12; have H' := Aside0.mk H; clear H; have p13 : 0 ≤ (x7_2 : Int) := of_decide_eq_true hB63; have q13 : x7_2 < (x4_5.size : Int) := of_decide_eq_true hB63; have hx13 := bt_at x4_5 x7_2; replace p13 := eq_true p13; replace q13 := eq_true q13; go_wp2; go_roundg k2
            case measure => have := HJ5.out; have := HK2.out; omega
            case rel => exact ⟨(IntKind.u64.wrap ((IntKind.u64.wrap (x6_2 * 10)) + (((bt x4_5 x7_2) - 48) % 256))), (wrap64 (x7_2 + 1)), hB64, hB64, H', ⟨by have := HJ5.out; have := HK2.out; omega⟩, by repeat (first | exact Drawn0.refl _ | apply Drawn0.step)⟩
      case rest =>
        clear HC9; (try clear c1); (try clear p1); (try clear q1); (try clear hx1); (try clear p2); (try clear c3); (try clear c4); (try clear c4b0); (try clear c4b1); (try clear c5); (try clear p5); (try clear q5); (try clear hx5); (try clear qi5); (try clear p6); (try clear c7); (try clear c7b0); (try clear c7b1); (try clear c8); (try clear c8b0); (try clear c8b1); (try clear c10); (try clear c10b0); (try clear c11); (try clear c11b0); (try clear c12); (try clear c12b0); (try clear p13); (try clear q13); (try clear hx13); (try clear p13); (try clear p2); (try clear p5); (try clear q13); (try clear q5); obtain ⟨kq, x6_8, rfl, HA, HJ8, ⟨mc8, rfl⟩⟩ := hcut
        cases kq with
        | zero => exact absurd HA.out (by simp [lockstitchref02_Number.j2])
        | succ kj8 =>
          have H := HA.out; clear HA; simp only [lockstitchref02_Number.j2] at H; have HC14 := Aside0.mk H; clear H
          go_upto_if 36 with (fail)
          go_cut [36] (fun v36 wc => ∃ (kq : Nat) (x36_13 : Bool), v36 = .bool x36_13 ∧ Aside0 (lockstitchref02_Number.j3 kq ((bt a0 0) == 45) x6_8 x36_13 = some (r1, r2)) ∧ Aside0 (kq ≤ kj8) ∧ Drawn0 w wc)
          case first =>
            have H := HC14.out; clear HC14; by_cases c15 : (x4_5.size : Int) > 19
            · rw [if_pos c15] at H; have c15b0 : decide (19 < (x4_5.size : Int)) = true := decide_eq_true c15; have c15b1 : decide (19 < x4_5.size) = true := decide_eq_true (by omega); clear c15
              (first | rw [c15b0] | (simp only [i64_w, i32_w]; rw [c15b0]) | skip)
              have H' := Aside0.mk H; clear H; go_wp2; go_meet
              case rel => exact ⟨_, (decide ((x4_5.size : Int) > 19)), hB64, H', ⟨hB69⟩, by repeat (first | exact Drawn0.refl _ | apply Drawn0.step)⟩
            rw [if_neg c15] at H; have c15b0 : decide (19 < (x4_5.size : Int)) = false := decide_eq_false c15; have c15b1 : decide (19 < x4_5.size) = false := decide_eq_false (by omega); clear c15
            (first | rw [c15b0] | (simp only [i64_w, i32_w]; rw [c15b0]) | skip)
            by_cases c16 : x6_8 > 9223372036854775808
            · rw [if_pos c16] at H; have c16b0 : decide (9223372036854775808 < x6_8) = true := decide_eq_true c16; clear c16; have H' := Aside0.mk H; clear H; go_wp2; go_meet
              case rel => exact ⟨_, (decide (x6_8 > 9223372036854775808)), hB64, H', ⟨hB69⟩, by repeat (first | exact Drawn0.refl _ | apply Drawn0.step)⟩
            rw [if_neg c16] at H; have c16b0 : decide (9223372036854775808 < x6_8) = false := decide_eq_false c16; clear c16; by_cases c17 : x6_8 = 9223372036854775808
            rotate_left
            · rw [if_neg c17] at H; have c17b0 : (x6_8 == 9223372036854775808) = false := beq_eq_false_iff_ne.mpr c17; have c17b1 : (x6_8 != 9223372036854775808) = true := bne_iff_ne.mpr c17; have H' := Aside0.mk H; clear H; go_wp2; go_meet
              case rel => exact ⟨_, (false), hB64, H', ⟨hB69⟩, by repeat (first | exact Drawn0.refl _ | apply Drawn0.step)⟩
            rw [if_pos c17] at H; have c17b0 : (x6_8 == 9223372036854775808) = true := beq_iff_eq.mpr c17; have c17b1 : (x6_8 != 9223372036854775808) = false := bne_eq_false_iff_eq.mpr c17; clear c17; have H' := Aside0.mk H; clear H; go_wp2; go_meet
            case rel => exact ⟨_, (!((bt a0 0) == 45)), hB64, H', ⟨hB69⟩, by repeat (first | exact Drawn0.refl _ | apply Drawn0.step)⟩
          case rest =>
            clear HC14; (try clear c1); (try clear p1); (try clear q1); (try clear hx1); (try clear p2); (try clear c3); (try clear c4); (try clear c4b0); (try clear c4b1); (try clear c5); (try clear p5); (try clear q5); (try clear hx5); (try clear qi5); (try clear p6); (try clear c7); (try clear c7b0); (try clear c7b1); (try clear c8); (try clear c8b0); (try clear c8b1); (try clear c10); (try clear c10b0); (try clear c11); (try clear c11b0); (try clear c12); (try clear c12b0); (try clear p13); (try clear q13); (try clear hx13); (try clear c15); (try clear c15b0); (try clear c15b1); (try clear c16); (try clear c16b0); (try clear c17); (try clear c17b0); (try clear c17b1); (try clear p1); (try clear p13); (try clear p2); (try clear p5); (try clear p6); (try clear q1); (try clear q13); (try clear q5); obtain ⟨kq, x36_13, rfl, HA, HJ13, ⟨mc13, rfl⟩⟩ := hcut
            cases kq with
            | zero => exact absurd HA.out (by simp [lockstitchref02_Number.j3])
            | succ kj13 =>
              have H := HA.out; clear HA; simp only [lockstitchref02_Number.j3] at H; by_cases c18 : x36_13 = true
              · subst c18
                have H1 : (some (0, 3)) = some (r1, r2) := by rw [if_pos rfl] at H; exact H
                clear H; have H := H1; clear H1; simp only [Option.some.injEq, Prod.mk.injEq] at H; obtain ⟨rfl, rfl⟩ := H; go_wp2
                go_ret2
                exact ⟨by first | rfl | (simp; done) | (simp [*]; done), by repeat (first | exact Drawn0.refl _ | apply Drawn0.step)⟩
              replace c18 := Bool.eq_false_iff.mpr c18; subst c18
              have H1 : (if ((bt a0 0) == 45) = true then (some (wrap64 (-(wrap64 (x6_8))), 0)) else (some (wrap64 (x6_8), 0))) = some (r1, r2) := by rw [if_neg (show ¬ (false = true) by decide)] at H; exact H
              clear H; have H := H1; clear H1; by_cases c19 : ((bt a0 0) == 45) = true
              · rw [if_pos c19] at H; have c19b0 : ((bt a0 0) == 45) = true := c19
                (try (have c19b1 : decide ((bt a0 0) = 45) = true := by simpa using c19))
                (try (have c19b2 : ((bt a0 0) == 45) = true := by simpa using c19))
                clear c19; simp only [Option.some.injEq, Prod.mk.injEq] at H; obtain ⟨rfl, rfl⟩ := H; go_wp2
                go_ret2
                exact ⟨by first | rfl | (simp; done) | (simp [*]; done), by repeat (first | exact Drawn0.refl _ | apply Drawn0.step)⟩
              rw [if_neg c19] at H
              have c19b0 : ((bt a0 0) == 45) = false := by simpa using c19
              (try (have c19b1 : decide ((bt a0 0) = 45) = false := by simpa using c19))
              (try (have c19b2 : ((bt a0 0) == 45) = false := by simpa using c19))
              (try (have c19b3 : ¬ ((bt a0 0) = 45) := by simpa using c19))
              clear c19; simp only [Option.some.injEq, Prod.mk.injEq] at H; obtain ⟨rfl, rfl⟩ := H; go_wp2
              go_ret2
              exact ⟨by first | rfl | (simp; done) | (simp [*]; done), by repeat (first | exact Drawn0.refl _ | apply Drawn0.step)⟩
def lockstitchref04_with.j0 : Nat → Int → Int → Bool → Int → Int → Int → Int → Int → Option (Int × Int × Int × Int × Int × Bool)
  | 0, _, _, _, _, _, _, _, _ => none
  | k + 1, x1, x2, x18, x117000, x117001, x117002, x117003, x117004 => if x18 = true then (some (x117000, x117001, x117002, x117003, x117004, false)) else (if x1 = 97 then (some (x117000, (x2) % 256, x117002, x117003, x117004, true)) else (if x1 = 98 then (some (x117000, x117001, (x2) % 256, x117003, x117004, true)) else (some (x117000, x117001, x117002, (x2) % 256, x117004, true))))
def lockstitchref04_with.f (k : Nat) (a0_0 : Int) (a0_1 : Int) (a0_2 : Int) (a0_3 : Int) (a0_4 : Int) (a1 : Int) (a2 : Int) : Option (Int × Int × Int × Int × Int × Bool) := if a1 = 110 then (some (a0_0, a0_1, a0_2, a0_3, a2, true)) else (if a2 < 0 then (lockstitchref04_with.j0 k a1 a2 true a0_0 a0_1 a0_2 a0_3 a0_4) else (lockstitchref04_with.j0 k a1 a2 (decide (a2 > 255)) a0_0 a0_1 a0_2 a0_3 a0_4))
theorem lockstitchref04_with.mono_l : ∀ k, (∀ y0 y1 y2 y3 y4 y5 y6 y7, LeO (lockstitchref04_with.j0 k y0 y1 y2 y3 y4 y5 y6 y7) (lockstitchref04_with.j0 (k + 1) y0 y1 y2 y3 y4 y5 y6 y7))
  | 0 => fun _ _ _ _ _ _ _ _ r h => by simp [lockstitchref04_with.j0] at h
  | k + 1 => by
    have ih0 := lockstitchref04_with.mono_l k
    · intro y0 y1 y2 y3 y4 y5 y6 y7
      unfold lockstitchref04_with.j0
      repeat' first
      | (with_reducible exact ih0 _ _ _ _ _ _ _ _)
      | (with_reducible exact LeO.refl _)
      | (with_reducible exact LeO.none _)
      | (with_reducible refine LeO.ite ?_ ?_)
      | (with_reducible refine LeO.bind ?_ (fun _ => ?_))
      | exact ih0 _ _ _ _ _ _ _ _
      | exact LeO.none _
      | refine LeO.ite ?_ ?_
      | refine LeO.bind ?_ (fun _ => ?_)
theorem lockstitchref04_with.mono : ∀ a0 a1 a2 a3 a4 a5 a6 k, LeO (lockstitchref04_with.f k a0 a1 a2 a3 a4 a5 a6) (lockstitchref04_with.f (k + 1) a0 a1 a2 a3 a4 a5 a6) := by
  intro a0 a1 a2 a3 a4 a5 a6 k; have ih0 := lockstitchref04_with.mono_l k
  unfold lockstitchref04_with.f
  repeat' first
      | (with_reducible exact ih0 _ _ _ _ _ _ _ _)
      | (with_reducible exact LeO.refl _)
      | (with_reducible exact LeO.none _)
      | (with_reducible refine LeO.ite ?_ ?_)
      | (with_reducible refine LeO.bind ?_ (fun _ => ?_))
      | exact ih0 _ _ _ _ _ _ _ _
      | exact LeO.none _
      | refine LeO.ite ?_ ?_
      | refine LeO.bind ?_ (fun _ => ?_)
set_option maxHeartbeats 8000000 in
set_option maxRecDepth 100000 in
theorem lockstitchref04_with.calls (k : Nat) (a0_0 : Int) (a0_1 : Int) (a0_2 : Int) (a0_3 : Int) (a0_4 : Int) (a1 : Int) (a2 : Int) (r1 : Int) (r2 : Int) (r3 : Int) (r4 : Int) (r5 : Int) (r6 : Bool) (w : World) (h : lockstitchref04_with.f k a0_0 a0_1 a0_2 a0_3 a0_4 a1 a2 = some (r1, r2, r3, r4, r5, r6)) :
    Calls Tryd.prog 79 #[.agg #[.int .u8 a0_0, .int .u8 a0_1, .int .u8 a0_2, .int .u8 a0_3, .int .i64 a0_4], .int .u8 a1, .int .i64 a2] w fun e w' => e = .returned (.tuple #[.agg #[.int .u8 r1, .int .u8 r2, .int .u8 r3, .int .u8 r4, .int .i64 r5], .bool r6]) ∧ Below w.heap.size w w' := by
  have hu47 := Tryd.underlying47; have HB := Aside0.mk (Below.refl w.heap.size w); have H : (if a1 = 110 then (some (a0_0, a0_1, a0_2, a0_3, a2, true)) else (if a2 < 0 then (lockstitchref04_with.j0 k a1 a2 true a0_0 a0_1 a0_2 a0_3 a0_4) else (lockstitchref04_with.j0 k a1 a2 (decide (a2 > 255)) a0_0 a0_1 a0_2 a0_3 a0_4))) = some (r1, r2, r3, r4, r5, r6) := h; clear h; by_cases c4 : a1 = 110
  · rw [if_pos c4] at H; have c4b0 : (a1 == 110) = true := beq_iff_eq.mpr c4; have c4b1 : (a1 != 110) = false := bne_eq_false_iff_eq.mpr c4; clear c4; simp only [Option.some.injEq, Prod.mk.injEq] at H; obtain ⟨rfl, rfl, rfl, rfl, rfl, rfl⟩ := H
    go_enter Tryd.func79, Tryd.ntmps79
    go_wp2_with (first | ((with_reducible refine gate_dst (N := 3) rfl ?_); refine box_event ?hg (N := 3) ?hd (cs := #[.int .u8 a0_0, .int .u8 a0_1, .int .u8 a0_2, .int .u8 a0_3, .int .i64 a0_4]) (t := 47) ?hr ?_; (case hd => rfl); (case hg => rfl); (case hr => first | (go_simp; done) | (go_simp; rfl)); intro gb116 hg w5 hbox hb; have n0_ := Aside0.mk (below_step hB97 hb); have n1_ := Aside0.mk (hbox); have n2_ := Aside0.mk ((by rw [hg]; exact (below_size hB97) : w.heap.size ≤ gb116)); have n3_ := Aside0.mk ((by rw [hg]; exact (below_size hB97) : w.heap.size ≤ gb116)); clear HB; have HB := n0_; have BK116 := n1_; have GW116 := n2_; have GE116 := n3_; clear n0_ n1_ n2_ n3_; clear hb hbox hg) | ((with_reducible refine gate_dst (N := 6) rfl ?_); refine box_event ?hg (N := 6) ?hd (cs := #[.int .u8 0, .int .u8 0, .int .u8 0, .int .u8 0, .int .i64 0]) (t := 47) ?hr ?_; (case hd => rfl); (case hg => rfl); (case hr => first | (go_simp; done) | (go_simp; rfl)); intro gb117 hg w6 hbox hb; have n0_ := Aside0.mk (blk_below (g := gb116) (o := .cells #[.int .u8 a0_0, .int .u8 a0_1, .int .u8 a0_2, .int .u8 a0_3, .int .i64 a0_4] 47 (0, 0)) hB44 hb); have n1_ := Aside0.mk (below_step hB79 hb); have n2_ := Aside0.mk (hbox); have n3_ := Aside0.mk ((by rw [hg]; exact (below_size hB79) : w.heap.size ≤ gb117)); have n4_ := Aside0.mk ((by rw [hg]; exact (below_size hB79) : w.heap.size ≤ gb117)); have n5_ := Aside0.mk ((by rw [hg]; exact Nat.ne_of_lt (blk_lt (g := gb116) (o := .cells #[.int .u8 a0_0, .int .u8 a0_1, .int .u8 a0_2, .int .u8 a0_3, .int .i64 a0_4] 47 (0, 0)) hB44) : gb116 ≠ gb117)); have n6_ := Aside0.mk ((by rw [hg]; exact Nat.ne_of_gt (blk_lt (g := gb116) (o := .cells #[.int .u8 a0_0, .int .u8 a0_1, .int .u8 a0_2, .int .u8 a0_3, .int .i64 a0_4] 47 (0, 0)) hB44) : gb117 ≠ gb116)); clear BK116; clear HB; have BK116 := n0_; have HB := n1_; have BK117 := n2_; have GW117 := n3_; have GE117 := n4_; have NB116_117 := n5_; have NB117_116 := n6_; clear n0_ n1_ n2_ n3_ n4_ n5_ n6_; clear hb hbox hg; have hnb7 := NB116_117.out; have hnc7 := NB117_116.out; have hcz8_0 : w6.cell? ⟨gb116, 0, none⟩ = some (.int .u8 a0_0) := (blk_cell BK116.out 0).trans rfl; have hcz8_1 : w6.cell? ⟨gb116, 1, none⟩ = some (.int .u8 a0_1) := (blk_cell BK116.out 1).trans rfl; have hcz8_2 : w6.cell? ⟨gb116, 2, none⟩ = some (.int .u8 a0_2) := (blk_cell BK116.out 2).trans rfl; have hcz8_3 : w6.cell? ⟨gb116, 3, none⟩ = some (.int .u8 a0_3) := (blk_cell BK116.out 3).trans rfl; have hcz8_4 : w6.cell? ⟨gb116, 4, none⟩ = some (.int .i64 a0_4) := (blk_cell BK116.out 4).trans rfl; have hfz8_0 := blk_frozen BK116.out 0; have hfz8_1 := blk_frozen BK116.out 1; have hfz8_2 := blk_frozen BK116.out 2; have hfz8_3 := blk_frozen BK116.out 3; have hfz8_4 := blk_frozen BK116.out 4; have hcz9_0 : w6.cell? ⟨gb117, 0, none⟩ = some (.int .u8 0) := (blk_cell BK117.out 0).trans rfl; have hcz9_1 : w6.cell? ⟨gb117, 1, none⟩ = some (.int .u8 0) := (blk_cell BK117.out 1).trans rfl; have hcz9_2 : w6.cell? ⟨gb117, 2, none⟩ = some (.int .u8 0) := (blk_cell BK117.out 2).trans rfl; have hcz9_3 : w6.cell? ⟨gb117, 3, none⟩ = some (.int .u8 0) := (blk_cell BK117.out 3).trans rfl; have hcz9_4 : w6.cell? ⟨gb117, 4, none⟩ = some (.int .i64 0) := (blk_cell BK117.out 4).trans rfl; have hfz9_0 := blk_frozen BK117.out 0; have hfz9_1 := blk_frozen BK117.out 1; have hfz9_2 := blk_frozen BK117.out 2; have hfz9_3 := blk_frozen BK117.out 3; have hfz9_4 := blk_frozen BK117.out 4))
    refine bodyPost_ret (results_ct rfl _ _ gb117 47 #[.int .u8 a0_0, .int .u8 a0_1, .int .u8 a0_2, .int .u8 a0_3, .int .i64 a2] (0, 0) _ rfl (by (with_reducible repeat (first | refine blk_drewN ?_ _ | refine blk_drew ?_ | refine blk_alloc ?_ _)); refine blk_put (cs := #[.int .u8 a0_0, .int .u8 a0_1, .int .u8 a0_2, .int .u8 a0_3, .int .i64 0]) ?_ 4 _ rfl; (with_reducible repeat (first | refine blk_drewN ?_ _ | refine blk_drew ?_ | refine blk_alloc ?_ _)); refine blk_put (cs := #[.int .u8 a0_0, .int .u8 a0_1, .int .u8 a0_2, .int .u8 0, .int .i64 0]) ?_ 3 _ rfl; (with_reducible repeat (first | refine blk_drewN ?_ _ | refine blk_drew ?_ | refine blk_alloc ?_ _)); refine blk_put (cs := #[.int .u8 a0_0, .int .u8 a0_1, .int .u8 0, .int .u8 0, .int .i64 0]) ?_ 2 _ rfl; (with_reducible repeat (first | refine blk_drewN ?_ _ | refine blk_drew ?_ | refine blk_alloc ?_ _)); refine blk_put (cs := #[.int .u8 a0_0, .int .u8 0, .int .u8 0, .int .u8 0, .int .i64 0]) ?_ 1 _ rfl; (with_reducible repeat (first | refine blk_drewN ?_ _ | refine blk_drew ?_ | refine blk_alloc ?_ _)); refine blk_put (cs := #[.int .u8 0, .int .u8 0, .int .u8 0, .int .u8 0, .int .i64 0]) ?_ 0 _ rfl; (with_reducible repeat (first | refine blk_drewN ?_ _ | refine blk_drew ?_ | refine blk_alloc ?_ _)); refine blk_far ?_ NB117_116.out _; (with_reducible repeat (first | refine blk_drewN ?_ _ | refine blk_drew ?_ | refine blk_alloc ?_ _)); exact BK117.out) Tryd.underlying47 rfl (by kernel_rfl)) rfl ?_; exact ⟨by first | rfl | (simp [errW_none, errW_some] <;> rfl) | (simp [*, errW_none, errW_some] <;> rfl), hB78⟩
  rw [if_neg c4] at H; have c4b0 : (a1 == 110) = false := beq_eq_false_iff_ne.mpr c4; have c4b1 : (a1 != 110) = true := bne_iff_ne.mpr c4; have HC10 := Aside0.mk H; clear H
  go_enter Tryd.func79, Tryd.ntmps79
  go_upto_region 4 with (first | ((with_reducible refine gate_dst (N := 3) rfl ?_); refine box_event ?hg (N := 3) ?hd (cs := #[.int .u8 a0_0, .int .u8 a0_1, .int .u8 a0_2, .int .u8 a0_3, .int .i64 a0_4]) (t := 47) ?hr ?_; (case hd => rfl); (case hg => rfl); (case hr => first | (go_simp; done) | (go_simp; rfl)); intro gb116 hg w11 hbox hb; have n0_ := Aside0.mk (below_step hB97 hb); have n1_ := Aside0.mk (hbox); have n2_ := Aside0.mk ((by rw [hg]; exact (below_size hB97) : w.heap.size ≤ gb116)); have n3_ := Aside0.mk ((by rw [hg]; exact (below_size hB97) : w.heap.size ≤ gb116)); clear HB; have HB := n0_; have BK116 := n1_; have GW116 := n2_; have GE116 := n3_; clear n0_ n1_ n2_ n3_; clear hb hbox hg) | ((with_reducible refine gate_dst (N := 6) rfl ?_); refine box_event ?hg (N := 6) ?hd (cs := #[.int .u8 0, .int .u8 0, .int .u8 0, .int .u8 0, .int .i64 0]) (t := 47) ?hr ?_; (case hd => rfl); (case hg => rfl); (case hr => first | (go_simp; done) | (go_simp; rfl)); intro gb117 hg w12 hbox hb; have n0_ := Aside0.mk (blk_below (g := gb116) (o := .cells #[.int .u8 a0_0, .int .u8 a0_1, .int .u8 a0_2, .int .u8 a0_3, .int .i64 a0_4] 47 (0, 0)) hB44 hb); have n1_ := Aside0.mk (below_step hB79 hb); have n2_ := Aside0.mk (hbox); have n3_ := Aside0.mk ((by rw [hg]; exact (below_size hB79) : w.heap.size ≤ gb117)); have n4_ := Aside0.mk ((by rw [hg]; exact (below_size hB79) : w.heap.size ≤ gb117)); have n5_ := Aside0.mk ((by rw [hg]; exact Nat.ne_of_lt (blk_lt (g := gb116) (o := .cells #[.int .u8 a0_0, .int .u8 a0_1, .int .u8 a0_2, .int .u8 a0_3, .int .i64 a0_4] 47 (0, 0)) hB44) : gb116 ≠ gb117)); have n6_ := Aside0.mk ((by rw [hg]; exact Nat.ne_of_gt (blk_lt (g := gb116) (o := .cells #[.int .u8 a0_0, .int .u8 a0_1, .int .u8 a0_2, .int .u8 a0_3, .int .i64 a0_4] 47 (0, 0)) hB44) : gb117 ≠ gb116)); clear BK116; clear HB; have BK116 := n0_; have HB := n1_; have BK117 := n2_; have GW117 := n3_; have GE117 := n4_; have NB116_117 := n5_; have NB117_116 := n6_; clear n0_ n1_ n2_ n3_ n4_ n5_ n6_; clear hb hbox hg))
  (try simp only [Act.put, List.setIfInBounds_toArray, List.set_cons_zero, List.set_cons_succ])
  go_cut [18] (fun v18 wc => ∃ (kq : Nat) (x18_9 : Bool), v18 = .bool x18_9 ∧ Aside0 (lockstitchref04_with.j0 kq a1 a2 x18_9 a0_0 a0_1 a0_2 a0_3 a0_4 = some (r1, r2, r3, r4, r5, r6)) ∧ Aside0 (kq ≤ k) ∧ Aside0 (wc.heap[gb116]? = some (.cells #[.int .u8 a0_0, .int .u8 a0_1, .int .u8 a0_2, .int .u8 a0_3, .int .i64 a0_4] 47 (0, 0))) ∧ Aside0 (wc.heap[gb117]? = some (.cells #[.int .u8 0, .int .u8 0, .int .u8 0, .int .u8 0, .int .i64 0] 47 (0, 0))) ∧ Aside0 (Below w.heap.size w wc))
  case first =>
    have H := HC10.out; clear HC10; by_cases c13 : a2 < 0
    rotate_left
    · rw [if_neg c13] at H; have c13b0 : decide (a2 < 0) = false := decide_eq_false c13; clear c13
      (first | rw [c13b0] | (simp only [i64_w, i32_w]; rw [c13b0]) | skip)
      have H' := Aside0.mk H; clear H; go_wp2; go_meet
      case rel => exact ⟨_, (decide (a2 > 255)), hB64, H', ⟨by first | omega | exact Nat.le_refl _⟩, ⟨hB44⟩, ⟨hB45⟩, ⟨hB78⟩⟩
    rw [if_pos c13] at H; have c13b0 : decide (a2 < 0) = true := decide_eq_true c13; clear c13
    (first | rw [c13b0] | (simp only [i64_w, i32_w]; rw [c13b0]) | skip)
    have H' := Aside0.mk H; clear H; go_wp2; go_meet
    case rel => exact ⟨_, (true), hB64, H', ⟨by first | omega | exact Nat.le_refl _⟩, ⟨hB44⟩, ⟨hB45⟩, ⟨hB78⟩⟩
  case rest =>
    clear HC10; (try clear c1); (try clear p2); (try clear c4); (try clear c4b0); (try clear c4b1); (try clear c7); (try clear c13); (try clear c13b0); (try clear hcz8_0); (try clear hcz8_1); (try clear hcz8_2); (try clear hcz8_3); (try clear hcz8_4); (try clear hcz9_0); (try clear hcz9_1); (try clear hcz9_2); (try clear hcz9_3); (try clear hcz9_4); (try clear hfz8_0); (try clear hfz8_1); (try clear hfz8_2); (try clear hfz8_3); (try clear hfz8_4); (try clear hfz9_0); (try clear hfz9_1); (try clear hfz9_2); (try clear hfz9_3); (try clear hfz9_4); obtain ⟨kq, x18_9, rfl, HA, HJ9, BK116, BK117, HB⟩ := hcut
    cases kq with
    | zero => exact absurd HA.out (by simp [lockstitchref04_with.j0])
    | succ kj9 =>
      have H := HA.out; clear HA; simp only [lockstitchref04_with.j0] at H; by_cases c14 : x18_9 = true
      · subst c14
        have H1 : (some (a0_0, a0_1, a0_2, a0_3, a0_4, false)) = some (r1, r2, r3, r4, r5, r6) := by rw [if_pos rfl] at H; exact H
        clear H; have H := H1; clear H1; simp only [Option.some.injEq, Prod.mk.injEq] at H; obtain ⟨rfl, rfl, rfl, rfl, rfl, rfl⟩ := H; have hnb15 := NB116_117.out; have hnc15 := NB117_116.out; have hcz16_0 : wc.cell? ⟨gb116, 0, none⟩ = some (.int .u8 a0_0) := (blk_cell BK116.out 0).trans rfl; have hcz16_1 : wc.cell? ⟨gb116, 1, none⟩ = some (.int .u8 a0_1) := (blk_cell BK116.out 1).trans rfl; have hcz16_2 : wc.cell? ⟨gb116, 2, none⟩ = some (.int .u8 a0_2) := (blk_cell BK116.out 2).trans rfl; have hcz16_3 : wc.cell? ⟨gb116, 3, none⟩ = some (.int .u8 a0_3) := (blk_cell BK116.out 3).trans rfl; have hcz16_4 : wc.cell? ⟨gb116, 4, none⟩ = some (.int .i64 a0_4) := (blk_cell BK116.out 4).trans rfl; have hfz16_0 := blk_frozen BK116.out 0; have hfz16_1 := blk_frozen BK116.out 1; have hfz16_2 := blk_frozen BK116.out 2; have hfz16_3 := blk_frozen BK116.out 3; have hfz16_4 := blk_frozen BK116.out 4; have hcz17_0 : wc.cell? ⟨gb117, 0, none⟩ = some (.int .u8 0) := (blk_cell BK117.out 0).trans rfl; have hcz17_1 : wc.cell? ⟨gb117, 1, none⟩ = some (.int .u8 0) := (blk_cell BK117.out 1).trans rfl; have hcz17_2 : wc.cell? ⟨gb117, 2, none⟩ = some (.int .u8 0) := (blk_cell BK117.out 2).trans rfl; have hcz17_3 : wc.cell? ⟨gb117, 3, none⟩ = some (.int .u8 0) := (blk_cell BK117.out 3).trans rfl; have hcz17_4 : wc.cell? ⟨gb117, 4, none⟩ = some (.int .i64 0) := (blk_cell BK117.out 4).trans rfl; have hfz17_0 := blk_frozen BK117.out 0; have hfz17_1 := blk_frozen BK117.out 1; have hfz17_2 := blk_frozen BK117.out 2; have hfz17_3 := blk_frozen BK117.out 3; have hfz17_4 := blk_frozen BK117.out 4; go_wp2; refine bodyPost_ret (results_ct rfl _ _ gb117 47 #[.int .u8 a0_0, .int .u8 a0_1, .int .u8 a0_2, .int .u8 a0_3, .int .i64 a0_4] (0, 0) _ rfl (by (with_reducible repeat (first | refine blk_drewN ?_ _ | refine blk_drew ?_ | refine blk_alloc ?_ _)); refine blk_put (cs := #[.int .u8 a0_0, .int .u8 a0_1, .int .u8 a0_2, .int .u8 a0_3, .int .i64 0]) ?_ 4 _ rfl; (with_reducible repeat (first | refine blk_drewN ?_ _ | refine blk_drew ?_ | refine blk_alloc ?_ _)); refine blk_put (cs := #[.int .u8 a0_0, .int .u8 a0_1, .int .u8 a0_2, .int .u8 0, .int .i64 0]) ?_ 3 _ rfl; (with_reducible repeat (first | refine blk_drewN ?_ _ | refine blk_drew ?_ | refine blk_alloc ?_ _)); refine blk_put (cs := #[.int .u8 a0_0, .int .u8 a0_1, .int .u8 0, .int .u8 0, .int .i64 0]) ?_ 2 _ rfl; (with_reducible repeat (first | refine blk_drewN ?_ _ | refine blk_drew ?_ | refine blk_alloc ?_ _)); refine blk_put (cs := #[.int .u8 a0_0, .int .u8 0, .int .u8 0, .int .u8 0, .int .i64 0]) ?_ 1 _ rfl; (with_reducible repeat (first | refine blk_drewN ?_ _ | refine blk_drew ?_ | refine blk_alloc ?_ _)); refine blk_put (cs := #[.int .u8 0, .int .u8 0, .int .u8 0, .int .u8 0, .int .i64 0]) ?_ 0 _ rfl; (with_reducible repeat (first | refine blk_drewN ?_ _ | refine blk_drew ?_ | refine blk_alloc ?_ _)); exact BK117.out) Tryd.underlying47 rfl (by kernel_rfl)) rfl ?_; exact ⟨by first | rfl | (simp [errW_none, errW_some] <;> rfl) | (simp [*, errW_none, errW_some] <;> rfl), hB78⟩
      replace c14 := Bool.eq_false_iff.mpr c14; subst c14
      have H1 : (if a1 = 97 then (some (a0_0, (a2) % 256, a0_2, a0_3, a0_4, true)) else (if a1 = 98 then (some (a0_0, a0_1, (a2) % 256, a0_3, a0_4, true)) else (some (a0_0, a0_1, a0_2, (a2) % 256, a0_4, true)))) = some (r1, r2, r3, r4, r5, r6) := by rw [if_neg (show ¬ (false = true) by decide)] at H; exact H
      clear H; have H := H1; clear H1; by_cases c18 : a1 = 97
      · rw [if_pos c18] at H; have c18b0 : (a1 == 97) = true := beq_iff_eq.mpr c18; have c18b1 : (a1 != 97) = false := bne_eq_false_iff_eq.mpr c18; clear c18; simp only [Option.some.injEq, Prod.mk.injEq] at H; obtain ⟨rfl, rfl, rfl, rfl, rfl, rfl⟩ := H; have hnb19 := NB116_117.out; have hnc19 := NB117_116.out; have hcz20_0 : wc.cell? ⟨gb116, 0, none⟩ = some (.int .u8 a0_0) := (blk_cell BK116.out 0).trans rfl; have hcz20_1 : wc.cell? ⟨gb116, 1, none⟩ = some (.int .u8 a0_1) := (blk_cell BK116.out 1).trans rfl; have hcz20_2 : wc.cell? ⟨gb116, 2, none⟩ = some (.int .u8 a0_2) := (blk_cell BK116.out 2).trans rfl; have hcz20_3 : wc.cell? ⟨gb116, 3, none⟩ = some (.int .u8 a0_3) := (blk_cell BK116.out 3).trans rfl; have hcz20_4 : wc.cell? ⟨gb116, 4, none⟩ = some (.int .i64 a0_4) := (blk_cell BK116.out 4).trans rfl; have hfz20_0 := blk_frozen BK116.out 0; have hfz20_1 := blk_frozen BK116.out 1; have hfz20_2 := blk_frozen BK116.out 2; have hfz20_3 := blk_frozen BK116.out 3; have hfz20_4 := blk_frozen BK116.out 4; have hcz21_0 : wc.cell? ⟨gb117, 0, none⟩ = some (.int .u8 0) := (blk_cell BK117.out 0).trans rfl; have hcz21_1 : wc.cell? ⟨gb117, 1, none⟩ = some (.int .u8 0) := (blk_cell BK117.out 1).trans rfl; have hcz21_2 : wc.cell? ⟨gb117, 2, none⟩ = some (.int .u8 0) := (blk_cell BK117.out 2).trans rfl; have hcz21_3 : wc.cell? ⟨gb117, 3, none⟩ = some (.int .u8 0) := (blk_cell BK117.out 3).trans rfl; have hcz21_4 : wc.cell? ⟨gb117, 4, none⟩ = some (.int .i64 0) := (blk_cell BK117.out 4).trans rfl; have hfz21_0 := blk_frozen BK117.out 0; have hfz21_1 := blk_frozen BK117.out 1; have hfz21_2 := blk_frozen BK117.out 2; have hfz21_3 := blk_frozen BK117.out 3; have hfz21_4 := blk_frozen BK117.out 4; go_wp2; refine bodyPost_ret (results_ct rfl _ _ gb117 47 #[.int .u8 a0_0, .int .u8 ((a2) % 256), .int .u8 a0_2, .int .u8 a0_3, .int .i64 a0_4] (0, 0) _ rfl (by (with_reducible repeat (first | refine blk_drewN ?_ _ | refine blk_drew ?_ | refine blk_alloc ?_ _)); refine blk_put (cs := #[.int .u8 a0_0, .int .u8 ((a2) % 256), .int .u8 a0_2, .int .u8 a0_3, .int .i64 0]) ?_ 4 _ rfl; (with_reducible repeat (first | refine blk_drewN ?_ _ | refine blk_drew ?_ | refine blk_alloc ?_ _)); refine blk_put (cs := #[.int .u8 a0_0, .int .u8 ((a2) % 256), .int .u8 a0_2, .int .u8 0, .int .i64 0]) ?_ 3 _ rfl; (with_reducible repeat (first | refine blk_drewN ?_ _ | refine blk_drew ?_ | refine blk_alloc ?_ _)); refine blk_put (cs := #[.int .u8 a0_0, .int .u8 ((a2) % 256), .int .u8 0, .int .u8 0, .int .i64 0]) ?_ 2 _ rfl; (with_reducible repeat (first | refine blk_drewN ?_ _ | refine blk_drew ?_ | refine blk_alloc ?_ _)); refine blk_put (cs := #[.int .u8 a0_0, .int .u8 0, .int .u8 0, .int .u8 0, .int .i64 0]) ?_ 1 _ rfl; (with_reducible repeat (first | refine blk_drewN ?_ _ | refine blk_drew ?_ | refine blk_alloc ?_ _)); refine blk_put (cs := #[.int .u8 0, .int .u8 0, .int .u8 0, .int .u8 0, .int .i64 0]) ?_ 0 _ rfl; (with_reducible repeat (first | refine blk_drewN ?_ _ | refine blk_drew ?_ | refine blk_alloc ?_ _)); refine blk_far ?_ NB117_116.out _; (with_reducible repeat (first | refine blk_drewN ?_ _ | refine blk_drew ?_ | refine blk_alloc ?_ _)); exact BK117.out) Tryd.underlying47 rfl (by kernel_rfl)) rfl ?_; exact ⟨by first | rfl | (simp [errW_none, errW_some] <;> rfl) | (simp [*, errW_none, errW_some] <;> rfl), hB78⟩
      rw [if_neg c18] at H; have c18b0 : (a1 == 97) = false := beq_eq_false_iff_ne.mpr c18; have c18b1 : (a1 != 97) = true := bne_iff_ne.mpr c18; by_cases c22 : a1 = 98
      rotate_left
      · rw [if_neg c22] at H; have c22b0 : (a1 == 98) = false := beq_eq_false_iff_ne.mpr c22; have c22b1 : (a1 != 98) = true := bne_iff_ne.mpr c22; simp only [Option.some.injEq, Prod.mk.injEq] at H; obtain ⟨rfl, rfl, rfl, rfl, rfl, rfl⟩ := H; have hnb26 := NB116_117.out; have hnc26 := NB117_116.out; have hcz27_0 : wc.cell? ⟨gb116, 0, none⟩ = some (.int .u8 a0_0) := (blk_cell BK116.out 0).trans rfl; have hcz27_1 : wc.cell? ⟨gb116, 1, none⟩ = some (.int .u8 a0_1) := (blk_cell BK116.out 1).trans rfl; have hcz27_2 : wc.cell? ⟨gb116, 2, none⟩ = some (.int .u8 a0_2) := (blk_cell BK116.out 2).trans rfl; have hcz27_3 : wc.cell? ⟨gb116, 3, none⟩ = some (.int .u8 a0_3) := (blk_cell BK116.out 3).trans rfl; have hcz27_4 : wc.cell? ⟨gb116, 4, none⟩ = some (.int .i64 a0_4) := (blk_cell BK116.out 4).trans rfl; have hfz27_0 := blk_frozen BK116.out 0; have hfz27_1 := blk_frozen BK116.out 1; have hfz27_2 := blk_frozen BK116.out 2; have hfz27_3 := blk_frozen BK116.out 3; have hfz27_4 := blk_frozen BK116.out 4; have hcz28_0 : wc.cell? ⟨gb117, 0, none⟩ = some (.int .u8 0) := (blk_cell BK117.out 0).trans rfl; have hcz28_1 : wc.cell? ⟨gb117, 1, none⟩ = some (.int .u8 0) := (blk_cell BK117.out 1).trans rfl; have hcz28_2 : wc.cell? ⟨gb117, 2, none⟩ = some (.int .u8 0) := (blk_cell BK117.out 2).trans rfl; have hcz28_3 : wc.cell? ⟨gb117, 3, none⟩ = some (.int .u8 0) := (blk_cell BK117.out 3).trans rfl; have hcz28_4 : wc.cell? ⟨gb117, 4, none⟩ = some (.int .i64 0) := (blk_cell BK117.out 4).trans rfl; have hfz28_0 := blk_frozen BK117.out 0; have hfz28_1 := blk_frozen BK117.out 1; have hfz28_2 := blk_frozen BK117.out 2; have hfz28_3 := blk_frozen BK117.out 3; have hfz28_4 := blk_frozen BK117.out 4; go_wp2; refine bodyPost_ret (results_ct rfl _ _ gb117 47 #[.int .u8 a0_0, .int .u8 a0_1, .int .u8 a0_2, .int .u8 ((a2) % 256), .int .i64 a0_4] (0, 0) _ rfl (by (with_reducible repeat (first | refine blk_drewN ?_ _ | refine blk_drew ?_ | refine blk_alloc ?_ _)); refine blk_put (cs := #[.int .u8 a0_0, .int .u8 a0_1, .int .u8 a0_2, .int .u8 ((a2) % 256), .int .i64 0]) ?_ 4 _ rfl; (with_reducible repeat (first | refine blk_drewN ?_ _ | refine blk_drew ?_ | refine blk_alloc ?_ _)); refine blk_put (cs := #[.int .u8 a0_0, .int .u8 a0_1, .int .u8 a0_2, .int .u8 0, .int .i64 0]) ?_ 3 _ rfl; (with_reducible repeat (first | refine blk_drewN ?_ _ | refine blk_drew ?_ | refine blk_alloc ?_ _)); refine blk_put (cs := #[.int .u8 a0_0, .int .u8 a0_1, .int .u8 0, .int .u8 0, .int .i64 0]) ?_ 2 _ rfl; (with_reducible repeat (first | refine blk_drewN ?_ _ | refine blk_drew ?_ | refine blk_alloc ?_ _)); refine blk_put (cs := #[.int .u8 a0_0, .int .u8 0, .int .u8 0, .int .u8 0, .int .i64 0]) ?_ 1 _ rfl; (with_reducible repeat (first | refine blk_drewN ?_ _ | refine blk_drew ?_ | refine blk_alloc ?_ _)); refine blk_put (cs := #[.int .u8 0, .int .u8 0, .int .u8 0, .int .u8 0, .int .i64 0]) ?_ 0 _ rfl; (with_reducible repeat (first | refine blk_drewN ?_ _ | refine blk_drew ?_ | refine blk_alloc ?_ _)); refine blk_far ?_ NB117_116.out _; (with_reducible repeat (first | refine blk_drewN ?_ _ | refine blk_drew ?_ | refine blk_alloc ?_ _)); exact BK117.out) Tryd.underlying47 rfl (by kernel_rfl)) rfl ?_; exact ⟨by first | rfl | (simp [errW_none, errW_some] <;> rfl) | (simp [*, errW_none, errW_some] <;> rfl), hB78⟩
      rw [if_pos c22] at H; have c22b0 : (a1 == 98) = true := beq_iff_eq.mpr c22; have c22b1 : (a1 != 98) = false := bne_eq_false_iff_eq.mpr c22; clear c22; simp only [Option.some.injEq, Prod.mk.injEq] at H; obtain ⟨rfl, rfl, rfl, rfl, rfl, rfl⟩ := H; have hnb23 := NB116_117.out; have hnc23 := NB117_116.out; have hcz24_0 : wc.cell? ⟨gb116, 0, none⟩ = some (.int .u8 a0_0) := (blk_cell BK116.out 0).trans rfl; have hcz24_1 : wc.cell? ⟨gb116, 1, none⟩ = some (.int .u8 a0_1) := (blk_cell BK116.out 1).trans rfl; have hcz24_2 : wc.cell? ⟨gb116, 2, none⟩ = some (.int .u8 a0_2) := (blk_cell BK116.out 2).trans rfl; have hcz24_3 : wc.cell? ⟨gb116, 3, none⟩ = some (.int .u8 a0_3) := (blk_cell BK116.out 3).trans rfl; have hcz24_4 : wc.cell? ⟨gb116, 4, none⟩ = some (.int .i64 a0_4) := (blk_cell BK116.out 4).trans rfl; have hfz24_0 := blk_frozen BK116.out 0; have hfz24_1 := blk_frozen BK116.out 1; have hfz24_2 := blk_frozen BK116.out 2; have hfz24_3 := blk_frozen BK116.out 3; have hfz24_4 := blk_frozen BK116.out 4; have hcz25_0 : wc.cell? ⟨gb117, 0, none⟩ = some (.int .u8 0) := (blk_cell BK117.out 0).trans rfl; have hcz25_1 : wc.cell? ⟨gb117, 1, none⟩ = some (.int .u8 0) := (blk_cell BK117.out 1).trans rfl; have hcz25_2 : wc.cell? ⟨gb117, 2, none⟩ = some (.int .u8 0) := (blk_cell BK117.out 2).trans rfl; have hcz25_3 : wc.cell? ⟨gb117, 3, none⟩ = some (.int .u8 0) := (blk_cell BK117.out 3).trans rfl; have hcz25_4 : wc.cell? ⟨gb117, 4, none⟩ = some (.int .i64 0) := (blk_cell BK117.out 4).trans rfl; have hfz25_0 := blk_frozen BK117.out 0; have hfz25_1 := blk_frozen BK117.out 1; have hfz25_2 := blk_frozen BK117.out 2; have hfz25_3 := blk_frozen BK117.out 3; have hfz25_4 := blk_frozen BK117.out 4; go_wp2; refine bodyPost_ret (results_ct rfl _ _ gb117 47 #[.int .u8 a0_0, .int .u8 a0_1, .int .u8 ((a2) % 256), .int .u8 a0_3, .int .i64 a0_4] (0, 0) _ rfl (by (with_reducible repeat (first | refine blk_drewN ?_ _ | refine blk_drew ?_ | refine blk_alloc ?_ _)); refine blk_put (cs := #[.int .u8 a0_0, .int .u8 a0_1, .int .u8 ((a2) % 256), .int .u8 a0_3, .int .i64 0]) ?_ 4 _ rfl; (with_reducible repeat (first | refine blk_drewN ?_ _ | refine blk_drew ?_ | refine blk_alloc ?_ _)); refine blk_put (cs := #[.int .u8 a0_0, .int .u8 a0_1, .int .u8 ((a2) % 256), .int .u8 0, .int .i64 0]) ?_ 3 _ rfl; (with_reducible repeat (first | refine blk_drewN ?_ _ | refine blk_drew ?_ | refine blk_alloc ?_ _)); refine blk_put (cs := #[.int .u8 a0_0, .int .u8 a0_1, .int .u8 0, .int .u8 0, .int .i64 0]) ?_ 2 _ rfl; (with_reducible repeat (first | refine blk_drewN ?_ _ | refine blk_drew ?_ | refine blk_alloc ?_ _)); refine blk_put (cs := #[.int .u8 a0_0, .int .u8 0, .int .u8 0, .int .u8 0, .int .i64 0]) ?_ 1 _ rfl; (with_reducible repeat (first | refine blk_drewN ?_ _ | refine blk_drew ?_ | refine blk_alloc ?_ _)); refine blk_put (cs := #[.int .u8 0, .int .u8 0, .int .u8 0, .int .u8 0, .int .i64 0]) ?_ 0 _ rfl; (with_reducible repeat (first | refine blk_drewN ?_ _ | refine blk_drew ?_ | refine blk_alloc ?_ _)); refine blk_far ?_ NB117_116.out _; (with_reducible repeat (first | refine blk_drewN ?_ _ | refine blk_drew ?_ | refine blk_alloc ?_ _)); exact BK117.out) Tryd.underlying47 rfl (by kernel_rfl)) rfl ?_; exact ⟨by first | rfl | (simp [errW_none, errW_some] <;> rfl) | (simp [*, errW_none, errW_some] <;> rfl), hB78⟩
end Go.Proofs.YtkplgfhkebkaaaaDoor.F

namespace Go.Proofs.YtkplgfhkebkaaaaDoor.F
open Go.RowKit Go.Proofs.YtkplgfhkebkaaaaDoorW.PrintWords Go.Proofs.YtkplgfhkebkaaaaDoorW.PrintLast Go.Proofs.YtkplgfhkebkaaaaDoorW.PrintMore
attribute [local go_sem] max2_int min2_int max_two min_two max_three min_three max_four min_four
set_option linter.unusedVariables false
set_option linter.unusedSimpArgs false
mutual
def lockstitchref04_read.l0 : Nat → List ByteArray → Int → Option (Int × Int × Int × Int × Int × Bool)
  | 0, _, _ => none
  | k + 1, x0, x4 => if x4 ≤ 15 then ((lockstitchref04_shape.f x4).bind fun bt119 => (if 0 < (x0.length : Int) then (if (rdOf ByteArray.empty x0 0).toList = bt119.1.toList then (lockstitchref04_read.j1 k x0 x4 bt119.2 ((x0.length : Int) != (wrap64 ((bt119.2.size : Int) + 1)))) else (lockstitchref04_read.j1 k x0 x4 bt119.2 true)) else (none))) else (some (0, 0, 0, 0, 0, false))
def lockstitchref04_read.j1 : Nat → List ByteArray → Int → ByteArray → Bool → Option (Int × Int × Int × Int × Int × Bool)
  | 0, _, _, _, _ => none
  | k + 1, x0, x4, x6, x34 => if x34 = true then (lockstitchref04_read.l0 k x0 ((x4 + 1) % 256)) else (lockstitchref04_read.l1 k x0 x6 0 x4 0 0 0 0)
def lockstitchref04_read.l1 : Nat → List ByteArray → ByteArray → Int → Int → Int → Int → Int → Int → Option (Int × Int × Int × Int × Int × Bool)
  | 0, _, _, _, _, _, _, _, _ => none
  | k + 1, x0, x6, x8, x123000, x123001, x123002, x123003, x123004 => if x8 < (x6.size : Int) then (if 0 ≤ (wrap64 (x8 + 1)) then (if (wrap64 (x8 + 1)) < (x0.length : Int) then ((lockstitchref02_Number.f k (rdOf ByteArray.empty x0 (wrap64 (x8 + 1)))).bind fun bt124 => (if 0 ≤ x8 then ((lockstitchref04_with.f k x123000 x123001 x123002 x123003 x123004 (bt x6 x8) bt124.1).bind fun bt126 => (if bt124.2 = 0 then (if bt126.2.2.2.2.2 = true then (lockstitchref04_read.l1 k x0 x6 (wrap64 (x8 + 1)) bt126.1 bt126.2.1 bt126.2.2.1 bt126.2.2.2.1 bt126.2.2.2.2.1) else (some (0, 0, 0, 0, 0, false))) else (some (0, 0, 0, 0, 0, false)))) else (none))) else (none)) else (none)) else (some (x123000, x123001, x123002, x123003, x123004, true))
end
def lockstitchref04_read.f (k : Nat) (l0 : List ByteArray) : Option (Int × Int × Int × Int × Int × Bool) := lockstitchref04_read.l0 k l0 1
theorem lockstitchref04_read.mono_l : ∀ k, (∀ y0 y1, LeO (lockstitchref04_read.l0 k y0 y1) (lockstitchref04_read.l0 (k + 1) y0 y1)) ∧ (∀ y0 y1 y2 y3, LeO (lockstitchref04_read.j1 k y0 y1 y2 y3) (lockstitchref04_read.j1 (k + 1) y0 y1 y2 y3)) ∧ (∀ y0 y1 y2 y3 y4 y5 y6 y7, LeO (lockstitchref04_read.l1 k y0 y1 y2 y3 y4 y5 y6 y7) (lockstitchref04_read.l1 (k + 1) y0 y1 y2 y3 y4 y5 y6 y7))
  | 0 => ⟨fun _ _ r h => by simp [lockstitchref04_read.l0] at h, fun _ _ _ _ r h => by simp [lockstitchref04_read.j1] at h, fun _ _ _ _ _ _ _ _ r h => by simp [lockstitchref04_read.l1] at h⟩
  | k + 1 => by
    obtain ⟨ih0, ih1, ih2⟩ := lockstitchref04_read.mono_l k; refine ⟨?_, ?_, ?_⟩
    · intro y0 y1
      unfold lockstitchref04_read.l0
      repeat' first
      | (with_reducible exact ih0 _ _)
      | (with_reducible exact ih1 _ _ _ _)
      | (with_reducible exact ih2 _ _ _ _ _ _ _ _)
      | (with_reducible exact lockstitchref02_Number.mono _ _)
      | (with_reducible exact lockstitchref04_with.mono _ _ _ _ _ _ _ _)
      | (with_reducible exact LeO.refl _)
      | (with_reducible exact LeO.none _)
      | (with_reducible refine LeO.ite ?_ ?_)
      | (with_reducible refine LeO.bind ?_ (fun _ => ?_))
      | exact ih0 _ _
      | exact ih1 _ _ _ _
      | exact ih2 _ _ _ _ _ _ _ _
      | exact lockstitchref02_Number.mono _ _
      | exact lockstitchref04_with.mono _ _ _ _ _ _ _ _
      | exact LeO.none _
      | refine LeO.ite ?_ ?_
      | refine LeO.bind ?_ (fun _ => ?_)
    · intro y0 y1 y2 y3
      unfold lockstitchref04_read.j1
      repeat' first
      | (with_reducible exact ih0 _ _)
      | (with_reducible exact ih1 _ _ _ _)
      | (with_reducible exact ih2 _ _ _ _ _ _ _ _)
      | (with_reducible exact lockstitchref02_Number.mono _ _)
      | (with_reducible exact lockstitchref04_with.mono _ _ _ _ _ _ _ _)
      | (with_reducible exact LeO.refl _)
      | (with_reducible exact LeO.none _)
      | (with_reducible refine LeO.ite ?_ ?_)
      | (with_reducible refine LeO.bind ?_ (fun _ => ?_))
      | exact ih0 _ _
      | exact ih1 _ _ _ _
      | exact ih2 _ _ _ _ _ _ _ _
      | exact lockstitchref02_Number.mono _ _
      | exact lockstitchref04_with.mono _ _ _ _ _ _ _ _
      | exact LeO.none _
      | refine LeO.ite ?_ ?_
      | refine LeO.bind ?_ (fun _ => ?_)
    · intro y0 y1 y2 y3 y4 y5 y6 y7
      unfold lockstitchref04_read.l1
      repeat' first
      | (with_reducible exact ih0 _ _)
      | (with_reducible exact ih1 _ _ _ _)
      | (with_reducible exact ih2 _ _ _ _ _ _ _ _)
      | (with_reducible exact lockstitchref02_Number.mono _ _)
      | (with_reducible exact lockstitchref04_with.mono _ _ _ _ _ _ _ _)
      | (with_reducible exact LeO.refl _)
      | (with_reducible exact LeO.none _)
      | (with_reducible refine LeO.ite ?_ ?_)
      | (with_reducible refine LeO.bind ?_ (fun _ => ?_))
      | exact ih0 _ _
      | exact ih1 _ _ _ _
      | exact ih2 _ _ _ _ _ _ _ _
      | exact lockstitchref02_Number.mono _ _
      | exact lockstitchref04_with.mono _ _ _ _ _ _ _ _
      | exact LeO.none _
      | refine LeO.ite ?_ ?_
      | refine LeO.bind ?_ (fun _ => ?_)
theorem lockstitchref04_read.mono : ∀ a0 k, LeO (lockstitchref04_read.f k a0) (lockstitchref04_read.f (k + 1) a0) := by
  intro a0 k; obtain ⟨ih0, ih1, ih2⟩ := lockstitchref04_read.mono_l k
  unfold lockstitchref04_read.f
  repeat' first
      | (with_reducible exact ih0 _ _)
      | (with_reducible exact ih1 _ _ _ _)
      | (with_reducible exact ih2 _ _ _ _ _ _ _ _)
      | (with_reducible exact lockstitchref02_Number.mono _ _)
      | (with_reducible exact lockstitchref04_with.mono _ _ _ _ _ _ _ _)
      | (with_reducible exact LeO.refl _)
      | (with_reducible exact LeO.none _)
      | (with_reducible refine LeO.ite ?_ ?_)
      | (with_reducible refine LeO.bind ?_ (fun _ => ?_))
      | exact ih0 _ _
      | exact ih1 _ _ _ _
      | exact ih2 _ _ _ _ _ _ _ _
      | exact lockstitchref02_Number.mono _ _
      | exact lockstitchref04_with.mono _ _ _ _ _ _ _ _
      | exact LeO.none _
      | refine LeO.ite ?_ ?_
      | refine LeO.bind ?_ (fun _ => ?_)
def lockstitchref04_read.T11 : Bool × List (List Nat × List Nat) := (true, [([], []), ([], []), ([], []), ([1, 2], [1, 2]), ([], []), ([0, 3, 4], [0, 3, 4]), ([5], [5]), ([6], [6]), ([6], [6]), ([], []), ([9, 7, 5, 0, 1, 2, 3, 4, 5, 6, 7, 9], [7, 9]), ([8, 10, 0, 1, 2, 3, 4, 5, 6, 7, 8, 9, 10], [8])])
def lockstitchref04_read.B11 : List Nat := [0, 0, 0, 6, 0, 31, 63, 127, 127, 0, 767, 2047]
theorem lockstitchref04_read.tab11 : rtab .any (opsOf Tryd.f53 11) = lockstitchref04_read.T11 := by kernel_rfl
theorem lockstitchref04_read.bits11 : waitsOk lockstitchref04_read.T11.2 lockstitchref04_read.B11 = true := by kernel_rfl
set_option maxHeartbeats 8000000 in
set_option maxRecDepth 100000 in
theorem lockstitchref04_read.calls (k : Nat) (A0 : Option Addr) (c0 : Nat) (l0 : List ByteArray) (r1 : Int) (r2 : Int) (r3 : Int) (r4 : Int) (r5 : Int) (r6 : Bool) (w : World) (hr0 : Kd.C Kd.string w A0 l0.length l0) (hc0 : l0.length ≤ c0) (h : lockstitchref04_read.f k l0 = some (r1, r2, r3, r4, r5, r6)) :
    Calls Tryd.prog 53 #[.slice A0 l0.length c0] w fun e w' => e = .returned (.tuple #[.agg #[.int .u8 r1, .int .u8 r2, .int .u8 r3, .int .u8 r4, .int .i64 r5], .bool r6]) ∧ Below w.heap.size w w' := by
  have hu47 := Tryd.underlying47; have HR0 := Aside0.mk hr0; have HC0 := Aside0.mk hc0; clear hr0 hc0; have HB := Aside0.mk (Below.refl w.heap.size w); have H : (lockstitchref04_read.l0 k l0 1) = some (r1, r2, r3, r4, r5, r6) := h; clear h; have H' := Aside0.mk H; clear H
  go_enter Tryd.func53, Tryd.ntmps53
  go_wp2_with (first | ((with_reducible refine gate_dst (N := 2) rfl ?_); (try (refine gate_guard (by rfl) ?_; dsimp only)); refine box_event ?hg (N := 2) ?hd (cs := #[.int .u8 0, .int .u8 0, .int .u8 0, .int .u8 0, .int .i64 0]) (t := 47) ?hr ?_; (case hd => rfl); (case hg => rfl); (case hr => first | (go_simp; done) | (go_simp; rfl)); intro gb118 hg w2 hbox hb; have n0_ := Aside0.mk (below_step hB97 hb); have n1_ := Aside0.mk (hbox); have n2_ := Aside0.mk ((by rw [hg]; exact (below_size hB97) : w.heap.size ≤ gb118)); have n3_ := Aside0.mk ((by rw [hg]; exact (below_size hB97) : w.heap.size ≤ gb118)); clear HB; have HB := n0_; have BK118 := n1_; have GW118 := n2_; have GE118 := n3_; clear n0_ n1_ n2_ n3_; clear hb hbox hg))
  go_loopg [4] k (fun kq v4 w' => ∃ (x4_1 : Int) (x119000_1 : Int) (x119001_1 : Int) (x119002_1 : Int) (x119003_1 : Int) (x119004_1 : Int), v4 = .int .u8 x4_1 ∧ Aside0 (lockstitchref04_read.l0 kq l0 x4_1 = some (r1, r2, r3, r4, r5, r6)) ∧ Aside0 (kq ≤ k) ∧ Aside0 (w'.heap[gb118]? = some (.cells #[.int .u8 x119000_1, .int .u8 x119001_1, .int .u8 x119002_1, .int .u8 x119003_1, .int .i64 x119004_1] 47 (0, 0))) ∧ Aside0 (Below w.heap.size w w'))
  case atStart => exact ⟨(1), (0), (0), (0), (0), (0), hB64, H', ⟨Nat.le_refl _⟩, ⟨hB46⟩, ⟨hB82⟩⟩
  case round =>
    clear H'; (try clear p2); obtain ⟨x4_1, x119000_1, x119001_1, x119002_1, x119003_1, x119004_1, rfl, HA, HK1, BK118, HB⟩ := hrel
    cases gk with
    | zero => exact absurd HA.out (by simp [lockstitchref04_read.l0])
    | succ k1 =>
      have H := HA.out; clear HA; simp only [lockstitchref04_read.l0] at H; by_cases c3 : x4_1 ≤ 15
      rotate_left
      · rw [if_neg c3] at H; have c3b0 : decide (x4_1 ≤ 15) = false := decide_eq_false c3; clear c3; simp only [Option.some.injEq, Prod.mk.injEq] at H; obtain ⟨rfl, rfl, rfl, rfl, rfl, rfl⟩ := H; have hcz63_0 : wr.cell? ⟨gb118, 0, none⟩ = some (.int .u8 x119000_1) := (blk_cell BK118.out 0).trans rfl; have hcz63_1 : wr.cell? ⟨gb118, 1, none⟩ = some (.int .u8 x119001_1) := (blk_cell BK118.out 1).trans rfl; have hcz63_2 : wr.cell? ⟨gb118, 2, none⟩ = some (.int .u8 x119002_1) := (blk_cell BK118.out 2).trans rfl; have hcz63_3 : wr.cell? ⟨gb118, 3, none⟩ = some (.int .u8 x119003_1) := (blk_cell BK118.out 3).trans rfl; have hcz63_4 : wr.cell? ⟨gb118, 4, none⟩ = some (.int .i64 x119004_1) := (blk_cell BK118.out 4).trans rfl; have hfz63_0 := blk_frozen BK118.out 0; have hfz63_1 := blk_frozen BK118.out 1; have hfz63_2 := blk_frozen BK118.out 2; have hfz63_3 := blk_frozen BK118.out 3; have hfz63_4 := blk_frozen BK118.out 4; go_wp2; refine bodyPost_ret (results_ct rfl _ _ gb118 47 #[.int .u8 0, .int .u8 0, .int .u8 0, .int .u8 0, .int .i64 0] (0, 0) _ rfl (by (with_reducible repeat (first | refine blk_drewN ?_ _ | refine blk_drew ?_ | refine blk_alloc ?_ _)); refine blk_put (cs := #[.int .u8 0, .int .u8 0, .int .u8 0, .int .u8 0, .int .i64 x119004_1]) ?_ 4 _ rfl; (with_reducible repeat (first | refine blk_drewN ?_ _ | refine blk_drew ?_ | refine blk_alloc ?_ _)); refine blk_put (cs := #[.int .u8 0, .int .u8 0, .int .u8 0, .int .u8 x119003_1, .int .i64 x119004_1]) ?_ 3 _ rfl; (with_reducible repeat (first | refine blk_drewN ?_ _ | refine blk_drew ?_ | refine blk_alloc ?_ _)); refine blk_put (cs := #[.int .u8 0, .int .u8 0, .int .u8 x119002_1, .int .u8 x119003_1, .int .i64 x119004_1]) ?_ 2 _ rfl; (with_reducible repeat (first | refine blk_drewN ?_ _ | refine blk_drew ?_ | refine blk_alloc ?_ _)); refine blk_put (cs := #[.int .u8 0, .int .u8 x119001_1, .int .u8 x119002_1, .int .u8 x119003_1, .int .i64 x119004_1]) ?_ 1 _ rfl; (with_reducible repeat (first | refine blk_drewN ?_ _ | refine blk_drew ?_ | refine blk_alloc ?_ _)); refine blk_put (cs := #[.int .u8 x119000_1, .int .u8 x119001_1, .int .u8 x119002_1, .int .u8 x119003_1, .int .i64 x119004_1]) ?_ 0 _ rfl; (with_reducible repeat (first | refine blk_drewN ?_ _ | refine blk_drew ?_ | refine blk_alloc ?_ _)); exact BK118.out) Tryd.underlying47 rfl (by kernel_rfl)) rfl ?_; exact ⟨by first | rfl | (simp [errW_none, errW_some] <;> rfl) | (simp [*, errW_none, errW_some] <;> rfl), hB82⟩
      rw [if_pos c3] at H; have c3b0 : decide (x4_1 ≤ 15) = true := decide_eq_true c3; clear c3; replace H := Option.bind_eq_some_iff.mp H; obtain ⟨⟨t119, t120⟩, A40, H⟩ := H; replace H : (if 0 < (l0.length : Int) then (if (rdOf ByteArray.empty l0 0).toList = t119.toList then (lockstitchref04_read.j1 k1 l0 x4_1 t120 ((l0.length : Int) != (wrap64 ((t120.size : Int) + 1)))) else (lockstitchref04_read.j1 k1 l0 x4_1 t120 true)) else (none)) = some (r1, r2, r3, r4, r5, r6) := H; have A4 := Aside0.mk A40; clear A40; have HC5 := Aside0.mk H; clear H
      go_upto_region 5 with (first | ((with_reducible refine gate_callee (f := 52) rfl ?_); refine goesL_ (some 19) rfl rfl Tryd.func52 (by kernel_rfl) rfl #[.int .u8 x4_1] rfl hB1 ?_; (with_reducible refine (lockstitchref04_shape.calls x4_1 t119 t120 _ A4.out).mono ?_); rintro e w' ⟨rfl, ⟨nd, rfl⟩⟩; refine ⟨_, rfl, ?_⟩))
      (try simp only [Act.put, List.setIfInBounds_toArray, List.set_cons_zero, List.set_cons_succ])
      go_cut [34] (fun v34 wc => ∃ (kq : Nat) (x34_4 : Bool), v34 = .bool x34_4 ∧ Aside0 (lockstitchref04_read.j1 kq l0 x4_1 t120 x34_4 = some (r1, r2, r3, r4, r5, r6)) ∧ Aside0 (kq ≤ k1) ∧ Aside0 (wc.heap[gb118]? = some (.cells #[.int .u8 x119000_1, .int .u8 x119001_1, .int .u8 x119002_1, .int .u8 x119003_1, .int .i64 x119004_1] 47 (0, 0))) ∧ Aside0 (Below w.heap.size w wc))
      case first =>
        have H := HC5.out; clear HC5; by_cases c6 : 0 < (l0.length : Int)
        rotate_left
        · rw [if_neg c6] at H; exact absurd H (by simp)
        rw [if_pos c6] at H; have c6b0 : decide (0 < (l0.length : Int)) = true := decide_eq_true c6; have c6b1 : decide (0 < l0.length) = true := decide_eq_true (by omega); clear c6
        (first | rw [c6b0] | (simp only [i64_w, i32_w]; rw [c6b0]) | skip)
        by_cases c7 : (rdOf ByteArray.empty l0 0).toList = t119.toList
        rotate_left
        · rw [if_neg c7] at H; have c7b0 : ((rdOf ByteArray.empty l0 0).toList == t119.toList) = false := beq_eq_false_iff_ne.mpr c7; have c7b1 : ((rdOf ByteArray.empty l0 0).toList != t119.toList) = true := bne_iff_ne.mpr c7; have H' := Aside0.mk H; clear H; have p121 : 0 ≤ (0 : Int) := (by omega); have q121 : 0 < (l0.length : Int) := of_decide_eq_true hB63; obtain ⟨ad121, e121, hx121_0⟩ := Kd.at_string HR0.out 0 p121 q121
          cases e121
          have qi121 : (0 < l0.length) = True := eq_true (by omega)
          (try rw [show ((0 : Int)).toNat = 0 from rfl] at hx121_0)
          (try rw [Addr.add_zero'] at hx121_0)
          replace hx121_0 := (HB.out.cell (World.block_lt_of_cell? w _ hx121_0)).trans hx121_0; replace p121 := eq_true p121; replace q121 := eq_true q121; go_wp2; go_meet
          case rel => exact ⟨_, (true), hB64, H', ⟨by have := HK1.out; first | omega | exact Nat.le_refl _⟩, ⟨hB46⟩, ⟨hB82⟩⟩
        rw [if_pos c7] at H; have c7b0 : ((rdOf ByteArray.empty l0 0).toList == t119.toList) = true := beq_iff_eq.mpr c7; have c7b1 : ((rdOf ByteArray.empty l0 0).toList != t119.toList) = false := bne_eq_false_iff_eq.mpr c7; clear c7; have H' := Aside0.mk H; clear H; have p121 : 0 ≤ (0 : Int) := (by omega); have q121 : 0 < (l0.length : Int) := of_decide_eq_true hB63; obtain ⟨ad121, e121, hx121_0⟩ := Kd.at_string HR0.out 0 p121 q121
        cases e121
        have qi121 : (0 < l0.length) = True := eq_true (by omega)
        (try rw [show ((0 : Int)).toNat = 0 from rfl] at hx121_0)
        (try rw [Addr.add_zero'] at hx121_0)
        replace hx121_0 := (HB.out.cell (World.block_lt_of_cell? w _ hx121_0)).trans hx121_0; replace p121 := eq_true p121; replace q121 := eq_true q121; go_wp2; go_meet
        case rel => exact ⟨_, (((l0.length : Int) != (wrap64 ((t120.size : Int) + 1)))), hB64, H', ⟨by have := HK1.out; first | omega | exact Nat.le_refl _⟩, ⟨hB46⟩, ⟨hB82⟩⟩
      case rest =>
        clear HC5; (try clear p1); (try clear q1); (try clear hx1); (try clear qi1); (try clear p2); (try clear c3); (try clear c3b0); (try clear c5); (try clear c6); (try clear c6b0); (try clear c6b1); (try clear p6); (try clear c7); (try clear c7b0); (try clear c7b1); (try clear hx121_0); (try clear p121); (try clear p2); (try clear q121); obtain ⟨kq, x34_4, rfl, HA, HJ4, BK118, HB⟩ := hcut
        cases kq with
        | zero => exact absurd HA.out (by simp [lockstitchref04_read.j1])
        | succ kj4 =>
          have H := HA.out; clear HA; simp only [lockstitchref04_read.j1] at H; by_cases c8 : x34_4 = true
          · subst c8
            have H1 : (lockstitchref04_read.l0 kj4 l0 ((x4_1 + 1) % 256)) = some (r1, r2, r3, r4, r5, r6) := by rw [if_pos rfl] at H; exact H
            clear H; have H := H1; clear H1; have H' := Aside0.mk H; clear H; go_wp2; go_roundg kj4
            case measure => have := HK1.out; have := HJ4.out; omega
            case rel => exact ⟨((x4_1 + 1) % 256), (x119000_1), (x119001_1), (x119002_1), (x119003_1), (x119004_1), hB64, H', ⟨by have := HK1.out; have := HJ4.out; omega⟩, ⟨hB46⟩, ⟨hB82⟩⟩
          replace c8 := Bool.eq_false_iff.mpr c8; subst c8
          have H1 : (lockstitchref04_read.l1 kj4 l0 t120 0 x4_1 0 0 0 0) = some (r1, r2, r3, r4, r5, r6) := by rw [if_neg (show ¬ (false = true) by decide)] at H; exact H
          clear H; have H := H1; clear H1; have H' := Aside0.mk H; clear H
          go_wp2_with (first | ((with_reducible refine gate_dst (N := 7) rfl ?_); (try (refine gate_guard (by rfl) ?_; dsimp only)); refine box_event ?hg (N := 7) ?hd (cs := #[.int .u8 0, .int .u8 0, .int .u8 0, .int .u8 0, .int .i64 0]) (t := 47) ?hr ?_; (case hd => rfl); (case hg => rfl); (case hr => first | (go_simp; done) | (go_simp; rfl)); intro gb122 hg w9 hbox hb; have n0_ := Aside0.mk (blk_below (g := gb118) (o := .cells #[.int .u8 x119000_1, .int .u8 x119001_1, .int .u8 x119002_1, .int .u8 x119003_1, .int .i64 x119004_1] 47 (0, 0)) hB46 hb); have n1_ := Aside0.mk (below_step hB82 hb); have n2_ := Aside0.mk (hbox); have n3_ := Aside0.mk ((by rw [hg]; exact (below_size hB82) : w.heap.size ≤ gb122)); have n4_ := Aside0.mk ((by rw [hg]; exact (below_size hB82) : w.heap.size ≤ gb122)); have n5_ := Aside0.mk ((by rw [hg]; exact Nat.ne_of_lt (blk_lt (g := gb118) (o := .cells #[.int .u8 x119000_1, .int .u8 x119001_1, .int .u8 x119002_1, .int .u8 x119003_1, .int .i64 x119004_1] 47 (0, 0)) hB46) : gb118 ≠ gb122)); have n6_ := Aside0.mk ((by rw [hg]; exact Nat.ne_of_gt (blk_lt (g := gb118) (o := .cells #[.int .u8 x119000_1, .int .u8 x119001_1, .int .u8 x119002_1, .int .u8 x119003_1, .int .i64 x119004_1] 47 (0, 0)) hB46) : gb122 ≠ gb118)); clear BK118; clear HB; have BK118 := n0_; have HB := n1_; have BK122 := n2_; have GW122 := n3_; have GE122 := n4_; have NB118_122 := n5_; have NB122_118 := n6_; clear n0_ n1_ n2_ n3_ n4_ n5_ n6_; clear hb hbox hg; have hnb10 := NB122_118.out; have hnc10 := NB118_122.out; have hcz11_0 : w9.cell? ⟨gb122, 0, none⟩ = some (.int .u8 0) := (blk_cell BK122.out 0).trans rfl; have hcz11_1 : w9.cell? ⟨gb122, 1, none⟩ = some (.int .u8 0) := (blk_cell BK122.out 1).trans rfl; have hcz11_2 : w9.cell? ⟨gb122, 2, none⟩ = some (.int .u8 0) := (blk_cell BK122.out 2).trans rfl; have hcz11_3 : w9.cell? ⟨gb122, 3, none⟩ = some (.int .u8 0) := (blk_cell BK122.out 3).trans rfl; have hcz11_4 : w9.cell? ⟨gb122, 4, none⟩ = some (.int .i64 0) := (blk_cell BK122.out 4).trans rfl; have hfz11_0 := blk_frozen BK122.out 0; have hfz11_1 := blk_frozen BK122.out 1; have hfz11_2 := blk_frozen BK122.out 2; have hfz11_3 := blk_frozen BK122.out 3; have hfz11_4 := blk_frozen BK122.out 4))
          go_loopg [8] kj4 (fun kq v8 w' => ∃ (x8_3 : Int) (x119000_3 : Int) (x119001_3 : Int) (x119002_3 : Int) (x119003_3 : Int) (x119004_3 : Int) (x123000_3 : Int) (x123001_3 : Int) (x123002_3 : Int) (x123003_3 : Int) (x123004_3 : Int), v8 = .int .i64 x8_3 ∧ Aside0 (lockstitchref04_read.l1 kq l0 t120 x8_3 x123000_3 x123001_3 x123002_3 x123003_3 x123004_3 = some (r1, r2, r3, r4, r5, r6)) ∧ Aside0 (kq ≤ kj4) ∧ Aside0 (w'.heap[gb118]? = some (.cells #[.int .u8 x119000_3, .int .u8 x119001_3, .int .u8 x119002_3, .int .u8 x119003_3, .int .i64 x119004_3] 47 (0, 0))) ∧ Aside0 (w'.heap[gb122]? = some (.cells #[.int .u8 x123000_3, .int .u8 x123001_3, .int .u8 x123002_3, .int .u8 x123003_3, .int .i64 x123004_3] 47 (0, 0))) ∧ Aside0 (Below w.heap.size w w'))
          case atStart => exact ⟨(0), (x119000_1), (x119001_1), (x119002_1), (x119003_1), (x119004_1), (x4_1), (0), (0), (0), (0), hB64, H', ⟨Nat.le_refl _⟩, ⟨by (with_reducible repeat (first | refine blk_drewN ?_ _ | refine blk_drew ?_ | refine blk_alloc ?_ _)); refine blk_far ?_ NB118_122.out _; (with_reducible repeat (first | refine blk_drewN ?_ _ | refine blk_drew ?_ | refine blk_alloc ?_ _)); refine blk_far ?_ NB118_122.out _; (with_reducible repeat (first | refine blk_drewN ?_ _ | refine blk_drew ?_ | refine blk_alloc ?_ _)); refine blk_far ?_ NB118_122.out _; (with_reducible repeat (first | refine blk_drewN ?_ _ | refine blk_drew ?_ | refine blk_alloc ?_ _)); refine blk_far ?_ NB118_122.out _; (with_reducible repeat (first | refine blk_drewN ?_ _ | refine blk_drew ?_ | refine blk_alloc ?_ _)); refine blk_far ?_ NB118_122.out _; (with_reducible repeat (first | refine blk_drewN ?_ _ | refine blk_drew ?_ | refine blk_alloc ?_ _)); exact BK118.out⟩, ⟨by (with_reducible repeat (first | refine blk_drewN ?_ _ | refine blk_drew ?_ | refine blk_alloc ?_ _)); refine blk_put (cs := #[.int .u8 x4_1, .int .u8 0, .int .u8 0, .int .u8 0, .int .i64 0]) ?_ 4 _ rfl; (with_reducible repeat (first | refine blk_drewN ?_ _ | refine blk_drew ?_ | refine blk_alloc ?_ _)); refine blk_put (cs := #[.int .u8 x4_1, .int .u8 0, .int .u8 0, .int .u8 0, .int .i64 0]) ?_ 3 _ rfl; (with_reducible repeat (first | refine blk_drewN ?_ _ | refine blk_drew ?_ | refine blk_alloc ?_ _)); refine blk_put (cs := #[.int .u8 x4_1, .int .u8 0, .int .u8 0, .int .u8 0, .int .i64 0]) ?_ 2 _ rfl; (with_reducible repeat (first | refine blk_drewN ?_ _ | refine blk_drew ?_ | refine blk_alloc ?_ _)); refine blk_put (cs := #[.int .u8 x4_1, .int .u8 0, .int .u8 0, .int .u8 0, .int .i64 0]) ?_ 1 _ rfl; (with_reducible repeat (first | refine blk_drewN ?_ _ | refine blk_drew ?_ | refine blk_alloc ?_ _)); refine blk_put (cs := #[.int .u8 0, .int .u8 0, .int .u8 0, .int .u8 0, .int .i64 0]) ?_ 0 _ rfl; (with_reducible repeat (first | refine blk_drewN ?_ _ | refine blk_drew ?_ | refine blk_alloc ?_ _)); exact BK122.out⟩, ⟨hB81⟩⟩
          case round =>
            clear H'; (try clear c1); (try clear p1); (try clear q1); (try clear hx1); (try clear qi1); (try clear p2); (try clear c3); (try clear c3b0); (try clear c5); (try clear c6); (try clear c6b0); (try clear c6b1); (try clear p6); (try clear c7); (try clear c7b0); (try clear c7b1); (try clear c8); (try clear c10); (try clear hcz11_0); (try clear hcz11_1); (try clear hcz11_2); (try clear hcz11_3); (try clear hcz11_4); (try clear hfz11_0); (try clear hfz11_1); (try clear hfz11_2); (try clear hfz11_3); (try clear hfz11_4); (try clear hx121_0); (try clear p1); (try clear p121); (try clear p2); (try clear p6); (try clear q1); (try clear q121); obtain ⟨x8_3, x119000_3, x119001_3, x119002_3, x119003_3, x119004_3, x123000_3, x123001_3, x123002_3, x123003_3, x123004_3, rfl, HA, HK3, BK118, BK122, HB⟩ := hrel
            cases gk with
            | zero => exact absurd HA.out (by simp [lockstitchref04_read.l1])
            | succ k3 =>
              have H := HA.out; clear HA; simp only [lockstitchref04_read.l1] at H; by_cases c12 : x8_3 < (t120.size : Int)
              rotate_left
              · rw [if_neg c12] at H; have c12b0 : decide (x8_3 < (t120.size : Int)) = false := decide_eq_false c12; clear c12; simp only [Option.some.injEq, Prod.mk.injEq] at H; obtain ⟨rfl, rfl, rfl, rfl, rfl, rfl⟩ := H; have hnb60 := NB122_118.out; have hnc60 := NB118_122.out; have hcz61_0 : wr.cell? ⟨gb122, 0, none⟩ = some (.int .u8 x123000_3) := (blk_cell BK122.out 0).trans rfl; have hcz61_1 : wr.cell? ⟨gb122, 1, none⟩ = some (.int .u8 x123001_3) := (blk_cell BK122.out 1).trans rfl; have hcz61_2 : wr.cell? ⟨gb122, 2, none⟩ = some (.int .u8 x123002_3) := (blk_cell BK122.out 2).trans rfl; have hcz61_3 : wr.cell? ⟨gb122, 3, none⟩ = some (.int .u8 x123003_3) := (blk_cell BK122.out 3).trans rfl; have hcz61_4 : wr.cell? ⟨gb122, 4, none⟩ = some (.int .i64 x123004_3) := (blk_cell BK122.out 4).trans rfl; have hfz61_0 := blk_frozen BK122.out 0; have hfz61_1 := blk_frozen BK122.out 1; have hfz61_2 := blk_frozen BK122.out 2; have hfz61_3 := blk_frozen BK122.out 3; have hfz61_4 := blk_frozen BK122.out 4; have hcz62_0 : wr.cell? ⟨gb118, 0, none⟩ = some (.int .u8 x119000_3) := (blk_cell BK118.out 0).trans rfl; have hcz62_1 : wr.cell? ⟨gb118, 1, none⟩ = some (.int .u8 x119001_3) := (blk_cell BK118.out 1).trans rfl; have hcz62_2 : wr.cell? ⟨gb118, 2, none⟩ = some (.int .u8 x119002_3) := (blk_cell BK118.out 2).trans rfl; have hcz62_3 : wr.cell? ⟨gb118, 3, none⟩ = some (.int .u8 x119003_3) := (blk_cell BK118.out 3).trans rfl; have hcz62_4 : wr.cell? ⟨gb118, 4, none⟩ = some (.int .i64 x119004_3) := (blk_cell BK118.out 4).trans rfl; have hfz62_0 := blk_frozen BK118.out 0; have hfz62_1 := blk_frozen BK118.out 1; have hfz62_2 := blk_frozen BK118.out 2; have hfz62_3 := blk_frozen BK118.out 3; have hfz62_4 := blk_frozen BK118.out 4; go_wp2; refine bodyPost_ret (results_ct rfl _ _ gb118 47 #[.int .u8 x123000_3, .int .u8 x123001_3, .int .u8 x123002_3, .int .u8 x123003_3, .int .i64 x123004_3] (0, 0) _ rfl (by (with_reducible repeat (first | refine blk_drewN ?_ _ | refine blk_drew ?_ | refine blk_alloc ?_ _)); refine blk_put (cs := #[.int .u8 x123000_3, .int .u8 x123001_3, .int .u8 x123002_3, .int .u8 x123003_3, .int .i64 x119004_3]) ?_ 4 _ rfl; (with_reducible repeat (first | refine blk_drewN ?_ _ | refine blk_drew ?_ | refine blk_alloc ?_ _)); refine blk_put (cs := #[.int .u8 x123000_3, .int .u8 x123001_3, .int .u8 x123002_3, .int .u8 x119003_3, .int .i64 x119004_3]) ?_ 3 _ rfl; (with_reducible repeat (first | refine blk_drewN ?_ _ | refine blk_drew ?_ | refine blk_alloc ?_ _)); refine blk_put (cs := #[.int .u8 x123000_3, .int .u8 x123001_3, .int .u8 x119002_3, .int .u8 x119003_3, .int .i64 x119004_3]) ?_ 2 _ rfl; (with_reducible repeat (first | refine blk_drewN ?_ _ | refine blk_drew ?_ | refine blk_alloc ?_ _)); refine blk_put (cs := #[.int .u8 x123000_3, .int .u8 x119001_3, .int .u8 x119002_3, .int .u8 x119003_3, .int .i64 x119004_3]) ?_ 1 _ rfl; (with_reducible repeat (first | refine blk_drewN ?_ _ | refine blk_drew ?_ | refine blk_alloc ?_ _)); refine blk_put (cs := #[.int .u8 x119000_3, .int .u8 x119001_3, .int .u8 x119002_3, .int .u8 x119003_3, .int .i64 x119004_3]) ?_ 0 _ rfl; (with_reducible repeat (first | refine blk_drewN ?_ _ | refine blk_drew ?_ | refine blk_alloc ?_ _)); exact BK118.out) Tryd.underlying47 rfl (by kernel_rfl)) rfl ?_; exact ⟨by first | rfl | (simp [errW_none, errW_some] <;> rfl) | (simp [*, errW_none, errW_some] <;> rfl), hB81⟩
              rw [if_pos c12] at H; have c12b0 : decide (x8_3 < (t120.size : Int)) = true := decide_eq_true c12; clear c12; obtain ⟨ji13, hji13⟩ : ∃ j_ : Int, (wrap64 (x8_3 + 1)) = j_ := ⟨_, rfl⟩
              replace H : (if 0 ≤ (ji13) then (if (ji13) < (l0.length : Int) then ((lockstitchref02_Number.f k3 (rdOf ByteArray.empty l0 (ji13))).bind fun bt124 => (if 0 ≤ x8_3 then ((lockstitchref04_with.f k3 x123000_3 x123001_3 x123002_3 x123003_3 x123004_3 (bt t120 x8_3) bt124.1).bind fun bt126 => (if bt124.2 = 0 then (if bt126.2.2.2.2.2 = true then (lockstitchref04_read.l1 k3 l0 t120 ji13 bt126.1 bt126.2.1 bt126.2.2.1 bt126.2.2.2.1 bt126.2.2.2.2.1) else (some (0, 0, 0, 0, 0, false))) else (some (0, 0, 0, 0, 0, false)))) else (none))) else (none)) else (none)) = some (r1, r2, r3, r4, r5, r6) := by first | (rw [hji13] at H; exact H) | (simp only [hji13] at H ⊢; exact H)
              have hji13w : (IntKind.i64.wrap (x8_3 + 1)) = ji13 := (i64_w _).trans hji13; by_cases c14 : 0 ≤ (ji13)
              rotate_left
              · rw [if_neg c14] at H; exact absurd H (by simp)
              rw [if_pos c14] at H; have c14b0 : decide (0 ≤ (ji13)) = true := decide_eq_true c14; clear c14; by_cases c15 : (ji13) < (l0.length : Int)
              rotate_left
              · rw [if_neg c15] at H; exact absurd H (by simp)
              rw [if_pos c15] at H; have c15b0 : decide ((ji13) < (l0.length : Int)) = true := decide_eq_true c15; clear c15; replace H := Option.bind_eq_some_iff.mp H; obtain ⟨⟨t124, t125⟩, A160, H⟩ := H; replace H : (if 0 ≤ x8_3 then ((lockstitchref04_with.f k3 x123000_3 x123001_3 x123002_3 x123003_3 x123004_3 (bt t120 x8_3) t124).bind fun bt126 => (if t125 = 0 then (if bt126.2.2.2.2.2 = true then (lockstitchref04_read.l1 k3 l0 t120 ji13 bt126.1 bt126.2.1 bt126.2.2.1 bt126.2.2.2.1 bt126.2.2.2.2.1) else (some (0, 0, 0, 0, 0, false))) else (some (0, 0, 0, 0, 0, false)))) else (none)) = some (r1, r2, r3, r4, r5, r6) := H; have A16 := Aside0.mk A160; clear A160; by_cases c17 : 0 ≤ x8_3
              rotate_left
              · rw [if_neg c17] at H; exact absurd H (by simp)
              rw [if_pos c17] at H; have c17b0 : decide (0 ≤ x8_3) = true := decide_eq_true c17; clear c17; replace H := Option.bind_eq_some_iff.mp H; obtain ⟨⟨t126, t127, t128, t129, t130, t131⟩, A190, H⟩ := H; replace H : (if t125 = 0 then (if t131 = true then (lockstitchref04_read.l1 k3 l0 t120 ji13 t126 t127 t128 t129 t130) else (some (0, 0, 0, 0, 0, false))) else (some (0, 0, 0, 0, 0, false))) = some (r1, r2, r3, r4, r5, r6) := H; have A19 := Aside0.mk A190; clear A190; by_cases c20 : t125 = 0
              rotate_left
              · rw [if_neg c20] at H; have c20b0 : (t125 == 0) = false := beq_eq_false_iff_ne.mpr c20; have c20b1 : (t125 != 0) = true := bne_iff_ne.mpr c20; simp only [Option.some.injEq, Prod.mk.injEq] at H; obtain ⟨rfl, rfl, rfl, rfl, rfl, rfl⟩ := H; have p123 : 0 ≤ ((ji13) : Int) := of_decide_eq_true hB63; have q123 : (ji13) < (l0.length : Int) := of_decide_eq_true hB63; obtain ⟨ad123, e123, hx123_0⟩ := Kd.at_string HR0.out (ji13) p123 q123
                cases e123
                replace hx123_0 := (HB.out.cell (World.block_lt_of_cell? w _ hx123_0)).trans hx123_0; replace p123 := eq_true p123; replace q123 := eq_true q123; try go_wp2_with (first | ((with_reducible refine gate_callee (f := 78) rfl ?_); refine goesL_ (some 49) rfl rfl Tryd.func78 (by kernel_rfl) rfl #[.string (rdOf ByteArray.empty l0 (ji13))] rfl hB0 ?_; (with_reducible refine (lockstitchref02_Number.calls k3 (rdOf ByteArray.empty l0 (ji13)) t124 t125 _ A16.out).mono ?_); rintro e w' ⟨rfl, ⟨nd, rfl⟩⟩; refine ⟨_, rfl, ?_⟩; (try (rw [drewN_self wr]; generalize hq_ : World.drewN wr _ = wr; have n0_ : Aside0 (wr.heap[gb118]? = some (.cells #[.int .u8 x119000_3, .int .u8 x119001_3, .int .u8 x119002_3, .int .u8 x119003_3, .int .i64 x119004_3] 47 (0, 0))) := ⟨hB99⟩; have n1_ : Aside0 (wr.heap[gb122]? = some (.cells #[.int .u8 x123000_3, .int .u8 x123001_3, .int .u8 x123002_3, .int .u8 x123003_3, .int .i64 x123004_3] 47 (0, 0))) := ⟨hB100⟩; have n2_ : Aside0 (Below w.heap.size w wr) := ⟨hB102⟩; clear BK118 BK122 HB hq_; have BK118 := n0_; have BK122 := n1_; have HB := n2_; clear n0_ n1_ n2_))))
                have n0_ := Aside0.mk (blk_drew BK118.out); have n1_ := Aside0.mk (blk_drew BK122.out); have n2_ := Aside0.mk (below_drew1 HB.out); clear BK118; clear BK122; clear HB; have BK118 := n0_; have BK122 := n1_; have HB := n2_; clear n0_ n1_ n2_; have p18 : 0 ≤ (x8_3 : Int) := of_decide_eq_true hB63; have q18 : x8_3 < (t120.size : Int) := of_decide_eq_true hB63; have hx18 := bt_at t120 x8_3; replace p18 := eq_true p18; replace q18 := eq_true q18; refine start_ (n := 12) (S := fun w' => w'.cell? ⟨gb122, 0, none⟩ = some (.int .u8 x123000_3) ∧ w'.cell? ⟨gb122, 1, none⟩ = some (.int .u8 x123001_3) ∧ w'.cell? ⟨gb122, 2, none⟩ = some (.int .u8 x123002_3) ∧ w'.cell? ⟨gb122, 3, none⟩ = some (.int .u8 x123003_3) ∧ w'.cell? ⟨gb122, 4, none⟩ = some (.int .i64 x123004_3)) (ds := []) #[false, false, false, false, false, false, false, false, false, false, false, false] (by kernel_rfl) rfl rfl ⟨(blk_cell BK122.out 0).trans rfl, (blk_cell BK122.out 1).trans rfl, (blk_cell BK122.out 2).trans rfl, (blk_cell BK122.out 3).trans rfl, (blk_cell BK122.out 4).trans rfl⟩ (fun hHeld => ?_); refine with_tabW lockstitchref04_read.tab11 lockstitchref04_read.bits11 (fun HT_ HW_ => ?_); generalize wr.drew = w48 at BK118 BK122 HB hHeld ⊢; refine pure_ (i := 1) (N := some 54) (v := ?_) (a' := ?_) (mk_ 12 2) rfl rfl (any_of HT_.out (by kernel_rfl)) (fun _ _ _ h => h) (Or.inl ⟨by rfl, ?_⟩) ?_ ?_; rotate_left
                · intro w'; go_simp; with_reducible rfl
                rotate_left
                · simp only [Act.put, List.setIfInBounds_toArray, List.set_cons_zero, List.set_cons_succ, i64_w, i32_w]; rfl
                refine pure_ (i := 2) (N := some 55) (v := ?_) (a' := ?_) (mk_ 12 6) rfl rfl (any_of HT_.out (by kernel_rfl)) (fun _ _ _ h => h) (Or.inl ⟨by rfl, ?_⟩) ?_ ?_; rotate_left
                · intro w'; go_simp; with_reducible rfl
                rotate_left
                · simp only [Act.put, List.setIfInBounds_toArray, List.set_cons_zero, List.set_cons_succ, i64_w, i32_w]; rfl
                refine pure_ (i := 4) (N := some 57) (v := ?_) (a' := ?_) (mk_ 12 22) rfl rfl (any_of HT_.out (by kernel_rfl)) (fun _ _ _ h => h) (Or.inl ⟨by rfl, ?_⟩) ?_ ?_; rotate_left
                · intro w'; go_simp; with_reducible rfl
                rotate_left
                · simp only [Act.put, List.setIfInBounds_toArray, List.set_cons_zero, List.set_cons_succ, i64_w, i32_w]; rfl
                refine take_ (i := 0) (N := some 53) (v := ?_) (a' := ?_) (mk_ 12 23) rfl rfl (take_ofW HT_.out HW_.out (by kernel_rfl)) (fun _ _ _ h => h) (Or.inl ⟨by rfl, ?_⟩) hHeld ?_ ?_; rotate_left
                · rintro w' ⟨s0, s1, s2, s3, s4⟩; go_simp; with_reducible rfl
                rotate_left
                · simp only [Act.put, List.setIfInBounds_toArray, List.set_cons_zero, List.set_cons_succ, i64_w, i32_w]; rfl
                refine take_ (i := 3) (N := some 56) (v := ?_) (a' := ?_) (mk_ 12 31) rfl rfl (take_ofW HT_.out HW_.out (by kernel_rfl)) (fun _ _ _ h => h) (Or.inl ⟨by rfl, ?_⟩) hHeld ?_ ?_; rotate_left
                · rintro w' ⟨s0, s1, s2, s3, s4⟩; go_simp; with_reducible rfl
                rotate_left
                · simp only [Act.put, List.setIfInBounds_toArray, List.set_cons_zero, List.set_cons_succ, i64_w, i32_w]; rfl
                refine join_ (σ := Nat) 2 #[true, true, true, true, true, true, true, true, true, true, false, false] (fun s_ => [(58, .tuple #[.agg #[.int .u8 t126, .int .u8 t127, .int .u8 t128, .int .u8 t129, .int .i64 t130], .bool t131]), (11, .pointer (some ⟨s_, 0, none⟩)), (52, .tuple #[.agg #[.int .u8 t126, .int .u8 t127, .int .u8 t128, .int .u8 t129, .int .i64 t130], .bool t131]), (59, .agg #[.int .u8 t126, .int .u8 t127, .int .u8 t128, .int .u8 t129, .int .i64 t130]), (60, .bool t131)]) (fun s_ w' => (w'.cell? ⟨gb122, 0, none⟩ = some (.int .u8 x123000_3) ∧ w'.cell? ⟨gb122, 1, none⟩ = some (.int .u8 x123001_3) ∧ w'.cell? ⟨gb122, 2, none⟩ = some (.int .u8 x123002_3) ∧ w'.cell? ⟨gb122, 3, none⟩ = some (.int .u8 x123003_3) ∧ w'.cell? ⟨gb122, 4, none⟩ = some (.int .i64 x123004_3)) ∧ (w'.heap[gb118]? = some (.cells #[.int .u8 x119000_3, .int .u8 x119001_3, .int .u8 x119002_3, .int .u8 x119003_3, .int .i64 x119004_3] 47 (0, 0))) ∧ (w'.heap[gb122]? = some (.cells #[.int .u8 x123000_3, .int .u8 x123001_3, .int .u8 x123002_3, .int .u8 x123003_3, .int .i64 x123004_3] 47 (0, 0))) ∧ (w'.heap[s_]? = some (.cells #[.int .u8 0, .int .u8 0, .int .u8 0, .int .u8 0, .int .i64 0] 47 (0, 0))) ∧ (w.heap.size ≤ s_) ∧ (w.heap.size ≤ s_) ∧ (gb118 ≠ s_) ∧ (s_ ≠ gb118) ∧ (gb122 ≠ s_) ∧ (s_ ≠ gb122) ∧ (Below w.heap.size w w')) ?_ ?_; rotate_left
                · intro hCont; refine two_ (i := 5) (j := 9) (Ni := some 58) (Nj := some 11) #[true, true, true, true, true, true, false, false, false, false, false, false] #[true, true, true, true, true, false, false, false, false, true, false, false] rfl rfl rfl rfl (two_of HT_.out (by kernel_rfl)) (by decide) (by decide) (fun K hK => ?_) (fun K hK => ?_)
                  · skip
                    refine goes_ Tryd.func79 (by kernel_rfl) rfl #[.agg #[.int .u8 x123000_3, .int .u8 x123001_3, .int .u8 x123002_3, .int .u8 x123003_3, .int .i64 x123004_3], .int .u8 (bt t120 x8_3), .int .i64 t124] (by rfl) rfl rfl hB1 ?_; with_reducible refine (lockstitchref04_with.calls k3 x123000_3 x123001_3 x123002_3 x123003_3 x123004_3 (bt t120 x8_3) t124 t126 t127 t128 t129 t130 t131 _ A19.out).mono ?_; rintro e w49 ⟨rfl, hb⟩; refine ⟨_, rfl, ?_⟩; have n0_ := Aside0.mk (blk_below (g := gb118) (o := .cells #[.int .u8 x119000_3, .int .u8 x119001_3, .int .u8 x119002_3, .int .u8 x119003_3, .int .i64 x119004_3] 47 (0, 0)) hB46 hb); have n1_ := Aside0.mk (blk_below (g := gb122) (o := .cells #[.int .u8 x123000_3, .int .u8 x123001_3, .int .u8 x123002_3, .int .u8 x123003_3, .int .i64 x123004_3] 47 (0, 0)) hB48 hb); have n2_ := Aside0.mk (below_step hB81 hb); clear BK118; clear BK122; clear HB; have BK118 := n0_; have BK122 := n1_; have HB := n2_; clear n0_ n1_ n2_; (try clear hb); (try clear hb2); (try clear hk); (try clear hi); refine hK.out _ _ ⟨(blk_cell BK122.out 0).trans rfl, (blk_cell BK122.out 1).trans rfl, (blk_cell BK122.out 2).trans rfl, (blk_cell BK122.out 3).trans rfl, (blk_cell BK122.out 4).trans rfl⟩ (fun hHeld => ?_); clear hK K; refine norm_ (a' := ?_) ?_ ?_; rotate_left
                    · show Act.put _ (some 58) _ = _
                      simp only [Act.put, List.setIfInBounds_toArray, List.set_cons_zero, List.set_cons_succ, i64_w, i32_w]; rfl
                    refine pure_ (i := 6) (N := some 52) (v := ?_) (a' := ?_) (mk_ 12 127) rfl rfl (any_of HT_.out (by kernel_rfl)) (fun _ _ _ h => h) (Or.inl ⟨by rfl, ?_⟩) ?_ ?_; rotate_left
                    · intro w'; go_simp; with_reducible rfl
                    rotate_left
                    · simp only [Act.put, List.setIfInBounds_toArray, List.set_cons_zero, List.set_cons_succ, i64_w, i32_w]; rfl
                    refine pure_ (i := 7) (N := some 59) (v := ?_) (a' := ?_) (mk_ 12 255) rfl rfl (any_of HT_.out (by kernel_rfl)) (fun _ _ _ h => h) (Or.inl ⟨by rfl, ?_⟩) ?_ ?_; rotate_left
                    · intro w'; go_simp; with_reducible rfl
                    rotate_left
                    · simp only [Act.put, List.setIfInBounds_toArray, List.set_cons_zero, List.set_cons_succ, i64_w, i32_w]; rfl
                    refine pure_ (i := 8) (N := some 60) (v := ?_) (a' := ?_) (mk_ 12 511) rfl rfl (any_of HT_.out (by kernel_rfl)) (fun _ _ _ h => h) (Or.inl ⟨by rfl, ?_⟩) ?_ ?_; rotate_left
                    · intro w'; go_simp; with_reducible rfl
                    rotate_left
                    · simp only [Act.put, List.setIfInBounds_toArray, List.set_cons_zero, List.set_cons_succ, i64_w, i32_w]; rfl
                    refine one_ (i := 9) (N := some 11) (mk_ 12 1023) rfl rfl (one_of HT_.out (by kernel_rfl)) (by decide) (fun K hK => ?_); refine box_step ?hg (N := 11) ?hd (cs := #[.int .u8 0, .int .u8 0, .int .u8 0, .int .u8 0, .int .i64 0]) (t := 47) ?hr ?_; (case hd => rfl); (case hg => rfl); (case hr => first | (go_simp; done) | (go_simp; rfl)); intro gb132 hg w50 hbox hb; have n0_ := Aside0.mk (blk_below (g := gb118) (o := .cells #[.int .u8 x119000_3, .int .u8 x119001_3, .int .u8 x119002_3, .int .u8 x119003_3, .int .i64 x119004_3] 47 (0, 0)) hB46 hb); have n1_ := Aside0.mk (blk_below (g := gb122) (o := .cells #[.int .u8 x123000_3, .int .u8 x123001_3, .int .u8 x123002_3, .int .u8 x123003_3, .int .i64 x123004_3] 47 (0, 0)) hB48 hb); have n2_ := Aside0.mk (below_step hB81 hb); have n3_ := Aside0.mk (hbox); have n4_ := Aside0.mk ((by rw [hg]; exact (below_size hB81) : w.heap.size ≤ gb132)); have n5_ := Aside0.mk ((by rw [hg]; exact (below_size hB81) : w.heap.size ≤ gb132)); have n6_ := Aside0.mk ((by rw [hg]; exact Nat.ne_of_lt (blk_lt (g := gb118) (o := .cells #[.int .u8 x119000_3, .int .u8 x119001_3, .int .u8 x119002_3, .int .u8 x119003_3, .int .i64 x119004_3] 47 (0, 0)) hB46) : gb118 ≠ gb132)); have n7_ := Aside0.mk ((by rw [hg]; exact Nat.ne_of_gt (blk_lt (g := gb118) (o := .cells #[.int .u8 x119000_3, .int .u8 x119001_3, .int .u8 x119002_3, .int .u8 x119003_3, .int .i64 x119004_3] 47 (0, 0)) hB46) : gb132 ≠ gb118)); have n8_ := Aside0.mk ((by rw [hg]; exact Nat.ne_of_lt (blk_lt (g := gb122) (o := .cells #[.int .u8 x123000_3, .int .u8 x123001_3, .int .u8 x123002_3, .int .u8 x123003_3, .int .i64 x123004_3] 47 (0, 0)) hB48) : gb122 ≠ gb132)); have n9_ := Aside0.mk ((by rw [hg]; exact Nat.ne_of_gt (blk_lt (g := gb122) (o := .cells #[.int .u8 x123000_3, .int .u8 x123001_3, .int .u8 x123002_3, .int .u8 x123003_3, .int .i64 x123004_3] 47 (0, 0)) hB48) : gb132 ≠ gb122)); clear BK118; clear BK122; clear HB; have BK118 := n0_; have BK122 := n1_; have HB := n2_; have BK132 := n3_; have GW132 := n4_; have GE132 := n5_; have NB118_132 := n6_; have NB132_118 := n7_; have NB122_132 := n8_; have NB132_122 := n9_; clear n0_ n1_ n2_ n3_ n4_ n5_ n6_ n7_ n8_ n9_; clear hb hbox hg; refine hK.out _ _ ⟨(blk_cell BK122.out 0).trans rfl, (blk_cell BK122.out 1).trans rfl, (blk_cell BK122.out 2).trans rfl, (blk_cell BK122.out 3).trans rfl, (blk_cell BK122.out 4).trans rfl⟩ (fun hHeld => ?_); clear hK K; refine norm_ (a' := ?_) ?_ ?_; rotate_left
                    · show Act.put _ (some 11) _ = _
                      simp only [Act.put, List.setIfInBounds_toArray, List.set_cons_zero, List.set_cons_succ, i64_w, i32_w]; rfl
                    exact norm_ hB103 (hCont (gb132) _ ⟨hHeld, hB46, hB48, hB51, GW132.out, GE132.out, NB118_132.out, NB132_118.out, NB122_132.out, NB132_122.out, hB80⟩)
                  · skip
                    refine box_step ?hg (N := 11) ?hd (cs := #[.int .u8 0, .int .u8 0, .int .u8 0, .int .u8 0, .int .i64 0]) (t := 47) ?hr ?_; (case hd => rfl); (case hg => rfl); (case hr => first | (go_simp; done) | (go_simp; rfl)); intro gb132 hg w49 hbox hb; have n0_ := Aside0.mk (blk_below (g := gb118) (o := .cells #[.int .u8 x119000_3, .int .u8 x119001_3, .int .u8 x119002_3, .int .u8 x119003_3, .int .i64 x119004_3] 47 (0, 0)) hB46 hb); have n1_ := Aside0.mk (blk_below (g := gb122) (o := .cells #[.int .u8 x123000_3, .int .u8 x123001_3, .int .u8 x123002_3, .int .u8 x123003_3, .int .i64 x123004_3] 47 (0, 0)) hB48 hb); have n2_ := Aside0.mk (below_step hB81 hb); have n3_ := Aside0.mk (hbox); have n4_ := Aside0.mk ((by rw [hg]; exact (below_size hB81) : w.heap.size ≤ gb132)); have n5_ := Aside0.mk ((by rw [hg]; exact (below_size hB81) : w.heap.size ≤ gb132)); have n6_ := Aside0.mk ((by rw [hg]; exact Nat.ne_of_lt (blk_lt (g := gb118) (o := .cells #[.int .u8 x119000_3, .int .u8 x119001_3, .int .u8 x119002_3, .int .u8 x119003_3, .int .i64 x119004_3] 47 (0, 0)) hB46) : gb118 ≠ gb132)); have n7_ := Aside0.mk ((by rw [hg]; exact Nat.ne_of_gt (blk_lt (g := gb118) (o := .cells #[.int .u8 x119000_3, .int .u8 x119001_3, .int .u8 x119002_3, .int .u8 x119003_3, .int .i64 x119004_3] 47 (0, 0)) hB46) : gb132 ≠ gb118)); have n8_ := Aside0.mk ((by rw [hg]; exact Nat.ne_of_lt (blk_lt (g := gb122) (o := .cells #[.int .u8 x123000_3, .int .u8 x123001_3, .int .u8 x123002_3, .int .u8 x123003_3, .int .i64 x123004_3] 47 (0, 0)) hB48) : gb122 ≠ gb132)); have n9_ := Aside0.mk ((by rw [hg]; exact Nat.ne_of_gt (blk_lt (g := gb122) (o := .cells #[.int .u8 x123000_3, .int .u8 x123001_3, .int .u8 x123002_3, .int .u8 x123003_3, .int .i64 x123004_3] 47 (0, 0)) hB48) : gb132 ≠ gb122)); clear BK118; clear BK122; clear HB; have BK118 := n0_; have BK122 := n1_; have HB := n2_; have BK132 := n3_; have GW132 := n4_; have GE132 := n5_; have NB118_132 := n6_; have NB132_118 := n7_; have NB122_132 := n8_; have NB132_122 := n9_; clear n0_ n1_ n2_ n3_ n4_ n5_ n6_ n7_ n8_ n9_; clear hb hbox hg; refine hK.out _ _ ⟨(blk_cell BK122.out 0).trans rfl, (blk_cell BK122.out 1).trans rfl, (blk_cell BK122.out 2).trans rfl, (blk_cell BK122.out 3).trans rfl, (blk_cell BK122.out 4).trans rfl⟩ (fun hHeld => ?_); clear hK K; refine norm_ (a' := ?_) ?_ ?_; rotate_left
                    · show Act.put _ (some 11) _ = _
                      simp only [Act.put, List.setIfInBounds_toArray, List.set_cons_zero, List.set_cons_succ, i64_w, i32_w]; rfl
                    refine one_ (i := 5) (N := some 58) (mk_ 12 575) rfl rfl (one_of HT_.out (by kernel_rfl)) (by decide) (fun K hK => ?_); refine goes_ Tryd.func79 (by kernel_rfl) rfl #[.agg #[.int .u8 x123000_3, .int .u8 x123001_3, .int .u8 x123002_3, .int .u8 x123003_3, .int .i64 x123004_3], .int .u8 (bt t120 x8_3), .int .i64 t124] (by rfl) rfl rfl hB1 ?_; with_reducible refine (lockstitchref04_with.calls k3 x123000_3 x123001_3 x123002_3 x123003_3 x123004_3 (bt t120 x8_3) t124 t126 t127 t128 t129 t130 t131 _ A19.out).mono ?_; rintro e w50 ⟨rfl, hb⟩; refine ⟨_, rfl, ?_⟩; have n0_ := Aside0.mk (blk_below (g := gb118) (o := .cells #[.int .u8 x119000_3, .int .u8 x119001_3, .int .u8 x119002_3, .int .u8 x119003_3, .int .i64 x119004_3] 47 (0, 0)) hB46 hb); have n1_ := Aside0.mk (blk_below (g := gb122) (o := .cells #[.int .u8 x123000_3, .int .u8 x123001_3, .int .u8 x123002_3, .int .u8 x123003_3, .int .i64 x123004_3] 47 (0, 0)) hB48 hb); have n2_ := Aside0.mk (blk_below (g := gb132) (o := .cells #[.int .u8 0, .int .u8 0, .int .u8 0, .int .u8 0, .int .i64 0] 47 (0, 0)) hB51 hb); have n3_ := Aside0.mk (below_step hB80 hb); clear BK118; clear BK122; clear BK132; clear HB; have BK118 := n0_; have BK122 := n1_; have BK132 := n2_; have HB := n3_; clear n0_ n1_ n2_ n3_; (try clear hb); (try clear hb2); (try clear hk); (try clear hi); refine hK.out _ _ ⟨(blk_cell BK122.out 0).trans rfl, (blk_cell BK122.out 1).trans rfl, (blk_cell BK122.out 2).trans rfl, (blk_cell BK122.out 3).trans rfl, (blk_cell BK122.out 4).trans rfl⟩ (fun hHeld => ?_); clear hK K; refine norm_ (a' := ?_) ?_ ?_; rotate_left
                    · show Act.put _ (some 58) _ = _
                      simp only [Act.put, List.setIfInBounds_toArray, List.set_cons_zero, List.set_cons_succ, i64_w, i32_w]; rfl
                    refine pure_ (i := 6) (N := some 52) (v := ?_) (a' := ?_) (mk_ 12 639) rfl rfl (any_of HT_.out (by kernel_rfl)) (fun _ _ _ h => h) (Or.inl ⟨by rfl, ?_⟩) ?_ ?_; rotate_left
                    · intro w'; go_simp; with_reducible rfl
                    rotate_left
                    · simp only [Act.put, List.setIfInBounds_toArray, List.set_cons_zero, List.set_cons_succ, i64_w, i32_w]; rfl
                    refine pure_ (i := 7) (N := some 59) (v := ?_) (a' := ?_) (mk_ 12 767) rfl rfl (any_of HT_.out (by kernel_rfl)) (fun _ _ _ h => h) (Or.inl ⟨by rfl, ?_⟩) ?_ ?_; rotate_left
                    · intro w'; go_simp; with_reducible rfl
                    rotate_left
                    · simp only [Act.put, List.setIfInBounds_toArray, List.set_cons_zero, List.set_cons_succ, i64_w, i32_w]; rfl
                    refine pure_ (i := 8) (N := some 60) (v := ?_) (a' := ?_) (mk_ 12 1023) rfl rfl (any_of HT_.out (by kernel_rfl)) (fun _ _ _ h => h) (Or.inl ⟨by rfl, ?_⟩) ?_ ?_; rotate_left
                    · intro w'; go_simp; with_reducible rfl
                    rotate_left
                    · simp only [Act.put, List.setIfInBounds_toArray, List.set_cons_zero, List.set_cons_succ, i64_w, i32_w]; rfl
                    exact norm_ hB103 (hCont (gb132) _ ⟨hHeld, hB46, hB48, hB51, GW132.out, GE132.out, NB118_132.out, NB132_118.out, NB122_132.out, NB132_122.out, hB80⟩)
                rintro gb132 w51 ⟨hS_, h0_, h1_, h2_, h3_, h4_, h5_, h6_, h7_, h8_, h9_⟩; have n0_ : Aside0 (w51.heap[gb118]? = some (.cells #[.int .u8 x119000_3, .int .u8 x119001_3, .int .u8 x119002_3, .int .u8 x119003_3, .int .i64 x119004_3] 47 (0, 0))) := ⟨h0_⟩; have n1_ : Aside0 (w51.heap[gb122]? = some (.cells #[.int .u8 x123000_3, .int .u8 x123001_3, .int .u8 x123002_3, .int .u8 x123003_3, .int .i64 x123004_3] 47 (0, 0))) := ⟨h1_⟩; have n2_ : Aside0 (w51.heap[gb132]? = some (.cells #[.int .u8 0, .int .u8 0, .int .u8 0, .int .u8 0, .int .i64 0] 47 (0, 0))) := ⟨h2_⟩; have n3_ : Aside0 (w.heap.size ≤ gb132) := ⟨h3_⟩; have n4_ : Aside0 (w.heap.size ≤ gb132) := ⟨h4_⟩; have n5_ : Aside0 (gb118 ≠ gb132) := ⟨h5_⟩; have n6_ : Aside0 (gb132 ≠ gb118) := ⟨h6_⟩; have n7_ : Aside0 (gb122 ≠ gb132) := ⟨h7_⟩; have n8_ : Aside0 (gb132 ≠ gb122) := ⟨h8_⟩; have n9_ : Aside0 (Below w.heap.size w w51) := ⟨h9_⟩; clear BK118; clear BK122; clear HB; clear h0_ h1_ h2_ h3_ h4_ h5_ h6_ h7_ h8_ h9_; have BK118 := n0_; have BK122 := n1_; have BK132 := n2_; have GW132 := n3_; have GE132 := n4_; have NB118_132 := n5_; have NB132_118 := n6_; have NB122_132 := n7_; have NB132_122 := n8_; have HB := n9_; clear n0_ n1_ n2_ n3_ n4_ n5_ n6_ n7_ n8_ n9_; have hHeld : w51.cell? ⟨gb122, 0, none⟩ = some (.int .u8 x123000_3) ∧ w51.cell? ⟨gb122, 1, none⟩ = some (.int .u8 x123001_3) ∧ w51.cell? ⟨gb122, 2, none⟩ = some (.int .u8 x123002_3) ∧ w51.cell? ⟨gb122, 3, none⟩ = some (.int .u8 x123003_3) ∧ w51.cell? ⟨gb122, 4, none⟩ = some (.int .i64 x123004_3) := hS_; refine norm_ (a' := ?_) ?_ ?_; rotate_left
                · simp only [putAll, Act.put, List.setIfInBounds_toArray, List.set_cons_zero, List.set_cons_succ]; rfl
                refine one_ (i := 10) (N := none) (mk_ 12 2047) rfl rfl (one_of HT_.out (by kernel_rfl)) (by decide) (fun K hK => ?_); have hs52 : w51.cell? ⟨gb132, 0, none⟩ = some (.int .u8 0) := (blk_cell BK132.out 0).trans rfl; have hfs52 := blk_frozen BK132.out 0; have hns52_0 := NB118_132.out; have hns52_1 := NB122_132.out; have hms52_0 := NB132_118.out; have hms52_1 := NB132_122.out; have hs53 : w51.cell? ⟨gb132, 1, none⟩ = some (.int .u8 0) := (blk_cell BK132.out 1).trans rfl; have hfs53 := blk_frozen BK132.out 1; have hns53_0 := NB118_132.out; have hns53_1 := NB122_132.out; have hms53_0 := NB132_118.out; have hms53_1 := NB132_122.out; have hs54 : w51.cell? ⟨gb132, 2, none⟩ = some (.int .u8 0) := (blk_cell BK132.out 2).trans rfl; have hfs54 := blk_frozen BK132.out 2; have hns54_0 := NB118_132.out; have hns54_1 := NB122_132.out; have hms54_0 := NB132_118.out; have hms54_1 := NB132_122.out; have hs55 : w51.cell? ⟨gb132, 3, none⟩ = some (.int .u8 0) := (blk_cell BK132.out 3).trans rfl; have hfs55 := blk_frozen BK132.out 3; have hns55_0 := NB118_132.out; have hns55_1 := NB122_132.out; have hms55_0 := NB132_118.out; have hms55_1 := NB132_122.out; have hs56 : w51.cell? ⟨gb132, 4, none⟩ = some (.int .i64 0) := (blk_cell BK132.out 4).trans rfl; have hfs56 := blk_frozen BK132.out 4; have hns56_0 := NB118_132.out; have hns56_1 := NB122_132.out; have hms56_0 := NB132_118.out; have hms56_1 := NB132_122.out; refine skip_ (w1 := ?_) (by rfl) rfl ?_ ?_; rotate_left
                · go_simp; rfl
                refine hK.out _ _ ⟨((cell_far (p := ⟨gb132, _, none⟩) NB122_132.out _).trans (((cell_far (p := ⟨gb132, _, none⟩) NB122_132.out _).trans (((cell_far (p := ⟨gb132, _, none⟩) NB122_132.out _).trans (((cell_far (p := ⟨gb132, _, none⟩) NB122_132.out _).trans (((cell_far (p := ⟨gb132, _, none⟩) NB122_132.out _).trans (hHeld.1)))))))))), ((cell_far (p := ⟨gb132, _, none⟩) NB122_132.out _).trans (((cell_far (p := ⟨gb132, _, none⟩) NB122_132.out _).trans (((cell_far (p := ⟨gb132, _, none⟩) NB122_132.out _).trans (((cell_far (p := ⟨gb132, _, none⟩) NB122_132.out _).trans (((cell_far (p := ⟨gb132, _, none⟩) NB122_132.out _).trans (hHeld.2.1)))))))))), ((cell_far (p := ⟨gb132, _, none⟩) NB122_132.out _).trans (((cell_far (p := ⟨gb132, _, none⟩) NB122_132.out _).trans (((cell_far (p := ⟨gb132, _, none⟩) NB122_132.out _).trans (((cell_far (p := ⟨gb132, _, none⟩) NB122_132.out _).trans (((cell_far (p := ⟨gb132, _, none⟩) NB122_132.out _).trans (hHeld.2.2.1)))))))))), ((cell_far (p := ⟨gb132, _, none⟩) NB122_132.out _).trans (((cell_far (p := ⟨gb132, _, none⟩) NB122_132.out _).trans (((cell_far (p := ⟨gb132, _, none⟩) NB122_132.out _).trans (((cell_far (p := ⟨gb132, _, none⟩) NB122_132.out _).trans (((cell_far (p := ⟨gb132, _, none⟩) NB122_132.out _).trans (hHeld.2.2.2.1)))))))))), ((cell_far (p := ⟨gb132, _, none⟩) NB122_132.out _).trans (((cell_far (p := ⟨gb132, _, none⟩) NB122_132.out _).trans (((cell_far (p := ⟨gb132, _, none⟩) NB122_132.out _).trans (((cell_far (p := ⟨gb132, _, none⟩) NB122_132.out _).trans (((cell_far (p := ⟨gb132, _, none⟩) NB122_132.out _).trans (hHeld.2.2.2.2))))))))))⟩ (fun hHeld => ?_); clear hK K; refine pure_ (i := 11) (N := some 12) (v := ?_) (a' := ?_) (mk_ 12 4095) rfl rfl (any_of HT_.out (by kernel_rfl)) (fun _ _ _ h => h) (Or.inl ⟨by rfl, ?_⟩) ?_ ?_; rotate_left
                · intro w'; go_simp; with_reducible rfl
                rotate_left
                · simp only [Act.put, List.setIfInBounds_toArray, List.set_cons_zero, List.set_cons_succ, i64_w, i32_w]; rfl
                refine done_ (done_of HT_.out (by kernel_rfl)) ?_; have hnb57 := NB118_122.out; have hnc57 := NB122_118.out; have hnb58 := NB118_132.out; have hnc58 := NB132_118.out; have hcz59_0 : w51.cell? ⟨gb118, 0, none⟩ = some (.int .u8 x119000_3) := (blk_cell BK118.out 0).trans rfl; have hcz59_1 : w51.cell? ⟨gb118, 1, none⟩ = some (.int .u8 x119001_3) := (blk_cell BK118.out 1).trans rfl; have hcz59_2 : w51.cell? ⟨gb118, 2, none⟩ = some (.int .u8 x119002_3) := (blk_cell BK118.out 2).trans rfl; have hcz59_3 : w51.cell? ⟨gb118, 3, none⟩ = some (.int .u8 x119003_3) := (blk_cell BK118.out 3).trans rfl; have hcz59_4 : w51.cell? ⟨gb118, 4, none⟩ = some (.int .i64 x119004_3) := (blk_cell BK118.out 4).trans rfl; have hfz59_0 := blk_frozen BK118.out 0; have hfz59_1 := blk_frozen BK118.out 1; have hfz59_2 := blk_frozen BK118.out 2; have hfz59_3 := blk_frozen BK118.out 3; have hfz59_4 := blk_frozen BK118.out 4; try go_wp2
                refine bodyPost_ret (results_ct rfl _ _ gb118 47 #[.int .u8 0, .int .u8 0, .int .u8 0, .int .u8 0, .int .i64 0] (0, 0) _ rfl (by (with_reducible repeat (first | refine blk_drewN ?_ _ | refine blk_drew ?_ | refine blk_alloc ?_ _)); refine blk_put (cs := #[.int .u8 0, .int .u8 0, .int .u8 0, .int .u8 0, .int .i64 x119004_3]) ?_ 4 _ rfl; (with_reducible repeat (first | refine blk_drewN ?_ _ | refine blk_drew ?_ | refine blk_alloc ?_ _)); refine blk_put (cs := #[.int .u8 0, .int .u8 0, .int .u8 0, .int .u8 x119003_3, .int .i64 x119004_3]) ?_ 3 _ rfl; (with_reducible repeat (first | refine blk_drewN ?_ _ | refine blk_drew ?_ | refine blk_alloc ?_ _)); refine blk_put (cs := #[.int .u8 0, .int .u8 0, .int .u8 x119002_3, .int .u8 x119003_3, .int .i64 x119004_3]) ?_ 2 _ rfl; (with_reducible repeat (first | refine blk_drewN ?_ _ | refine blk_drew ?_ | refine blk_alloc ?_ _)); refine blk_put (cs := #[.int .u8 0, .int .u8 x119001_3, .int .u8 x119002_3, .int .u8 x119003_3, .int .i64 x119004_3]) ?_ 1 _ rfl; (with_reducible repeat (first | refine blk_drewN ?_ _ | refine blk_drew ?_ | refine blk_alloc ?_ _)); refine blk_put (cs := #[.int .u8 x119000_3, .int .u8 x119001_3, .int .u8 x119002_3, .int .u8 x119003_3, .int .i64 x119004_3]) ?_ 0 _ rfl; (with_reducible repeat (first | refine blk_drewN ?_ _ | refine blk_drew ?_ | refine blk_alloc ?_ _)); refine blk_far ?_ NB118_132.out _; (with_reducible repeat (first | refine blk_drewN ?_ _ | refine blk_drew ?_ | refine blk_alloc ?_ _)); refine blk_far ?_ NB118_132.out _; (with_reducible repeat (first | refine blk_drewN ?_ _ | refine blk_drew ?_ | refine blk_alloc ?_ _)); refine blk_far ?_ NB118_132.out _; (with_reducible repeat (first | refine blk_drewN ?_ _ | refine blk_drew ?_ | refine blk_alloc ?_ _)); refine blk_far ?_ NB118_132.out _; (with_reducible repeat (first | refine blk_drewN ?_ _ | refine blk_drew ?_ | refine blk_alloc ?_ _)); refine blk_far ?_ NB118_132.out _; (with_reducible repeat (first | refine blk_drewN ?_ _ | refine blk_drew ?_ | refine blk_alloc ?_ _)); exact BK118.out) Tryd.underlying47 rfl (by kernel_rfl)) rfl ?_; exact ⟨by first | rfl | (simp [errW_none, errW_some] <;> rfl) | (simp only [← hji13]; first | rfl | (simp [errW_none, errW_some] <;> rfl)) | (simp [*, errW_none, errW_some] <;> rfl), hB80⟩
              rw [if_pos c20] at H; have c20b0 : (t125 == 0) = true := beq_iff_eq.mpr c20; have c20b1 : (t125 != 0) = false := bne_eq_false_iff_eq.mpr c20; clear c20; by_cases c21 : t131 = true
              rotate_left
              · replace c21 := Bool.eq_false_iff.mpr c21; subst c21
                have H1 : (some (0, 0, 0, 0, 0, false)) = some (r1, r2, r3, r4, r5, r6) := by rw [if_neg (show ¬ (false = true) by decide)] at H; exact H
                clear H; have H := H1; clear H1; simp only [Option.some.injEq, Prod.mk.injEq] at H; obtain ⟨rfl, rfl, rfl, rfl, rfl, rfl⟩ := H; have p123 : 0 ≤ ((ji13) : Int) := of_decide_eq_true hB63; have q123 : (ji13) < (l0.length : Int) := of_decide_eq_true hB63; obtain ⟨ad123, e123, hx123_0⟩ := Kd.at_string HR0.out (ji13) p123 q123
                cases e123
                replace hx123_0 := (HB.out.cell (World.block_lt_of_cell? w _ hx123_0)).trans hx123_0; replace p123 := eq_true p123; replace q123 := eq_true q123; try go_wp2_with (first | ((with_reducible refine gate_callee (f := 78) rfl ?_); refine goesL_ (some 49) rfl rfl Tryd.func78 (by kernel_rfl) rfl #[.string (rdOf ByteArray.empty l0 (ji13))] rfl hB0 ?_; (with_reducible refine (lockstitchref02_Number.calls k3 (rdOf ByteArray.empty l0 (ji13)) t124 t125 _ A16.out).mono ?_); rintro e w' ⟨rfl, ⟨nd, rfl⟩⟩; refine ⟨_, rfl, ?_⟩; (try (rw [drewN_self wr]; generalize hq_ : World.drewN wr _ = wr; have n0_ : Aside0 (wr.heap[gb118]? = some (.cells #[.int .u8 x119000_3, .int .u8 x119001_3, .int .u8 x119002_3, .int .u8 x119003_3, .int .i64 x119004_3] 47 (0, 0))) := ⟨hB99⟩; have n1_ : Aside0 (wr.heap[gb122]? = some (.cells #[.int .u8 x123000_3, .int .u8 x123001_3, .int .u8 x123002_3, .int .u8 x123003_3, .int .i64 x123004_3] 47 (0, 0))) := ⟨hB100⟩; have n2_ : Aside0 (Below w.heap.size w wr) := ⟨hB102⟩; clear BK118 BK122 HB hq_; have BK118 := n0_; have BK122 := n1_; have HB := n2_; clear n0_ n1_ n2_))))
                have n0_ := Aside0.mk (blk_drew BK118.out); have n1_ := Aside0.mk (blk_drew BK122.out); have n2_ := Aside0.mk (below_drew1 HB.out); clear BK118; clear BK122; clear HB; have BK118 := n0_; have BK122 := n1_; have HB := n2_; clear n0_ n1_ n2_; have p18 : 0 ≤ (x8_3 : Int) := of_decide_eq_true hB63; have q18 : x8_3 < (t120.size : Int) := of_decide_eq_true hB63; have hx18 := bt_at t120 x8_3; replace p18 := eq_true p18; replace q18 := eq_true q18; refine start_ (n := 12) (S := fun w' => w'.cell? ⟨gb122, 0, none⟩ = some (.int .u8 x123000_3) ∧ w'.cell? ⟨gb122, 1, none⟩ = some (.int .u8 x123001_3) ∧ w'.cell? ⟨gb122, 2, none⟩ = some (.int .u8 x123002_3) ∧ w'.cell? ⟨gb122, 3, none⟩ = some (.int .u8 x123003_3) ∧ w'.cell? ⟨gb122, 4, none⟩ = some (.int .i64 x123004_3)) (ds := []) #[false, false, false, false, false, false, false, false, false, false, false, false] (by kernel_rfl) rfl rfl ⟨(blk_cell BK122.out 0).trans rfl, (blk_cell BK122.out 1).trans rfl, (blk_cell BK122.out 2).trans rfl, (blk_cell BK122.out 3).trans rfl, (blk_cell BK122.out 4).trans rfl⟩ (fun hHeld => ?_); refine with_tabW lockstitchref04_read.tab11 lockstitchref04_read.bits11 (fun HT_ HW_ => ?_); generalize wr.drew = w36 at BK118 BK122 HB hHeld ⊢; refine pure_ (i := 1) (N := some 54) (v := ?_) (a' := ?_) (mk_ 12 2) rfl rfl (any_of HT_.out (by kernel_rfl)) (fun _ _ _ h => h) (Or.inl ⟨by rfl, ?_⟩) ?_ ?_; rotate_left
                · intro w'; go_simp; with_reducible rfl
                rotate_left
                · simp only [Act.put, List.setIfInBounds_toArray, List.set_cons_zero, List.set_cons_succ, i64_w, i32_w]; rfl
                refine pure_ (i := 2) (N := some 55) (v := ?_) (a' := ?_) (mk_ 12 6) rfl rfl (any_of HT_.out (by kernel_rfl)) (fun _ _ _ h => h) (Or.inl ⟨by rfl, ?_⟩) ?_ ?_; rotate_left
                · intro w'; go_simp; with_reducible rfl
                rotate_left
                · simp only [Act.put, List.setIfInBounds_toArray, List.set_cons_zero, List.set_cons_succ, i64_w, i32_w]; rfl
                refine pure_ (i := 4) (N := some 57) (v := ?_) (a' := ?_) (mk_ 12 22) rfl rfl (any_of HT_.out (by kernel_rfl)) (fun _ _ _ h => h) (Or.inl ⟨by rfl, ?_⟩) ?_ ?_; rotate_left
                · intro w'; go_simp; with_reducible rfl
                rotate_left
                · simp only [Act.put, List.setIfInBounds_toArray, List.set_cons_zero, List.set_cons_succ, i64_w, i32_w]; rfl
                refine take_ (i := 0) (N := some 53) (v := ?_) (a' := ?_) (mk_ 12 23) rfl rfl (take_ofW HT_.out HW_.out (by kernel_rfl)) (fun _ _ _ h => h) (Or.inl ⟨by rfl, ?_⟩) hHeld ?_ ?_; rotate_left
                · rintro w' ⟨s0, s1, s2, s3, s4⟩; go_simp; with_reducible rfl
                rotate_left
                · simp only [Act.put, List.setIfInBounds_toArray, List.set_cons_zero, List.set_cons_succ, i64_w, i32_w]; rfl
                refine take_ (i := 3) (N := some 56) (v := ?_) (a' := ?_) (mk_ 12 31) rfl rfl (take_ofW HT_.out HW_.out (by kernel_rfl)) (fun _ _ _ h => h) (Or.inl ⟨by rfl, ?_⟩) hHeld ?_ ?_; rotate_left
                · rintro w' ⟨s0, s1, s2, s3, s4⟩; go_simp; with_reducible rfl
                rotate_left
                · simp only [Act.put, List.setIfInBounds_toArray, List.set_cons_zero, List.set_cons_succ, i64_w, i32_w]; rfl
                refine join_ (σ := Nat) 2 #[true, true, true, true, true, true, true, true, true, true, false, false] (fun s_ => [(58, .tuple #[.agg #[.int .u8 t126, .int .u8 t127, .int .u8 t128, .int .u8 t129, .int .i64 t130], .bool false]), (11, .pointer (some ⟨s_, 0, none⟩)), (52, .tuple #[.agg #[.int .u8 t126, .int .u8 t127, .int .u8 t128, .int .u8 t129, .int .i64 t130], .bool false]), (59, .agg #[.int .u8 t126, .int .u8 t127, .int .u8 t128, .int .u8 t129, .int .i64 t130]), (60, .bool false)]) (fun s_ w' => (w'.cell? ⟨gb122, 0, none⟩ = some (.int .u8 x123000_3) ∧ w'.cell? ⟨gb122, 1, none⟩ = some (.int .u8 x123001_3) ∧ w'.cell? ⟨gb122, 2, none⟩ = some (.int .u8 x123002_3) ∧ w'.cell? ⟨gb122, 3, none⟩ = some (.int .u8 x123003_3) ∧ w'.cell? ⟨gb122, 4, none⟩ = some (.int .i64 x123004_3)) ∧ (w'.heap[gb118]? = some (.cells #[.int .u8 x119000_3, .int .u8 x119001_3, .int .u8 x119002_3, .int .u8 x119003_3, .int .i64 x119004_3] 47 (0, 0))) ∧ (w'.heap[gb122]? = some (.cells #[.int .u8 x123000_3, .int .u8 x123001_3, .int .u8 x123002_3, .int .u8 x123003_3, .int .i64 x123004_3] 47 (0, 0))) ∧ (w'.heap[s_]? = some (.cells #[.int .u8 0, .int .u8 0, .int .u8 0, .int .u8 0, .int .i64 0] 47 (0, 0))) ∧ (w.heap.size ≤ s_) ∧ (w.heap.size ≤ s_) ∧ (gb118 ≠ s_) ∧ (s_ ≠ gb118) ∧ (gb122 ≠ s_) ∧ (s_ ≠ gb122) ∧ (Below w.heap.size w w')) ?_ ?_; rotate_left
                · intro hCont; refine two_ (i := 5) (j := 9) (Ni := some 58) (Nj := some 11) #[true, true, true, true, true, true, false, false, false, false, false, false] #[true, true, true, true, true, false, false, false, false, true, false, false] rfl rfl rfl rfl (two_of HT_.out (by kernel_rfl)) (by decide) (by decide) (fun K hK => ?_) (fun K hK => ?_)
                  · skip
                    refine goes_ Tryd.func79 (by kernel_rfl) rfl #[.agg #[.int .u8 x123000_3, .int .u8 x123001_3, .int .u8 x123002_3, .int .u8 x123003_3, .int .i64 x123004_3], .int .u8 (bt t120 x8_3), .int .i64 t124] (by rfl) rfl rfl hB1 ?_; with_reducible refine (lockstitchref04_with.calls k3 x123000_3 x123001_3 x123002_3 x123003_3 x123004_3 (bt t120 x8_3) t124 t126 t127 t128 t129 t130 false _ A19.out).mono ?_; rintro e w37 ⟨rfl, hb⟩; refine ⟨_, rfl, ?_⟩; have n0_ := Aside0.mk (blk_below (g := gb118) (o := .cells #[.int .u8 x119000_3, .int .u8 x119001_3, .int .u8 x119002_3, .int .u8 x119003_3, .int .i64 x119004_3] 47 (0, 0)) hB46 hb); have n1_ := Aside0.mk (blk_below (g := gb122) (o := .cells #[.int .u8 x123000_3, .int .u8 x123001_3, .int .u8 x123002_3, .int .u8 x123003_3, .int .i64 x123004_3] 47 (0, 0)) hB48 hb); have n2_ := Aside0.mk (below_step hB81 hb); clear BK118; clear BK122; clear HB; have BK118 := n0_; have BK122 := n1_; have HB := n2_; clear n0_ n1_ n2_; (try clear hb); (try clear hb2); (try clear hk); (try clear hi); refine hK.out _ _ ⟨(blk_cell BK122.out 0).trans rfl, (blk_cell BK122.out 1).trans rfl, (blk_cell BK122.out 2).trans rfl, (blk_cell BK122.out 3).trans rfl, (blk_cell BK122.out 4).trans rfl⟩ (fun hHeld => ?_); clear hK K; refine norm_ (a' := ?_) ?_ ?_; rotate_left
                    · show Act.put _ (some 58) _ = _
                      simp only [Act.put, List.setIfInBounds_toArray, List.set_cons_zero, List.set_cons_succ, i64_w, i32_w]; rfl
                    refine pure_ (i := 6) (N := some 52) (v := ?_) (a' := ?_) (mk_ 12 127) rfl rfl (any_of HT_.out (by kernel_rfl)) (fun _ _ _ h => h) (Or.inl ⟨by rfl, ?_⟩) ?_ ?_; rotate_left
                    · intro w'; go_simp; with_reducible rfl
                    rotate_left
                    · simp only [Act.put, List.setIfInBounds_toArray, List.set_cons_zero, List.set_cons_succ, i64_w, i32_w]; rfl
                    refine pure_ (i := 7) (N := some 59) (v := ?_) (a' := ?_) (mk_ 12 255) rfl rfl (any_of HT_.out (by kernel_rfl)) (fun _ _ _ h => h) (Or.inl ⟨by rfl, ?_⟩) ?_ ?_; rotate_left
                    · intro w'; go_simp; with_reducible rfl
                    rotate_left
                    · simp only [Act.put, List.setIfInBounds_toArray, List.set_cons_zero, List.set_cons_succ, i64_w, i32_w]; rfl
                    refine pure_ (i := 8) (N := some 60) (v := ?_) (a' := ?_) (mk_ 12 511) rfl rfl (any_of HT_.out (by kernel_rfl)) (fun _ _ _ h => h) (Or.inl ⟨by rfl, ?_⟩) ?_ ?_; rotate_left
                    · intro w'; go_simp; with_reducible rfl
                    rotate_left
                    · simp only [Act.put, List.setIfInBounds_toArray, List.set_cons_zero, List.set_cons_succ, i64_w, i32_w]; rfl
                    refine one_ (i := 9) (N := some 11) (mk_ 12 1023) rfl rfl (one_of HT_.out (by kernel_rfl)) (by decide) (fun K hK => ?_); refine box_step ?hg (N := 11) ?hd (cs := #[.int .u8 0, .int .u8 0, .int .u8 0, .int .u8 0, .int .i64 0]) (t := 47) ?hr ?_; (case hd => rfl); (case hg => rfl); (case hr => first | (go_simp; done) | (go_simp; rfl)); intro gb132 hg w38 hbox hb; have n0_ := Aside0.mk (blk_below (g := gb118) (o := .cells #[.int .u8 x119000_3, .int .u8 x119001_3, .int .u8 x119002_3, .int .u8 x119003_3, .int .i64 x119004_3] 47 (0, 0)) hB46 hb); have n1_ := Aside0.mk (blk_below (g := gb122) (o := .cells #[.int .u8 x123000_3, .int .u8 x123001_3, .int .u8 x123002_3, .int .u8 x123003_3, .int .i64 x123004_3] 47 (0, 0)) hB48 hb); have n2_ := Aside0.mk (below_step hB81 hb); have n3_ := Aside0.mk (hbox); have n4_ := Aside0.mk ((by rw [hg]; exact (below_size hB81) : w.heap.size ≤ gb132)); have n5_ := Aside0.mk ((by rw [hg]; exact (below_size hB81) : w.heap.size ≤ gb132)); have n6_ := Aside0.mk ((by rw [hg]; exact Nat.ne_of_lt (blk_lt (g := gb118) (o := .cells #[.int .u8 x119000_3, .int .u8 x119001_3, .int .u8 x119002_3, .int .u8 x119003_3, .int .i64 x119004_3] 47 (0, 0)) hB46) : gb118 ≠ gb132)); have n7_ := Aside0.mk ((by rw [hg]; exact Nat.ne_of_gt (blk_lt (g := gb118) (o := .cells #[.int .u8 x119000_3, .int .u8 x119001_3, .int .u8 x119002_3, .int .u8 x119003_3, .int .i64 x119004_3] 47 (0, 0)) hB46) : gb132 ≠ gb118)); have n8_ := Aside0.mk ((by rw [hg]; exact Nat.ne_of_lt (blk_lt (g := gb122) (o := .cells #[.int .u8 x123000_3, .int .u8 x123001_3, .int .u8 x123002_3, .int .u8 x123003_3, .int .i64 x123004_3] 47 (0, 0)) hB48) : gb122 ≠ gb132)); have n9_ := Aside0.mk ((by rw [hg]; exact Nat.ne_of_gt (blk_lt (g := gb122) (o := .cells #[.int .u8 x123000_3, .int .u8 x123001_3, .int .u8 x123002_3, .int .u8 x123003_3, .int .i64 x123004_3] 47 (0, 0)) hB48) : gb132 ≠ gb122)); clear BK118; clear BK122; clear HB; have BK118 := n0_; have BK122 := n1_; have HB := n2_; have BK132 := n3_; have GW132 := n4_; have GE132 := n5_; have NB118_132 := n6_; have NB132_118 := n7_; have NB122_132 := n8_; have NB132_122 := n9_; clear n0_ n1_ n2_ n3_ n4_ n5_ n6_ n7_ n8_ n9_; clear hb hbox hg; refine hK.out _ _ ⟨(blk_cell BK122.out 0).trans rfl, (blk_cell BK122.out 1).trans rfl, (blk_cell BK122.out 2).trans rfl, (blk_cell BK122.out 3).trans rfl, (blk_cell BK122.out 4).trans rfl⟩ (fun hHeld => ?_); clear hK K; refine norm_ (a' := ?_) ?_ ?_; rotate_left
                    · show Act.put _ (some 11) _ = _
                      simp only [Act.put, List.setIfInBounds_toArray, List.set_cons_zero, List.set_cons_succ, i64_w, i32_w]; rfl
                    exact norm_ hB103 (hCont (gb132) _ ⟨hHeld, hB46, hB48, hB51, GW132.out, GE132.out, NB118_132.out, NB132_118.out, NB122_132.out, NB132_122.out, hB80⟩)
                  · skip
                    refine box_step ?hg (N := 11) ?hd (cs := #[.int .u8 0, .int .u8 0, .int .u8 0, .int .u8 0, .int .i64 0]) (t := 47) ?hr ?_; (case hd => rfl); (case hg => rfl); (case hr => first | (go_simp; done) | (go_simp; rfl)); intro gb132 hg w37 hbox hb; have n0_ := Aside0.mk (blk_below (g := gb118) (o := .cells #[.int .u8 x119000_3, .int .u8 x119001_3, .int .u8 x119002_3, .int .u8 x119003_3, .int .i64 x119004_3] 47 (0, 0)) hB46 hb); have n1_ := Aside0.mk (blk_below (g := gb122) (o := .cells #[.int .u8 x123000_3, .int .u8 x123001_3, .int .u8 x123002_3, .int .u8 x123003_3, .int .i64 x123004_3] 47 (0, 0)) hB48 hb); have n2_ := Aside0.mk (below_step hB81 hb); have n3_ := Aside0.mk (hbox); have n4_ := Aside0.mk ((by rw [hg]; exact (below_size hB81) : w.heap.size ≤ gb132)); have n5_ := Aside0.mk ((by rw [hg]; exact (below_size hB81) : w.heap.size ≤ gb132)); have n6_ := Aside0.mk ((by rw [hg]; exact Nat.ne_of_lt (blk_lt (g := gb118) (o := .cells #[.int .u8 x119000_3, .int .u8 x119001_3, .int .u8 x119002_3, .int .u8 x119003_3, .int .i64 x119004_3] 47 (0, 0)) hB46) : gb118 ≠ gb132)); have n7_ := Aside0.mk ((by rw [hg]; exact Nat.ne_of_gt (blk_lt (g := gb118) (o := .cells #[.int .u8 x119000_3, .int .u8 x119001_3, .int .u8 x119002_3, .int .u8 x119003_3, .int .i64 x119004_3] 47 (0, 0)) hB46) : gb132 ≠ gb118)); have n8_ := Aside0.mk ((by rw [hg]; exact Nat.ne_of_lt (blk_lt (g := gb122) (o := .cells #[.int .u8 x123000_3, .int .u8 x123001_3, .int .u8 x123002_3, .int .u8 x123003_3, .int .i64 x123004_3] 47 (0, 0)) hB48) : gb122 ≠ gb132)); have n9_ := Aside0.mk ((by rw [hg]; exact Nat.ne_of_gt (blk_lt (g := gb122) (o := .cells #[.int .u8 x123000_3, .int .u8 x123001_3, .int .u8 x123002_3, .int .u8 x123003_3, .int .i64 x123004_3] 47 (0, 0)) hB48) : gb132 ≠ gb122)); clear BK118; clear BK122; clear HB; have BK118 := n0_; have BK122 := n1_; have HB := n2_; have BK132 := n3_; have GW132 := n4_; have GE132 := n5_; have NB118_132 := n6_; have NB132_118 := n7_; have NB122_132 := n8_; have NB132_122 := n9_; clear n0_ n1_ n2_ n3_ n4_ n5_ n6_ n7_ n8_ n9_; clear hb hbox hg; refine hK.out _ _ ⟨(blk_cell BK122.out 0).trans rfl, (blk_cell BK122.out 1).trans rfl, (blk_cell BK122.out 2).trans rfl, (blk_cell BK122.out 3).trans rfl, (blk_cell BK122.out 4).trans rfl⟩ (fun hHeld => ?_); clear hK K; refine norm_ (a' := ?_) ?_ ?_; rotate_left
                    · show Act.put _ (some 11) _ = _
                      simp only [Act.put, List.setIfInBounds_toArray, List.set_cons_zero, List.set_cons_succ, i64_w, i32_w]; rfl
                    refine one_ (i := 5) (N := some 58) (mk_ 12 575) rfl rfl (one_of HT_.out (by kernel_rfl)) (by decide) (fun K hK => ?_); refine goes_ Tryd.func79 (by kernel_rfl) rfl #[.agg #[.int .u8 x123000_3, .int .u8 x123001_3, .int .u8 x123002_3, .int .u8 x123003_3, .int .i64 x123004_3], .int .u8 (bt t120 x8_3), .int .i64 t124] (by rfl) rfl rfl hB1 ?_; with_reducible refine (lockstitchref04_with.calls k3 x123000_3 x123001_3 x123002_3 x123003_3 x123004_3 (bt t120 x8_3) t124 t126 t127 t128 t129 t130 false _ A19.out).mono ?_; rintro e w38 ⟨rfl, hb⟩; refine ⟨_, rfl, ?_⟩; have n0_ := Aside0.mk (blk_below (g := gb118) (o := .cells #[.int .u8 x119000_3, .int .u8 x119001_3, .int .u8 x119002_3, .int .u8 x119003_3, .int .i64 x119004_3] 47 (0, 0)) hB46 hb); have n1_ := Aside0.mk (blk_below (g := gb122) (o := .cells #[.int .u8 x123000_3, .int .u8 x123001_3, .int .u8 x123002_3, .int .u8 x123003_3, .int .i64 x123004_3] 47 (0, 0)) hB48 hb); have n2_ := Aside0.mk (blk_below (g := gb132) (o := .cells #[.int .u8 0, .int .u8 0, .int .u8 0, .int .u8 0, .int .i64 0] 47 (0, 0)) hB51 hb); have n3_ := Aside0.mk (below_step hB80 hb); clear BK118; clear BK122; clear BK132; clear HB; have BK118 := n0_; have BK122 := n1_; have BK132 := n2_; have HB := n3_; clear n0_ n1_ n2_ n3_; (try clear hb); (try clear hb2); (try clear hk); (try clear hi); refine hK.out _ _ ⟨(blk_cell BK122.out 0).trans rfl, (blk_cell BK122.out 1).trans rfl, (blk_cell BK122.out 2).trans rfl, (blk_cell BK122.out 3).trans rfl, (blk_cell BK122.out 4).trans rfl⟩ (fun hHeld => ?_); clear hK K; refine norm_ (a' := ?_) ?_ ?_; rotate_left
                    · show Act.put _ (some 58) _ = _
                      simp only [Act.put, List.setIfInBounds_toArray, List.set_cons_zero, List.set_cons_succ, i64_w, i32_w]; rfl
                    refine pure_ (i := 6) (N := some 52) (v := ?_) (a' := ?_) (mk_ 12 639) rfl rfl (any_of HT_.out (by kernel_rfl)) (fun _ _ _ h => h) (Or.inl ⟨by rfl, ?_⟩) ?_ ?_; rotate_left
                    · intro w'; go_simp; with_reducible rfl
                    rotate_left
                    · simp only [Act.put, List.setIfInBounds_toArray, List.set_cons_zero, List.set_cons_succ, i64_w, i32_w]; rfl
                    refine pure_ (i := 7) (N := some 59) (v := ?_) (a' := ?_) (mk_ 12 767) rfl rfl (any_of HT_.out (by kernel_rfl)) (fun _ _ _ h => h) (Or.inl ⟨by rfl, ?_⟩) ?_ ?_; rotate_left
                    · intro w'; go_simp; with_reducible rfl
                    rotate_left
                    · simp only [Act.put, List.setIfInBounds_toArray, List.set_cons_zero, List.set_cons_succ, i64_w, i32_w]; rfl
                    refine pure_ (i := 8) (N := some 60) (v := ?_) (a' := ?_) (mk_ 12 1023) rfl rfl (any_of HT_.out (by kernel_rfl)) (fun _ _ _ h => h) (Or.inl ⟨by rfl, ?_⟩) ?_ ?_; rotate_left
                    · intro w'; go_simp; with_reducible rfl
                    rotate_left
                    · simp only [Act.put, List.setIfInBounds_toArray, List.set_cons_zero, List.set_cons_succ, i64_w, i32_w]; rfl
                    exact norm_ hB103 (hCont (gb132) _ ⟨hHeld, hB46, hB48, hB51, GW132.out, GE132.out, NB118_132.out, NB132_118.out, NB122_132.out, NB132_122.out, hB80⟩)
                rintro gb132 w39 ⟨hS_, h0_, h1_, h2_, h3_, h4_, h5_, h6_, h7_, h8_, h9_⟩; have n0_ : Aside0 (w39.heap[gb118]? = some (.cells #[.int .u8 x119000_3, .int .u8 x119001_3, .int .u8 x119002_3, .int .u8 x119003_3, .int .i64 x119004_3] 47 (0, 0))) := ⟨h0_⟩; have n1_ : Aside0 (w39.heap[gb122]? = some (.cells #[.int .u8 x123000_3, .int .u8 x123001_3, .int .u8 x123002_3, .int .u8 x123003_3, .int .i64 x123004_3] 47 (0, 0))) := ⟨h1_⟩; have n2_ : Aside0 (w39.heap[gb132]? = some (.cells #[.int .u8 0, .int .u8 0, .int .u8 0, .int .u8 0, .int .i64 0] 47 (0, 0))) := ⟨h2_⟩; have n3_ : Aside0 (w.heap.size ≤ gb132) := ⟨h3_⟩; have n4_ : Aside0 (w.heap.size ≤ gb132) := ⟨h4_⟩; have n5_ : Aside0 (gb118 ≠ gb132) := ⟨h5_⟩; have n6_ : Aside0 (gb132 ≠ gb118) := ⟨h6_⟩; have n7_ : Aside0 (gb122 ≠ gb132) := ⟨h7_⟩; have n8_ : Aside0 (gb132 ≠ gb122) := ⟨h8_⟩; have n9_ : Aside0 (Below w.heap.size w w39) := ⟨h9_⟩; clear BK118; clear BK122; clear HB; clear h0_ h1_ h2_ h3_ h4_ h5_ h6_ h7_ h8_ h9_; have BK118 := n0_; have BK122 := n1_; have BK132 := n2_; have GW132 := n3_; have GE132 := n4_; have NB118_132 := n5_; have NB132_118 := n6_; have NB122_132 := n7_; have NB132_122 := n8_; have HB := n9_; clear n0_ n1_ n2_ n3_ n4_ n5_ n6_ n7_ n8_ n9_; have hHeld : w39.cell? ⟨gb122, 0, none⟩ = some (.int .u8 x123000_3) ∧ w39.cell? ⟨gb122, 1, none⟩ = some (.int .u8 x123001_3) ∧ w39.cell? ⟨gb122, 2, none⟩ = some (.int .u8 x123002_3) ∧ w39.cell? ⟨gb122, 3, none⟩ = some (.int .u8 x123003_3) ∧ w39.cell? ⟨gb122, 4, none⟩ = some (.int .i64 x123004_3) := hS_; refine norm_ (a' := ?_) ?_ ?_; rotate_left
                · simp only [putAll, Act.put, List.setIfInBounds_toArray, List.set_cons_zero, List.set_cons_succ]; rfl
                refine one_ (i := 10) (N := none) (mk_ 12 2047) rfl rfl (one_of HT_.out (by kernel_rfl)) (by decide) (fun K hK => ?_); have hs40 : w39.cell? ⟨gb132, 0, none⟩ = some (.int .u8 0) := (blk_cell BK132.out 0).trans rfl; have hfs40 := blk_frozen BK132.out 0; have hns40_0 := NB118_132.out; have hns40_1 := NB122_132.out; have hms40_0 := NB132_118.out; have hms40_1 := NB132_122.out; have hs41 : w39.cell? ⟨gb132, 1, none⟩ = some (.int .u8 0) := (blk_cell BK132.out 1).trans rfl; have hfs41 := blk_frozen BK132.out 1; have hns41_0 := NB118_132.out; have hns41_1 := NB122_132.out; have hms41_0 := NB132_118.out; have hms41_1 := NB132_122.out; have hs42 : w39.cell? ⟨gb132, 2, none⟩ = some (.int .u8 0) := (blk_cell BK132.out 2).trans rfl; have hfs42 := blk_frozen BK132.out 2; have hns42_0 := NB118_132.out; have hns42_1 := NB122_132.out; have hms42_0 := NB132_118.out; have hms42_1 := NB132_122.out; have hs43 : w39.cell? ⟨gb132, 3, none⟩ = some (.int .u8 0) := (blk_cell BK132.out 3).trans rfl; have hfs43 := blk_frozen BK132.out 3; have hns43_0 := NB118_132.out; have hns43_1 := NB122_132.out; have hms43_0 := NB132_118.out; have hms43_1 := NB132_122.out; have hs44 : w39.cell? ⟨gb132, 4, none⟩ = some (.int .i64 0) := (blk_cell BK132.out 4).trans rfl; have hfs44 := blk_frozen BK132.out 4; have hns44_0 := NB118_132.out; have hns44_1 := NB122_132.out; have hms44_0 := NB132_118.out; have hms44_1 := NB132_122.out; refine skip_ (w1 := ?_) (by rfl) rfl ?_ ?_; rotate_left
                · go_simp; rfl
                refine hK.out _ _ ⟨((cell_far (p := ⟨gb132, _, none⟩) NB122_132.out _).trans (((cell_far (p := ⟨gb132, _, none⟩) NB122_132.out _).trans (((cell_far (p := ⟨gb132, _, none⟩) NB122_132.out _).trans (((cell_far (p := ⟨gb132, _, none⟩) NB122_132.out _).trans (((cell_far (p := ⟨gb132, _, none⟩) NB122_132.out _).trans (hHeld.1)))))))))), ((cell_far (p := ⟨gb132, _, none⟩) NB122_132.out _).trans (((cell_far (p := ⟨gb132, _, none⟩) NB122_132.out _).trans (((cell_far (p := ⟨gb132, _, none⟩) NB122_132.out _).trans (((cell_far (p := ⟨gb132, _, none⟩) NB122_132.out _).trans (((cell_far (p := ⟨gb132, _, none⟩) NB122_132.out _).trans (hHeld.2.1)))))))))), ((cell_far (p := ⟨gb132, _, none⟩) NB122_132.out _).trans (((cell_far (p := ⟨gb132, _, none⟩) NB122_132.out _).trans (((cell_far (p := ⟨gb132, _, none⟩) NB122_132.out _).trans (((cell_far (p := ⟨gb132, _, none⟩) NB122_132.out _).trans (((cell_far (p := ⟨gb132, _, none⟩) NB122_132.out _).trans (hHeld.2.2.1)))))))))), ((cell_far (p := ⟨gb132, _, none⟩) NB122_132.out _).trans (((cell_far (p := ⟨gb132, _, none⟩) NB122_132.out _).trans (((cell_far (p := ⟨gb132, _, none⟩) NB122_132.out _).trans (((cell_far (p := ⟨gb132, _, none⟩) NB122_132.out _).trans (((cell_far (p := ⟨gb132, _, none⟩) NB122_132.out _).trans (hHeld.2.2.2.1)))))))))), ((cell_far (p := ⟨gb132, _, none⟩) NB122_132.out _).trans (((cell_far (p := ⟨gb132, _, none⟩) NB122_132.out _).trans (((cell_far (p := ⟨gb132, _, none⟩) NB122_132.out _).trans (((cell_far (p := ⟨gb132, _, none⟩) NB122_132.out _).trans (((cell_far (p := ⟨gb132, _, none⟩) NB122_132.out _).trans (hHeld.2.2.2.2))))))))))⟩ (fun hHeld => ?_); clear hK K; refine pure_ (i := 11) (N := some 12) (v := ?_) (a' := ?_) (mk_ 12 4095) rfl rfl (any_of HT_.out (by kernel_rfl)) (fun _ _ _ h => h) (Or.inl ⟨by rfl, ?_⟩) ?_ ?_; rotate_left
                · intro w'; go_simp; with_reducible rfl
                rotate_left
                · simp only [Act.put, List.setIfInBounds_toArray, List.set_cons_zero, List.set_cons_succ, i64_w, i32_w]; rfl
                refine done_ (done_of HT_.out (by kernel_rfl)) ?_; have hnb45 := NB118_122.out; have hnc45 := NB122_118.out; have hnb46 := NB118_132.out; have hnc46 := NB132_118.out; have hcz47_0 : w39.cell? ⟨gb118, 0, none⟩ = some (.int .u8 x119000_3) := (blk_cell BK118.out 0).trans rfl; have hcz47_1 : w39.cell? ⟨gb118, 1, none⟩ = some (.int .u8 x119001_3) := (blk_cell BK118.out 1).trans rfl; have hcz47_2 : w39.cell? ⟨gb118, 2, none⟩ = some (.int .u8 x119002_3) := (blk_cell BK118.out 2).trans rfl; have hcz47_3 : w39.cell? ⟨gb118, 3, none⟩ = some (.int .u8 x119003_3) := (blk_cell BK118.out 3).trans rfl; have hcz47_4 : w39.cell? ⟨gb118, 4, none⟩ = some (.int .i64 x119004_3) := (blk_cell BK118.out 4).trans rfl; have hfz47_0 := blk_frozen BK118.out 0; have hfz47_1 := blk_frozen BK118.out 1; have hfz47_2 := blk_frozen BK118.out 2; have hfz47_3 := blk_frozen BK118.out 3; have hfz47_4 := blk_frozen BK118.out 4; try go_wp2
                refine bodyPost_ret (results_ct rfl _ _ gb118 47 #[.int .u8 0, .int .u8 0, .int .u8 0, .int .u8 0, .int .i64 0] (0, 0) _ rfl (by (with_reducible repeat (first | refine blk_drewN ?_ _ | refine blk_drew ?_ | refine blk_alloc ?_ _)); refine blk_put (cs := #[.int .u8 0, .int .u8 0, .int .u8 0, .int .u8 0, .int .i64 x119004_3]) ?_ 4 _ rfl; (with_reducible repeat (first | refine blk_drewN ?_ _ | refine blk_drew ?_ | refine blk_alloc ?_ _)); refine blk_put (cs := #[.int .u8 0, .int .u8 0, .int .u8 0, .int .u8 x119003_3, .int .i64 x119004_3]) ?_ 3 _ rfl; (with_reducible repeat (first | refine blk_drewN ?_ _ | refine blk_drew ?_ | refine blk_alloc ?_ _)); refine blk_put (cs := #[.int .u8 0, .int .u8 0, .int .u8 x119002_3, .int .u8 x119003_3, .int .i64 x119004_3]) ?_ 2 _ rfl; (with_reducible repeat (first | refine blk_drewN ?_ _ | refine blk_drew ?_ | refine blk_alloc ?_ _)); refine blk_put (cs := #[.int .u8 0, .int .u8 x119001_3, .int .u8 x119002_3, .int .u8 x119003_3, .int .i64 x119004_3]) ?_ 1 _ rfl; (with_reducible repeat (first | refine blk_drewN ?_ _ | refine blk_drew ?_ | refine blk_alloc ?_ _)); refine blk_put (cs := #[.int .u8 x119000_3, .int .u8 x119001_3, .int .u8 x119002_3, .int .u8 x119003_3, .int .i64 x119004_3]) ?_ 0 _ rfl; (with_reducible repeat (first | refine blk_drewN ?_ _ | refine blk_drew ?_ | refine blk_alloc ?_ _)); refine blk_far ?_ NB118_132.out _; (with_reducible repeat (first | refine blk_drewN ?_ _ | refine blk_drew ?_ | refine blk_alloc ?_ _)); refine blk_far ?_ NB118_132.out _; (with_reducible repeat (first | refine blk_drewN ?_ _ | refine blk_drew ?_ | refine blk_alloc ?_ _)); refine blk_far ?_ NB118_132.out _; (with_reducible repeat (first | refine blk_drewN ?_ _ | refine blk_drew ?_ | refine blk_alloc ?_ _)); refine blk_far ?_ NB118_132.out _; (with_reducible repeat (first | refine blk_drewN ?_ _ | refine blk_drew ?_ | refine blk_alloc ?_ _)); refine blk_far ?_ NB118_132.out _; (with_reducible repeat (first | refine blk_drewN ?_ _ | refine blk_drew ?_ | refine blk_alloc ?_ _)); exact BK118.out) Tryd.underlying47 rfl (by kernel_rfl)) rfl ?_; exact ⟨by first | rfl | (simp [errW_none, errW_some] <;> rfl) | (simp only [← hji13]; first | rfl | (simp [errW_none, errW_some] <;> rfl)) | (simp [*, errW_none, errW_some] <;> rfl), hB80⟩
              subst c21
              have H1 : (lockstitchref04_read.l1 k3 l0 t120 ji13 t126 t127 t128 t129 t130) = some (r1, r2, r3, r4, r5, r6) := by rw [if_pos rfl] at H; exact H
              clear H; have H := H1; clear H1; have H' := Aside0.mk H; clear H; have p123 : 0 ≤ ((ji13) : Int) := of_decide_eq_true hB63; have q123 : (ji13) < (l0.length : Int) := of_decide_eq_true hB63; obtain ⟨ad123, e123, hx123_0⟩ := Kd.at_string HR0.out (ji13) p123 q123
              cases e123
              replace hx123_0 := (HB.out.cell (World.block_lt_of_cell? w _ hx123_0)).trans hx123_0; replace p123 := eq_true p123; replace q123 := eq_true q123; try go_wp2_with (first | ((with_reducible refine gate_callee (f := 78) rfl ?_); refine goesL_ (some 49) rfl rfl Tryd.func78 (by kernel_rfl) rfl #[.string (rdOf ByteArray.empty l0 (ji13))] rfl hB0 ?_; (with_reducible refine (lockstitchref02_Number.calls k3 (rdOf ByteArray.empty l0 (ji13)) t124 t125 _ A16.out).mono ?_); rintro e w' ⟨rfl, ⟨nd, rfl⟩⟩; refine ⟨_, rfl, ?_⟩; (try (rw [drewN_self wr]; generalize hq_ : World.drewN wr _ = wr; have n0_ : Aside0 (wr.heap[gb118]? = some (.cells #[.int .u8 x119000_3, .int .u8 x119001_3, .int .u8 x119002_3, .int .u8 x119003_3, .int .i64 x119004_3] 47 (0, 0))) := ⟨hB99⟩; have n1_ : Aside0 (wr.heap[gb122]? = some (.cells #[.int .u8 x123000_3, .int .u8 x123001_3, .int .u8 x123002_3, .int .u8 x123003_3, .int .i64 x123004_3] 47 (0, 0))) := ⟨hB100⟩; have n2_ : Aside0 (Below w.heap.size w wr) := ⟨hB102⟩; clear BK118 BK122 HB hq_; have BK118 := n0_; have BK122 := n1_; have HB := n2_; clear n0_ n1_ n2_))))
              have n0_ := Aside0.mk (blk_drew BK118.out); have n1_ := Aside0.mk (blk_drew BK122.out); have n2_ := Aside0.mk (below_drew1 HB.out); clear BK118; clear BK122; clear HB; have BK118 := n0_; have BK122 := n1_; have HB := n2_; clear n0_ n1_ n2_; have p18 : 0 ≤ (x8_3 : Int) := of_decide_eq_true hB63; have q18 : x8_3 < (t120.size : Int) := of_decide_eq_true hB63; have hx18 := bt_at t120 x8_3; replace p18 := eq_true p18; replace q18 := eq_true q18; refine start_ (n := 12) (S := fun w' => w'.cell? ⟨gb122, 0, none⟩ = some (.int .u8 x123000_3) ∧ w'.cell? ⟨gb122, 1, none⟩ = some (.int .u8 x123001_3) ∧ w'.cell? ⟨gb122, 2, none⟩ = some (.int .u8 x123002_3) ∧ w'.cell? ⟨gb122, 3, none⟩ = some (.int .u8 x123003_3) ∧ w'.cell? ⟨gb122, 4, none⟩ = some (.int .i64 x123004_3)) (ds := []) #[false, false, false, false, false, false, false, false, false, false, false, false] (by kernel_rfl) rfl rfl ⟨(blk_cell BK122.out 0).trans rfl, (blk_cell BK122.out 1).trans rfl, (blk_cell BK122.out 2).trans rfl, (blk_cell BK122.out 3).trans rfl, (blk_cell BK122.out 4).trans rfl⟩ (fun hHeld => ?_); refine with_tabW lockstitchref04_read.tab11 lockstitchref04_read.bits11 (fun HT_ HW_ => ?_); generalize wr.drew = w22 at BK118 BK122 HB hHeld ⊢; refine pure_ (i := 1) (N := some 54) (v := ?_) (a' := ?_) (mk_ 12 2) rfl rfl (any_of HT_.out (by kernel_rfl)) (fun _ _ _ h => h) (Or.inl ⟨by rfl, ?_⟩) ?_ ?_; rotate_left
              · intro w'; go_simp; with_reducible rfl
              rotate_left
              · simp only [Act.put, List.setIfInBounds_toArray, List.set_cons_zero, List.set_cons_succ, i64_w, i32_w]; rfl
              refine pure_ (i := 2) (N := some 55) (v := ?_) (a' := ?_) (mk_ 12 6) rfl rfl (any_of HT_.out (by kernel_rfl)) (fun _ _ _ h => h) (Or.inl ⟨by rfl, ?_⟩) ?_ ?_; rotate_left
              · intro w'; go_simp; with_reducible rfl
              rotate_left
              · simp only [Act.put, List.setIfInBounds_toArray, List.set_cons_zero, List.set_cons_succ, i64_w, i32_w]; rfl
              refine pure_ (i := 4) (N := some 57) (v := ?_) (a' := ?_) (mk_ 12 22) rfl rfl (any_of HT_.out (by kernel_rfl)) (fun _ _ _ h => h) (Or.inl ⟨by rfl, ?_⟩) ?_ ?_; rotate_left
              · intro w'; go_simp; with_reducible rfl
              rotate_left
              · simp only [Act.put, List.setIfInBounds_toArray, List.set_cons_zero, List.set_cons_succ, i64_w, i32_w]; rfl
              refine take_ (i := 0) (N := some 53) (v := ?_) (a' := ?_) (mk_ 12 23) rfl rfl (take_ofW HT_.out HW_.out (by kernel_rfl)) (fun _ _ _ h => h) (Or.inl ⟨by rfl, ?_⟩) hHeld ?_ ?_; rotate_left
              · rintro w' ⟨s0, s1, s2, s3, s4⟩; go_simp; with_reducible rfl
              rotate_left
              · simp only [Act.put, List.setIfInBounds_toArray, List.set_cons_zero, List.set_cons_succ, i64_w, i32_w]; rfl
              refine take_ (i := 3) (N := some 56) (v := ?_) (a' := ?_) (mk_ 12 31) rfl rfl (take_ofW HT_.out HW_.out (by kernel_rfl)) (fun _ _ _ h => h) (Or.inl ⟨by rfl, ?_⟩) hHeld ?_ ?_; rotate_left
              · rintro w' ⟨s0, s1, s2, s3, s4⟩; go_simp; with_reducible rfl
              rotate_left
              · simp only [Act.put, List.setIfInBounds_toArray, List.set_cons_zero, List.set_cons_succ, i64_w, i32_w]; rfl
              refine join_ (σ := Nat) 2 #[true, true, true, true, true, true, true, true, true, true, false, false] (fun s_ => [(58, .tuple #[.agg #[.int .u8 t126, .int .u8 t127, .int .u8 t128, .int .u8 t129, .int .i64 t130], .bool true]), (11, .pointer (some ⟨s_, 0, none⟩)), (52, .tuple #[.agg #[.int .u8 t126, .int .u8 t127, .int .u8 t128, .int .u8 t129, .int .i64 t130], .bool true]), (59, .agg #[.int .u8 t126, .int .u8 t127, .int .u8 t128, .int .u8 t129, .int .i64 t130]), (60, .bool true)]) (fun s_ w' => (w'.cell? ⟨gb122, 0, none⟩ = some (.int .u8 x123000_3) ∧ w'.cell? ⟨gb122, 1, none⟩ = some (.int .u8 x123001_3) ∧ w'.cell? ⟨gb122, 2, none⟩ = some (.int .u8 x123002_3) ∧ w'.cell? ⟨gb122, 3, none⟩ = some (.int .u8 x123003_3) ∧ w'.cell? ⟨gb122, 4, none⟩ = some (.int .i64 x123004_3)) ∧ (w'.heap[gb118]? = some (.cells #[.int .u8 x119000_3, .int .u8 x119001_3, .int .u8 x119002_3, .int .u8 x119003_3, .int .i64 x119004_3] 47 (0, 0))) ∧ (w'.heap[gb122]? = some (.cells #[.int .u8 x123000_3, .int .u8 x123001_3, .int .u8 x123002_3, .int .u8 x123003_3, .int .i64 x123004_3] 47 (0, 0))) ∧ (w'.heap[s_]? = some (.cells #[.int .u8 0, .int .u8 0, .int .u8 0, .int .u8 0, .int .i64 0] 47 (0, 0))) ∧ (w.heap.size ≤ s_) ∧ (w.heap.size ≤ s_) ∧ (gb118 ≠ s_) ∧ (s_ ≠ gb118) ∧ (gb122 ≠ s_) ∧ (s_ ≠ gb122) ∧ (Below w.heap.size w w')) ?_ ?_; rotate_left
              · intro hCont; refine two_ (i := 5) (j := 9) (Ni := some 58) (Nj := some 11) #[true, true, true, true, true, true, false, false, false, false, false, false] #[true, true, true, true, true, false, false, false, false, true, false, false] rfl rfl rfl rfl (two_of HT_.out (by kernel_rfl)) (by decide) (by decide) (fun K hK => ?_) (fun K hK => ?_)
                · skip
                  refine goes_ Tryd.func79 (by kernel_rfl) rfl #[.agg #[.int .u8 x123000_3, .int .u8 x123001_3, .int .u8 x123002_3, .int .u8 x123003_3, .int .i64 x123004_3], .int .u8 (bt t120 x8_3), .int .i64 t124] (by rfl) rfl rfl hB1 ?_; with_reducible refine (lockstitchref04_with.calls k3 x123000_3 x123001_3 x123002_3 x123003_3 x123004_3 (bt t120 x8_3) t124 t126 t127 t128 t129 t130 true _ A19.out).mono ?_; rintro e w23 ⟨rfl, hb⟩; refine ⟨_, rfl, ?_⟩; have n0_ := Aside0.mk (blk_below (g := gb118) (o := .cells #[.int .u8 x119000_3, .int .u8 x119001_3, .int .u8 x119002_3, .int .u8 x119003_3, .int .i64 x119004_3] 47 (0, 0)) hB46 hb); have n1_ := Aside0.mk (blk_below (g := gb122) (o := .cells #[.int .u8 x123000_3, .int .u8 x123001_3, .int .u8 x123002_3, .int .u8 x123003_3, .int .i64 x123004_3] 47 (0, 0)) hB48 hb); have n2_ := Aside0.mk (below_step hB81 hb); clear BK118; clear BK122; clear HB; have BK118 := n0_; have BK122 := n1_; have HB := n2_; clear n0_ n1_ n2_; (try clear hb); (try clear hb2); (try clear hk); (try clear hi); refine hK.out _ _ ⟨(blk_cell BK122.out 0).trans rfl, (blk_cell BK122.out 1).trans rfl, (blk_cell BK122.out 2).trans rfl, (blk_cell BK122.out 3).trans rfl, (blk_cell BK122.out 4).trans rfl⟩ (fun hHeld => ?_); clear hK K; refine norm_ (a' := ?_) ?_ ?_; rotate_left
                  · show Act.put _ (some 58) _ = _
                    simp only [Act.put, List.setIfInBounds_toArray, List.set_cons_zero, List.set_cons_succ, i64_w, i32_w]; rfl
                  refine pure_ (i := 6) (N := some 52) (v := ?_) (a' := ?_) (mk_ 12 127) rfl rfl (any_of HT_.out (by kernel_rfl)) (fun _ _ _ h => h) (Or.inl ⟨by rfl, ?_⟩) ?_ ?_; rotate_left
                  · intro w'; go_simp; with_reducible rfl
                  rotate_left
                  · simp only [Act.put, List.setIfInBounds_toArray, List.set_cons_zero, List.set_cons_succ, i64_w, i32_w]; rfl
                  refine pure_ (i := 7) (N := some 59) (v := ?_) (a' := ?_) (mk_ 12 255) rfl rfl (any_of HT_.out (by kernel_rfl)) (fun _ _ _ h => h) (Or.inl ⟨by rfl, ?_⟩) ?_ ?_; rotate_left
                  · intro w'; go_simp; with_reducible rfl
                  rotate_left
                  · simp only [Act.put, List.setIfInBounds_toArray, List.set_cons_zero, List.set_cons_succ, i64_w, i32_w]; rfl
                  refine pure_ (i := 8) (N := some 60) (v := ?_) (a' := ?_) (mk_ 12 511) rfl rfl (any_of HT_.out (by kernel_rfl)) (fun _ _ _ h => h) (Or.inl ⟨by rfl, ?_⟩) ?_ ?_; rotate_left
                  · intro w'; go_simp; with_reducible rfl
                  rotate_left
                  · simp only [Act.put, List.setIfInBounds_toArray, List.set_cons_zero, List.set_cons_succ, i64_w, i32_w]; rfl
                  refine one_ (i := 9) (N := some 11) (mk_ 12 1023) rfl rfl (one_of HT_.out (by kernel_rfl)) (by decide) (fun K hK => ?_); refine box_step ?hg (N := 11) ?hd (cs := #[.int .u8 0, .int .u8 0, .int .u8 0, .int .u8 0, .int .i64 0]) (t := 47) ?hr ?_; (case hd => rfl); (case hg => rfl); (case hr => first | (go_simp; done) | (go_simp; rfl)); intro gb132 hg w24 hbox hb; have n0_ := Aside0.mk (blk_below (g := gb118) (o := .cells #[.int .u8 x119000_3, .int .u8 x119001_3, .int .u8 x119002_3, .int .u8 x119003_3, .int .i64 x119004_3] 47 (0, 0)) hB46 hb); have n1_ := Aside0.mk (blk_below (g := gb122) (o := .cells #[.int .u8 x123000_3, .int .u8 x123001_3, .int .u8 x123002_3, .int .u8 x123003_3, .int .i64 x123004_3] 47 (0, 0)) hB48 hb); have n2_ := Aside0.mk (below_step hB81 hb); have n3_ := Aside0.mk (hbox); have n4_ := Aside0.mk ((by rw [hg]; exact (below_size hB81) : w.heap.size ≤ gb132)); have n5_ := Aside0.mk ((by rw [hg]; exact (below_size hB81) : w.heap.size ≤ gb132)); have n6_ := Aside0.mk ((by rw [hg]; exact Nat.ne_of_lt (blk_lt (g := gb118) (o := .cells #[.int .u8 x119000_3, .int .u8 x119001_3, .int .u8 x119002_3, .int .u8 x119003_3, .int .i64 x119004_3] 47 (0, 0)) hB46) : gb118 ≠ gb132)); have n7_ := Aside0.mk ((by rw [hg]; exact Nat.ne_of_gt (blk_lt (g := gb118) (o := .cells #[.int .u8 x119000_3, .int .u8 x119001_3, .int .u8 x119002_3, .int .u8 x119003_3, .int .i64 x119004_3] 47 (0, 0)) hB46) : gb132 ≠ gb118)); have n8_ := Aside0.mk ((by rw [hg]; exact Nat.ne_of_lt (blk_lt (g := gb122) (o := .cells #[.int .u8 x123000_3, .int .u8 x123001_3, .int .u8 x123002_3, .int .u8 x123003_3, .int .i64 x123004_3] 47 (0, 0)) hB48) : gb122 ≠ gb132)); have n9_ := Aside0.mk ((by rw [hg]; exact Nat.ne_of_gt (blk_lt (g := gb122) (o := .cells #[.int .u8 x123000_3, .int .u8 x123001_3, .int .u8 x123002_3, .int .u8 x123003_3, .int .i64 x123004_3] 47 (0, 0)) hB48) : gb132 ≠ gb122)); clear BK118; clear BK122; clear HB; have BK118 := n0_; have BK122 := n1_; have HB := n2_; have BK132 := n3_; have GW132 := n4_; have GE132 := n5_; have NB118_132 := n6_; have NB132_118 := n7_; have NB122_132 := n8_; have NB132_122 := n9_; clear n0_ n1_ n2_ n3_ n4_ n5_ n6_ n7_ n8_ n9_; clear hb hbox hg; refine hK.out _ _ ⟨(blk_cell BK122.out 0).trans rfl, (blk_cell BK122.out 1).trans rfl, (blk_cell BK122.out 2).trans rfl, (blk_cell BK122.out 3).trans rfl, (blk_cell BK122.out 4).trans rfl⟩ (fun hHeld => ?_); clear hK K; refine norm_ (a' := ?_) ?_ ?_; rotate_left
                  · show Act.put _ (some 11) _ = _
                    simp only [Act.put, List.setIfInBounds_toArray, List.set_cons_zero, List.set_cons_succ, i64_w, i32_w]; rfl
                  exact norm_ hB103 (hCont (gb132) _ ⟨hHeld, hB46, hB48, hB51, GW132.out, GE132.out, NB118_132.out, NB132_118.out, NB122_132.out, NB132_122.out, hB80⟩)
                · skip
                  refine box_step ?hg (N := 11) ?hd (cs := #[.int .u8 0, .int .u8 0, .int .u8 0, .int .u8 0, .int .i64 0]) (t := 47) ?hr ?_; (case hd => rfl); (case hg => rfl); (case hr => first | (go_simp; done) | (go_simp; rfl)); intro gb132 hg w23 hbox hb; have n0_ := Aside0.mk (blk_below (g := gb118) (o := .cells #[.int .u8 x119000_3, .int .u8 x119001_3, .int .u8 x119002_3, .int .u8 x119003_3, .int .i64 x119004_3] 47 (0, 0)) hB46 hb); have n1_ := Aside0.mk (blk_below (g := gb122) (o := .cells #[.int .u8 x123000_3, .int .u8 x123001_3, .int .u8 x123002_3, .int .u8 x123003_3, .int .i64 x123004_3] 47 (0, 0)) hB48 hb); have n2_ := Aside0.mk (below_step hB81 hb); have n3_ := Aside0.mk (hbox); have n4_ := Aside0.mk ((by rw [hg]; exact (below_size hB81) : w.heap.size ≤ gb132)); have n5_ := Aside0.mk ((by rw [hg]; exact (below_size hB81) : w.heap.size ≤ gb132)); have n6_ := Aside0.mk ((by rw [hg]; exact Nat.ne_of_lt (blk_lt (g := gb118) (o := .cells #[.int .u8 x119000_3, .int .u8 x119001_3, .int .u8 x119002_3, .int .u8 x119003_3, .int .i64 x119004_3] 47 (0, 0)) hB46) : gb118 ≠ gb132)); have n7_ := Aside0.mk ((by rw [hg]; exact Nat.ne_of_gt (blk_lt (g := gb118) (o := .cells #[.int .u8 x119000_3, .int .u8 x119001_3, .int .u8 x119002_3, .int .u8 x119003_3, .int .i64 x119004_3] 47 (0, 0)) hB46) : gb132 ≠ gb118)); have n8_ := Aside0.mk ((by rw [hg]; exact Nat.ne_of_lt (blk_lt (g := gb122) (o := .cells #[.int .u8 x123000_3, .int .u8 x123001_3, .int .u8 x123002_3, .int .u8 x123003_3, .int .i64 x123004_3] 47 (0, 0)) hB48) : gb122 ≠ gb132)); have n9_ := Aside0.mk ((by rw [hg]; exact Nat.ne_of_gt (blk_lt (g := gb122) (o := .cells #[.int .u8 x123000_3, .int .u8 x123001_3, .int .u8 x123002_3, .int .u8 x123003_3, .int .i64 x123004_3] 47 (0, 0)) hB48) : gb132 ≠ gb122)); clear BK118; clear BK122; clear HB; have BK118 := n0_; have BK122 := n1_; have HB := n2_; have BK132 := n3_; have GW132 := n4_; have GE132 := n5_; have NB118_132 := n6_; have NB132_118 := n7_; have NB122_132 := n8_; have NB132_122 := n9_; clear n0_ n1_ n2_ n3_ n4_ n5_ n6_ n7_ n8_ n9_; clear hb hbox hg; refine hK.out _ _ ⟨(blk_cell BK122.out 0).trans rfl, (blk_cell BK122.out 1).trans rfl, (blk_cell BK122.out 2).trans rfl, (blk_cell BK122.out 3).trans rfl, (blk_cell BK122.out 4).trans rfl⟩ (fun hHeld => ?_); clear hK K; refine norm_ (a' := ?_) ?_ ?_; rotate_left
                  · show Act.put _ (some 11) _ = _
                    simp only [Act.put, List.setIfInBounds_toArray, List.set_cons_zero, List.set_cons_succ, i64_w, i32_w]; rfl
                  refine one_ (i := 5) (N := some 58) (mk_ 12 575) rfl rfl (one_of HT_.out (by kernel_rfl)) (by decide) (fun K hK => ?_); refine goes_ Tryd.func79 (by kernel_rfl) rfl #[.agg #[.int .u8 x123000_3, .int .u8 x123001_3, .int .u8 x123002_3, .int .u8 x123003_3, .int .i64 x123004_3], .int .u8 (bt t120 x8_3), .int .i64 t124] (by rfl) rfl rfl hB1 ?_; with_reducible refine (lockstitchref04_with.calls k3 x123000_3 x123001_3 x123002_3 x123003_3 x123004_3 (bt t120 x8_3) t124 t126 t127 t128 t129 t130 true _ A19.out).mono ?_; rintro e w24 ⟨rfl, hb⟩; refine ⟨_, rfl, ?_⟩; have n0_ := Aside0.mk (blk_below (g := gb118) (o := .cells #[.int .u8 x119000_3, .int .u8 x119001_3, .int .u8 x119002_3, .int .u8 x119003_3, .int .i64 x119004_3] 47 (0, 0)) hB46 hb); have n1_ := Aside0.mk (blk_below (g := gb122) (o := .cells #[.int .u8 x123000_3, .int .u8 x123001_3, .int .u8 x123002_3, .int .u8 x123003_3, .int .i64 x123004_3] 47 (0, 0)) hB48 hb); have n2_ := Aside0.mk (blk_below (g := gb132) (o := .cells #[.int .u8 0, .int .u8 0, .int .u8 0, .int .u8 0, .int .i64 0] 47 (0, 0)) hB51 hb); have n3_ := Aside0.mk (below_step hB80 hb); clear BK118; clear BK122; clear BK132; clear HB; have BK118 := n0_; have BK122 := n1_; have BK132 := n2_; have HB := n3_; clear n0_ n1_ n2_ n3_; (try clear hb); (try clear hb2); (try clear hk); (try clear hi); refine hK.out _ _ ⟨(blk_cell BK122.out 0).trans rfl, (blk_cell BK122.out 1).trans rfl, (blk_cell BK122.out 2).trans rfl, (blk_cell BK122.out 3).trans rfl, (blk_cell BK122.out 4).trans rfl⟩ (fun hHeld => ?_); clear hK K; refine norm_ (a' := ?_) ?_ ?_; rotate_left
                  · show Act.put _ (some 58) _ = _
                    simp only [Act.put, List.setIfInBounds_toArray, List.set_cons_zero, List.set_cons_succ, i64_w, i32_w]; rfl
                  refine pure_ (i := 6) (N := some 52) (v := ?_) (a' := ?_) (mk_ 12 639) rfl rfl (any_of HT_.out (by kernel_rfl)) (fun _ _ _ h => h) (Or.inl ⟨by rfl, ?_⟩) ?_ ?_; rotate_left
                  · intro w'; go_simp; with_reducible rfl
                  rotate_left
                  · simp only [Act.put, List.setIfInBounds_toArray, List.set_cons_zero, List.set_cons_succ, i64_w, i32_w]; rfl
                  refine pure_ (i := 7) (N := some 59) (v := ?_) (a' := ?_) (mk_ 12 767) rfl rfl (any_of HT_.out (by kernel_rfl)) (fun _ _ _ h => h) (Or.inl ⟨by rfl, ?_⟩) ?_ ?_; rotate_left
                  · intro w'; go_simp; with_reducible rfl
                  rotate_left
                  · simp only [Act.put, List.setIfInBounds_toArray, List.set_cons_zero, List.set_cons_succ, i64_w, i32_w]; rfl
                  refine pure_ (i := 8) (N := some 60) (v := ?_) (a' := ?_) (mk_ 12 1023) rfl rfl (any_of HT_.out (by kernel_rfl)) (fun _ _ _ h => h) (Or.inl ⟨by rfl, ?_⟩) ?_ ?_; rotate_left
                  · intro w'; go_simp; with_reducible rfl
                  rotate_left
                  · simp only [Act.put, List.setIfInBounds_toArray, List.set_cons_zero, List.set_cons_succ, i64_w, i32_w]; rfl
                  exact norm_ hB103 (hCont (gb132) _ ⟨hHeld, hB46, hB48, hB51, GW132.out, GE132.out, NB118_132.out, NB132_118.out, NB122_132.out, NB132_122.out, hB80⟩)
              rintro gb132 w25 ⟨hS_, h0_, h1_, h2_, h3_, h4_, h5_, h6_, h7_, h8_, h9_⟩; have n0_ : Aside0 (w25.heap[gb118]? = some (.cells #[.int .u8 x119000_3, .int .u8 x119001_3, .int .u8 x119002_3, .int .u8 x119003_3, .int .i64 x119004_3] 47 (0, 0))) := ⟨h0_⟩; have n1_ : Aside0 (w25.heap[gb122]? = some (.cells #[.int .u8 x123000_3, .int .u8 x123001_3, .int .u8 x123002_3, .int .u8 x123003_3, .int .i64 x123004_3] 47 (0, 0))) := ⟨h1_⟩; have n2_ : Aside0 (w25.heap[gb132]? = some (.cells #[.int .u8 0, .int .u8 0, .int .u8 0, .int .u8 0, .int .i64 0] 47 (0, 0))) := ⟨h2_⟩; have n3_ : Aside0 (w.heap.size ≤ gb132) := ⟨h3_⟩; have n4_ : Aside0 (w.heap.size ≤ gb132) := ⟨h4_⟩; have n5_ : Aside0 (gb118 ≠ gb132) := ⟨h5_⟩; have n6_ : Aside0 (gb132 ≠ gb118) := ⟨h6_⟩; have n7_ : Aside0 (gb122 ≠ gb132) := ⟨h7_⟩; have n8_ : Aside0 (gb132 ≠ gb122) := ⟨h8_⟩; have n9_ : Aside0 (Below w.heap.size w w25) := ⟨h9_⟩; clear BK118; clear BK122; clear HB; clear h0_ h1_ h2_ h3_ h4_ h5_ h6_ h7_ h8_ h9_; have BK118 := n0_; have BK122 := n1_; have BK132 := n2_; have GW132 := n3_; have GE132 := n4_; have NB118_132 := n5_; have NB132_118 := n6_; have NB122_132 := n7_; have NB132_122 := n8_; have HB := n9_; clear n0_ n1_ n2_ n3_ n4_ n5_ n6_ n7_ n8_ n9_; have hHeld : w25.cell? ⟨gb122, 0, none⟩ = some (.int .u8 x123000_3) ∧ w25.cell? ⟨gb122, 1, none⟩ = some (.int .u8 x123001_3) ∧ w25.cell? ⟨gb122, 2, none⟩ = some (.int .u8 x123002_3) ∧ w25.cell? ⟨gb122, 3, none⟩ = some (.int .u8 x123003_3) ∧ w25.cell? ⟨gb122, 4, none⟩ = some (.int .i64 x123004_3) := hS_; refine norm_ (a' := ?_) ?_ ?_; rotate_left
              · simp only [putAll, Act.put, List.setIfInBounds_toArray, List.set_cons_zero, List.set_cons_succ]; rfl
              refine one_ (i := 10) (N := none) (mk_ 12 2047) rfl rfl (one_of HT_.out (by kernel_rfl)) (by decide) (fun K hK => ?_); have hs26 : w25.cell? ⟨gb132, 0, none⟩ = some (.int .u8 0) := (blk_cell BK132.out 0).trans rfl; have hfs26 := blk_frozen BK132.out 0; have hns26_0 := NB118_132.out; have hns26_1 := NB122_132.out; have hms26_0 := NB132_118.out; have hms26_1 := NB132_122.out; have hs27 : w25.cell? ⟨gb132, 1, none⟩ = some (.int .u8 0) := (blk_cell BK132.out 1).trans rfl; have hfs27 := blk_frozen BK132.out 1; have hns27_0 := NB118_132.out; have hns27_1 := NB122_132.out; have hms27_0 := NB132_118.out; have hms27_1 := NB132_122.out; have hs28 : w25.cell? ⟨gb132, 2, none⟩ = some (.int .u8 0) := (blk_cell BK132.out 2).trans rfl; have hfs28 := blk_frozen BK132.out 2; have hns28_0 := NB118_132.out; have hns28_1 := NB122_132.out; have hms28_0 := NB132_118.out; have hms28_1 := NB132_122.out; have hs29 : w25.cell? ⟨gb132, 3, none⟩ = some (.int .u8 0) := (blk_cell BK132.out 3).trans rfl; have hfs29 := blk_frozen BK132.out 3; have hns29_0 := NB118_132.out; have hns29_1 := NB122_132.out; have hms29_0 := NB132_118.out; have hms29_1 := NB132_122.out; have hs30 : w25.cell? ⟨gb132, 4, none⟩ = some (.int .i64 0) := (blk_cell BK132.out 4).trans rfl; have hfs30 := blk_frozen BK132.out 4; have hns30_0 := NB118_132.out; have hns30_1 := NB122_132.out; have hms30_0 := NB132_118.out; have hms30_1 := NB132_122.out; refine skip_ (w1 := ?_) (by rfl) rfl ?_ ?_; rotate_left
              · go_simp; rfl
              refine hK.out _ _ ⟨((cell_far (p := ⟨gb132, _, none⟩) NB122_132.out _).trans (((cell_far (p := ⟨gb132, _, none⟩) NB122_132.out _).trans (((cell_far (p := ⟨gb132, _, none⟩) NB122_132.out _).trans (((cell_far (p := ⟨gb132, _, none⟩) NB122_132.out _).trans (((cell_far (p := ⟨gb132, _, none⟩) NB122_132.out _).trans (hHeld.1)))))))))), ((cell_far (p := ⟨gb132, _, none⟩) NB122_132.out _).trans (((cell_far (p := ⟨gb132, _, none⟩) NB122_132.out _).trans (((cell_far (p := ⟨gb132, _, none⟩) NB122_132.out _).trans (((cell_far (p := ⟨gb132, _, none⟩) NB122_132.out _).trans (((cell_far (p := ⟨gb132, _, none⟩) NB122_132.out _).trans (hHeld.2.1)))))))))), ((cell_far (p := ⟨gb132, _, none⟩) NB122_132.out _).trans (((cell_far (p := ⟨gb132, _, none⟩) NB122_132.out _).trans (((cell_far (p := ⟨gb132, _, none⟩) NB122_132.out _).trans (((cell_far (p := ⟨gb132, _, none⟩) NB122_132.out _).trans (((cell_far (p := ⟨gb132, _, none⟩) NB122_132.out _).trans (hHeld.2.2.1)))))))))), ((cell_far (p := ⟨gb132, _, none⟩) NB122_132.out _).trans (((cell_far (p := ⟨gb132, _, none⟩) NB122_132.out _).trans (((cell_far (p := ⟨gb132, _, none⟩) NB122_132.out _).trans (((cell_far (p := ⟨gb132, _, none⟩) NB122_132.out _).trans (((cell_far (p := ⟨gb132, _, none⟩) NB122_132.out _).trans (hHeld.2.2.2.1)))))))))), ((cell_far (p := ⟨gb132, _, none⟩) NB122_132.out _).trans (((cell_far (p := ⟨gb132, _, none⟩) NB122_132.out _).trans (((cell_far (p := ⟨gb132, _, none⟩) NB122_132.out _).trans (((cell_far (p := ⟨gb132, _, none⟩) NB122_132.out _).trans (((cell_far (p := ⟨gb132, _, none⟩) NB122_132.out _).trans (hHeld.2.2.2.2))))))))))⟩ (fun hHeld => ?_); clear hK K; refine pure_ (i := 11) (N := some 12) (v := ?_) (a' := ?_) (mk_ 12 4095) rfl rfl (any_of HT_.out (by kernel_rfl)) (fun _ _ _ h => h) (Or.inl ⟨by rfl, ?_⟩) ?_ ?_; rotate_left
              · intro w'; go_simp; with_reducible rfl
              rotate_left
              · simp only [Act.put, List.setIfInBounds_toArray, List.set_cons_zero, List.set_cons_succ, i64_w, i32_w]; rfl
              refine done_ (done_of HT_.out (by kernel_rfl)) ?_; have hnb31 := NB132_118.out; have hnc31 := NB118_132.out; have hnb32 := NB132_122.out; have hnc32 := NB122_132.out; have hcz33_0 : w25.cell? ⟨gb132, 0, none⟩ = some (.int .u8 0) := (blk_cell BK132.out 0).trans rfl; have hcz33_1 : w25.cell? ⟨gb132, 1, none⟩ = some (.int .u8 0) := (blk_cell BK132.out 1).trans rfl; have hcz33_2 : w25.cell? ⟨gb132, 2, none⟩ = some (.int .u8 0) := (blk_cell BK132.out 2).trans rfl; have hcz33_3 : w25.cell? ⟨gb132, 3, none⟩ = some (.int .u8 0) := (blk_cell BK132.out 3).trans rfl; have hcz33_4 : w25.cell? ⟨gb132, 4, none⟩ = some (.int .i64 0) := (blk_cell BK132.out 4).trans rfl; have hfz33_0 := blk_frozen BK132.out 0; have hfz33_1 := blk_frozen BK132.out 1; have hfz33_2 := blk_frozen BK132.out 2; have hfz33_3 := blk_frozen BK132.out 3; have hfz33_4 := blk_frozen BK132.out 4; have hnb34 := NB122_118.out; have hnc34 := NB118_122.out; have hcz35_0 : w25.cell? ⟨gb122, 0, none⟩ = some (.int .u8 x123000_3) := (blk_cell BK122.out 0).trans rfl; have hcz35_1 : w25.cell? ⟨gb122, 1, none⟩ = some (.int .u8 x123001_3) := (blk_cell BK122.out 1).trans rfl; have hcz35_2 : w25.cell? ⟨gb122, 2, none⟩ = some (.int .u8 x123002_3) := (blk_cell BK122.out 2).trans rfl; have hcz35_3 : w25.cell? ⟨gb122, 3, none⟩ = some (.int .u8 x123003_3) := (blk_cell BK122.out 3).trans rfl; have hcz35_4 : w25.cell? ⟨gb122, 4, none⟩ = some (.int .i64 x123004_3) := (blk_cell BK122.out 4).trans rfl; have hfz35_0 := blk_frozen BK122.out 0; have hfz35_1 := blk_frozen BK122.out 1; have hfz35_2 := blk_frozen BK122.out 2; have hfz35_3 := blk_frozen BK122.out 3; have hfz35_4 := blk_frozen BK122.out 4; try go_wp2
              go_roundg k3
              case measure => have := HK1.out; have := HJ4.out; have := HK3.out; omega
              case rel => exact ⟨(ji13), (x119000_3), (x119001_3), (x119002_3), (x119003_3), (x119004_3), (t126), (t127), (t128), (t129), (t130), (by first | rfl | (simp; done) | (simp only [← hji13] <;> (first | rfl | simp)) | (simp [*]; done)), H', ⟨by have := HK1.out; have := HJ4.out; have := HK3.out; omega⟩, ⟨by (with_reducible repeat (first | refine blk_drewN ?_ _ | refine blk_drew ?_ | refine blk_alloc ?_ _)); refine blk_far ?_ NB118_122.out _; (with_reducible repeat (first | refine blk_drewN ?_ _ | refine blk_drew ?_ | refine blk_alloc ?_ _)); refine blk_far ?_ NB118_122.out _; (with_reducible repeat (first | refine blk_drewN ?_ _ | refine blk_drew ?_ | refine blk_alloc ?_ _)); refine blk_far ?_ NB118_122.out _; (with_reducible repeat (first | refine blk_drewN ?_ _ | refine blk_drew ?_ | refine blk_alloc ?_ _)); refine blk_far ?_ NB118_122.out _; (with_reducible repeat (first | refine blk_drewN ?_ _ | refine blk_drew ?_ | refine blk_alloc ?_ _)); refine blk_far ?_ NB118_122.out _; (with_reducible repeat (first | refine blk_drewN ?_ _ | refine blk_drew ?_ | refine blk_alloc ?_ _)); refine blk_far ?_ NB118_132.out _; (with_reducible repeat (first | refine blk_drewN ?_ _ | refine blk_drew ?_ | refine blk_alloc ?_ _)); refine blk_far ?_ NB118_132.out _; (with_reducible repeat (first | refine blk_drewN ?_ _ | refine blk_drew ?_ | refine blk_alloc ?_ _)); refine blk_far ?_ NB118_132.out _; (with_reducible repeat (first | refine blk_drewN ?_ _ | refine blk_drew ?_ | refine blk_alloc ?_ _)); refine blk_far ?_ NB118_132.out _; (with_reducible repeat (first | refine blk_drewN ?_ _ | refine blk_drew ?_ | refine blk_alloc ?_ _)); refine blk_far ?_ NB118_132.out _; (with_reducible repeat (first | refine blk_drewN ?_ _ | refine blk_drew ?_ | refine blk_alloc ?_ _)); exact BK118.out⟩, ⟨by (with_reducible repeat (first | refine blk_drewN ?_ _ | refine blk_drew ?_ | refine blk_alloc ?_ _)); refine blk_put (cs := #[.int .u8 t126, .int .u8 t127, .int .u8 t128, .int .u8 t129, .int .i64 x123004_3]) ?_ 4 _ rfl; (with_reducible repeat (first | refine blk_drewN ?_ _ | refine blk_drew ?_ | refine blk_alloc ?_ _)); refine blk_put (cs := #[.int .u8 t126, .int .u8 t127, .int .u8 t128, .int .u8 x123003_3, .int .i64 x123004_3]) ?_ 3 _ rfl; (with_reducible repeat (first | refine blk_drewN ?_ _ | refine blk_drew ?_ | refine blk_alloc ?_ _)); refine blk_put (cs := #[.int .u8 t126, .int .u8 t127, .int .u8 x123002_3, .int .u8 x123003_3, .int .i64 x123004_3]) ?_ 2 _ rfl; (with_reducible repeat (first | refine blk_drewN ?_ _ | refine blk_drew ?_ | refine blk_alloc ?_ _)); refine blk_put (cs := #[.int .u8 t126, .int .u8 x123001_3, .int .u8 x123002_3, .int .u8 x123003_3, .int .i64 x123004_3]) ?_ 1 _ rfl; (with_reducible repeat (first | refine blk_drewN ?_ _ | refine blk_drew ?_ | refine blk_alloc ?_ _)); refine blk_put (cs := #[.int .u8 x123000_3, .int .u8 x123001_3, .int .u8 x123002_3, .int .u8 x123003_3, .int .i64 x123004_3]) ?_ 0 _ rfl; (with_reducible repeat (first | refine blk_drewN ?_ _ | refine blk_drew ?_ | refine blk_alloc ?_ _)); refine blk_far ?_ NB122_132.out _; (with_reducible repeat (first | refine blk_drewN ?_ _ | refine blk_drew ?_ | refine blk_alloc ?_ _)); refine blk_far ?_ NB122_132.out _; (with_reducible repeat (first | refine blk_drewN ?_ _ | refine blk_drew ?_ | refine blk_alloc ?_ _)); refine blk_far ?_ NB122_132.out _; (with_reducible repeat (first | refine blk_drewN ?_ _ | refine blk_drew ?_ | refine blk_alloc ?_ _)); refine blk_far ?_ NB122_132.out _; (with_reducible repeat (first | refine blk_drewN ?_ _ | refine blk_drew ?_ | refine blk_alloc ?_ _)); refine blk_far ?_ NB122_132.out _; (with_reducible repeat (first | refine blk_drewN ?_ _ | refine blk_drew ?_ | refine blk_alloc ?_ _)); exact BK122.out⟩, ⟨hB80⟩⟩
end Go.Proofs.YtkplgfhkebkaaaaDoor.F

namespace Go.Proofs.YtkplgfhkebkaaaaDoor.F
open Go.RowKit Go.Proofs.YtkplgfhkebkaaaaDoorW.PrintWords Go.Proofs.YtkplgfhkebkaaaaDoorW.PrintLast Go.Proofs.YtkplgfhkebkaaaaDoorW.PrintMore
attribute [local go_sem] max2_int min2_int max_two min_two max_three min_three max_four min_four
set_option linter.unusedVariables false
set_option linter.unusedSimpArgs false
def lockstitchref05_at.f (k : Nat) (l0 : List ByteArray) (a1 : ByteArray) (a2 : Int) : Option (Int) := if (wrap64 (a2)) ≥ (a1.size : Int) then (some (-1)) else (if 0 ≤ (wrap64 (a2)) then (if (wrap64 (a2)) ≤ (wrap64 ((wrap64 (a2)) + 1)) then (if (wrap64 ((wrap64 (a2)) + 1)) ≤ (a1.size : Int) then ((lockstitchref03_Refs.f k l0 (a1.extract ((wrap64 (a2)) : Int).toNat ((wrap64 ((wrap64 (a2)) + 1)) : Int).toNat)).bind fun t133 => (if t133 = true then (if 0 ≤ a2 then (if a2 < (a1.size : Int) then (some (((bt a1 a2) - 48) % 256)) else (none)) else (none)) else (some (-1)))) else (none)) else (none)) else (none))
theorem lockstitchref05_at.mono : ∀ a0 a1 a2 k, LeO (lockstitchref05_at.f k a0 a1 a2) (lockstitchref05_at.f (k + 1) a0 a1 a2) := by
  intro a0 a1 a2 k
  unfold lockstitchref05_at.f
  repeat' first
      | (with_reducible exact lockstitchref03_Refs.mono _ _ _)
      | (with_reducible exact LeO.refl _)
      | (with_reducible exact LeO.none _)
      | (with_reducible refine LeO.ite ?_ ?_)
      | (with_reducible refine LeO.bind ?_ (fun _ => ?_))
      | exact lockstitchref03_Refs.mono _ _ _
      | exact LeO.none _
      | refine LeO.ite ?_ ?_
      | refine LeO.bind ?_ (fun _ => ?_)
set_option maxHeartbeats 8000000 in
set_option maxRecDepth 100000 in
theorem lockstitchref05_at.calls (k : Nat) (A0 : Option Addr) (c0 : Nat) (l0 : List ByteArray) (a1 : ByteArray) (a2 : Int) (r : Int) (w : World) (hr0 : Kd.C Kd.string w A0 l0.length l0) (hc0 : l0.length ≤ c0) (h : lockstitchref05_at.f k l0 a1 a2 = some r) :
    Calls Tryd.prog 60 #[.slice A0 l0.length c0, .string a1, .int .u8 a2] w fun e w' => e = .returned (.int .i64 r) ∧ Drawn0 w w' := by
  have HR0 := Aside0.mk hr0; have HC0 := Aside0.mk hc0; clear hr0 hc0; have H : (if (wrap64 (a2)) ≥ (a1.size : Int) then (some (-1)) else (if 0 ≤ (wrap64 (a2)) then (if (wrap64 (a2)) ≤ (wrap64 ((wrap64 (a2)) + 1)) then (if (wrap64 ((wrap64 (a2)) + 1)) ≤ (a1.size : Int) then ((lockstitchref03_Refs.f k l0 (a1.extract ((wrap64 (a2)) : Int).toNat ((wrap64 ((wrap64 (a2)) + 1)) : Int).toNat)).bind fun t133 => (if t133 = true then (if 0 ≤ a2 then (if a2 < (a1.size : Int) then (some (((bt a1 a2) - 48) % 256)) else (none)) else (none)) else (some (-1)))) else (none)) else (none)) else (none))) = some r := h; clear h; by_cases c4 : (wrap64 (a2)) ≥ (a1.size : Int)
  · rw [if_pos c4] at H; have c4b0 : decide ((a1.size : Int) ≤ (wrap64 (a2))) = true := decide_eq_true c4; clear c4; obtain rfl := Option.some.inj H
    go_enter Tryd.func60, Tryd.ntmps60
    go_wp2; go_ret; exact ⟨by first | rfl | (simp; done) | (simp [*]; done), by repeat (first | exact Drawn0.refl _ | apply Drawn0.step)⟩
  rw [if_neg c4] at H; have c4b0 : decide ((a1.size : Int) ≤ (wrap64 (a2))) = false := decide_eq_false c4; clear c4; obtain ⟨ji5, hji5⟩ : ∃ j_ : Int, (wrap64 (a2)) = j_ := ⟨_, rfl⟩
  replace H : (if 0 ≤ (ji5) then (if (ji5) ≤ (wrap64 ((ji5) + 1)) then (if (wrap64 ((ji5) + 1)) ≤ (a1.size : Int) then ((lockstitchref03_Refs.f k l0 (a1.extract ((ji5) : Int).toNat ((wrap64 ((ji5) + 1)) : Int).toNat)).bind fun t133 => (if t133 = true then (if 0 ≤ a2 then (if a2 < (a1.size : Int) then (some (((bt a1 a2) - 48) % 256)) else (none)) else (none)) else (some (-1)))) else (none)) else (none)) else (none)) = some r := by first | (rw [hji5] at H; exact H) | (simp only [hji5] at H ⊢; exact H)
  (try rw [hji5] at c4b0)
  have hji5w : (IntKind.i64.wrap (a2)) = ji5 := (i64_w _).trans hji5; by_cases c6 : 0 ≤ (ji5)
  rotate_left
  · rw [if_neg c6] at H; exact absurd H (by simp)
  rw [if_pos c6] at H; have c6b0 := eq_true c6; have c6b1 : decide (0 ≤ (ji5)) = true := decide_eq_true c6; clear c6; by_cases c7 : (ji5) ≤ (wrap64 ((ji5) + 1))
  rotate_left
  · rw [if_neg c7] at H; exact absurd H (by simp)
  rw [if_pos c7] at H; have c7b0 := eq_true c7; have c7b1 : decide ((ji5) ≤ (wrap64 ((ji5) + 1))) = true := decide_eq_true c7; by_cases c8 : (wrap64 ((ji5) + 1)) ≤ (a1.size : Int)
  rotate_left
  · rw [if_neg c8] at H; exact absurd H (by simp)
  rw [if_pos c8] at H; have c8b0 := eq_true c8; have c8b1 : decide ((wrap64 ((ji5) + 1)) ≤ (a1.size : Int)) = true := decide_eq_true c8; replace H := Option.bind_eq_some_iff.mp H; obtain ⟨t133, A90, H⟩ := H; replace H : (if t133 = true then (if 0 ≤ a2 then (if a2 < (a1.size : Int) then (some (((bt a1 a2) - 48) % 256)) else (none)) else (none)) else (some (-1))) = some r := H; have A9 := Aside0.mk A90; clear A90; by_cases c10 : t133 = true
  rotate_left
  · replace c10 := Bool.eq_false_iff.mpr c10; subst c10
    have H1 : (some (-1)) = some r := by rw [if_neg (show ¬ (false = true) by decide)] at H; exact H
    clear H; have H := H1; clear H1; obtain rfl := Option.some.inj H
    go_enter Tryd.func60, Tryd.ntmps60
    go_wp2_with (first | (go_at_call 37; (with_reducible refine (lockstitchref03_Refs.calls k _ _ l0 (a1.extract ((ji5) : Int).toNat ((wrap64 ((ji5) + 1)) : Int).toNat) false _ ?side1 ?side2 A9.out).mono ?_); (case side1 => repeat (first | exact HR0.out | (with_reducible refine Kd.C_alloc ?_ _) | (with_reducible refine Kd.C_drewN ?_ _) | (with_reducible refine Kd.C_drew ?_))); (case side2 => exact HC0.out); rintro e w' ⟨rfl, ⟨nd, rfl⟩⟩))
    go_ret; exact ⟨by first | rfl | (simp; done) | (simp only [← hji5] <;> (first | rfl | simp)) | (simp [*]; done), by repeat (first | exact Drawn0.refl _ | apply Drawn0.step)⟩
  subst c10
  have H1 : (if 0 ≤ a2 then (if a2 < (a1.size : Int) then (some (((bt a1 a2) - 48) % 256)) else (none)) else (none)) = some r := by rw [if_pos rfl] at H; exact H
  clear H; have H := H1; clear H1; by_cases c11 : 0 ≤ a2
  rotate_left
  · rw [if_neg c11] at H; exact absurd H (by simp)
  rw [if_pos c11] at H; have c11b0 : decide (0 ≤ a2) = true := decide_eq_true c11; clear c11; by_cases c12 : a2 < (a1.size : Int)
  rotate_left
  · rw [if_neg c12] at H; exact absurd H (by simp)
  rw [if_pos c12] at H; have c12b0 : decide (a2 < (a1.size : Int)) = true := decide_eq_true c12; clear c12; obtain rfl := Option.some.inj H
  go_enter Tryd.func60, Tryd.ntmps60
  go_wp2_with (first | (go_at_call 37; (with_reducible refine (lockstitchref03_Refs.calls k _ _ l0 (a1.extract ((ji5) : Int).toNat ((wrap64 ((ji5) + 1)) : Int).toNat) true _ ?side1 ?side2 A9.out).mono ?_); (case side1 => repeat (first | exact HR0.out | (with_reducible refine Kd.C_alloc ?_ _) | (with_reducible refine Kd.C_drewN ?_ _) | (with_reducible refine Kd.C_drew ?_))); (case side2 => exact HC0.out); rintro e w' ⟨rfl, ⟨nd, rfl⟩⟩; have p13 : 0 ≤ (a2 : Int) := of_decide_eq_true hB63; have q13 : a2 < (a1.size : Int) := of_decide_eq_true hB63; have hx13 := bt_at a1 a2; replace p13 := eq_true p13; replace q13 := eq_true q13))
  go_ret; exact ⟨by first | rfl | (simp; done) | (simp only [← hji5] <;> (first | rfl | simp)) | (simp [*]; done), by repeat (first | exact Drawn0.refl _ | apply Drawn0.step)⟩
def lockstitchref05_Local.f (k : Nat) (l0_0 : List ByteArray) (a0_1 : ByteArray) (a0_2 : ByteArray) (l0_3 : List (S47)) (a1 : Int) : Option (Int) := (lockstitchref05_at.f k l0_0 a0_1 a1).bind fun t135 => (some t135)
theorem lockstitchref05_Local.mono : ∀ a0 a1 a2 a3 a4 k, LeO (lockstitchref05_Local.f k a0 a1 a2 a3 a4) (lockstitchref05_Local.f (k + 1) a0 a1 a2 a3 a4) := by
  intro a0 a1 a2 a3 a4 k
  unfold lockstitchref05_Local.f
  repeat' first
      | (with_reducible exact lockstitchref05_at.mono _ _ _ _)
      | (with_reducible exact LeO.refl _)
      | (with_reducible exact LeO.none _)
      | (with_reducible refine LeO.ite ?_ ?_)
      | (with_reducible refine LeO.bind ?_ (fun _ => ?_))
      | exact lockstitchref05_at.mono _ _ _ _
      | exact LeO.none _
      | refine LeO.ite ?_ ?_
      | refine LeO.bind ?_ (fun _ => ?_)
set_option maxHeartbeats 8000000 in
set_option maxRecDepth 100000 in
theorem lockstitchref05_Local.calls (k : Nat) (A0_0 : Option Addr) (c0_0 : Nat) (l0_0 : List ByteArray) (a0_1 : ByteArray) (a0_2 : ByteArray) (A0_3 : Option Addr) (c0_3 : Nat) (l0_3 : List (S47)) (a1 : Int) (r : Int) (w : World) (hr0_0 : Kd.C Kd.string w A0_0 l0_0.length l0_0) (hc0_0 : l0_0.length ≤ c0_0) (hr0_3 : Kd.C k47 w A0_3 l0_3.length l0_3) (hc0_3 : l0_3.length ≤ c0_3) (h : lockstitchref05_Local.f k l0_0 a0_1 a0_2 l0_3 a1 = some r) :
    Calls Tryd.prog 42 #[.agg #[.slice A0_0 l0_0.length c0_0, .string a0_1, .string a0_2, .slice A0_3 l0_3.length c0_3], .int .u8 a1] w fun e w' => e = .returned (.int .i64 r) ∧ Below w.heap.size w w' := by
  have hu25 := Tryd.underlying25; have HR0_0 := Aside0.mk hr0_0; have HC0_0 := Aside0.mk hc0_0; clear hr0_0 hc0_0; have HR0_3 := Aside0.mk hr0_3; have HC0_3 := Aside0.mk hc0_3; clear hr0_3 hc0_3; have HB := Aside0.mk (Below.refl w.heap.size w); have H : ((lockstitchref05_at.f k l0_0 a0_1 a1).bind fun t135 => (some t135)) = some r := h; clear h; replace H := Option.bind_eq_some_iff.mp H; obtain ⟨t135, A30, H⟩ := H; replace H : (some t135) = some r := H; have A3 := Aside0.mk A30; clear A30; obtain rfl := Option.some.inj H
  go_enter Tryd.func42, Tryd.ntmps42
  go_wp2_with (first | ((with_reducible refine gate_dst (N := 2) rfl ?_); refine box_event ?hg (N := 2) ?hd (cs := #[.slice A0_0 l0_0.length c0_0, .string a0_1, .string a0_2, .slice A0_3 l0_3.length c0_3]) (t := 25) ?hr ?_; (case hd => rfl); (case hg => rfl); (case hr => first | (go_simp; done) | (go_simp; rfl)); intro gb134 hg w4 hbox hb; have n0_ := Aside0.mk (below_step hB97 hb); have n1_ := Aside0.mk (hbox); have n2_ := Aside0.mk ((by rw [hg]; exact (below_size hB97) : w.heap.size ≤ gb134)); have n3_ := Aside0.mk ((by rw [hg]; exact (below_size hB97) : w.heap.size ≤ gb134)); clear HB; have HB := n0_; have BK134 := n1_; have GW134 := n2_; have GE134 := n3_; clear n0_ n1_ n2_ n3_; clear hb hbox hg; have hcz5_0 : w4.cell? ⟨gb134, 0, none⟩ = some (.slice A0_0 l0_0.length c0_0) := (blk_cell BK134.out 0).trans rfl; have hcz5_1 : w4.cell? ⟨gb134, 1, none⟩ = some (.string a0_1) := (blk_cell BK134.out 1).trans rfl; have hcz5_2 : w4.cell? ⟨gb134, 2, none⟩ = some (.string a0_2) := (blk_cell BK134.out 2).trans rfl; have hcz5_3 : w4.cell? ⟨gb134, 3, none⟩ = some (.slice A0_3 l0_3.length c0_3) := (blk_cell BK134.out 3).trans rfl; have hfz5_0 := blk_frozen BK134.out 0; have hfz5_1 := blk_frozen BK134.out 1; have hfz5_2 := blk_frozen BK134.out 2; have hfz5_3 := blk_frozen BK134.out 3) | ((with_reducible refine gate_callee (f := 60) rfl ?_); refine goesL_ (some 10) rfl rfl Tryd.func60 (by kernel_rfl) rfl #[.slice A0_0 l0_0.length c0_0, .string a0_1, .int .u8 a1] rfl hB1 ?_; (with_reducible refine (lockstitchref05_at.calls k _ _ l0_0 a0_1 a1 t135 _ ?side1 ?side2 A3.out).mono ?_); (case side1 => repeat (first | exact (Kd.C_below HR0_0.out HB.out) | (with_reducible refine Kd.C_alloc ?_ _) | (with_reducible refine Kd.C_drewN ?_ _) | (with_reducible refine Kd.C_drew ?_))); (case side2 => exact HC0_0.out); rintro e w' ⟨rfl, ⟨nd, rfl⟩⟩; refine ⟨_, rfl, ?_⟩))
  go_ret; exact ⟨by first | rfl | (simp [errW_none, errW_some] <;> rfl) | (simp [*, errW_none, errW_some] <;> rfl), by repeat (first | (with_reducible first | exact HB.out | apply below_alloc | apply pw_below_drewN | apply below_drew1 | refine below_set ?_ GE134.out) | exact HB.out)⟩
def lockstitchref05_one.f (a0 : Int) (a1 : Int) : Option (Bool) := if a0 ≥ 0 then (some (a0 == a1)) else (some false)
set_option maxHeartbeats 8000000 in
set_option maxRecDepth 100000 in
theorem lockstitchref05_one.calls (a0 : Int) (a1 : Int) (r : Bool) (w : World) (h : lockstitchref05_one.f a0 a1 = some r) :
    Calls Tryd.prog 55 #[.int .i64 a0, .int .i64 a1] w fun e w' => e = .returned (.bool r) ∧ Drawn0 w w' := by
  have H : (if a0 ≥ 0 then (some (a0 == a1)) else (some false)) = some r := h; clear h; by_cases c3 : a0 ≥ 0
  rotate_left
  · rw [if_neg c3] at H; have c3b0 : decide (0 ≤ a0) = false := decide_eq_false c3; clear c3; obtain rfl := Option.some.inj H
    go_enter Tryd.func55, Tryd.ntmps55
    go_wp2; go_ret; exact ⟨by first | rfl | (simp; done) | (simp [*]; done), by repeat (first | exact Drawn0.refl _ | apply Drawn0.step)⟩
  rw [if_pos c3] at H; have c3b0 : decide (0 ≤ a0) = true := decide_eq_true c3; clear c3; obtain rfl := Option.some.inj H
  go_enter Tryd.func55, Tryd.ntmps55
  go_wp2; go_ret; exact ⟨by first | rfl | (simp; done) | (simp [*]; done), by repeat (first | exact Drawn0.refl _ | apply Drawn0.step)⟩
def lockstitchref05_number.f (k : Nat) (l0_0 : List ByteArray) (a0_1 : ByteArray) (a0_2 : ByteArray) (l0_3 : List (S47)) (a1 : Int) (a2 : Int) : Option (Bool) := if a2 < 0 then (some false) else ((lockstitchref03_Size.f k l0_0 a1).bind fun t137 => (if a2 ≥ t137 then (some false) else ((lockstitchref03_To.f k l0_0 a1 a2).bind fun t138 => (some (decide (t138 < 0))))))
theorem lockstitchref05_number.mono : ∀ a0 a1 a2 a3 a4 a5 k, LeO (lockstitchref05_number.f k a0 a1 a2 a3 a4 a5) (lockstitchref05_number.f (k + 1) a0 a1 a2 a3 a4 a5) := by
  intro a0 a1 a2 a3 a4 a5 k
  unfold lockstitchref05_number.f
  repeat' first
      | (with_reducible exact lockstitchref03_Size.mono _ _ _)
      | (with_reducible exact lockstitchref03_To.mono _ _ _ _)
      | (with_reducible exact LeO.refl _)
      | (with_reducible exact LeO.none _)
      | (with_reducible refine LeO.ite ?_ ?_)
      | (with_reducible refine LeO.bind ?_ (fun _ => ?_))
      | exact lockstitchref03_Size.mono _ _ _
      | exact lockstitchref03_To.mono _ _ _ _
      | exact LeO.none _
      | refine LeO.ite ?_ ?_
      | refine LeO.bind ?_ (fun _ => ?_)
set_option maxHeartbeats 8000000 in
set_option maxRecDepth 100000 in
theorem lockstitchref05_number.calls (k : Nat) (A0_0 : Option Addr) (c0_0 : Nat) (l0_0 : List ByteArray) (a0_1 : ByteArray) (a0_2 : ByteArray) (A0_3 : Option Addr) (c0_3 : Nat) (l0_3 : List (S47)) (a1 : Int) (a2 : Int) (r : Bool) (w : World) (hr0_0 : Kd.C Kd.string w A0_0 l0_0.length l0_0) (hc0_0 : l0_0.length ≤ c0_0) (hr0_3 : Kd.C k47 w A0_3 l0_3.length l0_3) (hc0_3 : l0_3.length ≤ c0_3) (h : lockstitchref05_number.f k l0_0 a0_1 a0_2 l0_3 a1 a2 = some r) :
    Calls Tryd.prog 56 #[.agg #[.slice A0_0 l0_0.length c0_0, .string a0_1, .string a0_2, .slice A0_3 l0_3.length c0_3], .int .i64 a1, .int .i64 a2] w fun e w' => e = .returned (.bool r) ∧ Below w.heap.size w w' := by
  have hu25 := Tryd.underlying25; have HR0_0 := Aside0.mk hr0_0; have HC0_0 := Aside0.mk hc0_0; clear hr0_0 hc0_0; have HR0_3 := Aside0.mk hr0_3; have HC0_3 := Aside0.mk hc0_3; clear hr0_3 hc0_3; have HB := Aside0.mk (Below.refl w.heap.size w); have H : (if a2 < 0 then (some false) else ((lockstitchref03_Size.f k l0_0 a1).bind fun t137 => (if a2 ≥ t137 then (some false) else ((lockstitchref03_To.f k l0_0 a1 a2).bind fun t138 => (some (decide (t138 < 0))))))) = some r := h; clear h; by_cases c4 : a2 < 0
  · rw [if_pos c4] at H; have c4b0 : decide (a2 < 0) = true := decide_eq_true c4; clear c4; obtain rfl := Option.some.inj H
    go_enter Tryd.func56, Tryd.ntmps56
    go_wp2_with (first | ((with_reducible refine gate_dst (N := 3) rfl ?_); refine box_event ?hg (N := 3) ?hd (cs := #[.slice A0_0 l0_0.length c0_0, .string a0_1, .string a0_2, .slice A0_3 l0_3.length c0_3]) (t := 25) ?hr ?_; (case hd => rfl); (case hg => rfl); (case hr => first | (go_simp; done) | (go_simp; rfl)); intro gb136 hg w5 hbox hb; have n0_ := Aside0.mk (below_step hB97 hb); have n1_ := Aside0.mk (hbox); have n2_ := Aside0.mk ((by rw [hg]; exact (below_size hB97) : w.heap.size ≤ gb136)); have n3_ := Aside0.mk ((by rw [hg]; exact (below_size hB97) : w.heap.size ≤ gb136)); clear HB; have HB := n0_; have BK136 := n1_; have GW136 := n2_; have GE136 := n3_; clear n0_ n1_ n2_ n3_; clear hb hbox hg))
    go_ret; exact ⟨by first | rfl | (simp [errW_none, errW_some] <;> rfl) | (simp [*, errW_none, errW_some] <;> rfl), hB87⟩
  rw [if_neg c4] at H; have c4b0 : decide (a2 < 0) = false := decide_eq_false c4; clear c4; replace H := Option.bind_eq_some_iff.mp H; obtain ⟨t137, A60, H⟩ := H; replace H : (if a2 ≥ t137 then (some false) else ((lockstitchref03_To.f k l0_0 a1 a2).bind fun t138 => (some (decide (t138 < 0))))) = some r := H; have A6 := Aside0.mk A60; clear A60; by_cases c7 : a2 ≥ t137
  · rw [if_pos c7] at H; have c7b0 : decide (t137 ≤ a2) = true := decide_eq_true c7; clear c7; obtain rfl := Option.some.inj H
    go_enter Tryd.func56, Tryd.ntmps56
    go_wp2_with (first | ((with_reducible refine gate_dst (N := 3) rfl ?_); refine box_event ?hg (N := 3) ?hd (cs := #[.slice A0_0 l0_0.length c0_0, .string a0_1, .string a0_2, .slice A0_3 l0_3.length c0_3]) (t := 25) ?hr ?_; (case hd => rfl); (case hg => rfl); (case hr => first | (go_simp; done) | (go_simp; rfl)); intro gb136 hg w8 hbox hb; have n0_ := Aside0.mk (below_step hB97 hb); have n1_ := Aside0.mk (hbox); have n2_ := Aside0.mk ((by rw [hg]; exact (below_size hB97) : w.heap.size ≤ gb136)); have n3_ := Aside0.mk ((by rw [hg]; exact (below_size hB97) : w.heap.size ≤ gb136)); clear HB; have HB := n0_; have BK136 := n1_; have GW136 := n2_; have GE136 := n3_; clear n0_ n1_ n2_ n3_; clear hb hbox hg; have hcz9_0 : w8.cell? ⟨gb136, 0, none⟩ = some (.slice A0_0 l0_0.length c0_0) := (blk_cell BK136.out 0).trans rfl; have hcz9_1 : w8.cell? ⟨gb136, 1, none⟩ = some (.string a0_1) := (blk_cell BK136.out 1).trans rfl; have hcz9_2 : w8.cell? ⟨gb136, 2, none⟩ = some (.string a0_2) := (blk_cell BK136.out 2).trans rfl; have hcz9_3 : w8.cell? ⟨gb136, 3, none⟩ = some (.slice A0_3 l0_3.length c0_3) := (blk_cell BK136.out 3).trans rfl; have hfz9_0 := blk_frozen BK136.out 0; have hfz9_1 := blk_frozen BK136.out 1; have hfz9_2 := blk_frozen BK136.out 2; have hfz9_3 := blk_frozen BK136.out 3) | (go_at_call 41; (with_reducible refine (lockstitchref03_Size.calls k _ _ l0_0 a1 t137 _ ?side1 ?side2 A6.out).mono ?_); (case side1 => repeat (first | exact (Kd.C_below HR0_0.out HB.out) | (with_reducible refine Kd.C_alloc ?_ _) | (with_reducible refine Kd.C_drewN ?_ _) | (with_reducible refine Kd.C_drew ?_))); (case side2 => exact HC0_0.out); rintro e w' ⟨rfl, ⟨nd, rfl⟩⟩))
    go_ret; exact ⟨by first | rfl | (simp [errW_none, errW_some] <;> rfl) | (simp [*, errW_none, errW_some] <;> rfl), hB87⟩
  rw [if_neg c7] at H; have c7b0 : decide (t137 ≤ a2) = false := decide_eq_false c7; clear c7; replace H := Option.bind_eq_some_iff.mp H; obtain ⟨t138, A100, H⟩ := H; replace H : (some (decide (t138 < 0))) = some r := H; have A10 := Aside0.mk A100; clear A100; obtain rfl := Option.some.inj H
  go_enter Tryd.func56, Tryd.ntmps56
  go_wp2_with (first | ((with_reducible refine gate_dst (N := 3) rfl ?_); refine box_event ?hg (N := 3) ?hd (cs := #[.slice A0_0 l0_0.length c0_0, .string a0_1, .string a0_2, .slice A0_3 l0_3.length c0_3]) (t := 25) ?hr ?_; (case hd => rfl); (case hg => rfl); (case hr => first | (go_simp; done) | (go_simp; rfl)); intro gb136 hg w11 hbox hb; have n0_ := Aside0.mk (below_step hB97 hb); have n1_ := Aside0.mk (hbox); have n2_ := Aside0.mk ((by rw [hg]; exact (below_size hB97) : w.heap.size ≤ gb136)); have n3_ := Aside0.mk ((by rw [hg]; exact (below_size hB97) : w.heap.size ≤ gb136)); clear HB; have HB := n0_; have BK136 := n1_; have GW136 := n2_; have GE136 := n3_; clear n0_ n1_ n2_ n3_; clear hb hbox hg; have hcz12_0 : w11.cell? ⟨gb136, 0, none⟩ = some (.slice A0_0 l0_0.length c0_0) := (blk_cell BK136.out 0).trans rfl; have hcz12_1 : w11.cell? ⟨gb136, 1, none⟩ = some (.string a0_1) := (blk_cell BK136.out 1).trans rfl; have hcz12_2 : w11.cell? ⟨gb136, 2, none⟩ = some (.string a0_2) := (blk_cell BK136.out 2).trans rfl; have hcz12_3 : w11.cell? ⟨gb136, 3, none⟩ = some (.slice A0_3 l0_3.length c0_3) := (blk_cell BK136.out 3).trans rfl; have hfz12_0 := blk_frozen BK136.out 0; have hfz12_1 := blk_frozen BK136.out 1; have hfz12_2 := blk_frozen BK136.out 2; have hfz12_3 := blk_frozen BK136.out 3) | (go_at_call 41; (with_reducible refine (lockstitchref03_Size.calls k _ _ l0_0 a1 t137 _ ?side1 ?side2 A6.out).mono ?_); (case side1 => repeat (first | exact (Kd.C_below HR0_0.out HB.out) | (with_reducible refine Kd.C_alloc ?_ _) | (with_reducible refine Kd.C_drewN ?_ _) | (with_reducible refine Kd.C_drew ?_))); (case side2 => exact HC0_0.out); rintro e w' ⟨rfl, ⟨nd, rfl⟩⟩) | ((with_reducible refine gate_callee (f := 82) rfl ?_); refine goesL_ (some 21) rfl rfl Tryd.func82 (by kernel_rfl) rfl #[.slice A0_0 l0_0.length c0_0, .int .i64 a1, .int .i64 a2] rfl hB1 ?_; (with_reducible refine (lockstitchref03_To.calls k _ _ l0_0 a1 a2 t138 _ ?side1 ?side2 A10.out).mono ?_); (case side1 => repeat (first | exact (Kd.C_below HR0_0.out hB87) | (with_reducible refine Kd.C_alloc ?_ _) | (with_reducible refine Kd.C_drewN ?_ _) | (with_reducible refine Kd.C_drew ?_))); (case side2 => exact HC0_0.out); rintro e w' ⟨rfl, ⟨nd, rfl⟩⟩; refine ⟨_, rfl, ?_⟩))
  go_ret; exact ⟨by first | rfl | (simp [errW_none, errW_some] <;> rfl) | (simp [*, errW_none, errW_some] <;> rfl), hB87⟩
def lockstitchref05_to.f (k : Nat) (l0_0 : List ByteArray) (a0_1 : ByteArray) (a0_2 : ByteArray) (l0_3 : List (S47)) (a1 : Int) (a2 : Int) : Option (Int) := if a2 < 0 then (some (-1)) else (if a2 > 6 then (some (-1)) else ((lockstitchref03_To.f k l0_0 a1 a2).bind fun t140 => (some t140)))
theorem lockstitchref05_to.mono : ∀ a0 a1 a2 a3 a4 a5 k, LeO (lockstitchref05_to.f k a0 a1 a2 a3 a4 a5) (lockstitchref05_to.f (k + 1) a0 a1 a2 a3 a4 a5) := by
  intro a0 a1 a2 a3 a4 a5 k
  unfold lockstitchref05_to.f
  repeat' first
      | (with_reducible exact lockstitchref03_To.mono _ _ _ _)
      | (with_reducible exact LeO.refl _)
      | (with_reducible exact LeO.none _)
      | (with_reducible refine LeO.ite ?_ ?_)
      | (with_reducible refine LeO.bind ?_ (fun _ => ?_))
      | exact lockstitchref03_To.mono _ _ _ _
      | exact LeO.none _
      | refine LeO.ite ?_ ?_
      | refine LeO.bind ?_ (fun _ => ?_)
set_option maxHeartbeats 8000000 in
set_option maxRecDepth 100000 in
theorem lockstitchref05_to.calls (k : Nat) (A0_0 : Option Addr) (c0_0 : Nat) (l0_0 : List ByteArray) (a0_1 : ByteArray) (a0_2 : ByteArray) (A0_3 : Option Addr) (c0_3 : Nat) (l0_3 : List (S47)) (a1 : Int) (a2 : Int) (r : Int) (w : World) (hr0_0 : Kd.C Kd.string w A0_0 l0_0.length l0_0) (hc0_0 : l0_0.length ≤ c0_0) (hr0_3 : Kd.C k47 w A0_3 l0_3.length l0_3) (hc0_3 : l0_3.length ≤ c0_3) (h : lockstitchref05_to.f k l0_0 a0_1 a0_2 l0_3 a1 a2 = some r) :
    Calls Tryd.prog 57 #[.agg #[.slice A0_0 l0_0.length c0_0, .string a0_1, .string a0_2, .slice A0_3 l0_3.length c0_3], .int .i64 a1, .int .i64 a2] w fun e w' => e = .returned (.int .i64 r) ∧ Below w.heap.size w w' := by
  have hu25 := Tryd.underlying25; have HR0_0 := Aside0.mk hr0_0; have HC0_0 := Aside0.mk hc0_0; clear hr0_0 hc0_0; have HR0_3 := Aside0.mk hr0_3; have HC0_3 := Aside0.mk hc0_3; clear hr0_3 hc0_3; have HB := Aside0.mk (Below.refl w.heap.size w); have H : (if a2 < 0 then (some (-1)) else (if a2 > 6 then (some (-1)) else ((lockstitchref03_To.f k l0_0 a1 a2).bind fun t140 => (some t140)))) = some r := h; clear h; by_cases c4 : a2 < 0
  · rw [if_pos c4] at H; have c4b0 : decide (a2 < 0) = true := decide_eq_true c4; clear c4; obtain rfl := Option.some.inj H
    go_enter Tryd.func57, Tryd.ntmps57
    go_wp2_with (first | ((with_reducible refine gate_dst (N := 3) rfl ?_); refine box_event ?hg (N := 3) ?hd (cs := #[.slice A0_0 l0_0.length c0_0, .string a0_1, .string a0_2, .slice A0_3 l0_3.length c0_3]) (t := 25) ?hr ?_; (case hd => rfl); (case hg => rfl); (case hr => first | (go_simp; done) | (go_simp; rfl)); intro gb139 hg w5 hbox hb; have n0_ := Aside0.mk (below_step hB97 hb); have n1_ := Aside0.mk (hbox); have n2_ := Aside0.mk ((by rw [hg]; exact (below_size hB97) : w.heap.size ≤ gb139)); have n3_ := Aside0.mk ((by rw [hg]; exact (below_size hB97) : w.heap.size ≤ gb139)); clear HB; have HB := n0_; have BK139 := n1_; have GW139 := n2_; have GE139 := n3_; clear n0_ n1_ n2_ n3_; clear hb hbox hg))
    go_ret; exact ⟨by first | rfl | (simp [errW_none, errW_some] <;> rfl) | (simp [*, errW_none, errW_some] <;> rfl), hB88⟩
  rw [if_neg c4] at H; have c4b0 : decide (a2 < 0) = false := decide_eq_false c4; clear c4; by_cases c6 : a2 > 6
  · rw [if_pos c6] at H; have c6b0 : decide (6 < a2) = true := decide_eq_true c6; clear c6; obtain rfl := Option.some.inj H
    go_enter Tryd.func57, Tryd.ntmps57
    go_wp2_with (first | ((with_reducible refine gate_dst (N := 3) rfl ?_); refine box_event ?hg (N := 3) ?hd (cs := #[.slice A0_0 l0_0.length c0_0, .string a0_1, .string a0_2, .slice A0_3 l0_3.length c0_3]) (t := 25) ?hr ?_; (case hd => rfl); (case hg => rfl); (case hr => first | (go_simp; done) | (go_simp; rfl)); intro gb139 hg w7 hbox hb; have n0_ := Aside0.mk (below_step hB97 hb); have n1_ := Aside0.mk (hbox); have n2_ := Aside0.mk ((by rw [hg]; exact (below_size hB97) : w.heap.size ≤ gb139)); have n3_ := Aside0.mk ((by rw [hg]; exact (below_size hB97) : w.heap.size ≤ gb139)); clear HB; have HB := n0_; have BK139 := n1_; have GW139 := n2_; have GE139 := n3_; clear n0_ n1_ n2_ n3_; clear hb hbox hg))
    go_ret; exact ⟨by first | rfl | (simp [errW_none, errW_some] <;> rfl) | (simp [*, errW_none, errW_some] <;> rfl), hB88⟩
  rw [if_neg c6] at H; have c6b0 : decide (6 < a2) = false := decide_eq_false c6; clear c6; replace H := Option.bind_eq_some_iff.mp H; obtain ⟨t140, A80, H⟩ := H; replace H : (some t140) = some r := H; have A8 := Aside0.mk A80; clear A80; obtain rfl := Option.some.inj H
  go_enter Tryd.func57, Tryd.ntmps57
  go_wp2_with (first | ((with_reducible refine gate_dst (N := 3) rfl ?_); refine box_event ?hg (N := 3) ?hd (cs := #[.slice A0_0 l0_0.length c0_0, .string a0_1, .string a0_2, .slice A0_3 l0_3.length c0_3]) (t := 25) ?hr ?_; (case hd => rfl); (case hg => rfl); (case hr => first | (go_simp; done) | (go_simp; rfl)); intro gb139 hg w9 hbox hb; have n0_ := Aside0.mk (below_step hB97 hb); have n1_ := Aside0.mk (hbox); have n2_ := Aside0.mk ((by rw [hg]; exact (below_size hB97) : w.heap.size ≤ gb139)); have n3_ := Aside0.mk ((by rw [hg]; exact (below_size hB97) : w.heap.size ≤ gb139)); clear HB; have HB := n0_; have BK139 := n1_; have GW139 := n2_; have GE139 := n3_; clear n0_ n1_ n2_ n3_; clear hb hbox hg; have hcz10_0 : w9.cell? ⟨gb139, 0, none⟩ = some (.slice A0_0 l0_0.length c0_0) := (blk_cell BK139.out 0).trans rfl; have hcz10_1 : w9.cell? ⟨gb139, 1, none⟩ = some (.string a0_1) := (blk_cell BK139.out 1).trans rfl; have hcz10_2 : w9.cell? ⟨gb139, 2, none⟩ = some (.string a0_2) := (blk_cell BK139.out 2).trans rfl; have hcz10_3 : w9.cell? ⟨gb139, 3, none⟩ = some (.slice A0_3 l0_3.length c0_3) := (blk_cell BK139.out 3).trans rfl; have hfz10_0 := blk_frozen BK139.out 0; have hfz10_1 := blk_frozen BK139.out 1; have hfz10_2 := blk_frozen BK139.out 2; have hfz10_3 := blk_frozen BK139.out 3) | ((with_reducible refine gate_callee (f := 82) rfl ?_); refine goesL_ (some 17) rfl rfl Tryd.func82 (by kernel_rfl) rfl #[.slice A0_0 l0_0.length c0_0, .int .i64 a1, .int .i64 a2] rfl hB1 ?_; (with_reducible refine (lockstitchref03_To.calls k _ _ l0_0 a1 a2 t140 _ ?side1 ?side2 A8.out).mono ?_); (case side1 => repeat (first | exact (Kd.C_below HR0_0.out HB.out) | (with_reducible refine Kd.C_alloc ?_ _) | (with_reducible refine Kd.C_drewN ?_ _) | (with_reducible refine Kd.C_drew ?_))); (case side2 => exact HC0_0.out); rintro e w' ⟨rfl, ⟨nd, rfl⟩⟩; refine ⟨_, rfl, ?_⟩))
  go_ret; exact ⟨by first | rfl | (simp [errW_none, errW_some] <;> rfl) | (simp [*, errW_none, errW_some] <;> rfl), hB88⟩
def lockstitchref05_Glob.f (k : Nat) (l0_0 : List ByteArray) (a0_1 : ByteArray) (a0_2 : ByteArray) (l0_3 : List (S47)) (a1 : Int) : Option (Int) := (lockstitchref05_at.f k l0_0 a0_2 a1).bind fun t142 => (some t142)
theorem lockstitchref05_Glob.mono : ∀ a0 a1 a2 a3 a4 k, LeO (lockstitchref05_Glob.f k a0 a1 a2 a3 a4) (lockstitchref05_Glob.f (k + 1) a0 a1 a2 a3 a4) := by
  intro a0 a1 a2 a3 a4 k
  unfold lockstitchref05_Glob.f
  repeat' first
      | (with_reducible exact lockstitchref05_at.mono _ _ _ _)
      | (with_reducible exact LeO.refl _)
      | (with_reducible exact LeO.none _)
      | (with_reducible refine LeO.ite ?_ ?_)
      | (with_reducible refine LeO.bind ?_ (fun _ => ?_))
      | exact lockstitchref05_at.mono _ _ _ _
      | exact LeO.none _
      | refine LeO.ite ?_ ?_
      | refine LeO.bind ?_ (fun _ => ?_)
set_option maxHeartbeats 8000000 in
set_option maxRecDepth 100000 in
theorem lockstitchref05_Glob.calls (k : Nat) (A0_0 : Option Addr) (c0_0 : Nat) (l0_0 : List ByteArray) (a0_1 : ByteArray) (a0_2 : ByteArray) (A0_3 : Option Addr) (c0_3 : Nat) (l0_3 : List (S47)) (a1 : Int) (r : Int) (w : World) (hr0_0 : Kd.C Kd.string w A0_0 l0_0.length l0_0) (hc0_0 : l0_0.length ≤ c0_0) (hr0_3 : Kd.C k47 w A0_3 l0_3.length l0_3) (hc0_3 : l0_3.length ≤ c0_3) (h : lockstitchref05_Glob.f k l0_0 a0_1 a0_2 l0_3 a1 = some r) :
    Calls Tryd.prog 58 #[.agg #[.slice A0_0 l0_0.length c0_0, .string a0_1, .string a0_2, .slice A0_3 l0_3.length c0_3], .int .u8 a1] w fun e w' => e = .returned (.int .i64 r) ∧ Below w.heap.size w w' := by
  have hu25 := Tryd.underlying25; have HR0_0 := Aside0.mk hr0_0; have HC0_0 := Aside0.mk hc0_0; clear hr0_0 hc0_0; have HR0_3 := Aside0.mk hr0_3; have HC0_3 := Aside0.mk hc0_3; clear hr0_3 hc0_3; have HB := Aside0.mk (Below.refl w.heap.size w); have H : ((lockstitchref05_at.f k l0_0 a0_2 a1).bind fun t142 => (some t142)) = some r := h; clear h; replace H := Option.bind_eq_some_iff.mp H; obtain ⟨t142, A30, H⟩ := H; replace H : (some t142) = some r := H; have A3 := Aside0.mk A30; clear A30; obtain rfl := Option.some.inj H
  go_enter Tryd.func58, Tryd.ntmps58
  go_wp2_with (first | ((with_reducible refine gate_dst (N := 2) rfl ?_); refine box_event ?hg (N := 2) ?hd (cs := #[.slice A0_0 l0_0.length c0_0, .string a0_1, .string a0_2, .slice A0_3 l0_3.length c0_3]) (t := 25) ?hr ?_; (case hd => rfl); (case hg => rfl); (case hr => first | (go_simp; done) | (go_simp; rfl)); intro gb141 hg w4 hbox hb; have n0_ := Aside0.mk (below_step hB97 hb); have n1_ := Aside0.mk (hbox); have n2_ := Aside0.mk ((by rw [hg]; exact (below_size hB97) : w.heap.size ≤ gb141)); have n3_ := Aside0.mk ((by rw [hg]; exact (below_size hB97) : w.heap.size ≤ gb141)); clear HB; have HB := n0_; have BK141 := n1_; have GW141 := n2_; have GE141 := n3_; clear n0_ n1_ n2_ n3_; clear hb hbox hg; have hcz5_0 : w4.cell? ⟨gb141, 0, none⟩ = some (.slice A0_0 l0_0.length c0_0) := (blk_cell BK141.out 0).trans rfl; have hcz5_1 : w4.cell? ⟨gb141, 1, none⟩ = some (.string a0_1) := (blk_cell BK141.out 1).trans rfl; have hcz5_2 : w4.cell? ⟨gb141, 2, none⟩ = some (.string a0_2) := (blk_cell BK141.out 2).trans rfl; have hcz5_3 : w4.cell? ⟨gb141, 3, none⟩ = some (.slice A0_3 l0_3.length c0_3) := (blk_cell BK141.out 3).trans rfl; have hfz5_0 := blk_frozen BK141.out 0; have hfz5_1 := blk_frozen BK141.out 1; have hfz5_2 := blk_frozen BK141.out 2; have hfz5_3 := blk_frozen BK141.out 3) | ((with_reducible refine gate_callee (f := 60) rfl ?_); refine goesL_ (some 10) rfl rfl Tryd.func60 (by kernel_rfl) rfl #[.slice A0_0 l0_0.length c0_0, .string a0_2, .int .u8 a1] rfl hB1 ?_; (with_reducible refine (lockstitchref05_at.calls k _ _ l0_0 a0_2 a1 t142 _ ?side1 ?side2 A3.out).mono ?_); (case side1 => repeat (first | exact (Kd.C_below HR0_0.out HB.out) | (with_reducible refine Kd.C_alloc ?_ _) | (with_reducible refine Kd.C_drewN ?_ _) | (with_reducible refine Kd.C_drew ?_))); (case side2 => exact HC0_0.out); rintro e w' ⟨rfl, ⟨nd, rfl⟩⟩; refine ⟨_, rfl, ?_⟩))
  go_ret; exact ⟨by first | rfl | (simp [errW_none, errW_some] <;> rfl) | (simp [*, errW_none, errW_some] <;> rfl), by repeat (first | (with_reducible first | exact HB.out | apply below_alloc | apply pw_below_drewN | apply below_drew1 | refine below_set ?_ GE141.out) | exact HB.out)⟩
end Go.Proofs.YtkplgfhkebkaaaaDoor.F

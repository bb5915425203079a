/- Texts of this claim, pruned to what it needs and laid together by prune.py. -/
import Derived.Test.YtocechpmgfhenaaGreatDoorPC22
namespace Go.Proofs.YtocechpmgfhenaaGreatDoor.F
open Go.RowKit Go.Proofs.YtocechpmgfhenaaGreatDoorW.PrintWords Go.Proofs.YtocechpmgfhenaaGreatDoorW.PrintLast Go.Proofs.YtocechpmgfhenaaGreatDoorW.PrintMore
attribute [local go_sem] max2_int min2_int max_two min_two max_three min_three max_four min_four
set_option linter.unusedVariables false
set_option linter.unusedSimpArgs false
def lockstitchref03_digit.f (a0 : Int) (a1 : Int) : Option (Int) := if a0 < 48 then (some (-1)) else (if ((a0 - 48) % 256) ≥ a1 then (some (-1)) else (some ((a0 - 48) % 256)))
set_option maxHeartbeats 8000000 in
set_option maxRecDepth 100000 in
theorem lockstitchref03_digit.calls (a0 : Int) (a1 : Int) (r : Int) (w : World) (h : lockstitchref03_digit.f a0 a1 = some r) :
    Calls Tryz.prog 47 #[.int .u8 a0, .int .i64 a1] w fun e w' => e = .returned (.int .i64 r) ∧ Drawn0 w w' := by
  have H : (if a0 < 48 then (some (-1)) else (if ((a0 - 48) % 256) ≥ a1 then (some (-1)) else (some ((a0 - 48) % 256)))) = some r := h; clear h; by_cases c3 : a0 < 48
  · rw [if_pos c3] at H; have c3b0 : decide (a0 < 48) = true := decide_eq_true c3; clear c3; obtain rfl := Option.some.inj H
    go_enter Tryz.func47, Tryz.ntmps47
    go_wp2; go_ret; exact ⟨by first | rfl | (simp; done) | (simp [*]; done), by repeat (first | exact Drawn0.refl _ | apply Drawn0.step)⟩
  rw [if_neg c3] at H; have c3b0 : decide (a0 < 48) = false := decide_eq_false c3; clear c3; by_cases c4 : ((a0 - 48) % 256) ≥ a1
  rotate_left
  · rw [if_neg c4] at H; have c4b0 : decide (a1 ≤ ((a0 - 48) % 256)) = false := decide_eq_false c4; clear c4; obtain rfl := Option.some.inj H
    go_enter Tryz.func47, Tryz.ntmps47
    go_wp2; go_ret; exact ⟨by first | rfl | (simp; done) | (simp [*]; done), by repeat (first | exact Drawn0.refl _ | apply Drawn0.step)⟩
  rw [if_pos c4] at H; have c4b0 : decide (a1 ≤ ((a0 - 48) % 256)) = true := decide_eq_true c4; clear c4; obtain rfl := Option.some.inj H
  go_enter Tryz.func47, Tryz.ntmps47
  go_wp2; go_ret; exact ⟨by first | rfl | (simp; done) | (simp [*]; done), by repeat (first | exact Drawn0.refl _ | apply Drawn0.step)⟩
mutual
def lockstitchref03_Right.l0 : Nat → List ByteArray → Int → Option (Bool)
  | 0, _, _ => none
  | k + 1, x0, x3 => if x3 < (x0.length : Int) then (if 0 ≤ x3 then (lockstitchref03_Right.l1 k x0 x3 (rdOf ByteArray.empty x0 x3) 0) else (none)) else (if (x0.length : Int) ≥ 1 then (some (decide ((x0.length : Int) ≤ 8))) else (some false))
def lockstitchref03_Right.l1 : Nat → List ByteArray → Int → ByteArray → Int → Option (Bool)
  | 0, _, _, _, _ => none
  | k + 1, x0, x3, x4, x5 => if x5 < (x4.size : Int) then (if 0 ≤ x5 then (if (bt x4 x5) = 105 then (lockstitchref03_Right.l1 k x0 x3 x4 (wrap64 (x5 + 1))) else ((lockstitchref03_digit.f (bt x4 x5) (x0.length : Int)).bind fun t102 => (if t102 < 0 then (some false) else (lockstitchref03_Right.l1 k x0 x3 x4 (wrap64 (x5 + 1)))))) else (none)) else (if (x4.size : Int) < 1 then (some false) else (if (x4.size : Int) > 6 then (some false) else (lockstitchref03_Right.l0 k x0 (wrap64 (x3 + 1)))))
end
def lockstitchref03_Right.f (k : Nat) (l0 : List ByteArray) : Option (Bool) := lockstitchref03_Right.l0 k l0 0
theorem lockstitchref03_Right.mono_l : ∀ k, (∀ y0 y1, LeO (lockstitchref03_Right.l0 k y0 y1) (lockstitchref03_Right.l0 (k + 1) y0 y1)) ∧ (∀ y0 y1 y2 y3, LeO (lockstitchref03_Right.l1 k y0 y1 y2 y3) (lockstitchref03_Right.l1 (k + 1) y0 y1 y2 y3))
  | 0 => ⟨fun _ _ r h => by simp [lockstitchref03_Right.l0] at h, fun _ _ _ _ r h => by simp [lockstitchref03_Right.l1] at h⟩
  | k + 1 => by
    obtain ⟨ih0, ih1⟩ := lockstitchref03_Right.mono_l k; refine ⟨?_, ?_⟩
    · intro y0 y1
      unfold lockstitchref03_Right.l0
      repeat' first
      | (with_reducible exact ih0 _ _)
      | (with_reducible exact ih1 _ _ _ _)
      | (with_reducible exact LeO.refl _)
      | (with_reducible exact LeO.none _)
      | (with_reducible refine LeO.ite ?_ ?_)
      | (with_reducible refine LeO.bind ?_ (fun _ => ?_))
      | exact ih0 _ _
      | exact ih1 _ _ _ _
      | exact LeO.none _
      | refine LeO.ite ?_ ?_
      | refine LeO.bind ?_ (fun _ => ?_)
    · intro y0 y1 y2 y3
      unfold lockstitchref03_Right.l1
      repeat' first
      | (with_reducible exact ih0 _ _)
      | (with_reducible exact ih1 _ _ _ _)
      | (with_reducible exact LeO.refl _)
      | (with_reducible exact LeO.none _)
      | (with_reducible refine LeO.ite ?_ ?_)
      | (with_reducible refine LeO.bind ?_ (fun _ => ?_))
      | exact ih0 _ _
      | exact ih1 _ _ _ _
      | exact LeO.none _
      | refine LeO.ite ?_ ?_
      | refine LeO.bind ?_ (fun _ => ?_)
theorem lockstitchref03_Right.mono : ∀ a0 k, LeO (lockstitchref03_Right.f k a0) (lockstitchref03_Right.f (k + 1) a0) := by
  intro a0 k; obtain ⟨ih0, ih1⟩ := lockstitchref03_Right.mono_l k
  unfold lockstitchref03_Right.f
  repeat' first
      | (with_reducible exact ih0 _ _)
      | (with_reducible exact ih1 _ _ _ _)
      | (with_reducible exact LeO.refl _)
      | (with_reducible exact LeO.none _)
      | (with_reducible refine LeO.ite ?_ ?_)
      | (with_reducible refine LeO.bind ?_ (fun _ => ?_))
      | exact ih0 _ _
      | exact ih1 _ _ _ _
      | exact LeO.none _
      | refine LeO.ite ?_ ?_
      | refine LeO.bind ?_ (fun _ => ?_)
set_option maxHeartbeats 8000000 in
set_option maxRecDepth 100000 in
theorem lockstitchref03_Right.calls (k : Nat) (A0 : Option Addr) (c0 : Nat) (l0 : List ByteArray) (r : Bool) (w : World) (hr0 : Kd.C Kd.string w A0 l0.length l0) (hc0 : l0.length ≤ c0) (h : lockstitchref03_Right.f k l0 = some r) :
    Calls Tryz.prog 48 #[.slice A0 l0.length c0] w fun e w' => e = .returned (.bool r) ∧ Drawn0 w w' := by
  have HR0 := Aside0.mk hr0; have HC0 := Aside0.mk hc0; clear hr0 hc0; have H : (lockstitchref03_Right.l0 k l0 0) = some r := h; clear h; have H' := Aside0.mk H; clear H
  go_enter Tryz.func48, Tryz.ntmps48
  go_wp2
  go_loopg [3] k (fun kq v3 w' => ∃ (x3_1 : Int), v3 = .int .i64 x3_1 ∧ Aside0 (lockstitchref03_Right.l0 kq l0 x3_1 = some r) ∧ Aside0 (kq ≤ k) ∧ Drawn0 w w')
  case atStart => exact ⟨(0), hB25, H', ⟨Nat.le_refl _⟩, by repeat (first | exact Drawn0.refl _ | apply Drawn0.step)⟩
  case round =>
    clear H'; obtain ⟨x3_1, rfl, HA, HK1, ⟨m1, rfl⟩⟩ := hrel
    cases gk with
    | zero => exact absurd HA.out (by simp [lockstitchref03_Right.l0])
    | succ k1 =>
      have H := HA.out; clear HA; simp only [lockstitchref03_Right.l0] at H; by_cases c2 : x3_1 < (l0.length : Int)
      rotate_left
      · rw [if_neg c2] at H; have c2b0 : decide (x3_1 < (l0.length : Int)) = false := decide_eq_false c2; clear c2; by_cases c13 : (l0.length : Int) ≥ 1
        rotate_left
        · rw [if_neg c13] at H; have c13b0 : decide (1 ≤ (l0.length : Int)) = false := decide_eq_false c13; have c13b1 : decide (1 ≤ l0.length) = false := decide_eq_false (by omega); clear c13; obtain rfl := Option.some.inj H; go_wp2; go_ret; exact ⟨by first | rfl | (simp; done) | (simp [*]; done), by repeat (first | exact Drawn0.refl _ | apply Drawn0.step)⟩
        rw [if_pos c13] at H; have c13b0 : decide (1 ≤ (l0.length : Int)) = true := decide_eq_true c13; have c13b1 : decide (1 ≤ l0.length) = true := decide_eq_true (by omega); clear c13; obtain rfl := Option.some.inj H; go_wp2; go_ret; exact ⟨by first | rfl | (simp; done) | (simp [*]; done), by repeat (first | exact Drawn0.refl _ | apply Drawn0.step)⟩
      rw [if_pos c2] at H; have c2b0 : decide (x3_1 < (l0.length : Int)) = true := decide_eq_true c2; clear c2; by_cases c3 : 0 ≤ x3_1
      rotate_left
      · rw [if_neg c3] at H; exact absurd H (by simp)
      rw [if_pos c3] at H; have c3b0 : decide (0 ≤ x3_1) = true := decide_eq_true c3; clear c3; have H' := Aside0.mk H; clear H; have p101 : 0 ≤ (x3_1 : Int) := of_decide_eq_true hB24; have q101 : x3_1 < (l0.length : Int) := of_decide_eq_true hB24; obtain ⟨ad101, e101, hx101_0⟩ := Kd.at_string HR0.out x3_1 p101 q101
      cases e101
      replace p101 := eq_true p101; replace q101 := eq_true q101; go_wp2
      go_loopg [5] k1 (fun kq v5 w' => ∃ (x5_2 : Int), v5 = .int .i64 x5_2 ∧ Aside0 (lockstitchref03_Right.l1 kq l0 x3_1 (rdOf ByteArray.empty l0 x3_1) x5_2 = some r) ∧ Aside0 (kq ≤ k1) ∧ Drawn0 w w')
      case atStart => exact ⟨(0), hB25, H', ⟨Nat.le_refl _⟩, by repeat (first | exact Drawn0.refl _ | apply Drawn0.step)⟩
      case round =>
        clear H'; (try clear p1); (try clear q1); (try clear hx1); (try clear c2); (try clear c2b0); (try clear p2); (try clear c3); (try clear c3b0); (try clear hx101_0); (try clear p101); (try clear q101); obtain ⟨x5_2, rfl, HA, HK2, ⟨m2, rfl⟩⟩ := hrel
        cases gk with
        | zero => exact absurd HA.out (by simp [lockstitchref03_Right.l1])
        | succ k2 =>
          have H := HA.out; clear HA; simp only [lockstitchref03_Right.l1] at H; by_cases c4 : x5_2 < ((rdOf ByteArray.empty l0 x3_1).size : Int)
          rotate_left
          · rw [if_neg c4] at H; have c4b0 : decide (x5_2 < ((rdOf ByteArray.empty l0 x3_1).size : Int)) = false := decide_eq_false c4; clear c4; by_cases c11 : ((rdOf ByteArray.empty l0 x3_1).size : Int) < 1
            · rw [if_pos c11] at H; have c11b0 : decide (((rdOf ByteArray.empty l0 x3_1).size : Int) < 1) = true := decide_eq_true c11; have c11b1 : decide ((rdOf ByteArray.empty l0 x3_1).size < 1) = true := decide_eq_true (by omega); clear c11; obtain rfl := Option.some.inj H; go_wp2; go_ret; exact ⟨by first | rfl | (simp; done) | (simp [*]; done), by repeat (first | exact Drawn0.refl _ | apply Drawn0.step)⟩
            rw [if_neg c11] at H; have c11b0 : decide (((rdOf ByteArray.empty l0 x3_1).size : Int) < 1) = false := decide_eq_false c11; have c11b1 : decide ((rdOf ByteArray.empty l0 x3_1).size < 1) = false := decide_eq_false (by omega); clear c11; by_cases c12 : ((rdOf ByteArray.empty l0 x3_1).size : Int) > 6
            · rw [if_pos c12] at H; have c12b0 : decide (6 < ((rdOf ByteArray.empty l0 x3_1).size : Int)) = true := decide_eq_true c12; have c12b1 : decide (6 < (rdOf ByteArray.empty l0 x3_1).size) = true := decide_eq_true (by omega); clear c12; obtain rfl := Option.some.inj H; go_wp2; go_ret; exact ⟨by first | rfl | (simp; done) | (simp [*]; done), by repeat (first | exact Drawn0.refl _ | apply Drawn0.step)⟩
            rw [if_neg c12] at H; have c12b0 : decide (6 < ((rdOf ByteArray.empty l0 x3_1).size : Int)) = false := decide_eq_false c12; have c12b1 : decide (6 < (rdOf ByteArray.empty l0 x3_1).size) = false := decide_eq_false (by omega); clear c12; have H' := Aside0.mk H; clear H; go_wp2; go_roundg k2
            case measure => have := HK1.out; have := HK2.out; omega
            case rel => exact ⟨(wrap64 (x3_1 + 1)), hB25, H', ⟨by have := HK1.out; have := HK2.out; omega⟩, by repeat (first | exact Drawn0.refl _ | apply Drawn0.step)⟩
          rw [if_pos c4] at H; have c4b0 : decide (x5_2 < ((rdOf ByteArray.empty l0 x3_1).size : Int)) = true := decide_eq_true c4; clear c4; by_cases c5 : 0 ≤ x5_2
          rotate_left
          · rw [if_neg c5] at H; exact absurd H (by simp)
          rw [if_pos c5] at H; have c5b0 : decide (0 ≤ x5_2) = true := decide_eq_true c5; clear c5; by_cases c7 : (bt (rdOf ByteArray.empty l0 x3_1) x5_2) = 105
          · rw [if_pos c7] at H; have c7b0 : ((bt (rdOf ByteArray.empty l0 x3_1) x5_2) == 105) = true := beq_iff_eq.mpr c7; have c7b1 : ((bt (rdOf ByteArray.empty l0 x3_1) x5_2) != 105) = false := bne_eq_false_iff_eq.mpr c7; clear c7; have H' := Aside0.mk H; clear H; have p6 : 0 ≤ (x5_2 : Int) := of_decide_eq_true hB24; have q6 : x5_2 < ((rdOf ByteArray.empty l0 x3_1).size : Int) := of_decide_eq_true hB24; have hx6 := bt_at (rdOf ByteArray.empty l0 x3_1) x5_2; replace p6 := eq_true p6; replace q6 := eq_true q6; go_wp2; go_roundg k2
            case measure => have := HK1.out; have := HK2.out; omega
            case rel => exact ⟨(wrap64 (x5_2 + 1)), hB25, H', ⟨by have := HK1.out; have := HK2.out; omega⟩, by repeat (first | exact Drawn0.refl _ | apply Drawn0.step)⟩
          rw [if_neg c7] at H; have c7b0 : ((bt (rdOf ByteArray.empty l0 x3_1) x5_2) == 105) = false := beq_eq_false_iff_ne.mpr c7; have c7b1 : ((bt (rdOf ByteArray.empty l0 x3_1) x5_2) != 105) = true := bne_iff_ne.mpr c7; replace H := Option.bind_eq_some_iff.mp H; obtain ⟨t102, A90, H⟩ := H; replace H : (if t102 < 0 then (some false) else (lockstitchref03_Right.l1 k2 l0 x3_1 (rdOf ByteArray.empty l0 x3_1) (wrap64 (x5_2 + 1)))) = some r := H; have A9 := Aside0.mk A90; clear A90; by_cases c10 : t102 < 0
          · rw [if_pos c10] at H; have c10b0 : decide (t102 < 0) = true := decide_eq_true c10; clear c10; obtain rfl := Option.some.inj H; have p6 : 0 ≤ (x5_2 : Int) := of_decide_eq_true hB24; have q6 : x5_2 < ((rdOf ByteArray.empty l0 x3_1).size : Int) := of_decide_eq_true hB24; have hx6 := bt_at (rdOf ByteArray.empty l0 x3_1) x5_2; replace p6 := eq_true p6; replace q6 := eq_true q6; have p8 : 0 ≤ (x5_2 : Int) := of_decide_eq_true hB24; have q8 : x5_2 < ((rdOf ByteArray.empty l0 x3_1).size : Int) := of_decide_eq_true hB24; have hx8 := bt_at (rdOf ByteArray.empty l0 x3_1) x5_2; replace p8 := eq_true p8; replace q8 := eq_true q8
            go_wp2_with (first | (go_at_call 47; (with_reducible refine (lockstitchref03_digit.calls (bt (rdOf ByteArray.empty l0 x3_1) x5_2) (l0.length : Int) t102 _ A9.out).mono ?_); rintro e w' ⟨rfl, ⟨nd, rfl⟩⟩))
            go_ret; exact ⟨by first | rfl | (simp; done) | (simp [*]; done), by repeat (first | exact Drawn0.refl _ | apply Drawn0.step)⟩
          rw [if_neg c10] at H; have c10b0 : decide (t102 < 0) = false := decide_eq_false c10; clear c10; have H' := Aside0.mk H; clear H; have p6 : 0 ≤ (x5_2 : Int) := of_decide_eq_true hB24; have q6 : x5_2 < ((rdOf ByteArray.empty l0 x3_1).size : Int) := of_decide_eq_true hB24; have hx6 := bt_at (rdOf ByteArray.empty l0 x3_1) x5_2; replace p6 := eq_true p6; replace q6 := eq_true q6; have p8 : 0 ≤ (x5_2 : Int) := of_decide_eq_true hB24; have q8 : x5_2 < ((rdOf ByteArray.empty l0 x3_1).size : Int) := of_decide_eq_true hB24; have hx8 := bt_at (rdOf ByteArray.empty l0 x3_1) x5_2; replace p8 := eq_true p8; replace q8 := eq_true q8
          go_wp2_with (first | (go_at_call 47; (with_reducible refine (lockstitchref03_digit.calls (bt (rdOf ByteArray.empty l0 x3_1) x5_2) (l0.length : Int) t102 _ A9.out).mono ?_); rintro e w' ⟨rfl, ⟨nd, rfl⟩⟩))
          go_roundg k2
          case measure => have := HK1.out; have := HK2.out; omega
          case rel => exact ⟨(wrap64 (x5_2 + 1)), hB25, H', ⟨by have := HK1.out; have := HK2.out; omega⟩, by repeat (first | exact Drawn0.refl _ | apply Drawn0.step)⟩
def lockstitchref03_Refs.l0 : Nat → List ByteArray → ByteArray → Int → Option (Bool)
  | 0, _, _, _ => none
  | k + 1, x0, x1, x5 => if x5 < (x1.size : Int) then (if 0 ≤ x5 then ((lockstitchref03_digit.f (bt x1 x5) (x0.length : Int)).bind fun t103 => (if t103 < 0 then (some false) else (lockstitchref03_Refs.l0 k x0 x1 (wrap64 (x5 + 1))))) else (none)) else ((lockstitchref03_Right.f k x0).bind fun t104 => (some t104))
def lockstitchref03_Refs.f (k : Nat) (l0 : List ByteArray) (a1 : ByteArray) : Option (Bool) := lockstitchref03_Refs.l0 k l0 a1 0
theorem lockstitchref03_Refs.mono_l : ∀ k, (∀ y0 y1 y2, LeO (lockstitchref03_Refs.l0 k y0 y1 y2) (lockstitchref03_Refs.l0 (k + 1) y0 y1 y2))
  | 0 => fun _ _ _ r h => by simp [lockstitchref03_Refs.l0] at h
  | k + 1 => by
    have ih0 := lockstitchref03_Refs.mono_l k
    · intro y0 y1 y2
      unfold lockstitchref03_Refs.l0
      repeat' first
      | (with_reducible exact ih0 _ _ _)
      | (with_reducible exact lockstitchref03_Right.mono _ _)
      | (with_reducible exact LeO.refl _)
      | (with_reducible exact LeO.none _)
      | (with_reducible refine LeO.ite ?_ ?_)
      | (with_reducible refine LeO.bind ?_ (fun _ => ?_))
      | exact ih0 _ _ _
      | exact lockstitchref03_Right.mono _ _
      | exact LeO.none _
      | refine LeO.ite ?_ ?_
      | refine LeO.bind ?_ (fun _ => ?_)
theorem lockstitchref03_Refs.mono : ∀ a0 a1 k, LeO (lockstitchref03_Refs.f k a0 a1) (lockstitchref03_Refs.f (k + 1) a0 a1) := by
  intro a0 a1 k; have ih0 := lockstitchref03_Refs.mono_l k
  unfold lockstitchref03_Refs.f
  repeat' first
      | (with_reducible exact ih0 _ _ _)
      | (with_reducible exact lockstitchref03_Right.mono _ _)
      | (with_reducible exact LeO.refl _)
      | (with_reducible exact LeO.none _)
      | (with_reducible refine LeO.ite ?_ ?_)
      | (with_reducible refine LeO.bind ?_ (fun _ => ?_))
      | exact ih0 _ _ _
      | exact lockstitchref03_Right.mono _ _
      | exact LeO.none _
      | refine LeO.ite ?_ ?_
      | refine LeO.bind ?_ (fun _ => ?_)
set_option maxHeartbeats 8000000 in
set_option maxRecDepth 100000 in
theorem lockstitchref03_Refs.calls (k : Nat) (A0 : Option Addr) (c0 : Nat) (l0 : List ByteArray) (a1 : ByteArray) (r : Bool) (w : World) (hr0 : Kd.C Kd.string w A0 l0.length l0) (hc0 : l0.length ≤ c0) (h : lockstitchref03_Refs.f k l0 a1 = some r) :
    Calls Tryz.prog 30 #[.slice A0 l0.length c0, .string a1] w fun e w' => e = .returned (.bool r) ∧ Drawn0 w w' := by
  have HR0 := Aside0.mk hr0; have HC0 := Aside0.mk hc0; clear hr0 hc0; have H : (lockstitchref03_Refs.l0 k l0 a1 0) = some r := h; clear h; have H' := Aside0.mk H; clear H
  go_enter Tryz.func30, Tryz.ntmps30
  go_wp2
  go_loopg [5] k (fun kq v5 w' => ∃ (x5_1 : Int), v5 = .int .i64 x5_1 ∧ Aside0 (lockstitchref03_Refs.l0 kq l0 a1 x5_1 = some r) ∧ Aside0 (kq ≤ k) ∧ Drawn0 w w')
  case atStart => exact ⟨(0), hB25, H', ⟨Nat.le_refl _⟩, by repeat (first | exact Drawn0.refl _ | apply Drawn0.step)⟩
  case round =>
    clear H'; (try clear p2); obtain ⟨x5_1, rfl, HA, HK1, ⟨m1, rfl⟩⟩ := hrel
    cases gk with
    | zero => exact absurd HA.out (by simp [lockstitchref03_Refs.l0])
    | succ k1 =>
      have H := HA.out; clear HA; simp only [lockstitchref03_Refs.l0] at H; by_cases c3 : x5_1 < (a1.size : Int)
      rotate_left
      · rw [if_neg c3] at H; have c3b0 : decide (x5_1 < (a1.size : Int)) = false := decide_eq_false c3; clear c3; replace H := Option.bind_eq_some_iff.mp H; obtain ⟨t104, A80, H⟩ := H; replace H : (some t104) = some r := H; have A8 := Aside0.mk A80; clear A80; obtain rfl := Option.some.inj H
        go_wp2_with (first | ((with_reducible refine gate_callee (f := 48) rfl ?_); refine goesL_ (some 20) rfl rfl Tryz.func48 (by kernel_rfl) rfl #[.slice A0 l0.length c0] rfl hB1 ?_; (with_reducible refine (lockstitchref03_Right.calls k1 _ _ l0 t104 _ ?side1 ?side2 A8.out).mono ?_); (case side1 => repeat (first | exact HR0.out | (with_reducible refine Kd.C_alloc ?_ _) | (with_reducible refine Kd.C_drewN ?_ _) | (with_reducible refine Kd.C_drew ?_))); (case side2 => exact HC0.out); rintro e w' ⟨rfl, ⟨nd, rfl⟩⟩; refine ⟨_, rfl, ?_⟩))
        go_ret; exact ⟨by first | rfl | (simp; done) | (simp [*]; done), by repeat (first | exact Drawn0.refl _ | apply Drawn0.step)⟩
      rw [if_pos c3] at H; have c3b0 : decide (x5_1 < (a1.size : Int)) = true := decide_eq_true c3; clear c3; by_cases c4 : 0 ≤ x5_1
      rotate_left
      · rw [if_neg c4] at H; exact absurd H (by simp)
      rw [if_pos c4] at H; have c4b0 : decide (0 ≤ x5_1) = true := decide_eq_true c4; clear c4; replace H := Option.bind_eq_some_iff.mp H; obtain ⟨t103, A60, H⟩ := H; replace H : (if t103 < 0 then (some false) else (lockstitchref03_Refs.l0 k1 l0 a1 (wrap64 (x5_1 + 1)))) = some r := H; have A6 := Aside0.mk A60; clear A60; by_cases c7 : t103 < 0
      · rw [if_pos c7] at H; have c7b0 : decide (t103 < 0) = true := decide_eq_true c7; clear c7; obtain rfl := Option.some.inj H; have p5 : 0 ≤ (x5_1 : Int) := of_decide_eq_true hB24; have q5 : x5_1 < (a1.size : Int) := of_decide_eq_true hB24; have hx5 := bt_at a1 x5_1; replace p5 := eq_true p5; replace q5 := eq_true q5
        go_wp2_with (first | ((with_reducible refine gate_callee (f := 47) rfl ?_); refine goesL_ (some 17) rfl rfl Tryz.func47 (by kernel_rfl) rfl #[.int .u8 (bt a1 x5_1), .int .i64 (l0.length : Int)] rfl hB1 ?_; (with_reducible refine (lockstitchref03_digit.calls (bt a1 x5_1) (l0.length : Int) t103 _ A6.out).mono ?_); rintro e w' ⟨rfl, ⟨nd, rfl⟩⟩; refine ⟨_, rfl, ?_⟩))
        go_ret; exact ⟨by first | rfl | (simp; done) | (simp [*]; done), by repeat (first | exact Drawn0.refl _ | apply Drawn0.step)⟩
      rw [if_neg c7] at H; have c7b0 : decide (t103 < 0) = false := decide_eq_false c7; clear c7; have H' := Aside0.mk H; clear H; have p5 : 0 ≤ (x5_1 : Int) := of_decide_eq_true hB24; have q5 : x5_1 < (a1.size : Int) := of_decide_eq_true hB24; have hx5 := bt_at a1 x5_1; replace p5 := eq_true p5; replace q5 := eq_true q5
      go_wp2_with (first | ((with_reducible refine gate_callee (f := 47) rfl ?_); refine goesL_ (some 17) rfl rfl Tryz.func47 (by kernel_rfl) rfl #[.int .u8 (bt a1 x5_1), .int .i64 (l0.length : Int)] rfl hB1 ?_; (with_reducible refine (lockstitchref03_digit.calls (bt a1 x5_1) (l0.length : Int) t103 _ A6.out).mono ?_); rintro e w' ⟨rfl, ⟨nd, rfl⟩⟩; refine ⟨_, rfl, ?_⟩))
      go_roundg k1
      case measure => have := HK1.out; omega
      case rel => exact ⟨(wrap64 (x5_1 + 1)), hB25, H', ⟨by have := HK1.out; omega⟩, by repeat (first | exact Drawn0.refl _ | apply Drawn0.step)⟩
def lockstitchref03_is.f (k : Nat) (l0 : List ByteArray) (a1 : Int) : Option (Bool) := (lockstitchref03_Right.f k l0).bind fun t105 => (if t105 = true then (if a1 ≥ 0 then (some (decide (a1 < (l0.length : Int)))) else (some false)) else (some false))
theorem lockstitchref03_is.mono : ∀ a0 a1 k, LeO (lockstitchref03_is.f k a0 a1) (lockstitchref03_is.f (k + 1) a0 a1) := by
  intro a0 a1 k
  unfold lockstitchref03_is.f
  repeat' first
      | (with_reducible exact lockstitchref03_Right.mono _ _)
      | (with_reducible exact LeO.refl _)
      | (with_reducible exact LeO.none _)
      | (with_reducible refine LeO.ite ?_ ?_)
      | (with_reducible refine LeO.bind ?_ (fun _ => ?_))
      | exact lockstitchref03_Right.mono _ _
      | exact LeO.none _
      | refine LeO.ite ?_ ?_
      | refine LeO.bind ?_ (fun _ => ?_)
set_option maxHeartbeats 8000000 in
set_option maxRecDepth 100000 in
theorem lockstitchref03_is.calls (k : Nat) (A0 : Option Addr) (c0 : Nat) (l0 : List ByteArray) (a1 : Int) (r : Bool) (w : World) (hr0 : Kd.C Kd.string w A0 l0.length l0) (hc0 : l0.length ≤ c0) (h : lockstitchref03_is.f k l0 a1 = some r) :
    Calls Tryz.prog 74 #[.slice A0 l0.length c0, .int .i64 a1] w fun e w' => e = .returned (.bool r) ∧ Drawn0 w w' := by
  have HR0 := Aside0.mk hr0; have HC0 := Aside0.mk hc0; clear hr0 hc0; have H : ((lockstitchref03_Right.f k l0).bind fun t105 => (if t105 = true then (if a1 ≥ 0 then (some (decide (a1 < (l0.length : Int)))) else (some false)) else (some false))) = some r := h; clear h; replace H := Option.bind_eq_some_iff.mp H; obtain ⟨t105, A30, H⟩ := H; replace H : (if t105 = true then (if a1 ≥ 0 then (some (decide (a1 < (l0.length : Int)))) else (some false)) else (some false)) = some r := H; have A3 := Aside0.mk A30; clear A30; by_cases c4 : t105 = true
  rotate_left
  · replace c4 := Bool.eq_false_iff.mpr c4; subst c4
    have H1 : (some false) = some r := by rw [if_neg (show ¬ (false = true) by decide)] at H; exact H
    clear H; have H := H1; clear H1; obtain rfl := Option.some.inj H
    go_enter Tryz.func74, Tryz.ntmps74
    go_wp2_with (first | ((with_reducible refine gate_callee (f := 48) rfl ?_); refine goesL_ (some 6) rfl rfl Tryz.func48 (by kernel_rfl) rfl #[.slice A0 l0.length c0] rfl hB1 ?_; (with_reducible refine (lockstitchref03_Right.calls k _ _ l0 false _ ?side1 ?side2 A3.out).mono ?_); (case side1 => repeat (first | exact HR0.out | (with_reducible refine Kd.C_alloc ?_ _) | (with_reducible refine Kd.C_drewN ?_ _) | (with_reducible refine Kd.C_drew ?_))); (case side2 => exact HC0.out); rintro e w' ⟨rfl, ⟨nd, rfl⟩⟩; refine ⟨_, rfl, ?_⟩))
    go_ret; exact ⟨by first | rfl | (simp; done) | (simp [*]; done), by repeat (first | exact Drawn0.refl _ | apply Drawn0.step)⟩
  subst c4
  have H1 : (if a1 ≥ 0 then (some (decide (a1 < (l0.length : Int)))) else (some false)) = some r := by rw [if_pos rfl] at H; exact H
  clear H; have H := H1; clear H1; by_cases c5 : a1 ≥ 0
  rotate_left
  · rw [if_neg c5] at H; have c5b0 : decide (0 ≤ a1) = false := decide_eq_false c5; clear c5; obtain rfl := Option.some.inj H
    go_enter Tryz.func74, Tryz.ntmps74
    go_wp2_with (first | ((with_reducible refine gate_callee (f := 48) rfl ?_); refine goesL_ (some 6) rfl rfl Tryz.func48 (by kernel_rfl) rfl #[.slice A0 l0.length c0] rfl hB1 ?_; (with_reducible refine (lockstitchref03_Right.calls k _ _ l0 true _ ?side1 ?side2 A3.out).mono ?_); (case side1 => repeat (first | exact HR0.out | (with_reducible refine Kd.C_alloc ?_ _) | (with_reducible refine Kd.C_drewN ?_ _) | (with_reducible refine Kd.C_drew ?_))); (case side2 => exact HC0.out); rintro e w' ⟨rfl, ⟨nd, rfl⟩⟩; refine ⟨_, rfl, ?_⟩))
    go_ret; exact ⟨by first | rfl | (simp; done) | (simp [*]; done), by repeat (first | exact Drawn0.refl _ | apply Drawn0.step)⟩
  rw [if_pos c5] at H; have c5b0 : decide (0 ≤ a1) = true := decide_eq_true c5; clear c5; obtain rfl := Option.some.inj H
  go_enter Tryz.func74, Tryz.ntmps74
  go_wp2_with (first | ((with_reducible refine gate_callee (f := 48) rfl ?_); refine goesL_ (some 6) rfl rfl Tryz.func48 (by kernel_rfl) rfl #[.slice A0 l0.length c0] rfl hB1 ?_; (with_reducible refine (lockstitchref03_Right.calls k _ _ l0 true _ ?side1 ?side2 A3.out).mono ?_); (case side1 => repeat (first | exact HR0.out | (with_reducible refine Kd.C_alloc ?_ _) | (with_reducible refine Kd.C_drewN ?_ _) | (with_reducible refine Kd.C_drew ?_))); (case side2 => exact HC0.out); rintro e w' ⟨rfl, ⟨nd, rfl⟩⟩; refine ⟨_, rfl, ?_⟩))
  go_ret; exact ⟨by first | rfl | (simp; done) | (simp [*]; done), by repeat (first | exact Drawn0.refl _ | apply Drawn0.step)⟩
def lockstitchref03_Size.f (k : Nat) (l0 : List ByteArray) (a1 : Int) : Option (Int) := (lockstitchref03_is.f k l0 a1).bind fun t106 => (if t106 = true then (if 0 ≤ a1 then (if a1 < (l0.length : Int) then (some ((rdOf ByteArray.empty l0 a1).size : Int)) else (none)) else (none)) else (some 0))
theorem lockstitchref03_Size.mono : ∀ a0 a1 k, LeO (lockstitchref03_Size.f k a0 a1) (lockstitchref03_Size.f (k + 1) a0 a1) := by
  intro a0 a1 k
  unfold lockstitchref03_Size.f
  repeat' first
      | (with_reducible exact lockstitchref03_is.mono _ _ _)
      | (with_reducible exact LeO.refl _)
      | (with_reducible exact LeO.none _)
      | (with_reducible refine LeO.ite ?_ ?_)
      | (with_reducible refine LeO.bind ?_ (fun _ => ?_))
      | exact lockstitchref03_is.mono _ _ _
      | exact LeO.none _
      | refine LeO.ite ?_ ?_
      | refine LeO.bind ?_ (fun _ => ?_)
set_option maxHeartbeats 8000000 in
set_option maxRecDepth 100000 in
theorem lockstitchref03_Size.calls (k : Nat) (A0 : Option Addr) (c0 : Nat) (l0 : List ByteArray) (a1 : Int) (r : Int) (w : World) (hr0 : Kd.C Kd.string w A0 l0.length l0) (hc0 : l0.length ≤ c0) (h : lockstitchref03_Size.f k l0 a1 = some r) :
    Calls Tryz.prog 44 #[.slice A0 l0.length c0, .int .i64 a1] w fun e w' => e = .returned (.int .i64 r) ∧ Drawn0 w w' := by
  have HR0 := Aside0.mk hr0; have HC0 := Aside0.mk hc0; clear hr0 hc0; have H : ((lockstitchref03_is.f k l0 a1).bind fun t106 => (if t106 = true then (if 0 ≤ a1 then (if a1 < (l0.length : Int) then (some ((rdOf ByteArray.empty l0 a1).size : Int)) else (none)) else (none)) else (some 0))) = some r := h; clear h; replace H := Option.bind_eq_some_iff.mp H; obtain ⟨t106, A30, H⟩ := H; replace H : (if t106 = true then (if 0 ≤ a1 then (if a1 < (l0.length : Int) then (some ((rdOf ByteArray.empty l0 a1).size : Int)) else (none)) else (none)) else (some 0)) = some r := H; have A3 := Aside0.mk A30; clear A30; by_cases c4 : t106 = true
  rotate_left
  · replace c4 := Bool.eq_false_iff.mpr c4; subst c4
    have H1 : (some 0) = some r := by rw [if_neg (show ¬ (false = true) by decide)] at H; exact H
    clear H; have H := H1; clear H1; obtain rfl := Option.some.inj H
    go_enter Tryz.func44, Tryz.ntmps44
    go_wp2_with (first | ((with_reducible refine gate_callee (f := 74) rfl ?_); refine goesL_ (some 7) rfl rfl Tryz.func74 (by kernel_rfl) rfl #[.slice A0 l0.length c0, .int .i64 a1] rfl hB1 ?_; (with_reducible refine (lockstitchref03_is.calls k _ _ l0 a1 false _ ?side1 ?side2 A3.out).mono ?_); (case side1 => repeat (first | exact HR0.out | (with_reducible refine Kd.C_alloc ?_ _) | (with_reducible refine Kd.C_drewN ?_ _) | (with_reducible refine Kd.C_drew ?_))); (case side2 => exact HC0.out); rintro e w' ⟨rfl, ⟨nd, rfl⟩⟩; refine ⟨_, rfl, ?_⟩))
    go_ret; exact ⟨by first | rfl | (simp; done) | (simp [*]; done), by repeat (first | exact Drawn0.refl _ | apply Drawn0.step)⟩
  subst c4
  have H1 : (if 0 ≤ a1 then (if a1 < (l0.length : Int) then (some ((rdOf ByteArray.empty l0 a1).size : Int)) else (none)) else (none)) = some r := by rw [if_pos rfl] at H; exact H
  clear H; have H := H1; clear H1; by_cases c5 : 0 ≤ a1
  rotate_left
  · rw [if_neg c5] at H; exact absurd H (by simp)
  rw [if_pos c5] at H; have c5b0 : decide (0 ≤ a1) = true := decide_eq_true c5; clear c5; by_cases c6 : a1 < (l0.length : Int)
  rotate_left
  · rw [if_neg c6] at H; exact absurd H (by simp)
  rw [if_pos c6] at H; have c6b0 : decide (a1 < (l0.length : Int)) = true := decide_eq_true c6; clear c6; obtain rfl := Option.some.inj H
  go_enter Tryz.func44, Tryz.ntmps44
  go_wp2_with (first | ((with_reducible refine gate_callee (f := 74) rfl ?_); refine goesL_ (some 7) rfl rfl Tryz.func74 (by kernel_rfl) rfl #[.slice A0 l0.length c0, .int .i64 a1] rfl hB1 ?_; (with_reducible refine (lockstitchref03_is.calls k _ _ l0 a1 true _ ?side1 ?side2 A3.out).mono ?_); (case side1 => repeat (first | exact HR0.out | (with_reducible refine Kd.C_alloc ?_ _) | (with_reducible refine Kd.C_drewN ?_ _) | (with_reducible refine Kd.C_drew ?_))); (case side2 => exact HC0.out); rintro e w' ⟨rfl, ⟨nd, rfl⟩⟩; refine ⟨_, rfl, ?_⟩; have p107 : 0 ≤ (a1 : Int) := of_decide_eq_true hB24; have q107 : a1 < (l0.length : Int) := of_decide_eq_true hB24; obtain ⟨ad107, e107, hx107_0⟩ := Kd.at_string HR0.out a1 p107 q107; cases e107; replace p107 := eq_true p107; replace q107 := eq_true q107))
  go_ret; exact ⟨by first | rfl | (simp; done) | (simp [*]; done), by repeat (first | exact Drawn0.refl _ | apply Drawn0.step)⟩
def lockstitchref03_To.f (k : Nat) (l0 : List ByteArray) (a1 : Int) (a2 : Int) : Option (Int) := (lockstitchref03_is.f k l0 a1).bind fun t108 => (if t108 = true then (if a2 < 0 then (some (-1)) else (if 0 ≤ a1 then (if a1 < (l0.length : Int) then (if a2 ≥ ((rdOf ByteArray.empty l0 a1).size : Int) then (some (-1)) else (if 0 ≤ a2 then (if a2 < ((rdOf ByteArray.empty l0 a1).size : Int) then ((lockstitchref03_digit.f (bt (rdOf ByteArray.empty l0 a1) a2) (l0.length : Int)).bind fun t111 => (some t111)) else (none)) else (none))) else (none)) else (none))) else (some (-1)))
theorem lockstitchref03_To.mono : ∀ a0 a1 a2 k, LeO (lockstitchref03_To.f k a0 a1 a2) (lockstitchref03_To.f (k + 1) a0 a1 a2) := by
  intro a0 a1 a2 k
  unfold lockstitchref03_To.f
  repeat' first
      | (with_reducible exact lockstitchref03_is.mono _ _ _)
      | (with_reducible exact LeO.refl _)
      | (with_reducible exact LeO.none _)
      | (with_reducible refine LeO.ite ?_ ?_)
      | (with_reducible refine LeO.bind ?_ (fun _ => ?_))
      | exact lockstitchref03_is.mono _ _ _
      | exact LeO.none _
      | refine LeO.ite ?_ ?_
      | refine LeO.bind ?_ (fun _ => ?_)
set_option maxHeartbeats 8000000 in
set_option maxRecDepth 100000 in
theorem lockstitchref03_To.calls (k : Nat) (A0 : Option Addr) (c0 : Nat) (l0 : List ByteArray) (a1 : Int) (a2 : Int) (r : Int) (w : World) (hr0 : Kd.C Kd.string w A0 l0.length l0) (hc0 : l0.length ≤ c0) (h : lockstitchref03_To.f k l0 a1 a2 = some r) :
    Calls Tryz.prog 81 #[.slice A0 l0.length c0, .int .i64 a1, .int .i64 a2] w fun e w' => e = .returned (.int .i64 r) ∧ Drawn0 w w' := by
  have HR0 := Aside0.mk hr0; have HC0 := Aside0.mk hc0; clear hr0 hc0; have H : ((lockstitchref03_is.f k l0 a1).bind fun t108 => (if t108 = true then (if a2 < 0 then (some (-1)) else (if 0 ≤ a1 then (if a1 < (l0.length : Int) then (if a2 ≥ ((rdOf ByteArray.empty l0 a1).size : Int) then (some (-1)) else (if 0 ≤ a2 then (if a2 < ((rdOf ByteArray.empty l0 a1).size : Int) then ((lockstitchref03_digit.f (bt (rdOf ByteArray.empty l0 a1) a2) (l0.length : Int)).bind fun t111 => (some t111)) else (none)) else (none))) else (none)) else (none))) else (some (-1)))) = some r := h; clear h; replace H := Option.bind_eq_some_iff.mp H; obtain ⟨t108, A40, H⟩ := H; replace H : (if t108 = true then (if a2 < 0 then (some (-1)) else (if 0 ≤ a1 then (if a1 < (l0.length : Int) then (if a2 ≥ ((rdOf ByteArray.empty l0 a1).size : Int) then (some (-1)) else (if 0 ≤ a2 then (if a2 < ((rdOf ByteArray.empty l0 a1).size : Int) then ((lockstitchref03_digit.f (bt (rdOf ByteArray.empty l0 a1) a2) (l0.length : Int)).bind fun t111 => (some t111)) else (none)) else (none))) else (none)) else (none))) else (some (-1))) = some r := H; have A4 := Aside0.mk A40; clear A40; by_cases c5 : t108 = true
  rotate_left
  · replace c5 := Bool.eq_false_iff.mpr c5; subst c5
    have H1 : (some (-1)) = some r := by rw [if_neg (show ¬ (false = true) by decide)] at H; exact H
    clear H; have H := H1; clear H1; obtain rfl := Option.some.inj H
    go_enter Tryz.func81, Tryz.ntmps81
    go_wp2_with (first | ((with_reducible refine gate_callee (f := 74) rfl ?_); refine goesL_ (some 9) rfl rfl Tryz.func74 (by kernel_rfl) rfl #[.slice A0 l0.length c0, .int .i64 a1] rfl hB1 ?_; (with_reducible refine (lockstitchref03_is.calls k _ _ l0 a1 false _ ?side1 ?side2 A4.out).mono ?_); (case side1 => repeat (first | exact HR0.out | (with_reducible refine Kd.C_alloc ?_ _) | (with_reducible refine Kd.C_drewN ?_ _) | (with_reducible refine Kd.C_drew ?_))); (case side2 => exact HC0.out); rintro e w' ⟨rfl, ⟨nd, rfl⟩⟩; refine ⟨_, rfl, ?_⟩))
    go_ret; exact ⟨by first | rfl | (simp; done) | (simp [*]; done), by repeat (first | exact Drawn0.refl _ | apply Drawn0.step)⟩
  subst c5
  have H1 : (if a2 < 0 then (some (-1)) else (if 0 ≤ a1 then (if a1 < (l0.length : Int) then (if a2 ≥ ((rdOf ByteArray.empty l0 a1).size : Int) then (some (-1)) else (if 0 ≤ a2 then (if a2 < ((rdOf ByteArray.empty l0 a1).size : Int) then ((lockstitchref03_digit.f (bt (rdOf ByteArray.empty l0 a1) a2) (l0.length : Int)).bind fun t111 => (some t111)) else (none)) else (none))) else (none)) else (none))) = some r := by rw [if_pos rfl] at H; exact H
  clear H; have H := H1; clear H1; by_cases c6 : a2 < 0
  · rw [if_pos c6] at H; have c6b0 : decide (a2 < 0) = true := decide_eq_true c6; clear c6; obtain rfl := Option.some.inj H
    go_enter Tryz.func81, Tryz.ntmps81
    go_wp2_with (first | ((with_reducible refine gate_callee (f := 74) rfl ?_); refine goesL_ (some 9) rfl rfl Tryz.func74 (by kernel_rfl) rfl #[.slice A0 l0.length c0, .int .i64 a1] rfl hB1 ?_; (with_reducible refine (lockstitchref03_is.calls k _ _ l0 a1 true _ ?side1 ?side2 A4.out).mono ?_); (case side1 => repeat (first | exact HR0.out | (with_reducible refine Kd.C_alloc ?_ _) | (with_reducible refine Kd.C_drewN ?_ _) | (with_reducible refine Kd.C_drew ?_))); (case side2 => exact HC0.out); rintro e w' ⟨rfl, ⟨nd, rfl⟩⟩; refine ⟨_, rfl, ?_⟩))
    go_ret; exact ⟨by first | rfl | (simp; done) | (simp [*]; done), by repeat (first | exact Drawn0.refl _ | apply Drawn0.step)⟩
  rw [if_neg c6] at H; have c6b0 : decide (a2 < 0) = false := decide_eq_false c6; clear c6; by_cases c7 : 0 ≤ a1
  rotate_left
  · rw [if_neg c7] at H; exact absurd H (by simp)
  rw [if_pos c7] at H; have c7b0 : decide (0 ≤ a1) = true := decide_eq_true c7; clear c7; by_cases c8 : a1 < (l0.length : Int)
  rotate_left
  · rw [if_neg c8] at H; exact absurd H (by simp)
  rw [if_pos c8] at H; have c8b0 : decide (a1 < (l0.length : Int)) = true := decide_eq_true c8; clear c8; by_cases c9 : a2 ≥ ((rdOf ByteArray.empty l0 a1).size : Int)
  · rw [if_pos c9] at H; have c9b0 : decide (((rdOf ByteArray.empty l0 a1).size : Int) ≤ a2) = true := decide_eq_true c9; clear c9; obtain rfl := Option.some.inj H
    go_enter Tryz.func81, Tryz.ntmps81
    go_wp2_with (first | ((with_reducible refine gate_callee (f := 74) rfl ?_); refine goesL_ (some 9) rfl rfl Tryz.func74 (by kernel_rfl) rfl #[.slice A0 l0.length c0, .int .i64 a1] rfl hB1 ?_; (with_reducible refine (lockstitchref03_is.calls k _ _ l0 a1 true _ ?side1 ?side2 A4.out).mono ?_); (case side1 => repeat (first | exact HR0.out | (with_reducible refine Kd.C_alloc ?_ _) | (with_reducible refine Kd.C_drewN ?_ _) | (with_reducible refine Kd.C_drew ?_))); (case side2 => exact HC0.out); rintro e w' ⟨rfl, ⟨nd, rfl⟩⟩; refine ⟨_, rfl, ?_⟩; have p109 : 0 ≤ (a1 : Int) := of_decide_eq_true hB24; have q109 : a1 < (l0.length : Int) := of_decide_eq_true hB24; obtain ⟨ad109, e109, hx109_0⟩ := Kd.at_string HR0.out a1 p109 q109; cases e109; replace p109 := eq_true p109; replace q109 := eq_true q109))
    go_ret; exact ⟨by first | rfl | (simp; done) | (simp [*]; done), by repeat (first | exact Drawn0.refl _ | apply Drawn0.step)⟩
  rw [if_neg c9] at H; have c9b0 : decide (((rdOf ByteArray.empty l0 a1).size : Int) ≤ a2) = false := decide_eq_false c9; clear c9; by_cases c10 : 0 ≤ a2
  rotate_left
  · rw [if_neg c10] at H; exact absurd H (by simp)
  rw [if_pos c10] at H; have c10b0 : decide (0 ≤ a2) = true := decide_eq_true c10; clear c10; by_cases c11 : a2 < ((rdOf ByteArray.empty l0 a1).size : Int)
  rotate_left
  · rw [if_neg c11] at H; exact absurd H (by simp)
  rw [if_pos c11] at H; have c11b0 : decide (a2 < ((rdOf ByteArray.empty l0 a1).size : Int)) = true := decide_eq_true c11; clear c11; replace H := Option.bind_eq_some_iff.mp H; obtain ⟨t111, A130, H⟩ := H; replace H : (some t111) = some r := H; have A13 := Aside0.mk A130; clear A130; obtain rfl := Option.some.inj H
  go_enter Tryz.func81, Tryz.ntmps81
  go_wp2_with (first | ((with_reducible refine gate_callee (f := 74) rfl ?_); refine goesL_ (some 9) rfl rfl Tryz.func74 (by kernel_rfl) rfl #[.slice A0 l0.length c0, .int .i64 a1] rfl hB1 ?_; (with_reducible refine (lockstitchref03_is.calls k _ _ l0 a1 true _ ?side1 ?side2 A4.out).mono ?_); (case side1 => repeat (first | exact HR0.out | (with_reducible refine Kd.C_alloc ?_ _) | (with_reducible refine Kd.C_drewN ?_ _) | (with_reducible refine Kd.C_drew ?_))); (case side2 => exact HC0.out); rintro e w' ⟨rfl, ⟨nd, rfl⟩⟩; refine ⟨_, rfl, ?_⟩; have p109 : 0 ≤ (a1 : Int) := of_decide_eq_true hB24; have q109 : a1 < (l0.length : Int) := of_decide_eq_true hB24; obtain ⟨ad109, e109, hx109_0⟩ := Kd.at_string HR0.out a1 p109 q109; cases e109; replace p109 := eq_true p109; replace q109 := eq_true q109; have p110 : 0 ≤ (a1 : Int) := of_decide_eq_true hB24; have q110 : a1 < (l0.length : Int) := of_decide_eq_true hB24; obtain ⟨ad110, e110, hx110_0⟩ := Kd.at_string HR0.out a1 p110 q110; obtain rfl : ad109 = ad110 := (by injection e110); replace p110 := eq_true p110; replace q110 := eq_true q110; have p12 : 0 ≤ (a2 : Int) := of_decide_eq_true hB24; have q12 : a2 < ((rdOf ByteArray.empty l0 a1).size : Int) := of_decide_eq_true hB24; have hx12 := bt_at (rdOf ByteArray.empty l0 a1) a2; replace p12 := eq_true p12; replace q12 := eq_true q12) | ((with_reducible refine gate_callee (f := 47) rfl ?_); refine goesL_ (some 32) rfl rfl Tryz.func47 (by kernel_rfl) rfl #[.int .u8 (bt (rdOf ByteArray.empty l0 a1) a2), .int .i64 (l0.length : Int)] rfl hB1 ?_; (with_reducible refine (lockstitchref03_digit.calls (bt (rdOf ByteArray.empty l0 a1) a2) (l0.length : Int) t111 _ A13.out).mono ?_); rintro e w' ⟨rfl, ⟨nd, rfl⟩⟩; refine ⟨_, rfl, ?_⟩))
  go_ret; exact ⟨by first | rfl | (simp; done) | (simp [*]; done), by repeat (first | exact Drawn0.refl _ | apply Drawn0.step)⟩
def lockstitchref04_rest.f (a0 : Int) : Option (ByteArray × ByteArray) := if a0 = 11 then (some ((⟨#[115, 116, 111, 114, 101, 112]⟩ : ByteArray), (⟨#[97, 110, 98]⟩ : ByteArray))) else (if a0 = 12 then (some ((⟨#[108, 111, 97, 100, 103]⟩ : ByteArray), (⟨#[97, 98]⟩ : ByteArray))) else (if a0 = 13 then (some ((⟨#[115, 116, 111, 114, 101, 103]⟩ : ByteArray), (⟨#[97, 98]⟩ : ByteArray))) else (if a0 = 14 then (some ((⟨#[112, 114, 105, 110, 116]⟩ : ByteArray), (⟨#[97]⟩ : ByteArray))) else (if a0 = 15 then (some ((⟨#[115, 97, 109, 101]⟩ : ByteArray), (⟨#[97, 98, 99]⟩ : ByteArray))) else (some ((⟨#[]⟩ : ByteArray), (⟨#[]⟩ : ByteArray)))))))
set_option maxHeartbeats 8000000 in
set_option maxRecDepth 100000 in
theorem lockstitchref04_rest.calls (a0 : Int) (r1 : ByteArray) (r2 : ByteArray) (w : World) (h : lockstitchref04_rest.f a0 = some (r1, r2)) :
    Calls Tryz.prog 76 #[.int .u8 a0] w fun e w' => e = .returned (.tuple #[.string r1, .string r2]) ∧ Drawn0 w w' := by
  have H : (if a0 = 11 then (some ((⟨#[115, 116, 111, 114, 101, 112]⟩ : ByteArray), (⟨#[97, 110, 98]⟩ : ByteArray))) else (if a0 = 12 then (some ((⟨#[108, 111, 97, 100, 103]⟩ : ByteArray), (⟨#[97, 98]⟩ : ByteArray))) else (if a0 = 13 then (some ((⟨#[115, 116, 111, 114, 101, 103]⟩ : ByteArray), (⟨#[97, 98]⟩ : ByteArray))) else (if a0 = 14 then (some ((⟨#[112, 114, 105, 110, 116]⟩ : ByteArray), (⟨#[97]⟩ : ByteArray))) else (if a0 = 15 then (some ((⟨#[115, 97, 109, 101]⟩ : ByteArray), (⟨#[97, 98, 99]⟩ : ByteArray))) else (some ((⟨#[]⟩ : ByteArray), (⟨#[]⟩ : ByteArray)))))))) = some (r1, r2) := h; clear h; by_cases c2 : a0 = 11
  · rw [if_pos c2] at H; have c2b0 : (a0 == 11) = true := beq_iff_eq.mpr c2; have c2b1 : (a0 != 11) = false := bne_eq_false_iff_eq.mpr c2; clear c2; simp only [Option.some.injEq, Prod.mk.injEq] at H; obtain ⟨rfl, rfl⟩ := H
    go_enter Tryz.func76, Tryz.ntmps76
    go_wp2
    go_ret2
    exact ⟨by first | rfl | (simp; done) | (simp [*]; done), by repeat (first | exact Drawn0.refl _ | apply Drawn0.step)⟩
  rw [if_neg c2] at H; have c2b0 : (a0 == 11) = false := beq_eq_false_iff_ne.mpr c2; have c2b1 : (a0 != 11) = true := bne_iff_ne.mpr c2; by_cases c3 : a0 = 12
  · rw [if_pos c3] at H; have c3b0 : (a0 == 12) = true := beq_iff_eq.mpr c3; have c3b1 : (a0 != 12) = false := bne_eq_false_iff_eq.mpr c3; clear c3; simp only [Option.some.injEq, Prod.mk.injEq] at H; obtain ⟨rfl, rfl⟩ := H
    go_enter Tryz.func76, Tryz.ntmps76
    go_wp2
    go_ret2
    exact ⟨by first | rfl | (simp; done) | (simp [*]; done), by repeat (first | exact Drawn0.refl _ | apply Drawn0.step)⟩
  rw [if_neg c3] at H; have c3b0 : (a0 == 12) = false := beq_eq_false_iff_ne.mpr c3; have c3b1 : (a0 != 12) = true := bne_iff_ne.mpr c3; by_cases c4 : a0 = 13
  · rw [if_pos c4] at H; have c4b0 : (a0 == 13) = true := beq_iff_eq.mpr c4; have c4b1 : (a0 != 13) = false := bne_eq_false_iff_eq.mpr c4; clear c4; simp only [Option.some.injEq, Prod.mk.injEq] at H; obtain ⟨rfl, rfl⟩ := H
    go_enter Tryz.func76, Tryz.ntmps76
    go_wp2
    go_ret2
    exact ⟨by first | rfl | (simp; done) | (simp [*]; done), by repeat (first | exact Drawn0.refl _ | apply Drawn0.step)⟩
  rw [if_neg c4] at H; have c4b0 : (a0 == 13) = false := beq_eq_false_iff_ne.mpr c4; have c4b1 : (a0 != 13) = true := bne_iff_ne.mpr c4; by_cases c5 : a0 = 14
  · rw [if_pos c5] at H; have c5b0 : (a0 == 14) = true := beq_iff_eq.mpr c5; have c5b1 : (a0 != 14) = false := bne_eq_false_iff_eq.mpr c5; clear c5; simp only [Option.some.injEq, Prod.mk.injEq] at H; obtain ⟨rfl, rfl⟩ := H
    go_enter Tryz.func76, Tryz.ntmps76
    go_wp2
    go_ret2
    exact ⟨by first | rfl | (simp; done) | (simp [*]; done), by repeat (first | exact Drawn0.refl _ | apply Drawn0.step)⟩
  rw [if_neg c5] at H; have c5b0 : (a0 == 14) = false := beq_eq_false_iff_ne.mpr c5; have c5b1 : (a0 != 14) = true := bne_iff_ne.mpr c5; by_cases c6 : a0 = 15
  rotate_left
  · rw [if_neg c6] at H; have c6b0 : (a0 == 15) = false := beq_eq_false_iff_ne.mpr c6; have c6b1 : (a0 != 15) = true := bne_iff_ne.mpr c6; simp only [Option.some.injEq, Prod.mk.injEq] at H; obtain ⟨rfl, rfl⟩ := H
    go_enter Tryz.func76, Tryz.ntmps76
    go_wp2
    go_ret2
    exact ⟨by first | rfl | (simp; done) | (simp [*]; done), by repeat (first | exact Drawn0.refl _ | apply Drawn0.step)⟩
  rw [if_pos c6] at H; have c6b0 : (a0 == 15) = true := beq_iff_eq.mpr c6; have c6b1 : (a0 != 15) = false := bne_eq_false_iff_eq.mpr c6; clear c6; simp only [Option.some.injEq, Prod.mk.injEq] at H; obtain ⟨rfl, rfl⟩ := H
  go_enter Tryz.func76, Tryz.ntmps76
  go_wp2
  go_ret2
  exact ⟨by first | rfl | (simp; done) | (simp [*]; done), by repeat (first | exact Drawn0.refl _ | apply Drawn0.step)⟩
def lockstitchref04_shape.f (a0 : Int) : Option (ByteArray × ByteArray) := if a0 = 1 then (some ((⟨#[115, 101, 116]⟩ : ByteArray), (⟨#[97, 110]⟩ : ByteArray))) else (if a0 = 2 then (some ((⟨#[97, 100, 100]⟩ : ByteArray), (⟨#[97, 98, 99]⟩ : ByteArray))) else (if a0 = 3 then (some ((⟨#[106, 117, 109, 112]⟩ : ByteArray), (⟨#[110]⟩ : ByteArray))) else (if a0 = 4 then (some ((⟨#[122, 101, 114, 111]⟩ : ByteArray), (⟨#[97, 110]⟩ : ByteArray))) else (if a0 = 5 then (some ((⟨#[110, 101, 119]⟩ : ByteArray), (⟨#[97]⟩ : ByteArray))) else (if a0 = 6 then (some ((⟨#[110, 105, 108]⟩ : ByteArray), (⟨#[97]⟩ : ByteArray))) else (if a0 = 7 then (some ((⟨#[109, 111, 118, 101]⟩ : ByteArray), (⟨#[97, 98]⟩ : ByteArray))) else (if a0 = 8 then (some ((⟨#[108, 111, 97, 100, 105]⟩ : ByteArray), (⟨#[97, 98, 110]⟩ : ByteArray))) else (if a0 = 9 then (some ((⟨#[115, 116, 111, 114, 101, 105]⟩ : ByteArray), (⟨#[97, 110, 98]⟩ : ByteArray))) else (if a0 = 10 then (some ((⟨#[108, 111, 97, 100, 112]⟩ : ByteArray), (⟨#[97, 98, 110]⟩ : ByteArray))) else ((lockstitchref04_rest.f a0).bind fun bt112 => (some (bt112.1, bt112.2))))))))))))
set_option maxHeartbeats 8000000 in
set_option maxRecDepth 100000 in
theorem lockstitchref04_shape.calls (a0 : Int) (r1 : ByteArray) (r2 : ByteArray) (w : World) (h : lockstitchref04_shape.f a0 = some (r1, r2)) :
    Calls Tryz.prog 49 #[.int .u8 a0] w fun e w' => e = .returned (.tuple #[.string r1, .string r2]) ∧ Drawn0 w w' := by
  have H : (if a0 = 1 then (some ((⟨#[115, 101, 116]⟩ : ByteArray), (⟨#[97, 110]⟩ : ByteArray))) else (if a0 = 2 then (some ((⟨#[97, 100, 100]⟩ : ByteArray), (⟨#[97, 98, 99]⟩ : ByteArray))) else (if a0 = 3 then (some ((⟨#[106, 117, 109, 112]⟩ : ByteArray), (⟨#[110]⟩ : ByteArray))) else (if a0 = 4 then (some ((⟨#[122, 101, 114, 111]⟩ : ByteArray), (⟨#[97, 110]⟩ : ByteArray))) else (if a0 = 5 then (some ((⟨#[110, 101, 119]⟩ : ByteArray), (⟨#[97]⟩ : ByteArray))) else (if a0 = 6 then (some ((⟨#[110, 105, 108]⟩ : ByteArray), (⟨#[97]⟩ : ByteArray))) else (if a0 = 7 then (some ((⟨#[109, 111, 118, 101]⟩ : ByteArray), (⟨#[97, 98]⟩ : ByteArray))) else (if a0 = 8 then (some ((⟨#[108, 111, 97, 100, 105]⟩ : ByteArray), (⟨#[97, 98, 110]⟩ : ByteArray))) else (if a0 = 9 then (some ((⟨#[115, 116, 111, 114, 101, 105]⟩ : ByteArray), (⟨#[97, 110, 98]⟩ : ByteArray))) else (if a0 = 10 then (some ((⟨#[108, 111, 97, 100, 112]⟩ : ByteArray), (⟨#[97, 98, 110]⟩ : ByteArray))) else ((lockstitchref04_rest.f a0).bind fun bt112 => (some (bt112.1, bt112.2))))))))))))) = some (r1, r2) := h; clear h; by_cases c2 : a0 = 1
  · rw [if_pos c2] at H; have c2b0 : (a0 == 1) = true := beq_iff_eq.mpr c2; have c2b1 : (a0 != 1) = false := bne_eq_false_iff_eq.mpr c2; clear c2; simp only [Option.some.injEq, Prod.mk.injEq] at H; obtain ⟨rfl, rfl⟩ := H
    go_enter Tryz.func49, Tryz.ntmps49
    go_wp2
    go_ret2
    exact ⟨by first | rfl | (simp; done) | (simp [*]; done), by repeat (first | exact Drawn0.refl _ | apply Drawn0.step)⟩
  rw [if_neg c2] at H; have c2b0 : (a0 == 1) = false := beq_eq_false_iff_ne.mpr c2; have c2b1 : (a0 != 1) = true := bne_iff_ne.mpr c2; by_cases c3 : a0 = 2
  · rw [if_pos c3] at H; have c3b0 : (a0 == 2) = true := beq_iff_eq.mpr c3; have c3b1 : (a0 != 2) = false := bne_eq_false_iff_eq.mpr c3; clear c3; simp only [Option.some.injEq, Prod.mk.injEq] at H; obtain ⟨rfl, rfl⟩ := H
    go_enter Tryz.func49, Tryz.ntmps49
    go_wp2
    go_ret2
    exact ⟨by first | rfl | (simp; done) | (simp [*]; done), by repeat (first | exact Drawn0.refl _ | apply Drawn0.step)⟩
  rw [if_neg c3] at H; have c3b0 : (a0 == 2) = false := beq_eq_false_iff_ne.mpr c3; have c3b1 : (a0 != 2) = true := bne_iff_ne.mpr c3; by_cases c4 : a0 = 3
  · rw [if_pos c4] at H; have c4b0 : (a0 == 3) = true := beq_iff_eq.mpr c4; have c4b1 : (a0 != 3) = false := bne_eq_false_iff_eq.mpr c4; clear c4; simp only [Option.some.injEq, Prod.mk.injEq] at H; obtain ⟨rfl, rfl⟩ := H
    go_enter Tryz.func49, Tryz.ntmps49
    go_wp2
    go_ret2
    exact ⟨by first | rfl | (simp; done) | (simp [*]; done), by repeat (first | exact Drawn0.refl _ | apply Drawn0.step)⟩
  rw [if_neg c4] at H; have c4b0 : (a0 == 3) = false := beq_eq_false_iff_ne.mpr c4; have c4b1 : (a0 != 3) = true := bne_iff_ne.mpr c4; by_cases c5 : a0 = 4
  · rw [if_pos c5] at H; have c5b0 : (a0 == 4) = true := beq_iff_eq.mpr c5; have c5b1 : (a0 != 4) = false := bne_eq_false_iff_eq.mpr c5; clear c5; simp only [Option.some.injEq, Prod.mk.injEq] at H; obtain ⟨rfl, rfl⟩ := H
    go_enter Tryz.func49, Tryz.ntmps49
    go_wp2
    go_ret2
    exact ⟨by first | rfl | (simp; done) | (simp [*]; done), by repeat (first | exact Drawn0.refl _ | apply Drawn0.step)⟩
  rw [if_neg c5] at H; have c5b0 : (a0 == 4) = false := beq_eq_false_iff_ne.mpr c5; have c5b1 : (a0 != 4) = true := bne_iff_ne.mpr c5; by_cases c6 : a0 = 5
  · rw [if_pos c6] at H; have c6b0 : (a0 == 5) = true := beq_iff_eq.mpr c6; have c6b1 : (a0 != 5) = false := bne_eq_false_iff_eq.mpr c6; clear c6; simp only [Option.some.injEq, Prod.mk.injEq] at H; obtain ⟨rfl, rfl⟩ := H
    go_enter Tryz.func49, Tryz.ntmps49
    go_wp2
    go_ret2
    exact ⟨by first | rfl | (simp; done) | (simp [*]; done), by repeat (first | exact Drawn0.refl _ | apply Drawn0.step)⟩
  rw [if_neg c6] at H; have c6b0 : (a0 == 5) = false := beq_eq_false_iff_ne.mpr c6; have c6b1 : (a0 != 5) = true := bne_iff_ne.mpr c6; by_cases c7 : a0 = 6
  · rw [if_pos c7] at H; have c7b0 : (a0 == 6) = true := beq_iff_eq.mpr c7; have c7b1 : (a0 != 6) = false := bne_eq_false_iff_eq.mpr c7; clear c7; simp only [Option.some.injEq, Prod.mk.injEq] at H; obtain ⟨rfl, rfl⟩ := H
    go_enter Tryz.func49, Tryz.ntmps49
    go_wp2
    go_ret2
    exact ⟨by first | rfl | (simp; done) | (simp [*]; done), by repeat (first | exact Drawn0.refl _ | apply Drawn0.step)⟩
  rw [if_neg c7] at H; have c7b0 : (a0 == 6) = false := beq_eq_false_iff_ne.mpr c7; have c7b1 : (a0 != 6) = true := bne_iff_ne.mpr c7; by_cases c8 : a0 = 7
  · rw [if_pos c8] at H; have c8b0 : (a0 == 7) = true := beq_iff_eq.mpr c8; have c8b1 : (a0 != 7) = false := bne_eq_false_iff_eq.mpr c8; clear c8; simp only [Option.some.injEq, Prod.mk.injEq] at H; obtain ⟨rfl, rfl⟩ := H
    go_enter Tryz.func49, Tryz.ntmps49
    go_wp2
    go_ret2
    exact ⟨by first | rfl | (simp; done) | (simp [*]; done), by repeat (first | exact Drawn0.refl _ | apply Drawn0.step)⟩
  rw [if_neg c8] at H; have c8b0 : (a0 == 7) = false := beq_eq_false_iff_ne.mpr c8; have c8b1 : (a0 != 7) = true := bne_iff_ne.mpr c8; by_cases c9 : a0 = 8
  · rw [if_pos c9] at H; have c9b0 : (a0 == 8) = true := beq_iff_eq.mpr c9; have c9b1 : (a0 != 8) = false := bne_eq_false_iff_eq.mpr c9; clear c9; simp only [Option.some.injEq, Prod.mk.injEq] at H; obtain ⟨rfl, rfl⟩ := H
    go_enter Tryz.func49, Tryz.ntmps49
    go_wp2
    go_ret2
    exact ⟨by first | rfl | (simp; done) | (simp [*]; done), by repeat (first | exact Drawn0.refl _ | apply Drawn0.step)⟩
  rw [if_neg c9] at H; have c9b0 : (a0 == 8) = false := beq_eq_false_iff_ne.mpr c9; have c9b1 : (a0 != 8) = true := bne_iff_ne.mpr c9; by_cases c10 : a0 = 9
  · rw [if_pos c10] at H; have c10b0 : (a0 == 9) = true := beq_iff_eq.mpr c10; have c10b1 : (a0 != 9) = false := bne_eq_false_iff_eq.mpr c10; clear c10; simp only [Option.some.injEq, Prod.mk.injEq] at H; obtain ⟨rfl, rfl⟩ := H
    go_enter Tryz.func49, Tryz.ntmps49
    go_wp2
    go_ret2
    exact ⟨by first | rfl | (simp; done) | (simp [*]; done), by repeat (first | exact Drawn0.refl _ | apply Drawn0.step)⟩
  rw [if_neg c10] at H; have c10b0 : (a0 == 9) = false := beq_eq_false_iff_ne.mpr c10; have c10b1 : (a0 != 9) = true := bne_iff_ne.mpr c10; by_cases c11 : a0 = 10
  · rw [if_pos c11] at H; have c11b0 : (a0 == 10) = true := beq_iff_eq.mpr c11; have c11b1 : (a0 != 10) = false := bne_eq_false_iff_eq.mpr c11; clear c11; simp only [Option.some.injEq, Prod.mk.injEq] at H; obtain ⟨rfl, rfl⟩ := H
    go_enter Tryz.func49, Tryz.ntmps49
    go_wp2
    go_ret2
    exact ⟨by first | rfl | (simp; done) | (simp [*]; done), by repeat (first | exact Drawn0.refl _ | apply Drawn0.step)⟩
  rw [if_neg c11] at H; have c11b0 : (a0 == 10) = false := beq_eq_false_iff_ne.mpr c11; have c11b1 : (a0 != 10) = true := bne_iff_ne.mpr c11; replace H := Option.bind_eq_some_iff.mp H; obtain ⟨⟨t112, t113⟩, A120, H⟩ := H; replace H : (some (t112, t113)) = some (r1, r2) := H; have A12 := Aside0.mk A120; clear A120; simp only [Option.some.injEq, Prod.mk.injEq] at H; obtain ⟨rfl, rfl⟩ := H
  go_enter Tryz.func49, Tryz.ntmps49
  go_wp2_with (first | ((with_reducible refine gate_callee (f := 76) rfl ?_); refine goesL_ (some 26) rfl rfl Tryz.func76 (by kernel_rfl) rfl #[.int .u8 a0] rfl hB1 ?_; (with_reducible refine (lockstitchref04_rest.calls a0 t112 t113 _ A12.out).mono ?_); rintro e w' ⟨rfl, ⟨nd, rfl⟩⟩; refine ⟨_, rfl, ?_⟩))
  go_ret2
  exact ⟨by first | rfl | (simp; done) | (simp [*]; done), by repeat (first | exact Drawn0.refl _ | apply Drawn0.step)⟩
end Go.Proofs.YtocechpmgfhenaaGreatDoor.F

namespace Go.Proofs.YtocechpmgfhenaaGreatDoor.F
open Go.RowKit Go.Proofs.YtocechpmgfhenaaGreatDoorW.PrintWords Go.Proofs.YtocechpmgfhenaaGreatDoorW.PrintLast Go.Proofs.YtocechpmgfhenaaGreatDoorW.PrintMore
attribute [local go_sem] max2_int min2_int max_two min_two max_three min_three max_four min_four
set_option linter.unusedVariables false
set_option linter.unusedSimpArgs false
def lockstitchref04_part.f (a0_0 : Int) (a0_1 : Int) (a0_2 : Int) (a0_3 : Int) (a0_4 : Int) (a1 : Int) : Option (Int) := if a1 = 97 then (some (wrap64 (a0_1))) else (if a1 = 98 then (some (wrap64 (a0_2))) else (if a1 = 99 then (some (wrap64 (a0_3))) else (some a0_4)))
set_option maxHeartbeats 8000000 in
set_option maxRecDepth 100000 in
theorem lockstitchref04_part.calls (a0_0 : Int) (a0_1 : Int) (a0_2 : Int) (a0_3 : Int) (a0_4 : Int) (a1 : Int) (r : Int) (w : World) (h : lockstitchref04_part.f a0_0 a0_1 a0_2 a0_3 a0_4 a1 = some r) :
    Calls Tryz.prog 80 #[.agg #[.int .u8 a0_0, .int .u8 a0_1, .int .u8 a0_2, .int .u8 a0_3, .int .i64 a0_4], .int .u8 a1] w fun e w' => e = .returned (.int .i64 r) ∧ Below w.heap.size w w' := by
  have hu46 := Tryz.underlying46; have HB := Aside0.mk (Below.refl w.heap.size w); have H : (if a1 = 97 then (some (wrap64 (a0_1))) else (if a1 = 98 then (some (wrap64 (a0_2))) else (if a1 = 99 then (some (wrap64 (a0_3))) else (some a0_4)))) = some r := h; clear h; by_cases c3 : a1 = 97
  · rw [if_pos c3] at H; have c3b0 : (a1 == 97) = true := beq_iff_eq.mpr c3; have c3b1 : (a1 != 97) = false := bne_eq_false_iff_eq.mpr c3; clear c3; obtain rfl := Option.some.inj H
    go_enter Tryz.func80, Tryz.ntmps80
    go_wp2_with (first | ((with_reducible refine gate_dst (N := 2) rfl ?_); refine box_event ?hg (N := 2) ?hd (cs := #[.int .u8 a0_0, .int .u8 a0_1, .int .u8 a0_2, .int .u8 a0_3, .int .i64 a0_4]) (t := 46) ?hr ?_; (case hd => rfl); (case hg => rfl); (case hr => first | (go_simp; done) | (go_simp; rfl)); intro gb114 hg w4 hbox hb; have n0_ := Aside0.mk (below_step hB52 hb); have n1_ := Aside0.mk (hbox); have n2_ := Aside0.mk ((by rw [hg]; exact (below_size hB52) : w.heap.size ≤ gb114)); have n3_ := Aside0.mk ((by rw [hg]; exact (below_size hB52) : w.heap.size ≤ gb114)); clear HB; have HB := n0_; have BK114 := n1_; have GW114 := n2_; have GE114 := n3_; clear n0_ n1_ n2_ n3_; clear hb hbox hg; have hcz5_0 : w4.cell? ⟨gb114, 0, none⟩ = some (.int .u8 a0_0) := (blk_cell BK114.out 0).trans rfl; have hcz5_1 : w4.cell? ⟨gb114, 1, none⟩ = some (.int .u8 a0_1) := (blk_cell BK114.out 1).trans rfl; have hcz5_2 : w4.cell? ⟨gb114, 2, none⟩ = some (.int .u8 a0_2) := (blk_cell BK114.out 2).trans rfl; have hcz5_3 : w4.cell? ⟨gb114, 3, none⟩ = some (.int .u8 a0_3) := (blk_cell BK114.out 3).trans rfl; have hcz5_4 : w4.cell? ⟨gb114, 4, none⟩ = some (.int .i64 a0_4) := (blk_cell BK114.out 4).trans rfl; have hfz5_0 := blk_frozen BK114.out 0; have hfz5_1 := blk_frozen BK114.out 1; have hfz5_2 := blk_frozen BK114.out 2; have hfz5_3 := blk_frozen BK114.out 3; have hfz5_4 := blk_frozen BK114.out 4))
    go_ret; exact ⟨by first | rfl | (simp [errW_none, errW_some] <;> rfl) | (simp [*, errW_none, errW_some] <;> rfl), hB32⟩
  rw [if_neg c3] at H; have c3b0 : (a1 == 97) = false := beq_eq_false_iff_ne.mpr c3; have c3b1 : (a1 != 97) = true := bne_iff_ne.mpr c3; by_cases c6 : a1 = 98
  · rw [if_pos c6] at H; have c6b0 : (a1 == 98) = true := beq_iff_eq.mpr c6; have c6b1 : (a1 != 98) = false := bne_eq_false_iff_eq.mpr c6; clear c6; obtain rfl := Option.some.inj H
    go_enter Tryz.func80, Tryz.ntmps80
    go_wp2_with (first | ((with_reducible refine gate_dst (N := 2) rfl ?_); refine box_event ?hg (N := 2) ?hd (cs := #[.int .u8 a0_0, .int .u8 a0_1, .int .u8 a0_2, .int .u8 a0_3, .int .i64 a0_4]) (t := 46) ?hr ?_; (case hd => rfl); (case hg => rfl); (case hr => first | (go_simp; done) | (go_simp; rfl)); intro gb114 hg w7 hbox hb; have n0_ := Aside0.mk (below_step hB52 hb); have n1_ := Aside0.mk (hbox); have n2_ := Aside0.mk ((by rw [hg]; exact (below_size hB52) : w.heap.size ≤ gb114)); have n3_ := Aside0.mk ((by rw [hg]; exact (below_size hB52) : w.heap.size ≤ gb114)); clear HB; have HB := n0_; have BK114 := n1_; have GW114 := n2_; have GE114 := n3_; clear n0_ n1_ n2_ n3_; clear hb hbox hg; have hcz8_0 : w7.cell? ⟨gb114, 0, none⟩ = some (.int .u8 a0_0) := (blk_cell BK114.out 0).trans rfl; have hcz8_1 : w7.cell? ⟨gb114, 1, none⟩ = some (.int .u8 a0_1) := (blk_cell BK114.out 1).trans rfl; have hcz8_2 : w7.cell? ⟨gb114, 2, none⟩ = some (.int .u8 a0_2) := (blk_cell BK114.out 2).trans rfl; have hcz8_3 : w7.cell? ⟨gb114, 3, none⟩ = some (.int .u8 a0_3) := (blk_cell BK114.out 3).trans rfl; have hcz8_4 : w7.cell? ⟨gb114, 4, none⟩ = some (.int .i64 a0_4) := (blk_cell BK114.out 4).trans rfl; have hfz8_0 := blk_frozen BK114.out 0; have hfz8_1 := blk_frozen BK114.out 1; have hfz8_2 := blk_frozen BK114.out 2; have hfz8_3 := blk_frozen BK114.out 3; have hfz8_4 := blk_frozen BK114.out 4))
    go_ret; exact ⟨by first | rfl | (simp [errW_none, errW_some] <;> rfl) | (simp [*, errW_none, errW_some] <;> rfl), hB32⟩
  rw [if_neg c6] at H; have c6b0 : (a1 == 98) = false := beq_eq_false_iff_ne.mpr c6; have c6b1 : (a1 != 98) = true := bne_iff_ne.mpr c6; by_cases c9 : a1 = 99
  rotate_left
  · rw [if_neg c9] at H; have c9b0 : (a1 == 99) = false := beq_eq_false_iff_ne.mpr c9; have c9b1 : (a1 != 99) = true := bne_iff_ne.mpr c9; obtain rfl := Option.some.inj H
    go_enter Tryz.func80, Tryz.ntmps80
    go_wp2_with (first | ((with_reducible refine gate_dst (N := 2) rfl ?_); refine box_event ?hg (N := 2) ?hd (cs := #[.int .u8 a0_0, .int .u8 a0_1, .int .u8 a0_2, .int .u8 a0_3, .int .i64 a0_4]) (t := 46) ?hr ?_; (case hd => rfl); (case hg => rfl); (case hr => first | (go_simp; done) | (go_simp; rfl)); intro gb114 hg w12 hbox hb; have n0_ := Aside0.mk (below_step hB52 hb); have n1_ := Aside0.mk (hbox); have n2_ := Aside0.mk ((by rw [hg]; exact (below_size hB52) : w.heap.size ≤ gb114)); have n3_ := Aside0.mk ((by rw [hg]; exact (below_size hB52) : w.heap.size ≤ gb114)); clear HB; have HB := n0_; have BK114 := n1_; have GW114 := n2_; have GE114 := n3_; clear n0_ n1_ n2_ n3_; clear hb hbox hg; have hcz13_0 : w12.cell? ⟨gb114, 0, none⟩ = some (.int .u8 a0_0) := (blk_cell BK114.out 0).trans rfl; have hcz13_1 : w12.cell? ⟨gb114, 1, none⟩ = some (.int .u8 a0_1) := (blk_cell BK114.out 1).trans rfl; have hcz13_2 : w12.cell? ⟨gb114, 2, none⟩ = some (.int .u8 a0_2) := (blk_cell BK114.out 2).trans rfl; have hcz13_3 : w12.cell? ⟨gb114, 3, none⟩ = some (.int .u8 a0_3) := (blk_cell BK114.out 3).trans rfl; have hcz13_4 : w12.cell? ⟨gb114, 4, none⟩ = some (.int .i64 a0_4) := (blk_cell BK114.out 4).trans rfl; have hfz13_0 := blk_frozen BK114.out 0; have hfz13_1 := blk_frozen BK114.out 1; have hfz13_2 := blk_frozen BK114.out 2; have hfz13_3 := blk_frozen BK114.out 3; have hfz13_4 := blk_frozen BK114.out 4))
    go_ret; exact ⟨by first | rfl | (simp [errW_none, errW_some] <;> rfl) | (simp [*, errW_none, errW_some] <;> rfl), hB32⟩
  rw [if_pos c9] at H; have c9b0 : (a1 == 99) = true := beq_iff_eq.mpr c9; have c9b1 : (a1 != 99) = false := bne_eq_false_iff_eq.mpr c9; clear c9; obtain rfl := Option.some.inj H
  go_enter Tryz.func80, Tryz.ntmps80
  go_wp2_with (first | ((with_reducible refine gate_dst (N := 2) rfl ?_); refine box_event ?hg (N := 2) ?hd (cs := #[.int .u8 a0_0, .int .u8 a0_1, .int .u8 a0_2, .int .u8 a0_3, .int .i64 a0_4]) (t := 46) ?hr ?_; (case hd => rfl); (case hg => rfl); (case hr => first | (go_simp; done) | (go_simp; rfl)); intro gb114 hg w10 hbox hb; have n0_ := Aside0.mk (below_step hB52 hb); have n1_ := Aside0.mk (hbox); have n2_ := Aside0.mk ((by rw [hg]; exact (below_size hB52) : w.heap.size ≤ gb114)); have n3_ := Aside0.mk ((by rw [hg]; exact (below_size hB52) : w.heap.size ≤ gb114)); clear HB; have HB := n0_; have BK114 := n1_; have GW114 := n2_; have GE114 := n3_; clear n0_ n1_ n2_ n3_; clear hb hbox hg; have hcz11_0 : w10.cell? ⟨gb114, 0, none⟩ = some (.int .u8 a0_0) := (blk_cell BK114.out 0).trans rfl; have hcz11_1 : w10.cell? ⟨gb114, 1, none⟩ = some (.int .u8 a0_1) := (blk_cell BK114.out 1).trans rfl; have hcz11_2 : w10.cell? ⟨gb114, 2, none⟩ = some (.int .u8 a0_2) := (blk_cell BK114.out 2).trans rfl; have hcz11_3 : w10.cell? ⟨gb114, 3, none⟩ = some (.int .u8 a0_3) := (blk_cell BK114.out 3).trans rfl; have hcz11_4 : w10.cell? ⟨gb114, 4, none⟩ = some (.int .i64 a0_4) := (blk_cell BK114.out 4).trans rfl; have hfz11_0 := blk_frozen BK114.out 0; have hfz11_1 := blk_frozen BK114.out 1; have hfz11_2 := blk_frozen BK114.out 2; have hfz11_3 := blk_frozen BK114.out 3; have hfz11_4 := blk_frozen BK114.out 4))
  go_ret; exact ⟨by first | rfl | (simp [errW_none, errW_some] <;> rfl) | (simp [*, errW_none, errW_some] <;> rfl), hB32⟩
mutual
def lockstitchref02_digits.j0 : Nat → ByteArray → ByteArray → Bool → Option (Bool)
  | 0, _, _, _ => none
  | k + 1, x0, x3, x13 => if x13 = true then (if 1 ≤ (x0.size : Int) then (lockstitchref02_digits.j1 k x0 (x0.extract 1 x0.size)) else (none)) else (lockstitchref02_digits.j1 k x0 x3)
def lockstitchref02_digits.j1 : Nat → ByteArray → ByteArray → Option (Bool)
  | 0, _, _ => none
  | k + 1, x0, x3 => if x3.toList = ([] : List UInt8) then (lockstitchref02_digits.j2 k x3 true) else (if 0 < (x3.size : Int) then (if (bt x3 0) = 48 then (if (x3.size : Int) > 1 then (lockstitchref02_digits.j2 k x3 true) else (lockstitchref02_digits.j2 k x3 (decide ((x0.size : Int) > 1)))) else (lockstitchref02_digits.j2 k x3 false)) else (none))
def lockstitchref02_digits.j2 : Nat → ByteArray → Bool → Option (Bool)
  | 0, _, _ => none
  | k + 1, x3, x32 => if x32 = true then (some false) else (lockstitchref02_digits.l0 k x3 0)
def lockstitchref02_digits.l0 : Nat → ByteArray → Int → Option (Bool)
  | 0, _, _ => none
  | k + 1, x3, x4 => if x4 < (x3.size : Int) then (if 0 ≤ x4 then (if (bt x3 x4) < 48 then (some false) else (if (bt x3 x4) > 57 then (some false) else (lockstitchref02_digits.l0 k x3 (wrap64 (x4 + 1))))) else (none)) else (some true)
end
def lockstitchref02_digits.f (k : Nat) (a0 : ByteArray) : Option (Bool) := if (a0.size : Int) > 0 then (if 0 < (a0.size : Int) then (lockstitchref02_digits.j0 k a0 a0 ((bt a0 0) == 45)) else (none)) else (lockstitchref02_digits.j0 k a0 a0 false)
theorem lockstitchref02_digits.mono_l : ∀ k, (∀ y0 y1 y2, LeO (lockstitchref02_digits.j0 k y0 y1 y2) (lockstitchref02_digits.j0 (k + 1) y0 y1 y2)) ∧ (∀ y0 y1, LeO (lockstitchref02_digits.j1 k y0 y1) (lockstitchref02_digits.j1 (k + 1) y0 y1)) ∧ (∀ y0 y1, LeO (lockstitchref02_digits.j2 k y0 y1) (lockstitchref02_digits.j2 (k + 1) y0 y1)) ∧ (∀ y0 y1, LeO (lockstitchref02_digits.l0 k y0 y1) (lockstitchref02_digits.l0 (k + 1) y0 y1))
  | 0 => ⟨fun _ _ _ r h => by simp [lockstitchref02_digits.j0] at h, fun _ _ r h => by simp [lockstitchref02_digits.j1] at h, fun _ _ r h => by simp [lockstitchref02_digits.j2] at h, fun _ _ r h => by simp [lockstitchref02_digits.l0] at h⟩
  | k + 1 => by
    obtain ⟨ih0, ih1, ih2, ih3⟩ := lockstitchref02_digits.mono_l k; refine ⟨?_, ?_, ?_, ?_⟩
    · intro y0 y1 y2
      unfold lockstitchref02_digits.j0
      repeat' first
      | (with_reducible exact ih0 _ _ _)
      | (with_reducible exact ih1 _ _)
      | (with_reducible exact ih2 _ _)
      | (with_reducible exact ih3 _ _)
      | (with_reducible exact LeO.refl _)
      | (with_reducible exact LeO.none _)
      | (with_reducible refine LeO.ite ?_ ?_)
      | (with_reducible refine LeO.bind ?_ (fun _ => ?_))
      | exact ih0 _ _ _
      | exact ih1 _ _
      | exact ih2 _ _
      | exact ih3 _ _
      | exact LeO.none _
      | refine LeO.ite ?_ ?_
      | refine LeO.bind ?_ (fun _ => ?_)
    · intro y0 y1
      unfold lockstitchref02_digits.j1
      repeat' first
      | (with_reducible exact ih0 _ _ _)
      | (with_reducible exact ih1 _ _)
      | (with_reducible exact ih2 _ _)
      | (with_reducible exact ih3 _ _)
      | (with_reducible exact LeO.refl _)
      | (with_reducible exact LeO.none _)
      | (with_reducible refine LeO.ite ?_ ?_)
      | (with_reducible refine LeO.bind ?_ (fun _ => ?_))
      | exact ih0 _ _ _
      | exact ih1 _ _
      | exact ih2 _ _
      | exact ih3 _ _
      | exact LeO.none _
      | refine LeO.ite ?_ ?_
      | refine LeO.bind ?_ (fun _ => ?_)
    · intro y0 y1
      unfold lockstitchref02_digits.j2
      repeat' first
      | (with_reducible exact ih0 _ _ _)
      | (with_reducible exact ih1 _ _)
      | (with_reducible exact ih2 _ _)
      | (with_reducible exact ih3 _ _)
      | (with_reducible exact LeO.refl _)
      | (with_reducible exact LeO.none _)
      | (with_reducible refine LeO.ite ?_ ?_)
      | (with_reducible refine LeO.bind ?_ (fun _ => ?_))
      | exact ih0 _ _ _
      | exact ih1 _ _
      | exact ih2 _ _
      | exact ih3 _ _
      | exact LeO.none _
      | refine LeO.ite ?_ ?_
      | refine LeO.bind ?_ (fun _ => ?_)
    · intro y0 y1
      unfold lockstitchref02_digits.l0
      repeat' first
      | (with_reducible exact ih0 _ _ _)
      | (with_reducible exact ih1 _ _)
      | (with_reducible exact ih2 _ _)
      | (with_reducible exact ih3 _ _)
      | (with_reducible exact LeO.refl _)
      | (with_reducible exact LeO.none _)
      | (with_reducible refine LeO.ite ?_ ?_)
      | (with_reducible refine LeO.bind ?_ (fun _ => ?_))
      | exact ih0 _ _ _
      | exact ih1 _ _
      | exact ih2 _ _
      | exact ih3 _ _
      | exact LeO.none _
      | refine LeO.ite ?_ ?_
      | refine LeO.bind ?_ (fun _ => ?_)
theorem lockstitchref02_digits.mono : ∀ a0 k, LeO (lockstitchref02_digits.f k a0) (lockstitchref02_digits.f (k + 1) a0) := by
  intro a0 k; obtain ⟨ih0, ih1, ih2, ih3⟩ := lockstitchref02_digits.mono_l k
  unfold lockstitchref02_digits.f
  repeat' first
      | (with_reducible exact ih0 _ _ _)
      | (with_reducible exact ih1 _ _)
      | (with_reducible exact ih2 _ _)
      | (with_reducible exact ih3 _ _)
      | (with_reducible exact LeO.refl _)
      | (with_reducible exact LeO.none _)
      | (with_reducible refine LeO.ite ?_ ?_)
      | (with_reducible refine LeO.bind ?_ (fun _ => ?_))
      | exact ih0 _ _ _
      | exact ih1 _ _
      | exact ih2 _ _
      | exact ih3 _ _
      | exact LeO.none _
      | refine LeO.ite ?_ ?_
      | refine LeO.bind ?_ (fun _ => ?_)
end Go.Proofs.YtocechpmgfhenaaGreatDoor.F

namespace Go.Proofs.YtocechpmgfhenaaGreatDoor.F
open Go.RowKit Go.Proofs.YtocechpmgfhenaaGreatDoorW.PrintWords Go.Proofs.YtocechpmgfhenaaGreatDoorW.PrintLast Go.Proofs.YtocechpmgfhenaaGreatDoorW.PrintMore
attribute [local go_sem] max2_int min2_int max_two min_two max_three min_three max_four min_four
set_option linter.unusedVariables false
set_option linter.unusedSimpArgs false
mutual
def lockstitchref02_Number.j0 : Nat → ByteArray → Bool → Option (Int × Int)
  | 0, _, _ => none
  | k + 1, x4, x5 => lockstitchref02_Number.l0 k x4 x5 0 0
def lockstitchref02_Number.j2 : Nat → ByteArray → Bool → Int → Option (Int × Int)
  | 0, _, _, _ => none
  | k + 1, x4, x5, x6 => if (x4.size : Int) > 19 then (lockstitchref02_Number.j3 k x5 x6 (decide ((x4.size : Int) > 19))) else (if x6 > 9223372036854775808 then (lockstitchref02_Number.j3 k x5 x6 (decide (x6 > 9223372036854775808))) else (if x6 = 9223372036854775808 then (lockstitchref02_Number.j3 k x5 x6 (!x5)) else (lockstitchref02_Number.j3 k x5 x6 false)))
def lockstitchref02_Number.j3 : Nat → Bool → Int → Bool → Option (Int × Int)
  | 0, _, _, _ => none
  | k + 1, x5, x6, x36 => if x36 = true then (some (0, 3)) else (if x5 = true then (some (wrap64 (-(wrap64 (x6))), 0)) else (some (wrap64 (x6), 0)))
def lockstitchref02_Number.l0 : Nat → ByteArray → Bool → Int → Int → Option (Int × Int)
  | 0, _, _, _, _ => none
  | k + 1, x4, x5, x6, x7 => if x7 < (x4.size : Int) then (if x7 < 19 then (if 0 ≤ x7 then (lockstitchref02_Number.l0 k x4 x5 (IntKind.u64.wrap ((IntKind.u64.wrap (x6 * 10)) + (((bt x4 x7) - 48) % 256))) (wrap64 (x7 + 1))) else (none)) else (lockstitchref02_Number.j2 k x4 x5 x6)) else (lockstitchref02_Number.j2 k x4 x5 x6)
end
def lockstitchref02_Number.f (k : Nat) (a0 : ByteArray) : Option (Int × Int) := (lockstitchref02_digits.f k a0).bind fun t115 => (if t115 = true then (if 0 < (a0.size : Int) then (if (bt a0 0) = 45 then (if 1 ≤ (a0.size : Int) then (lockstitchref02_Number.j0 k (a0.extract 1 a0.size) ((bt a0 0) == 45)) else (none)) else (lockstitchref02_Number.j0 k a0 ((bt a0 0) == 45))) else (none)) else (some (0, 4)))
theorem lockstitchref02_Number.mono_l : ∀ k, (∀ y0 y1, LeO (lockstitchref02_Number.j0 k y0 y1) (lockstitchref02_Number.j0 (k + 1) y0 y1)) ∧ (∀ y0 y1 y2, LeO (lockstitchref02_Number.j2 k y0 y1 y2) (lockstitchref02_Number.j2 (k + 1) y0 y1 y2)) ∧ (∀ y0 y1 y2, LeO (lockstitchref02_Number.j3 k y0 y1 y2) (lockstitchref02_Number.j3 (k + 1) y0 y1 y2)) ∧ (∀ y0 y1 y2 y3, LeO (lockstitchref02_Number.l0 k y0 y1 y2 y3) (lockstitchref02_Number.l0 (k + 1) y0 y1 y2 y3))
  | 0 => ⟨fun _ _ r h => by simp [lockstitchref02_Number.j0] at h, fun _ _ _ r h => by simp [lockstitchref02_Number.j2] at h, fun _ _ _ r h => by simp [lockstitchref02_Number.j3] at h, fun _ _ _ _ r h => by simp [lockstitchref02_Number.l0] at h⟩
  | k + 1 => by
    obtain ⟨ih0, ih1, ih2, ih3⟩ := lockstitchref02_Number.mono_l k; refine ⟨?_, ?_, ?_, ?_⟩
    · intro y0 y1
      unfold lockstitchref02_Number.j0
      repeat' first
      | (with_reducible exact ih0 _ _)
      | (with_reducible exact ih1 _ _ _)
      | (with_reducible exact ih2 _ _ _)
      | (with_reducible exact ih3 _ _ _ _)
      | (with_reducible exact lockstitchref02_digits.mono _ _)
      | (with_reducible exact LeO.refl _)
      | (with_reducible exact LeO.none _)
      | (with_reducible refine LeO.ite ?_ ?_)
      | (with_reducible refine LeO.bind ?_ (fun _ => ?_))
      | exact ih0 _ _
      | exact ih1 _ _ _
      | exact ih2 _ _ _
      | exact ih3 _ _ _ _
      | exact lockstitchref02_digits.mono _ _
      | exact LeO.none _
      | refine LeO.ite ?_ ?_
      | refine LeO.bind ?_ (fun _ => ?_)
    · intro y0 y1 y2
      unfold lockstitchref02_Number.j2
      repeat' first
      | (with_reducible exact ih0 _ _)
      | (with_reducible exact ih1 _ _ _)
      | (with_reducible exact ih2 _ _ _)
      | (with_reducible exact ih3 _ _ _ _)
      | (with_reducible exact lockstitchref02_digits.mono _ _)
      | (with_reducible exact LeO.refl _)
      | (with_reducible exact LeO.none _)
      | (with_reducible refine LeO.ite ?_ ?_)
      | (with_reducible refine LeO.bind ?_ (fun _ => ?_))
      | exact ih0 _ _
      | exact ih1 _ _ _
      | exact ih2 _ _ _
      | exact ih3 _ _ _ _
      | exact lockstitchref02_digits.mono _ _
      | exact LeO.none _
      | refine LeO.ite ?_ ?_
      | refine LeO.bind ?_ (fun _ => ?_)
    · intro y0 y1 y2
      unfold lockstitchref02_Number.j3
      repeat' first
      | (with_reducible exact ih0 _ _)
      | (with_reducible exact ih1 _ _ _)
      | (with_reducible exact ih2 _ _ _)
      | (with_reducible exact ih3 _ _ _ _)
      | (with_reducible exact lockstitchref02_digits.mono _ _)
      | (with_reducible exact LeO.refl _)
      | (with_reducible exact LeO.none _)
      | (with_reducible refine LeO.ite ?_ ?_)
      | (with_reducible refine LeO.bind ?_ (fun _ => ?_))
      | exact ih0 _ _
      | exact ih1 _ _ _
      | exact ih2 _ _ _
      | exact ih3 _ _ _ _
      | exact lockstitchref02_digits.mono _ _
      | exact LeO.none _
      | refine LeO.ite ?_ ?_
      | refine LeO.bind ?_ (fun _ => ?_)
    · intro y0 y1 y2 y3
      unfold lockstitchref02_Number.l0
      repeat' first
      | (with_reducible exact ih0 _ _)
      | (with_reducible exact ih1 _ _ _)
      | (with_reducible exact ih2 _ _ _)
      | (with_reducible exact ih3 _ _ _ _)
      | (with_reducible exact lockstitchref02_digits.mono _ _)
      | (with_reducible exact LeO.refl _)
      | (with_reducible exact LeO.none _)
      | (with_reducible refine LeO.ite ?_ ?_)
      | (with_reducible refine LeO.bind ?_ (fun _ => ?_))
      | exact ih0 _ _
      | exact ih1 _ _ _
      | exact ih2 _ _ _
      | exact ih3 _ _ _ _
      | exact lockstitchref02_digits.mono _ _
      | exact LeO.none _
      | refine LeO.ite ?_ ?_
      | refine LeO.bind ?_ (fun _ => ?_)
theorem lockstitchref02_Number.mono : ∀ a0 k, LeO (lockstitchref02_Number.f k a0) (lockstitchref02_Number.f (k + 1) a0) := by
  intro a0 k; obtain ⟨ih0, ih1, ih2, ih3⟩ := lockstitchref02_Number.mono_l k
  unfold lockstitchref02_Number.f
  repeat' first
      | (with_reducible exact ih0 _ _)
      | (with_reducible exact ih1 _ _ _)
      | (with_reducible exact ih2 _ _ _)
      | (with_reducible exact ih3 _ _ _ _)
      | (with_reducible exact lockstitchref02_digits.mono _ _)
      | (with_reducible exact LeO.refl _)
      | (with_reducible exact LeO.none _)
      | (with_reducible refine LeO.ite ?_ ?_)
      | (with_reducible refine LeO.bind ?_ (fun _ => ?_))
      | exact ih0 _ _
      | exact ih1 _ _ _
      | exact ih2 _ _ _
      | exact ih3 _ _ _ _
      | exact lockstitchref02_digits.mono _ _
      | exact LeO.none _
      | refine LeO.ite ?_ ?_
      | refine LeO.bind ?_ (fun _ => ?_)
def lockstitchref04_with.j0 : Nat → Int → Int → Bool → Int → Int → Int → Int → Int → Option (Int × Int × Int × Int × Int × Bool)
  | 0, _, _, _, _, _, _, _, _ => none
  | k + 1, x1, x2, x18, x117000, x117001, x117002, x117003, x117004 => if x18 = true then (some (x117000, x117001, x117002, x117003, x117004, false)) else (if x1 = 97 then (some (x117000, (x2) % 256, x117002, x117003, x117004, true)) else (if x1 = 98 then (some (x117000, x117001, (x2) % 256, x117003, x117004, true)) else (some (x117000, x117001, x117002, (x2) % 256, x117004, true))))
def lockstitchref04_with.f (k : Nat) (a0_0 : Int) (a0_1 : Int) (a0_2 : Int) (a0_3 : Int) (a0_4 : Int) (a1 : Int) (a2 : Int) : Option (Int × Int × Int × Int × Int × Bool) := if a1 = 110 then (some (a0_0, a0_1, a0_2, a0_3, a2, true)) else (if a2 < 0 then (lockstitchref04_with.j0 k a1 a2 true a0_0 a0_1 a0_2 a0_3 a0_4) else (lockstitchref04_with.j0 k a1 a2 (decide (a2 > 255)) a0_0 a0_1 a0_2 a0_3 a0_4))
theorem lockstitchref04_with.mono_l : ∀ k, (∀ y0 y1 y2 y3 y4 y5 y6 y7, LeO (lockstitchref04_with.j0 k y0 y1 y2 y3 y4 y5 y6 y7) (lockstitchref04_with.j0 (k + 1) y0 y1 y2 y3 y4 y5 y6 y7))
  | 0 => fun _ _ _ _ _ _ _ _ r h => by simp [lockstitchref04_with.j0] at h
  | k + 1 => by
    have ih0 := lockstitchref04_with.mono_l k
    · intro y0 y1 y2 y3 y4 y5 y6 y7
      unfold lockstitchref04_with.j0
      repeat' first
      | (with_reducible exact ih0 _ _ _ _ _ _ _ _)
      | (with_reducible exact LeO.refl _)
      | (with_reducible exact LeO.none _)
      | (with_reducible refine LeO.ite ?_ ?_)
      | (with_reducible refine LeO.bind ?_ (fun _ => ?_))
      | exact ih0 _ _ _ _ _ _ _ _
      | exact LeO.none _
      | refine LeO.ite ?_ ?_
      | refine LeO.bind ?_ (fun _ => ?_)
theorem lockstitchref04_with.mono : ∀ a0 a1 a2 a3 a4 a5 a6 k, LeO (lockstitchref04_with.f k a0 a1 a2 a3 a4 a5 a6) (lockstitchref04_with.f (k + 1) a0 a1 a2 a3 a4 a5 a6) := by
  intro a0 a1 a2 a3 a4 a5 a6 k; have ih0 := lockstitchref04_with.mono_l k
  unfold lockstitchref04_with.f
  repeat' first
      | (with_reducible exact ih0 _ _ _ _ _ _ _ _)
      | (with_reducible exact LeO.refl _)
      | (with_reducible exact LeO.none _)
      | (with_reducible refine LeO.ite ?_ ?_)
      | (with_reducible refine LeO.bind ?_ (fun _ => ?_))
      | exact ih0 _ _ _ _ _ _ _ _
      | exact LeO.none _
      | refine LeO.ite ?_ ?_
      | refine LeO.bind ?_ (fun _ => ?_)
end Go.Proofs.YtocechpmgfhenaaGreatDoor.F

namespace Go.Proofs.YtocechpmgfhenaaGreatDoor.F
open Go.RowKit Go.Proofs.YtocechpmgfhenaaGreatDoorW.PrintWords Go.Proofs.YtocechpmgfhenaaGreatDoorW.PrintLast Go.Proofs.YtocechpmgfhenaaGreatDoorW.PrintMore
attribute [local go_sem] max2_int min2_int max_two min_two max_three min_three max_four min_four
set_option linter.unusedVariables false
set_option linter.unusedSimpArgs false
mutual
def lockstitchref04_read.l0 : Nat → List ByteArray → Int → Option (Int × Int × Int × Int × Int × Bool)
  | 0, _, _ => none
  | k + 1, x0, x4 => if x4 ≤ 15 then ((lockstitchref04_shape.f x4).bind fun bt119 => (if 0 < (x0.length : Int) then (if (rdOf ByteArray.empty x0 0).toList = bt119.1.toList then (lockstitchref04_read.j1 k x0 x4 bt119.2 ((x0.length : Int) != (wrap64 ((bt119.2.size : Int) + 1)))) else (lockstitchref04_read.j1 k x0 x4 bt119.2 true)) else (none))) else (some (0, 0, 0, 0, 0, false))
def lockstitchref04_read.j1 : Nat → List ByteArray → Int → ByteArray → Bool → Option (Int × Int × Int × Int × Int × Bool)
  | 0, _, _, _, _ => none
  | k + 1, x0, x4, x6, x34 => if x34 = true then (lockstitchref04_read.l0 k x0 ((x4 + 1) % 256)) else (lockstitchref04_read.l1 k x0 x6 0 x4 0 0 0 0)
def lockstitchref04_read.l1 : Nat → List ByteArray → ByteArray → Int → Int → Int → Int → Int → Int → Option (Int × Int × Int × Int × Int × Bool)
  | 0, _, _, _, _, _, _, _, _ => none
  | k + 1, x0, x6, x8, x123000, x123001, x123002, x123003, x123004 => if x8 < (x6.size : Int) then (if 0 ≤ (wrap64 (x8 + 1)) then (if (wrap64 (x8 + 1)) < (x0.length : Int) then ((lockstitchref02_Number.f k (rdOf ByteArray.empty x0 (wrap64 (x8 + 1)))).bind fun bt124 => (if 0 ≤ x8 then ((lockstitchref04_with.f k x123000 x123001 x123002 x123003 x123004 (bt x6 x8) bt124.1).bind fun bt126 => (if bt124.2 = 0 then (if bt126.2.2.2.2.2 = true then (lockstitchref04_read.l1 k x0 x6 (wrap64 (x8 + 1)) bt126.1 bt126.2.1 bt126.2.2.1 bt126.2.2.2.1 bt126.2.2.2.2.1) else (some (0, 0, 0, 0, 0, false))) else (some (0, 0, 0, 0, 0, false)))) else (none))) else (none)) else (none)) else (some (x123000, x123001, x123002, x123003, x123004, true))
end
def lockstitchref04_read.f (k : Nat) (l0 : List ByteArray) : Option (Int × Int × Int × Int × Int × Bool) := lockstitchref04_read.l0 k l0 1
def lockstitchref04_read.T11 : Bool × List (List Nat × List Nat) := (true, [([], []), ([], []), ([], []), ([1, 2], [1, 2]), ([], []), ([0, 3, 4], [0, 3, 4]), ([5], [5]), ([6], [6]), ([6], [6]), ([], []), ([9, 7, 5, 0, 1, 2, 3, 4, 5, 6, 7, 9], [7, 9]), ([8, 10, 0, 1, 2, 3, 4, 5, 6, 7, 8, 9, 10], [8])])
def lockstitchref04_read.B11 : List Nat := [0, 0, 0, 6, 0, 31, 63, 127, 127, 0, 767, 2047]
end Go.Proofs.YtocechpmgfhenaaGreatDoor.F

namespace Go.Proofs.YtocechpmgfhenaaGreatDoor.F
open Go.RowKit Go.Proofs.YtocechpmgfhenaaGreatDoorW.PrintWords Go.Proofs.YtocechpmgfhenaaGreatDoorW.PrintLast Go.Proofs.YtocechpmgfhenaaGreatDoorW.PrintMore
attribute [local go_sem] max2_int min2_int max_two min_two max_three min_three max_four min_four
set_option linter.unusedVariables false
set_option linter.unusedSimpArgs false
def lockstitchref05_at.f (k : Nat) (l0 : List ByteArray) (a1 : ByteArray) (a2 : Int) : Option (Int) := if (wrap64 (a2)) ≥ (a1.size : Int) then (some (-1)) else (if 0 ≤ (wrap64 (a2)) then (if (wrap64 (a2)) ≤ (wrap64 ((wrap64 (a2)) + 1)) then (if (wrap64 ((wrap64 (a2)) + 1)) ≤ (a1.size : Int) then ((lockstitchref03_Refs.f k l0 (a1.extract ((wrap64 (a2)) : Int).toNat ((wrap64 ((wrap64 (a2)) + 1)) : Int).toNat)).bind fun t133 => (if t133 = true then (if 0 ≤ a2 then (if a2 < (a1.size : Int) then (some (((bt a1 a2) - 48) % 256)) else (none)) else (none)) else (some (-1)))) else (none)) else (none)) else (none))
theorem lockstitchref05_at.mono : ∀ a0 a1 a2 k, LeO (lockstitchref05_at.f k a0 a1 a2) (lockstitchref05_at.f (k + 1) a0 a1 a2) := by
  intro a0 a1 a2 k
  unfold lockstitchref05_at.f
  repeat' first
      | (with_reducible exact lockstitchref03_Refs.mono _ _ _)
      | (with_reducible exact LeO.refl _)
      | (with_reducible exact LeO.none _)
      | (with_reducible refine LeO.ite ?_ ?_)
      | (with_reducible refine LeO.bind ?_ (fun _ => ?_))
      | exact lockstitchref03_Refs.mono _ _ _
      | exact LeO.none _
      | refine LeO.ite ?_ ?_
      | refine LeO.bind ?_ (fun _ => ?_)
set_option maxHeartbeats 8000000 in
set_option maxRecDepth 100000 in
theorem lockstitchref05_at.calls (k : Nat) (A0 : Option Addr) (c0 : Nat) (l0 : List ByteArray) (a1 : ByteArray) (a2 : Int) (r : Int) (w : World) (hr0 : Kd.C Kd.string w A0 l0.length l0) (hc0 : l0.length ≤ c0) (h : lockstitchref05_at.f k l0 a1 a2 = some r) :
    Calls Tryz.prog 75 #[.slice A0 l0.length c0, .string a1, .int .u8 a2] w fun e w' => e = .returned (.int .i64 r) ∧ Drawn0 w w' := by
  have HR0 := Aside0.mk hr0; have HC0 := Aside0.mk hc0; clear hr0 hc0; have H : (if (wrap64 (a2)) ≥ (a1.size : Int) then (some (-1)) else (if 0 ≤ (wrap64 (a2)) then (if (wrap64 (a2)) ≤ (wrap64 ((wrap64 (a2)) + 1)) then (if (wrap64 ((wrap64 (a2)) + 1)) ≤ (a1.size : Int) then ((lockstitchref03_Refs.f k l0 (a1.extract ((wrap64 (a2)) : Int).toNat ((wrap64 ((wrap64 (a2)) + 1)) : Int).toNat)).bind fun t133 => (if t133 = true then (if 0 ≤ a2 then (if a2 < (a1.size : Int) then (some (((bt a1 a2) - 48) % 256)) else (none)) else (none)) else (some (-1)))) else (none)) else (none)) else (none))) = some r := h; clear h; by_cases c4 : (wrap64 (a2)) ≥ (a1.size : Int)
  · rw [if_pos c4] at H; have c4b0 : decide ((a1.size : Int) ≤ (wrap64 (a2))) = true := decide_eq_true c4; clear c4; obtain rfl := Option.some.inj H
    go_enter Tryz.func75, Tryz.ntmps75
    go_wp2; go_ret; exact ⟨by first | rfl | (simp; done) | (simp [*]; done), by repeat (first | exact Drawn0.refl _ | apply Drawn0.step)⟩
  rw [if_neg c4] at H; have c4b0 : decide ((a1.size : Int) ≤ (wrap64 (a2))) = false := decide_eq_false c4; clear c4; obtain ⟨ji5, hji5⟩ : ∃ j_ : Int, (wrap64 (a2)) = j_ := ⟨_, rfl⟩
  replace H : (if 0 ≤ (ji5) then (if (ji5) ≤ (wrap64 ((ji5) + 1)) then (if (wrap64 ((ji5) + 1)) ≤ (a1.size : Int) then ((lockstitchref03_Refs.f k l0 (a1.extract ((ji5) : Int).toNat ((wrap64 ((ji5) + 1)) : Int).toNat)).bind fun t133 => (if t133 = true then (if 0 ≤ a2 then (if a2 < (a1.size : Int) then (some (((bt a1 a2) - 48) % 256)) else (none)) else (none)) else (some (-1)))) else (none)) else (none)) else (none)) = some r := by first | (rw [hji5] at H; exact H) | (simp only [hji5] at H ⊢; exact H)
  (try rw [hji5] at c4b0)
  have hji5w : (IntKind.i64.wrap (a2)) = ji5 := (i64_w _).trans hji5; by_cases c6 : 0 ≤ (ji5)
  rotate_left
  · rw [if_neg c6] at H; exact absurd H (by simp)
  rw [if_pos c6] at H; have c6b0 := eq_true c6; have c6b1 : decide (0 ≤ (ji5)) = true := decide_eq_true c6; clear c6; by_cases c7 : (ji5) ≤ (wrap64 ((ji5) + 1))
  rotate_left
  · rw [if_neg c7] at H; exact absurd H (by simp)
  rw [if_pos c7] at H; have c7b0 := eq_true c7; have c7b1 : decide ((ji5) ≤ (wrap64 ((ji5) + 1))) = true := decide_eq_true c7; by_cases c8 : (wrap64 ((ji5) + 1)) ≤ (a1.size : Int)
  rotate_left
  · rw [if_neg c8] at H; exact absurd H (by simp)
  rw [if_pos c8] at H; have c8b0 := eq_true c8; have c8b1 : decide ((wrap64 ((ji5) + 1)) ≤ (a1.size : Int)) = true := decide_eq_true c8; replace H := Option.bind_eq_some_iff.mp H; obtain ⟨t133, A90, H⟩ := H; replace H : (if t133 = true then (if 0 ≤ a2 then (if a2 < (a1.size : Int) then (some (((bt a1 a2) - 48) % 256)) else (none)) else (none)) else (some (-1))) = some r := H; have A9 := Aside0.mk A90; clear A90; by_cases c10 : t133 = true
  rotate_left
  · replace c10 := Bool.eq_false_iff.mpr c10; subst c10
    have H1 : (some (-1)) = some r := by rw [if_neg (show ¬ (false = true) by decide)] at H; exact H
    clear H; have H := H1; clear H1; obtain rfl := Option.some.inj H
    go_enter Tryz.func75, Tryz.ntmps75
    go_wp2_with (first | (go_at_call 30; (with_reducible refine (lockstitchref03_Refs.calls k _ _ l0 (a1.extract ((ji5) : Int).toNat ((wrap64 ((ji5) + 1)) : Int).toNat) false _ ?side1 ?side2 A9.out).mono ?_); (case side1 => repeat (first | exact HR0.out | (with_reducible refine Kd.C_alloc ?_ _) | (with_reducible refine Kd.C_drewN ?_ _) | (with_reducible refine Kd.C_drew ?_))); (case side2 => exact HC0.out); rintro e w' ⟨rfl, ⟨nd, rfl⟩⟩))
    go_ret; exact ⟨by first | rfl | (simp; done) | (simp only [← hji5] <;> (first | rfl | simp)) | (simp [*]; done), by repeat (first | exact Drawn0.refl _ | apply Drawn0.step)⟩
  subst c10
  have H1 : (if 0 ≤ a2 then (if a2 < (a1.size : Int) then (some (((bt a1 a2) - 48) % 256)) else (none)) else (none)) = some r := by rw [if_pos rfl] at H; exact H
  clear H; have H := H1; clear H1; by_cases c11 : 0 ≤ a2
  rotate_left
  · rw [if_neg c11] at H; exact absurd H (by simp)
  rw [if_pos c11] at H; have c11b0 : decide (0 ≤ a2) = true := decide_eq_true c11; clear c11; by_cases c12 : a2 < (a1.size : Int)
  rotate_left
  · rw [if_neg c12] at H; exact absurd H (by simp)
  rw [if_pos c12] at H; have c12b0 : decide (a2 < (a1.size : Int)) = true := decide_eq_true c12; clear c12; obtain rfl := Option.some.inj H
  go_enter Tryz.func75, Tryz.ntmps75
  go_wp2_with (first | (go_at_call 30; (with_reducible refine (lockstitchref03_Refs.calls k _ _ l0 (a1.extract ((ji5) : Int).toNat ((wrap64 ((ji5) + 1)) : Int).toNat) true _ ?side1 ?side2 A9.out).mono ?_); (case side1 => repeat (first | exact HR0.out | (with_reducible refine Kd.C_alloc ?_ _) | (with_reducible refine Kd.C_drewN ?_ _) | (with_reducible refine Kd.C_drew ?_))); (case side2 => exact HC0.out); rintro e w' ⟨rfl, ⟨nd, rfl⟩⟩; have p13 : 0 ≤ (a2 : Int) := of_decide_eq_true hB24; have q13 : a2 < (a1.size : Int) := of_decide_eq_true hB24; have hx13 := bt_at a1 a2; replace p13 := eq_true p13; replace q13 := eq_true q13))
  go_ret; exact ⟨by first | rfl | (simp; done) | (simp only [← hji5] <;> (first | rfl | simp)) | (simp [*]; done), by repeat (first | exact Drawn0.refl _ | apply Drawn0.step)⟩
def lockstitchref05_Local.f (k : Nat) (l0_0 : List ByteArray) (a0_1 : ByteArray) (a0_2 : ByteArray) (l0_3 : List (S46)) (a1 : Int) : Option (Int) := (lockstitchref05_at.f k l0_0 a0_1 a1).bind fun t135 => (some t135)
theorem lockstitchref05_Local.mono : ∀ a0 a1 a2 a3 a4 k, LeO (lockstitchref05_Local.f k a0 a1 a2 a3 a4) (lockstitchref05_Local.f (k + 1) a0 a1 a2 a3 a4) := by
  intro a0 a1 a2 a3 a4 k
  unfold lockstitchref05_Local.f
  repeat' first
      | (with_reducible exact lockstitchref05_at.mono _ _ _ _)
      | (with_reducible exact LeO.refl _)
      | (with_reducible exact LeO.none _)
      | (with_reducible refine LeO.ite ?_ ?_)
      | (with_reducible refine LeO.bind ?_ (fun _ => ?_))
      | exact lockstitchref05_at.mono _ _ _ _
      | exact LeO.none _
      | refine LeO.ite ?_ ?_
      | refine LeO.bind ?_ (fun _ => ?_)
set_option maxHeartbeats 8000000 in
set_option maxRecDepth 100000 in
theorem lockstitchref05_Local.calls (k : Nat) (A0_0 : Option Addr) (c0_0 : Nat) (l0_0 : List ByteArray) (a0_1 : ByteArray) (a0_2 : ByteArray) (A0_3 : Option Addr) (c0_3 : Nat) (l0_3 : List (S46)) (a1 : Int) (r : Int) (w : World) (hr0_0 : Kd.C Kd.string w A0_0 l0_0.length l0_0) (hc0_0 : l0_0.length ≤ c0_0) (hr0_3 : Kd.C k46 w A0_3 l0_3.length l0_3) (hc0_3 : l0_3.length ≤ c0_3) (h : lockstitchref05_Local.f k l0_0 a0_1 a0_2 l0_3 a1 = some r) :
    Calls Tryz.prog 45 #[.agg #[.slice A0_0 l0_0.length c0_0, .string a0_1, .string a0_2, .slice A0_3 l0_3.length c0_3], .int .u8 a1] w fun e w' => e = .returned (.int .i64 r) ∧ Below w.heap.size w w' := by
  have hu25 := Tryz.underlying25; have HR0_0 := Aside0.mk hr0_0; have HC0_0 := Aside0.mk hc0_0; clear hr0_0 hc0_0; have HR0_3 := Aside0.mk hr0_3; have HC0_3 := Aside0.mk hc0_3; clear hr0_3 hc0_3; have HB := Aside0.mk (Below.refl w.heap.size w); have H : ((lockstitchref05_at.f k l0_0 a0_1 a1).bind fun t135 => (some t135)) = some r := h; clear h; replace H := Option.bind_eq_some_iff.mp H; obtain ⟨t135, A30, H⟩ := H; replace H : (some t135) = some r := H; have A3 := Aside0.mk A30; clear A30; obtain rfl := Option.some.inj H
  go_enter Tryz.func45, Tryz.ntmps45
  go_wp2_with (first | ((with_reducible refine gate_dst (N := 2) rfl ?_); refine box_event ?hg (N := 2) ?hd (cs := #[.slice A0_0 l0_0.length c0_0, .string a0_1, .string a0_2, .slice A0_3 l0_3.length c0_3]) (t := 25) ?hr ?_; (case hd => rfl); (case hg => rfl); (case hr => first | (go_simp; done) | (go_simp; rfl)); intro gb134 hg w4 hbox hb; have n0_ := Aside0.mk (below_step hB52 hb); have n1_ := Aside0.mk (hbox); have n2_ := Aside0.mk ((by rw [hg]; exact (below_size hB52) : w.heap.size ≤ gb134)); have n3_ := Aside0.mk ((by rw [hg]; exact (below_size hB52) : w.heap.size ≤ gb134)); clear HB; have HB := n0_; have BK134 := n1_; have GW134 := n2_; have GE134 := n3_; clear n0_ n1_ n2_ n3_; clear hb hbox hg; have hcz5_0 : w4.cell? ⟨gb134, 0, none⟩ = some (.slice A0_0 l0_0.length c0_0) := (blk_cell BK134.out 0).trans rfl; have hcz5_1 : w4.cell? ⟨gb134, 1, none⟩ = some (.string a0_1) := (blk_cell BK134.out 1).trans rfl; have hcz5_2 : w4.cell? ⟨gb134, 2, none⟩ = some (.string a0_2) := (blk_cell BK134.out 2).trans rfl; have hcz5_3 : w4.cell? ⟨gb134, 3, none⟩ = some (.slice A0_3 l0_3.length c0_3) := (blk_cell BK134.out 3).trans rfl; have hfz5_0 := blk_frozen BK134.out 0; have hfz5_1 := blk_frozen BK134.out 1; have hfz5_2 := blk_frozen BK134.out 2; have hfz5_3 := blk_frozen BK134.out 3) | ((with_reducible refine gate_callee (f := 75) rfl ?_); refine goesL_ (some 10) rfl rfl Tryz.func75 (by kernel_rfl) rfl #[.slice A0_0 l0_0.length c0_0, .string a0_1, .int .u8 a1] rfl hB1 ?_; (with_reducible refine (lockstitchref05_at.calls k _ _ l0_0 a0_1 a1 t135 _ ?side1 ?side2 A3.out).mono ?_); (case side1 => repeat (first | exact (Kd.C_below HR0_0.out HB.out) | (with_reducible refine Kd.C_alloc ?_ _) | (with_reducible refine Kd.C_drewN ?_ _) | (with_reducible refine Kd.C_drew ?_))); (case side2 => exact HC0_0.out); rintro e w' ⟨rfl, ⟨nd, rfl⟩⟩; refine ⟨_, rfl, ?_⟩))
  go_ret; exact ⟨by first | rfl | (simp [errW_none, errW_some] <;> rfl) | (simp [*, errW_none, errW_some] <;> rfl), by repeat (first | (with_reducible first | exact HB.out | apply below_alloc | apply pw_below_drewN | apply below_drew1 | refine below_set ?_ GE134.out) | exact HB.out)⟩
def lockstitchref05_one.f (a0 : Int) (a1 : Int) : Option (Bool) := if a0 ≥ 0 then (some (a0 == a1)) else (some false)
set_option maxHeartbeats 8000000 in
set_option maxRecDepth 100000 in
theorem lockstitchref05_one.calls (a0 : Int) (a1 : Int) (r : Bool) (w : World) (h : lockstitchref05_one.f a0 a1 = some r) :
    Calls Tryz.prog 52 #[.int .i64 a0, .int .i64 a1] w fun e w' => e = .returned (.bool r) ∧ Drawn0 w w' := by
  have H : (if a0 ≥ 0 then (some (a0 == a1)) else (some false)) = some r := h; clear h; by_cases c3 : a0 ≥ 0
  rotate_left
  · rw [if_neg c3] at H; have c3b0 : decide (0 ≤ a0) = false := decide_eq_false c3; clear c3; obtain rfl := Option.some.inj H
    go_enter Tryz.func52, Tryz.ntmps52
    go_wp2; go_ret; exact ⟨by first | rfl | (simp; done) | (simp [*]; done), by repeat (first | exact Drawn0.refl _ | apply Drawn0.step)⟩
  rw [if_pos c3] at H; have c3b0 : decide (0 ≤ a0) = true := decide_eq_true c3; clear c3; obtain rfl := Option.some.inj H
  go_enter Tryz.func52, Tryz.ntmps52
  go_wp2; go_ret; exact ⟨by first | rfl | (simp; done) | (simp [*]; done), by repeat (first | exact Drawn0.refl _ | apply Drawn0.step)⟩
def lockstitchref05_number.f (k : Nat) (l0_0 : List ByteArray) (a0_1 : ByteArray) (a0_2 : ByteArray) (l0_3 : List (S46)) (a1 : Int) (a2 : Int) : Option (Bool) := if a2 < 0 then (some false) else ((lockstitchref03_Size.f k l0_0 a1).bind fun t137 => (if a2 ≥ t137 then (some false) else ((lockstitchref03_To.f k l0_0 a1 a2).bind fun t138 => (some (decide (t138 < 0))))))
theorem lockstitchref05_number.mono : ∀ a0 a1 a2 a3 a4 a5 k, LeO (lockstitchref05_number.f k a0 a1 a2 a3 a4 a5) (lockstitchref05_number.f (k + 1) a0 a1 a2 a3 a4 a5) := by
  intro a0 a1 a2 a3 a4 a5 k
  unfold lockstitchref05_number.f
  repeat' first
      | (with_reducible exact lockstitchref03_Size.mono _ _ _)
      | (with_reducible exact lockstitchref03_To.mono _ _ _ _)
      | (with_reducible exact LeO.refl _)
      | (with_reducible exact LeO.none _)
      | (with_reducible refine LeO.ite ?_ ?_)
      | (with_reducible refine LeO.bind ?_ (fun _ => ?_))
      | exact lockstitchref03_Size.mono _ _ _
      | exact lockstitchref03_To.mono _ _ _ _
      | exact LeO.none _
      | refine LeO.ite ?_ ?_
      | refine LeO.bind ?_ (fun _ => ?_)
set_option maxHeartbeats 8000000 in
set_option maxRecDepth 100000 in
theorem lockstitchref05_number.calls (k : Nat) (A0_0 : Option Addr) (c0_0 : Nat) (l0_0 : List ByteArray) (a0_1 : ByteArray) (a0_2 : ByteArray) (A0_3 : Option Addr) (c0_3 : Nat) (l0_3 : List (S46)) (a1 : Int) (a2 : Int) (r : Bool) (w : World) (hr0_0 : Kd.C Kd.string w A0_0 l0_0.length l0_0) (hc0_0 : l0_0.length ≤ c0_0) (hr0_3 : Kd.C k46 w A0_3 l0_3.length l0_3) (hc0_3 : l0_3.length ≤ c0_3) (h : lockstitchref05_number.f k l0_0 a0_1 a0_2 l0_3 a1 a2 = some r) :
    Calls Tryz.prog 53 #[.agg #[.slice A0_0 l0_0.length c0_0, .string a0_1, .string a0_2, .slice A0_3 l0_3.length c0_3], .int .i64 a1, .int .i64 a2] w fun e w' => e = .returned (.bool r) ∧ Below w.heap.size w w' := by
  have hu25 := Tryz.underlying25; have HR0_0 := Aside0.mk hr0_0; have HC0_0 := Aside0.mk hc0_0; clear hr0_0 hc0_0; have HR0_3 := Aside0.mk hr0_3; have HC0_3 := Aside0.mk hc0_3; clear hr0_3 hc0_3; have HB := Aside0.mk (Below.refl w.heap.size w); have H : (if a2 < 0 then (some false) else ((lockstitchref03_Size.f k l0_0 a1).bind fun t137 => (if a2 ≥ t137 then (some false) else ((lockstitchref03_To.f k l0_0 a1 a2).bind fun t138 => (some (decide (t138 < 0))))))) = some r := h; clear h; by_cases c4 : a2 < 0
  · rw [if_pos c4] at H; have c4b0 : decide (a2 < 0) = true := decide_eq_true c4; clear c4; obtain rfl := Option.some.inj H
    go_enter Tryz.func53, Tryz.ntmps53
    go_wp2_with (first | ((with_reducible refine gate_dst (N := 3) rfl ?_); refine box_event ?hg (N := 3) ?hd (cs := #[.slice A0_0 l0_0.length c0_0, .string a0_1, .string a0_2, .slice A0_3 l0_3.length c0_3]) (t := 25) ?hr ?_; (case hd => rfl); (case hg => rfl); (case hr => first | (go_simp; done) | (go_simp; rfl)); intro gb136 hg w5 hbox hb; have n0_ := Aside0.mk (below_step hB52 hb); have n1_ := Aside0.mk (hbox); have n2_ := Aside0.mk ((by rw [hg]; exact (below_size hB52) : w.heap.size ≤ gb136)); have n3_ := Aside0.mk ((by rw [hg]; exact (below_size hB52) : w.heap.size ≤ gb136)); clear HB; have HB := n0_; have BK136 := n1_; have GW136 := n2_; have GE136 := n3_; clear n0_ n1_ n2_ n3_; clear hb hbox hg))
    go_ret; exact ⟨by first | rfl | (simp [errW_none, errW_some] <;> rfl) | (simp [*, errW_none, errW_some] <;> rfl), hB38⟩
  rw [if_neg c4] at H; have c4b0 : decide (a2 < 0) = false := decide_eq_false c4; clear c4; replace H := Option.bind_eq_some_iff.mp H; obtain ⟨t137, A60, H⟩ := H; replace H : (if a2 ≥ t137 then (some false) else ((lockstitchref03_To.f k l0_0 a1 a2).bind fun t138 => (some (decide (t138 < 0))))) = some r := H; have A6 := Aside0.mk A60; clear A60; by_cases c7 : a2 ≥ t137
  · rw [if_pos c7] at H; have c7b0 : decide (t137 ≤ a2) = true := decide_eq_true c7; clear c7; obtain rfl := Option.some.inj H
    go_enter Tryz.func53, Tryz.ntmps53
    go_wp2_with (first | ((with_reducible refine gate_dst (N := 3) rfl ?_); refine box_event ?hg (N := 3) ?hd (cs := #[.slice A0_0 l0_0.length c0_0, .string a0_1, .string a0_2, .slice A0_3 l0_3.length c0_3]) (t := 25) ?hr ?_; (case hd => rfl); (case hg => rfl); (case hr => first | (go_simp; done) | (go_simp; rfl)); intro gb136 hg w8 hbox hb; have n0_ := Aside0.mk (below_step hB52 hb); have n1_ := Aside0.mk (hbox); have n2_ := Aside0.mk ((by rw [hg]; exact (below_size hB52) : w.heap.size ≤ gb136)); have n3_ := Aside0.mk ((by rw [hg]; exact (below_size hB52) : w.heap.size ≤ gb136)); clear HB; have HB := n0_; have BK136 := n1_; have GW136 := n2_; have GE136 := n3_; clear n0_ n1_ n2_ n3_; clear hb hbox hg; have hcz9_0 : w8.cell? ⟨gb136, 0, none⟩ = some (.slice A0_0 l0_0.length c0_0) := (blk_cell BK136.out 0).trans rfl; have hcz9_1 : w8.cell? ⟨gb136, 1, none⟩ = some (.string a0_1) := (blk_cell BK136.out 1).trans rfl; have hcz9_2 : w8.cell? ⟨gb136, 2, none⟩ = some (.string a0_2) := (blk_cell BK136.out 2).trans rfl; have hcz9_3 : w8.cell? ⟨gb136, 3, none⟩ = some (.slice A0_3 l0_3.length c0_3) := (blk_cell BK136.out 3).trans rfl; have hfz9_0 := blk_frozen BK136.out 0; have hfz9_1 := blk_frozen BK136.out 1; have hfz9_2 := blk_frozen BK136.out 2; have hfz9_3 := blk_frozen BK136.out 3) | (go_at_call 44; (with_reducible refine (lockstitchref03_Size.calls k _ _ l0_0 a1 t137 _ ?side1 ?side2 A6.out).mono ?_); (case side1 => repeat (first | exact (Kd.C_below HR0_0.out HB.out) | (with_reducible refine Kd.C_alloc ?_ _) | (with_reducible refine Kd.C_drewN ?_ _) | (with_reducible refine Kd.C_drew ?_))); (case side2 => exact HC0_0.out); rintro e w' ⟨rfl, ⟨nd, rfl⟩⟩))
    go_ret; exact ⟨by first | rfl | (simp [errW_none, errW_some] <;> rfl) | (simp [*, errW_none, errW_some] <;> rfl), hB38⟩
  rw [if_neg c7] at H; have c7b0 : decide (t137 ≤ a2) = false := decide_eq_false c7; clear c7; replace H := Option.bind_eq_some_iff.mp H; obtain ⟨t138, A100, H⟩ := H; replace H : (some (decide (t138 < 0))) = some r := H; have A10 := Aside0.mk A100; clear A100; obtain rfl := Option.some.inj H
  go_enter Tryz.func53, Tryz.ntmps53
  go_wp2_with (first | ((with_reducible refine gate_dst (N := 3) rfl ?_); refine box_event ?hg (N := 3) ?hd (cs := #[.slice A0_0 l0_0.length c0_0, .string a0_1, .string a0_2, .slice A0_3 l0_3.length c0_3]) (t := 25) ?hr ?_; (case hd => rfl); (case hg => rfl); (case hr => first | (go_simp; done) | (go_simp; rfl)); intro gb136 hg w11 hbox hb; have n0_ := Aside0.mk (below_step hB52 hb); have n1_ := Aside0.mk (hbox); have n2_ := Aside0.mk ((by rw [hg]; exact (below_size hB52) : w.heap.size ≤ gb136)); have n3_ := Aside0.mk ((by rw [hg]; exact (below_size hB52) : w.heap.size ≤ gb136)); clear HB; have HB := n0_; have BK136 := n1_; have GW136 := n2_; have GE136 := n3_; clear n0_ n1_ n2_ n3_; clear hb hbox hg; have hcz12_0 : w11.cell? ⟨gb136, 0, none⟩ = some (.slice A0_0 l0_0.length c0_0) := (blk_cell BK136.out 0).trans rfl; have hcz12_1 : w11.cell? ⟨gb136, 1, none⟩ = some (.string a0_1) := (blk_cell BK136.out 1).trans rfl; have hcz12_2 : w11.cell? ⟨gb136, 2, none⟩ = some (.string a0_2) := (blk_cell BK136.out 2).trans rfl; have hcz12_3 : w11.cell? ⟨gb136, 3, none⟩ = some (.slice A0_3 l0_3.length c0_3) := (blk_cell BK136.out 3).trans rfl; have hfz12_0 := blk_frozen BK136.out 0; have hfz12_1 := blk_frozen BK136.out 1; have hfz12_2 := blk_frozen BK136.out 2; have hfz12_3 := blk_frozen BK136.out 3) | (go_at_call 44; (with_reducible refine (lockstitchref03_Size.calls k _ _ l0_0 a1 t137 _ ?side1 ?side2 A6.out).mono ?_); (case side1 => repeat (first | exact (Kd.C_below HR0_0.out HB.out) | (with_reducible refine Kd.C_alloc ?_ _) | (with_reducible refine Kd.C_drewN ?_ _) | (with_reducible refine Kd.C_drew ?_))); (case side2 => exact HC0_0.out); rintro e w' ⟨rfl, ⟨nd, rfl⟩⟩) | ((with_reducible refine gate_callee (f := 81) rfl ?_); refine goesL_ (some 21) rfl rfl Tryz.func81 (by kernel_rfl) rfl #[.slice A0_0 l0_0.length c0_0, .int .i64 a1, .int .i64 a2] rfl hB1 ?_; (with_reducible refine (lockstitchref03_To.calls k _ _ l0_0 a1 a2 t138 _ ?side1 ?side2 A10.out).mono ?_); (case side1 => repeat (first | exact (Kd.C_below HR0_0.out hB38) | (with_reducible refine Kd.C_alloc ?_ _) | (with_reducible refine Kd.C_drewN ?_ _) | (with_reducible refine Kd.C_drew ?_))); (case side2 => exact HC0_0.out); rintro e w' ⟨rfl, ⟨nd, rfl⟩⟩; refine ⟨_, rfl, ?_⟩))
  go_ret; exact ⟨by first | rfl | (simp [errW_none, errW_some] <;> rfl) | (simp [*, errW_none, errW_some] <;> rfl), hB38⟩
def lockstitchref05_to.f (k : Nat) (l0_0 : List ByteArray) (a0_1 : ByteArray) (a0_2 : ByteArray) (l0_3 : List (S46)) (a1 : Int) (a2 : Int) : Option (Int) := if a2 < 0 then (some (-1)) else (if a2 > 6 then (some (-1)) else ((lockstitchref03_To.f k l0_0 a1 a2).bind fun t140 => (some t140)))
theorem lockstitchref05_to.mono : ∀ a0 a1 a2 a3 a4 a5 k, LeO (lockstitchref05_to.f k a0 a1 a2 a3 a4 a5) (lockstitchref05_to.f (k + 1) a0 a1 a2 a3 a4 a5) := by
  intro a0 a1 a2 a3 a4 a5 k
  unfold lockstitchref05_to.f
  repeat' first
      | (with_reducible exact lockstitchref03_To.mono _ _ _ _)
      | (with_reducible exact LeO.refl _)
      | (with_reducible exact LeO.none _)
      | (with_reducible refine LeO.ite ?_ ?_)
      | (with_reducible refine LeO.bind ?_ (fun _ => ?_))
      | exact lockstitchref03_To.mono _ _ _ _
      | exact LeO.none _
      | refine LeO.ite ?_ ?_
      | refine LeO.bind ?_ (fun _ => ?_)
set_option maxHeartbeats 8000000 in
set_option maxRecDepth 100000 in
theorem lockstitchref05_to.calls (k : Nat) (A0_0 : Option Addr) (c0_0 : Nat) (l0_0 : List ByteArray) (a0_1 : ByteArray) (a0_2 : ByteArray) (A0_3 : Option Addr) (c0_3 : Nat) (l0_3 : List (S46)) (a1 : Int) (a2 : Int) (r : Int) (w : World) (hr0_0 : Kd.C Kd.string w A0_0 l0_0.length l0_0) (hc0_0 : l0_0.length ≤ c0_0) (hr0_3 : Kd.C k46 w A0_3 l0_3.length l0_3) (hc0_3 : l0_3.length ≤ c0_3) (h : lockstitchref05_to.f k l0_0 a0_1 a0_2 l0_3 a1 a2 = some r) :
    Calls Tryz.prog 54 #[.agg #[.slice A0_0 l0_0.length c0_0, .string a0_1, .string a0_2, .slice A0_3 l0_3.length c0_3], .int .i64 a1, .int .i64 a2] w fun e w' => e = .returned (.int .i64 r) ∧ Below w.heap.size w w' := by
  have hu25 := Tryz.underlying25; have HR0_0 := Aside0.mk hr0_0; have HC0_0 := Aside0.mk hc0_0; clear hr0_0 hc0_0; have HR0_3 := Aside0.mk hr0_3; have HC0_3 := Aside0.mk hc0_3; clear hr0_3 hc0_3; have HB := Aside0.mk (Below.refl w.heap.size w); have H : (if a2 < 0 then (some (-1)) else (if a2 > 6 then (some (-1)) else ((lockstitchref03_To.f k l0_0 a1 a2).bind fun t140 => (some t140)))) = some r := h; clear h; by_cases c4 : a2 < 0
  · rw [if_pos c4] at H; have c4b0 : decide (a2 < 0) = true := decide_eq_true c4; clear c4; obtain rfl := Option.some.inj H
    go_enter Tryz.func54, Tryz.ntmps54
    go_wp2_with (first | ((with_reducible refine gate_dst (N := 3) rfl ?_); refine box_event ?hg (N := 3) ?hd (cs := #[.slice A0_0 l0_0.length c0_0, .string a0_1, .string a0_2, .slice A0_3 l0_3.length c0_3]) (t := 25) ?hr ?_; (case hd => rfl); (case hg => rfl); (case hr => first | (go_simp; done) | (go_simp; rfl)); intro gb139 hg w5 hbox hb; have n0_ := Aside0.mk (below_step hB52 hb); have n1_ := Aside0.mk (hbox); have n2_ := Aside0.mk ((by rw [hg]; exact (below_size hB52) : w.heap.size ≤ gb139)); have n3_ := Aside0.mk ((by rw [hg]; exact (below_size hB52) : w.heap.size ≤ gb139)); clear HB; have HB := n0_; have BK139 := n1_; have GW139 := n2_; have GE139 := n3_; clear n0_ n1_ n2_ n3_; clear hb hbox hg))
    go_ret; exact ⟨by first | rfl | (simp [errW_none, errW_some] <;> rfl) | (simp [*, errW_none, errW_some] <;> rfl), hB39⟩
  rw [if_neg c4] at H; have c4b0 : decide (a2 < 0) = false := decide_eq_false c4; clear c4; by_cases c6 : a2 > 6
  · rw [if_pos c6] at H; have c6b0 : decide (6 < a2) = true := decide_eq_true c6; clear c6; obtain rfl := Option.some.inj H
    go_enter Tryz.func54, Tryz.ntmps54
    go_wp2_with (first | ((with_reducible refine gate_dst (N := 3) rfl ?_); refine box_event ?hg (N := 3) ?hd (cs := #[.slice A0_0 l0_0.length c0_0, .string a0_1, .string a0_2, .slice A0_3 l0_3.length c0_3]) (t := 25) ?hr ?_; (case hd => rfl); (case hg => rfl); (case hr => first | (go_simp; done) | (go_simp; rfl)); intro gb139 hg w7 hbox hb; have n0_ := Aside0.mk (below_step hB52 hb); have n1_ := Aside0.mk (hbox); have n2_ := Aside0.mk ((by rw [hg]; exact (below_size hB52) : w.heap.size ≤ gb139)); have n3_ := Aside0.mk ((by rw [hg]; exact (below_size hB52) : w.heap.size ≤ gb139)); clear HB; have HB := n0_; have BK139 := n1_; have GW139 := n2_; have GE139 := n3_; clear n0_ n1_ n2_ n3_; clear hb hbox hg))
    go_ret; exact ⟨by first | rfl | (simp [errW_none, errW_some] <;> rfl) | (simp [*, errW_none, errW_some] <;> rfl), hB39⟩
  rw [if_neg c6] at H; have c6b0 : decide (6 < a2) = false := decide_eq_false c6; clear c6; replace H := Option.bind_eq_some_iff.mp H; obtain ⟨t140, A80, H⟩ := H; replace H : (some t140) = some r := H; have A8 := Aside0.mk A80; clear A80; obtain rfl := Option.some.inj H
  go_enter Tryz.func54, Tryz.ntmps54
  go_wp2_with (first | ((with_reducible refine gate_dst (N := 3) rfl ?_); refine box_event ?hg (N := 3) ?hd (cs := #[.slice A0_0 l0_0.length c0_0, .string a0_1, .string a0_2, .slice A0_3 l0_3.length c0_3]) (t := 25) ?hr ?_; (case hd => rfl); (case hg => rfl); (case hr => first | (go_simp; done) | (go_simp; rfl)); intro gb139 hg w9 hbox hb; have n0_ := Aside0.mk (below_step hB52 hb); have n1_ := Aside0.mk (hbox); have n2_ := Aside0.mk ((by rw [hg]; exact (below_size hB52) : w.heap.size ≤ gb139)); have n3_ := Aside0.mk ((by rw [hg]; exact (below_size hB52) : w.heap.size ≤ gb139)); clear HB; have HB := n0_; have BK139 := n1_; have GW139 := n2_; have GE139 := n3_; clear n0_ n1_ n2_ n3_; clear hb hbox hg; have hcz10_0 : w9.cell? ⟨gb139, 0, none⟩ = some (.slice A0_0 l0_0.length c0_0) := (blk_cell BK139.out 0).trans rfl; have hcz10_1 : w9.cell? ⟨gb139, 1, none⟩ = some (.string a0_1) := (blk_cell BK139.out 1).trans rfl; have hcz10_2 : w9.cell? ⟨gb139, 2, none⟩ = some (.string a0_2) := (blk_cell BK139.out 2).trans rfl; have hcz10_3 : w9.cell? ⟨gb139, 3, none⟩ = some (.slice A0_3 l0_3.length c0_3) := (blk_cell BK139.out 3).trans rfl; have hfz10_0 := blk_frozen BK139.out 0; have hfz10_1 := blk_frozen BK139.out 1; have hfz10_2 := blk_frozen BK139.out 2; have hfz10_3 := blk_frozen BK139.out 3) | ((with_reducible refine gate_callee (f := 81) rfl ?_); refine goesL_ (some 17) rfl rfl Tryz.func81 (by kernel_rfl) rfl #[.slice A0_0 l0_0.length c0_0, .int .i64 a1, .int .i64 a2] rfl hB1 ?_; (with_reducible refine (lockstitchref03_To.calls k _ _ l0_0 a1 a2 t140 _ ?side1 ?side2 A8.out).mono ?_); (case side1 => repeat (first | exact (Kd.C_below HR0_0.out HB.out) | (with_reducible refine Kd.C_alloc ?_ _) | (with_reducible refine Kd.C_drewN ?_ _) | (with_reducible refine Kd.C_drew ?_))); (case side2 => exact HC0_0.out); rintro e w' ⟨rfl, ⟨nd, rfl⟩⟩; refine ⟨_, rfl, ?_⟩))
  go_ret; exact ⟨by first | rfl | (simp [errW_none, errW_some] <;> rfl) | (simp [*, errW_none, errW_some] <;> rfl), hB39⟩
def lockstitchref05_Glob.f (k : Nat) (l0_0 : List ByteArray) (a0_1 : ByteArray) (a0_2 : ByteArray) (l0_3 : List (S46)) (a1 : Int) : Option (Int) := (lockstitchref05_at.f k l0_0 a0_2 a1).bind fun t142 => (some t142)
theorem lockstitchref05_Glob.mono : ∀ a0 a1 a2 a3 a4 k, LeO (lockstitchref05_Glob.f k a0 a1 a2 a3 a4) (lockstitchref05_Glob.f (k + 1) a0 a1 a2 a3 a4) := by
  intro a0 a1 a2 a3 a4 k
  unfold lockstitchref05_Glob.f
  repeat' first
      | (with_reducible exact lockstitchref05_at.mono _ _ _ _)
      | (with_reducible exact LeO.refl _)
      | (with_reducible exact LeO.none _)
      | (with_reducible refine LeO.ite ?_ ?_)
      | (with_reducible refine LeO.bind ?_ (fun _ => ?_))
      | exact lockstitchref05_at.mono _ _ _ _
      | exact LeO.none _
      | refine LeO.ite ?_ ?_
      | refine LeO.bind ?_ (fun _ => ?_)
set_option maxHeartbeats 8000000 in
set_option maxRecDepth 100000 in
theorem lockstitchref05_Glob.calls (k : Nat) (A0_0 : Option Addr) (c0_0 : Nat) (l0_0 : List ByteArray) (a0_1 : ByteArray) (a0_2 : ByteArray) (A0_3 : Option Addr) (c0_3 : Nat) (l0_3 : List (S46)) (a1 : Int) (r : Int) (w : World) (hr0_0 : Kd.C Kd.string w A0_0 l0_0.length l0_0) (hc0_0 : l0_0.length ≤ c0_0) (hr0_3 : Kd.C k46 w A0_3 l0_3.length l0_3) (hc0_3 : l0_3.length ≤ c0_3) (h : lockstitchref05_Glob.f k l0_0 a0_1 a0_2 l0_3 a1 = some r) :
    Calls Tryz.prog 55 #[.agg #[.slice A0_0 l0_0.length c0_0, .string a0_1, .string a0_2, .slice A0_3 l0_3.length c0_3], .int .u8 a1] w fun e w' => e = .returned (.int .i64 r) ∧ Below w.heap.size w w' := by
  have hu25 := Tryz.underlying25; have HR0_0 := Aside0.mk hr0_0; have HC0_0 := Aside0.mk hc0_0; clear hr0_0 hc0_0; have HR0_3 := Aside0.mk hr0_3; have HC0_3 := Aside0.mk hc0_3; clear hr0_3 hc0_3; have HB := Aside0.mk (Below.refl w.heap.size w); have H : ((lockstitchref05_at.f k l0_0 a0_2 a1).bind fun t142 => (some t142)) = some r := h; clear h; replace H := Option.bind_eq_some_iff.mp H; obtain ⟨t142, A30, H⟩ := H; replace H : (some t142) = some r := H; have A3 := Aside0.mk A30; clear A30; obtain rfl := Option.some.inj H
  go_enter Tryz.func55, Tryz.ntmps55
  go_wp2_with (first | ((with_reducible refine gate_dst (N := 2) rfl ?_); refine box_event ?hg (N := 2) ?hd (cs := #[.slice A0_0 l0_0.length c0_0, .string a0_1, .string a0_2, .slice A0_3 l0_3.length c0_3]) (t := 25) ?hr ?_; (case hd => rfl); (case hg => rfl); (case hr => first | (go_simp; done) | (go_simp; rfl)); intro gb141 hg w4 hbox hb; have n0_ := Aside0.mk (below_step hB52 hb); have n1_ := Aside0.mk (hbox); have n2_ := Aside0.mk ((by rw [hg]; exact (below_size hB52) : w.heap.size ≤ gb141)); have n3_ := Aside0.mk ((by rw [hg]; exact (below_size hB52) : w.heap.size ≤ gb141)); clear HB; have HB := n0_; have BK141 := n1_; have GW141 := n2_; have GE141 := n3_; clear n0_ n1_ n2_ n3_; clear hb hbox hg; have hcz5_0 : w4.cell? ⟨gb141, 0, none⟩ = some (.slice A0_0 l0_0.length c0_0) := (blk_cell BK141.out 0).trans rfl; have hcz5_1 : w4.cell? ⟨gb141, 1, none⟩ = some (.string a0_1) := (blk_cell BK141.out 1).trans rfl; have hcz5_2 : w4.cell? ⟨gb141, 2, none⟩ = some (.string a0_2) := (blk_cell BK141.out 2).trans rfl; have hcz5_3 : w4.cell? ⟨gb141, 3, none⟩ = some (.slice A0_3 l0_3.length c0_3) := (blk_cell BK141.out 3).trans rfl; have hfz5_0 := blk_frozen BK141.out 0; have hfz5_1 := blk_frozen BK141.out 1; have hfz5_2 := blk_frozen BK141.out 2; have hfz5_3 := blk_frozen BK141.out 3) | ((with_reducible refine gate_callee (f := 75) rfl ?_); refine goesL_ (some 10) rfl rfl Tryz.func75 (by kernel_rfl) rfl #[.slice A0_0 l0_0.length c0_0, .string a0_2, .int .u8 a1] rfl hB1 ?_; (with_reducible refine (lockstitchref05_at.calls k _ _ l0_0 a0_2 a1 t142 _ ?side1 ?side2 A3.out).mono ?_); (case side1 => repeat (first | exact (Kd.C_below HR0_0.out HB.out) | (with_reducible refine Kd.C_alloc ?_ _) | (with_reducible refine Kd.C_drewN ?_ _) | (with_reducible refine Kd.C_drew ?_))); (case side2 => exact HC0_0.out); rintro e w' ⟨rfl, ⟨nd, rfl⟩⟩; refine ⟨_, rfl, ?_⟩))
  go_ret; exact ⟨by first | rfl | (simp [errW_none, errW_some] <;> rfl) | (simp [*, errW_none, errW_some] <;> rfl), by repeat (first | (with_reducible first | exact HB.out | apply below_alloc | apply pw_below_drewN | apply below_drew1 | refine below_set ?_ GE141.out) | exact HB.out)⟩
end Go.Proofs.YtocechpmgfhenaaGreatDoor.F

namespace Go.Proofs.YtocechpmgfhenaaGreatDoor.F
open Go.RowKit Go.Proofs.YtocechpmgfhenaaGreatDoorW.PrintWords Go.Proofs.YtocechpmgfhenaaGreatDoorW.PrintLast Go.Proofs.YtocechpmgfhenaaGreatDoorW.PrintMore
attribute [local go_sem] max2_int min2_int max_two min_two max_three min_three max_four min_four
set_option linter.unusedVariables false
set_option linter.unusedSimpArgs false
def lockstitchref05_kinds.j0 : Nat → Int → Int → Int → Bool → List ByteArray → ByteArray → ByteArray → List (S46) → Int → Int → Int → Int → Int → Option (Bool)
  | 0, _, _, _, _, _, _, _, _, _, _, _, _, _ => none
  | k + 1, x5, x6, x16, x17, x144000, x144001, x144002, x144003, x145000, x145001, x145002, x145003, x145004 => if x17 = true then (some (decide (x5 ≥ 0))) else (if x16 = 7 then ((lockstitchref05_one.f x5 x6).bind fun t147 => (some t147)) else (if x16 = 15 then ((lockstitchref05_Local.f k x144000 x144001 x144002 x144003 x145003).bind fun t148 => ((lockstitchref05_one.f x6 t148).bind fun t149 => (some t149))) else (if x16 = 8 then (if x6 ≥ 0 then ((lockstitchref05_number.f k x144000 x144001 x144002 x144003 x6 x145004).bind fun t150 => (some t150)) else (some false)) else (if x16 = 9 then (if x5 ≥ 0 then ((lockstitchref05_number.f k x144000 x144001 x144002 x144003 x5 x145004).bind fun t151 => (some t151)) else (some false)) else (if x16 = 10 then (if x6 ≥ 0 then ((lockstitchref05_to.f k x144000 x144001 x144002 x144003 x6 x145004).bind fun t152 => ((lockstitchref05_one.f x5 t152).bind fun t153 => (some t153))) else (some false)) else (if x16 = 11 then (if x5 ≥ 0 then ((lockstitchref05_to.f k x144000 x144001 x144002 x144003 x5 x145004).bind fun t154 => ((lockstitchref05_one.f x6 t154).bind fun t155 => (some t155))) else (some false)) else (if x16 = 12 then ((lockstitchref05_Glob.f k x144000 x144001 x144002 x144003 x145002).bind fun t156 => ((lockstitchref05_one.f x5 t156).bind fun t157 => (some t157))) else (if x16 = 13 then ((lockstitchref05_Glob.f k x144000 x144001 x144002 x144003 x145001).bind fun t158 => ((lockstitchref05_one.f x6 t158).bind fun t159 => (some t159))) else (some true)))))))))
def lockstitchref05_kinds.f (k : Nat) (l0_0 : List ByteArray) (a0_1 : ByteArray) (a0_2 : ByteArray) (l0_3 : List (S46)) (a1_0 : Int) (a1_1 : Int) (a1_2 : Int) (a1_3 : Int) (a1_4 : Int) : Option (Bool) := (lockstitchref05_Local.f k l0_0 a0_1 a0_2 l0_3 a1_1).bind fun t145 => ((lockstitchref05_Local.f k l0_0 a0_1 a0_2 l0_3 a1_2).bind fun t146 => (if a1_0 = 5 then (lockstitchref05_kinds.j0 k t145 t146 a1_0 (a1_0 == 5) l0_0 a0_1 a0_2 l0_3 a1_0 a1_1 a1_2 a1_3 a1_4) else (lockstitchref05_kinds.j0 k t145 t146 a1_0 (a1_0 == 6) l0_0 a0_1 a0_2 l0_3 a1_0 a1_1 a1_2 a1_3 a1_4)))
def lockstitchref05_kinds.T1 : Bool × List (List Nat × List Nat) := (true, [([], []), ([], []), ([1], [1]), ([0, 2], [0, 2]), ([], []), ([], []), ([5], [5]), ([4, 6, 3], [4, 6]), ([3, 7, 0, 1, 2, 3], [3]), ([7, 8, 0, 1, 2, 3, 4, 5, 6, 7, 8], [7])])
def lockstitchref05_kinds.B1 : List Nat := [0, 0, 2, 7, 0, 0, 32, 127, 255, 511]
end Go.Proofs.YtocechpmgfhenaaGreatDoor.F

namespace Go.Proofs.YtocechpmgfhenaaGreatDoor.F
open Go.RowKit Go.Proofs.YtocechpmgfhenaaGreatDoorW.PrintWords Go.Proofs.YtocechpmgfhenaaGreatDoorW.PrintLast Go.Proofs.YtocechpmgfhenaaGreatDoorW.PrintMore
attribute [local go_sem] max2_int min2_int max_two min_two max_three min_three max_four min_four
set_option linter.unusedVariables false
set_option linter.unusedSimpArgs false
def lockstitchref05_ints.j0 : Nat → Int → Bool → Int → Int → Int → Int → Int → Option (Bool)
  | 0, _, _, _, _, _, _, _ => none
  | k + 1, x4, x5, x161000, x161001, x161002, x161003, x161004 => if x5 = true then (some (decide (x161001 < 8))) else (if x4 = 2 then (if x161001 < 8 then (if x161002 < 8 then (some (decide (x161003 < 8))) else (some false)) else (some false)) else (if x4 = 9 then (some (decide (x161002 < 8))) else (some true)))
def lockstitchref05_ints.f (k : Nat) (a0_0 : Int) (a0_1 : Int) (a0_2 : Int) (a0_3 : Int) (a0_4 : Int) : Option (Bool) := if a0_0 = 1 then (lockstitchref05_ints.j0 k a0_0 (a0_0 == 1) a0_0 a0_1 a0_2 a0_3 a0_4) else (if a0_0 = 4 then (lockstitchref05_ints.j0 k a0_0 (a0_0 == 4) a0_0 a0_1 a0_2 a0_3 a0_4) else (if a0_0 = 8 then (lockstitchref05_ints.j0 k a0_0 (a0_0 == 8) a0_0 a0_1 a0_2 a0_3 a0_4) else (if a0_0 = 14 then (lockstitchref05_ints.j0 k a0_0 (a0_0 == 14) a0_0 a0_1 a0_2 a0_3 a0_4) else (lockstitchref05_ints.j0 k a0_0 (a0_0 == 15) a0_0 a0_1 a0_2 a0_3 a0_4))))
def lockstitchlaw04_Few.l0 : Nat → Int → List ByteArray → Int → Int → List ByteArray → ByteArray → ByteArray → List (S46) → Option (Bool)
  | 0, _, _, _, _, _, _, _, _ => none
  | k + 1, x3, x14, x15, x16, x162000, x162001, x162002, x162003 => if x16 < x15 then (if 0 ≤ x16 then (if x16 < (x14.length : Int) then (lockstitchlaw04_Few.l0 k (wrap64 (x3 + (wrap64 (((rdOf ByteArray.empty x14 x16).size : Int) + 1)))) x14 x15 (wrap64 (x16 + 1)) x162000 x162001 x162002 x162003) else (none)) else (none)) else (if x3 ≤ 500 then (some (decide ((x162003.length : Int) ≤ 210))) else (some false))
def lockstitchlaw04_Few.f (k : Nat) (l0_0 : List ByteArray) (a0_1 : ByteArray) (a0_2 : ByteArray) (l0_3 : List (S46)) : Option (Bool) := lockstitchlaw04_Few.l0 k (wrap64 ((a0_1.size : Int) + (a0_2.size : Int))) l0_0 (l0_0.length : Int) 0 l0_0 a0_1 a0_2 l0_3
set_option maxHeartbeats 8000000 in
set_option maxRecDepth 100000 in
theorem lockstitchlaw04_Few.calls (k : Nat) (A0_0 : Option Addr) (c0_0 : Nat) (l0_0 : List ByteArray) (a0_1 : ByteArray) (a0_2 : ByteArray) (A0_3 : Option Addr) (c0_3 : Nat) (l0_3 : List (S46)) (r : Bool) (w : World) (hr0_0 : Kd.C Kd.string w A0_0 l0_0.length l0_0) (hc0_0 : l0_0.length ≤ c0_0) (hr0_3 : Kd.C k46 w A0_3 l0_3.length l0_3) (hc0_3 : l0_3.length ≤ c0_3) (h : lockstitchlaw04_Few.f k l0_0 a0_1 a0_2 l0_3 = some r) :
    Calls Tryz.prog 21 #[.agg #[.slice A0_0 l0_0.length c0_0, .string a0_1, .string a0_2, .slice A0_3 l0_3.length c0_3]] w fun e w' => e = .returned (.bool r) ∧ Below w.heap.size w w' := by
  have hu25 := Tryz.underlying25; have HR0_0 := Aside0.mk hr0_0; have HC0_0 := Aside0.mk hc0_0; clear hr0_0 hc0_0; have HR0_3 := Aside0.mk hr0_3; have HC0_3 := Aside0.mk hc0_3; clear hr0_3 hc0_3; have HB := Aside0.mk (Below.refl w.heap.size w); have H : (lockstitchlaw04_Few.l0 k (wrap64 ((a0_1.size : Int) + (a0_2.size : Int))) l0_0 (l0_0.length : Int) 0 l0_0 a0_1 a0_2 l0_3) = some r := h; clear h; have H' := Aside0.mk H; clear H
  go_enter Tryz.func21, Tryz.ntmps21
  go_wp2_with (first | ((with_reducible refine gate_dst (N := 1) rfl ?_); (try (refine gate_guard (by rfl) ?_; dsimp only)); refine box_event ?hg (N := 1) ?hd (cs := #[.slice A0_0 l0_0.length c0_0, .string a0_1, .string a0_2, .slice A0_3 l0_3.length c0_3]) (t := 25) ?hr ?_; (case hd => rfl); (case hg => rfl); (case hr => first | (go_simp; done) | (go_simp; rfl)); intro gb161 hg w2 hbox hb; have n0_ := Aside0.mk (below_step hB52 hb); have n1_ := Aside0.mk (hbox); have n2_ := Aside0.mk ((by rw [hg]; exact (below_size hB52) : w.heap.size ≤ gb161)); have n3_ := Aside0.mk ((by rw [hg]; exact (below_size hB52) : w.heap.size ≤ gb161)); clear HB; have HB := n0_; have BK161 := n1_; have GW161 := n2_; have GE161 := n3_; clear n0_ n1_ n2_ n3_; clear hb hbox hg; have hcz3_0 : w2.cell? ⟨gb161, 0, none⟩ = some (.slice A0_0 l0_0.length c0_0) := (blk_cell BK161.out 0).trans rfl; have hcz3_1 : w2.cell? ⟨gb161, 1, none⟩ = some (.string a0_1) := (blk_cell BK161.out 1).trans rfl; have hcz3_2 : w2.cell? ⟨gb161, 2, none⟩ = some (.string a0_2) := (blk_cell BK161.out 2).trans rfl; have hcz3_3 : w2.cell? ⟨gb161, 3, none⟩ = some (.slice A0_3 l0_3.length c0_3) := (blk_cell BK161.out 3).trans rfl; have hfz3_0 := blk_frozen BK161.out 0; have hfz3_1 := blk_frozen BK161.out 1; have hfz3_2 := blk_frozen BK161.out 2; have hfz3_3 := blk_frozen BK161.out 3))
  go_loopg [3, 16] k (fun kq v3 v16 w' => ∃ (x3_1 : Int) (x16_1 : Int), v3 = .int .i64 x3_1 ∧ v16 = .int .i64 x16_1 ∧ Aside0 (lockstitchlaw04_Few.l0 kq x3_1 l0_0 (l0_0.length : Int) x16_1 l0_0 a0_1 a0_2 l0_3 = some r) ∧ Aside0 (kq ≤ k) ∧ Aside0 (w'.heap[gb161]? = some (.cells #[(.slice A0_0 l0_0.length c0_0), .string a0_1, .string a0_2, (.slice A0_3 l0_3.length c0_3)] 25 (0, 0))) ∧ Aside0 (Below w.heap.size w w'))
  case atStart => exact ⟨(wrap64 ((a0_1.size : Int) + (a0_2.size : Int))), (0), hB25, hB25, H', ⟨Nat.le_refl _⟩, ⟨hB15⟩, ⟨hB43⟩⟩
  case round =>
    clear H'; (try clear c2); (try clear p2); (try clear hcz3_0); (try clear hcz3_1); (try clear hcz3_2); (try clear hcz3_3); (try clear hfz3_0); (try clear hfz3_1); (try clear hfz3_2); (try clear hfz3_3); obtain ⟨x3_1, x16_1, rfl, rfl, HA, HK1, BK161, HB⟩ := hrel
    cases gk with
    | zero => exact absurd HA.out (by simp [lockstitchlaw04_Few.l0])
    | succ k1 =>
      have H := HA.out; clear HA; simp only [lockstitchlaw04_Few.l0] at H; by_cases c4 : x16_1 < (l0_0.length : Int)
      rotate_left
      · rw [if_neg c4] at H; have c4b0 : decide (x16_1 < (l0_0.length : Int)) = false := decide_eq_false c4; clear c4; by_cases c7 : x3_1 ≤ 500
        rotate_left
        · rw [if_neg c7] at H; have c7b0 : decide (x3_1 ≤ 500) = false := decide_eq_false c7; clear c7; obtain rfl := Option.some.inj H; go_wp2; go_ret; exact ⟨by first | rfl | (simp [errW_none, errW_some] <;> rfl) | (simp [*, errW_none, errW_some] <;> rfl), hB43⟩
        rw [if_pos c7] at H; have c7b0 : decide (x3_1 ≤ 500) = true := decide_eq_true c7; clear c7; obtain rfl := Option.some.inj H; have hcz8_0 : wr.cell? ⟨gb161, 0, none⟩ = some (.slice A0_0 l0_0.length c0_0) := (blk_cell BK161.out 0).trans rfl; have hcz8_1 : wr.cell? ⟨gb161, 1, none⟩ = some (.string a0_1) := (blk_cell BK161.out 1).trans rfl; have hcz8_2 : wr.cell? ⟨gb161, 2, none⟩ = some (.string a0_2) := (blk_cell BK161.out 2).trans rfl; have hcz8_3 : wr.cell? ⟨gb161, 3, none⟩ = some (.slice A0_3 l0_3.length c0_3) := (blk_cell BK161.out 3).trans rfl; have hfz8_0 := blk_frozen BK161.out 0; have hfz8_1 := blk_frozen BK161.out 1; have hfz8_2 := blk_frozen BK161.out 2; have hfz8_3 := blk_frozen BK161.out 3; go_wp2; go_ret; exact ⟨by first | rfl | (simp [errW_none, errW_some] <;> rfl) | (simp [*, errW_none, errW_some] <;> rfl), hB43⟩
      rw [if_pos c4] at H; have c4b0 : decide (x16_1 < (l0_0.length : Int)) = true := decide_eq_true c4; clear c4; by_cases c5 : 0 ≤ x16_1
      rotate_left
      · rw [if_neg c5] at H; exact absurd H (by simp)
      rw [if_pos c5] at H; have c5b0 : decide (0 ≤ x16_1) = true := decide_eq_true c5; clear c5; by_cases c6 : x16_1 < (l0_0.length : Int)
      rotate_left
      · rw [if_neg c6] at H; exact absurd H (by simp)
      rw [if_pos c6] at H; have c6b0 : decide (x16_1 < (l0_0.length : Int)) = true := decide_eq_true c6; clear c6; have H' := Aside0.mk H; clear H; have p162 : 0 ≤ (x16_1 : Int) := of_decide_eq_true hB24; have q162 : x16_1 < (l0_0.length : Int) := of_decide_eq_true hB24; obtain ⟨ad162, e162, hx162_0⟩ := Kd.at_string HR0_0.out x16_1 p162 q162
      cases e162
      replace hx162_0 := (HB.out.cell (World.block_lt_of_cell? w _ hx162_0)).trans hx162_0; replace p162 := eq_true p162; replace q162 := eq_true q162; go_wp2; go_roundg k1
      case measure => have := HK1.out; omega
      case rel => exact ⟨(wrap64 (x3_1 + (wrap64 (((rdOf ByteArray.empty l0_0 x16_1).size : Int) + 1)))), (wrap64 (x16_1 + 1)), hB25, hB25, H', ⟨by have := HK1.out; omega⟩, ⟨hB15⟩, ⟨hB43⟩⟩
mutual
def lockstitchref07_Next.j0 : Nat → Int → Bool → List ByteArray → ByteArray → ByteArray → List (S46) → Option (List Int)
  | 0, _, _, _, _, _, _ => none
  | k + 1, x1, x15, x164000, x164001, x164002, x164003 => if x15 = true then (some ([] : List Int)) else (if 0 ≤ x1 then (if x1 < (x164003.length : Int) then (if ((rd_T46 x164003 x1).f0) = 3 then (some (([(rd_T46 x164003 x1).f4] : List Int))) else (if ((rd_T46 x164003 x1).f0) = 4 then (lockstitchref07_Next.j1 k x1 ((rd_T46 x164003 x1).f4) (decide (((rd_T46 x164003 x1).f4) < (wrap64 (x1 + 1)))) ((rd_T46 x164003 x1).f0) ((rd_T46 x164003 x1).f1) ((rd_T46 x164003 x1).f2) ((rd_T46 x164003 x1).f3) ((rd_T46 x164003 x1).f4)) else (lockstitchref07_Next.j1 k x1 ((rd_T46 x164003 x1).f4) false ((rd_T46 x164003 x1).f0) ((rd_T46 x164003 x1).f1) ((rd_T46 x164003 x1).f2) ((rd_T46 x164003 x1).f3) ((rd_T46 x164003 x1).f4)))) else (none)) else (none))
def lockstitchref07_Next.j1 : Nat → Int → Int → Bool → Int → Int → Int → Int → Int → Option (List Int)
  | 0, _, _, _, _, _, _, _, _ => none
  | k + 1, x1, x6, x29, x166000, x166001, x166002, x166003, x166004 => if x29 = true then (some (([x6, wrap64 (x1 + 1)] : List Int))) else (if x166000 = 4 then (if x6 > (wrap64 (x1 + 1)) then (some (([wrap64 (x1 + 1), x6] : List Int))) else (some (([wrap64 (x1 + 1)] : List Int)))) else (some (([wrap64 (x1 + 1)] : List Int))))
end
def lockstitchref07_Next.f (k : Nat) (l0_0 : List ByteArray) (a0_1 : ByteArray) (a0_2 : ByteArray) (l0_3 : List (S46)) (a1 : Int) : Option (List Int) := if a1 < 0 then (lockstitchref07_Next.j0 k a1 true l0_0 a0_1 a0_2 l0_3) else (lockstitchref07_Next.j0 k a1 (decide (a1 ≥ (l0_3.length : Int))) l0_0 a0_1 a0_2 l0_3)
theorem lockstitchref07_Next.mono_l : ∀ k, (∀ y0 y1 y2 y3 y4 y5, LeO (lockstitchref07_Next.j0 k y0 y1 y2 y3 y4 y5) (lockstitchref07_Next.j0 (k + 1) y0 y1 y2 y3 y4 y5)) ∧ (∀ y0 y1 y2 y3 y4 y5 y6 y7, LeO (lockstitchref07_Next.j1 k y0 y1 y2 y3 y4 y5 y6 y7) (lockstitchref07_Next.j1 (k + 1) y0 y1 y2 y3 y4 y5 y6 y7))
  | 0 => ⟨fun _ _ _ _ _ _ r h => by simp [lockstitchref07_Next.j0] at h, fun _ _ _ _ _ _ _ _ r h => by simp [lockstitchref07_Next.j1] at h⟩
  | k + 1 => by
    obtain ⟨ih0, ih1⟩ := lockstitchref07_Next.mono_l k; refine ⟨?_, ?_⟩
    · intro y0 y1 y2 y3 y4 y5
      unfold lockstitchref07_Next.j0
      repeat' first
      | (with_reducible exact ih0 _ _ _ _ _ _)
      | (with_reducible exact ih1 _ _ _ _ _ _ _ _)
      | (with_reducible exact LeO.refl _)
      | (with_reducible exact LeO.none _)
      | (with_reducible refine LeO.ite ?_ ?_)
      | (with_reducible refine LeO.bind ?_ (fun _ => ?_))
      | exact ih0 _ _ _ _ _ _
      | exact ih1 _ _ _ _ _ _ _ _
      | exact LeO.none _
      | refine LeO.ite ?_ ?_
      | refine LeO.bind ?_ (fun _ => ?_)
    · intro y0 y1 y2 y3 y4 y5 y6 y7
      unfold lockstitchref07_Next.j1
      repeat' first
      | (with_reducible exact ih0 _ _ _ _ _ _)
      | (with_reducible exact ih1 _ _ _ _ _ _ _ _)
      | (with_reducible exact LeO.refl _)
      | (with_reducible exact LeO.none _)
      | (with_reducible refine LeO.ite ?_ ?_)
      | (with_reducible refine LeO.bind ?_ (fun _ => ?_))
      | exact ih0 _ _ _ _ _ _
      | exact ih1 _ _ _ _ _ _ _ _
      | exact LeO.none _
      | refine LeO.ite ?_ ?_
      | refine LeO.bind ?_ (fun _ => ?_)
theorem lockstitchref07_Next.mono : ∀ a0 a1 a2 a3 a4 k, LeO (lockstitchref07_Next.f k a0 a1 a2 a3 a4) (lockstitchref07_Next.f (k + 1) a0 a1 a2 a3 a4) := by
  intro a0 a1 a2 a3 a4 k; obtain ⟨ih0, ih1⟩ := lockstitchref07_Next.mono_l k
  unfold lockstitchref07_Next.f
  repeat' first
      | (with_reducible exact ih0 _ _ _ _ _ _)
      | (with_reducible exact ih1 _ _ _ _ _ _ _ _)
      | (with_reducible exact LeO.refl _)
      | (with_reducible exact LeO.none _)
      | (with_reducible refine LeO.ite ?_ ?_)
      | (with_reducible refine LeO.bind ?_ (fun _ => ?_))
      | exact ih0 _ _ _ _ _ _
      | exact ih1 _ _ _ _ _ _ _ _
      | exact LeO.none _
      | refine LeO.ite ?_ ?_
      | refine LeO.bind ?_ (fun _ => ?_)
end Go.Proofs.YtocechpmgfhenaaGreatDoor.F

namespace Go.Proofs.YtocechpmgfhenaaGreatDoor.F
open Go.RowKit Go.Proofs.YtocechpmgfhenaaGreatDoorW.PrintWords Go.Proofs.YtocechpmgfhenaaGreatDoorW.PrintLast Go.Proofs.YtocechpmgfhenaaGreatDoorW.PrintMore
attribute [local go_sem] max2_int min2_int max_two min_two max_three min_three max_four min_four
set_option linter.unusedVariables false
set_option linter.unusedSimpArgs false
mutual
def lockstitchref07_Reach.j0 : Nat → Int → Bool → List ByteArray → ByteArray → ByteArray → List (S46) → Option (List Bool)
  | 0, _, _, _, _, _, _ => none
  | k + 1, x1, x19, x182000, x182001, x182002, x182003 => if x19 = true then (some ([] : List Bool)) else (if 0 ≤ (wrap64 ((x182003.length : Int) + 1)) then (if (wrap64 ((x182003.length : Int) + 1) : Int).toNat ≤ 281474976710656 then (lockstitchref07_Reach.l0 k x1 (List.replicate (wrap64 ((x182003.length : Int) + 1) : Int).toNat false) 0 x182000 x182001 x182002 x182003) else (none)) else (none))
def lockstitchref07_Reach.l0 : Nat → Int → List Bool → Int → List ByteArray → ByteArray → ByteArray → List (S46) → Option (List Bool)
  | 0, _, _, _, _, _, _, _ => none
  | k + 1, x1, x5, x6, x182000, x182001, x182002, x182003 => if x6 ≤ (x182003.length : Int) then (lockstitchref07_Reach.l1 k x1 x5 x6 0 x182000 x182001 x182002 x182003) else (some x5)
def lockstitchref07_Reach.l1 : Nat → Int → List Bool → Int → Int → List ByteArray → ByteArray → ByteArray → List (S46) → Option (List Bool)
  | 0, _, _, _, _, _, _, _, _ => none
  | k + 1, x1, x5, x6, x7, x182000, x182001, x182002, x182003 => if x7 ≤ (x182003.length : Int) then ((lockstitchref07_Next.f k x182000 x182001 x182002 x182003 x7).bind fun t185 => (lockstitchref07_Reach.l2 k x1 x5 x6 x7 t185 0 x182000 x182001 x182002 x182003)) else (lockstitchref07_Reach.l0 k x1 x5 (wrap64 (x6 + 1)) x182000 x182001 x182002 x182003)
def lockstitchref07_Reach.l2 : Nat → Int → List Bool → Int → Int → List Int → Int → List ByteArray → ByteArray → ByteArray → List (S46) → Option (List Bool)
  | 0, _, _, _, _, _, _, _, _, _, _ => none
  | k + 1, x1, x5, x6, x7, x8, x9, x182000, x182001, x182002, x182003 => if x9 < (x8.length : Int) then (if x7 = x1 then (if 0 ≤ x9 then (if 0 ≤ (rd x8 x9) then (if (rd x8 x9) < (x5.length : Int) then (lockstitchref07_Reach.l2 k x1 (x5.set ((rd x8 x9) : Int).toNat true) x6 x7 x8 (wrap64 (x9 + 1)) x182000 x182001 x182002 x182003) else (none)) else (none)) else (none)) else (if 0 ≤ x7 then (if x7 < (x5.length : Int) then (if rdOf false x5 x7 = true then (if 0 ≤ x9 then (if 0 ≤ (rd x8 x9) then (if (rd x8 x9) < (x5.length : Int) then (lockstitchref07_Reach.l2 k x1 (x5.set ((rd x8 x9) : Int).toNat true) x6 x7 x8 (wrap64 (x9 + 1)) x182000 x182001 x182002 x182003) else (none)) else (none)) else (none)) else (lockstitchref07_Reach.l2 k x1 x5 x6 x7 x8 (wrap64 (x9 + 1)) x182000 x182001 x182002 x182003)) else (none)) else (none))) else (lockstitchref07_Reach.l1 k x1 x5 x6 (wrap64 (x7 + 1)) x182000 x182001 x182002 x182003)
end
def lockstitchref07_Reach.f (k : Nat) (l0_0 : List ByteArray) (a0_1 : ByteArray) (a0_2 : ByteArray) (l0_3 : List (S46)) (a1 : Int) : Option (List Bool) := if a1 < 0 then (lockstitchref07_Reach.j0 k a1 true l0_0 a0_1 a0_2 l0_3) else (lockstitchref07_Reach.j0 k a1 (decide (a1 > (l0_3.length : Int))) l0_0 a0_1 a0_2 l0_3)
def lockstitchref07_Loops.f (k : Nat) (l0_0 : List ByteArray) (a0_1 : ByteArray) (a0_2 : ByteArray) (l0_3 : List (S46)) (a1 : Int) : Option (Bool) := (lockstitchref07_Reach.f k l0_0 a0_1 a0_2 l0_3 a1).bind fun t194 => (if a1 ≥ 0 then (if a1 < (t194.length : Int) then (if 0 ≤ a1 then (some (rdOf false t194 a1)) else (none)) else (some false)) else (some false))
def lockstitchref07_Safe.f (l0_0 : List ByteArray) (a0_1 : ByteArray) (a0_2 : ByteArray) (l0_3 : List (S46)) (a1 : Int) : Option (Bool) := if a1 < 0 then (some false) else (if a1 ≥ (l0_3.length : Int) then (some false) else (if 0 ≤ a1 then (if a1 < (l0_3.length : Int) then (if ((rd_T46 l0_3 a1).f0) = 5 then (some true) else (if ((rd_T46 l0_3 a1).f0) = 3 then (some (decide (((rd_T46 l0_3 a1).f4) ≤ a1))) else (if ((rd_T46 l0_3 a1).f0) = 4 then (some (decide (((rd_T46 l0_3 a1).f4) ≤ a1))) else (some false)))) else (none)) else (none)))
end Go.Proofs.YtocechpmgfhenaaGreatDoor.F

namespace Go.Proofs.YtocechpmgfhenaaGreatDoor.F
open Go.RowKit Go.Proofs.YtocechpmgfhenaaGreatDoorW.PrintWords Go.Proofs.YtocechpmgfhenaaGreatDoorW.PrintLast Go.Proofs.YtocechpmgfhenaaGreatDoorW.PrintMore
attribute [local go_sem] max2_int min2_int max_two min_two max_three min_three max_four min_four
set_option linter.unusedVariables false
set_option linter.unusedSimpArgs false
def flow_Safe.j0 : Nat → Int → Bool → List ByteArray → ByteArray → ByteArray → List (S46) → Option (Bool)
  | 0, _, _, _, _, _, _ => none
  | k + 1, x1, x14, x202000, x202001, x202002, x202003 => if x14 = true then (some false) else (if 0 ≤ x1 then (if x1 < (x202003.length : Int) then (if ((rd_T46 x202003 x1).f0) = 5 then (some true) else (if ((rd_T46 x202003 x1).f0) = 3 then (some (decide (((rd_T46 x202003 x1).f4) ≤ x1))) else (if ((rd_T46 x202003 x1).f0) = 4 then (some (decide (((rd_T46 x202003 x1).f4) ≤ x1))) else (some false)))) else (none)) else (none))
def flow_Safe.f (k : Nat) (l0_0 : List ByteArray) (a0_1 : ByteArray) (a0_2 : ByteArray) (l0_3 : List (S46)) (a1 : Int) : Option (Bool) := if a1 < 0 then (flow_Safe.j0 k a1 true l0_0 a0_1 a0_2 l0_3) else (flow_Safe.j0 k a1 (decide (a1 ≥ (l0_3.length : Int))) l0_0 a0_1 a0_2 l0_3)
end Go.Proofs.YtocechpmgfhenaaGreatDoor.F

namespace Go.Proofs.YtocechpmgfhenaaGreatDoor.F
open Go.RowKit Go.Proofs.YtocechpmgfhenaaGreatDoorW.PrintWords Go.Proofs.YtocechpmgfhenaaGreatDoorW.PrintLast Go.Proofs.YtocechpmgfhenaaGreatDoorW.PrintMore
attribute [local go_sem] max2_int min2_int max_two min_two max_three min_three max_four min_four
set_option linter.unusedVariables false
set_option linter.unusedSimpArgs false
end Go.Proofs.YtocechpmgfhenaaGreatDoor.F

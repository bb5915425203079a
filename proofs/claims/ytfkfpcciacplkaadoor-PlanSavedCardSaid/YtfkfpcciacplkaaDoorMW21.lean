/- Texts of this claim, pruned to what it needs and laid together by prune.py. -/
import Derived.Test.YtfkfpcciacplkaaDoorProg
import Derived.Below
import Derived.Deep.Draws
import Derived.Deep.AppendLies
import Derived.Maps.AppendAt
import Derived.OwnWalk
import Derived.Laws.BytesArg
import Derived.Laws.MakeOwn
import Derived.Laws.OwnMore
import Derived.Deep.OwnRows
import Derived.Tactics
import Derived.Lib.ConvBytes
import Derived.Laws.Slices
import Derived.WalkKit
import Derived.KernelRfl
import Derived.RowKit3
import Derived.Deep.LoopGhost
import Derived.Deep.QuietTactic
import Derived.BigQuiet
import Derived.WideLaws
import Derived.Deep.DeepCutAuto
import Derived.Deep.CutBlock
import Derived.Deep.RegionHeld3
import Derived.Laws.Rows
import Derived.Lib.AppendStr
import Derived.ArgAppend
import Derived.Laws.IdiomCopy
import Derived.OrdersHeld
import Derived.Laws.BitsLemmas
import Derived.RowKit
import Derived.Test.YtfkfpcciacplkaaDoorMW0
import Derived.Test.YtfkfpcciacplkaaDoorMW1
import Derived.Test.YtfkfpcciacplkaaDoorMW2
import Derived.Test.YtfkfpcciacplkaaDoorMW3
import Derived.Test.YtfkfpcciacplkaaDoorMW4
import Derived.Test.YtfkfpcciacplkaaDoorMW5
import Derived.Test.YtfkfpcciacplkaaDoorMW6
import Derived.Test.YtfkfpcciacplkaaDoorMW7
import Derived.Test.YtfkfpcciacplkaaDoorMW8
import Derived.Test.YtfkfpcciacplkaaDoorMW9
import Derived.Test.YtfkfpcciacplkaaDoorMW10
import Derived.Test.YtfkfpcciacplkaaDoorMW11
import Derived.Test.YtfkfpcciacplkaaDoorMW12
import Derived.Test.YtfkfpcciacplkaaDoorMW13
import Derived.Test.YtfkfpcciacplkaaDoorMW14
import Derived.Test.YtfkfpcciacplkaaDoorMW15
import Derived.Test.YtfkfpcciacplkaaDoorMW16
import Derived.Test.YtfkfpcciacplkaaDoorMW17
import Derived.Test.YtfkfpcciacplkaaDoorMW18
import Derived.Test.YtfkfpcciacplkaaDoorMW19
import Derived.Test.YtfkfpcciacplkaaDoorMW20
namespace Go.Proofs.YtfkfpcciacplkaaDoor.F
open Go.RowKit Go.Proofs.YtfkfpcciacplkaaDoorW.PrintWords Go.Proofs.YtfkfpcciacplkaaDoorW.PrintLast Go.Proofs.YtfkfpcciacplkaaDoorW.PrintMore
attribute [local go_sem] max2_int min2_int max_two min_two max_three min_three max_four min_four
set_option linter.unusedVariables false
set_option linter.unusedSimpArgs false
def errW : Option Int → Value
  | none => .nilIface
  | some c => .iface 0 (.int .i64 c)
theorem errW_none : errW none = .nilIface := rfl
theorem errW_some (c : Int) : errW (some c) = .iface 0 (.int .i64 c) := rfl
structure S68 where
  f0 : Int
  f1 : Int
  f2 : Int
  f3 : Int
  f4 : Int
def z68 : S68 := ⟨(0 : Int), (0 : Int), (0 : Int), (0 : Int), (0 : Int)⟩
def k68 : Kd S68 := Kd.iso (Kd.pair (Kd.int .u8) (Kd.pair (Kd.int .u8) (Kd.pair (Kd.int .u8) (Kd.pair (Kd.int .u8) (Kd.int .i64))))) (fun x : S68 => (x.f0, x.f1, x.f2, x.f3, x.f4))
theorem k68_open {w : World} {x : S68} {cs : List Value} (h : k68.K w x cs) : cs = [.int .u8 x.f0, .int .u8 x.f1, .int .u8 x.f2, .int .u8 x.f3, .int .i64 x.f4] := by
  obtain ⟨_, _, rfl, rfl, ⟨_, _, rfl, rfl, ⟨_, _, rfl, rfl, ⟨_, _, rfl, rfl, rfl⟩⟩⟩⟩ := h; exact rfl
theorem k68_mk (w : World) (x : S68)  : k68.K w x [.int .u8 x.f0, .int .u8 x.f1, .int .u8 x.f2, .int .u8 x.f3, .int .i64 x.f4] := ⟨[.int .u8 x.f0], [.int .u8 x.f1, .int .u8 x.f2, .int .u8 x.f3, .int .i64 x.f4], rfl, rfl, ⟨[.int .u8 x.f1], [.int .u8 x.f2, .int .u8 x.f3, .int .i64 x.f4], rfl, rfl, ⟨[.int .u8 x.f2], [.int .u8 x.f3, .int .i64 x.f4], rfl, rfl, ⟨[.int .u8 x.f3], [.int .i64 x.f4], rfl, rfl, rfl⟩⟩⟩⟩
def rd_T68 (xs : List S68) (i : Int) : S68 := xs.getD i.toNat z68
theorem at_T68 {w : World} {A : Option Addr} {n : Nat} {xs : List S68} (h : Kd.C k68 w A n xs) (i : Int) (h0 : 0 ≤ i) (h1 : i < n) : ∃ ad , A = some ad ∧ w.cell? (ad.add (i.toNat * 5)) = some (.int .u8 (rd_T68 xs i).f0) ∧ w.cell? ⟨(ad.add (i.toNat * 5)).block, (ad.add (i.toNat * 5)).off + 1, none⟩ = some (.int .u8 (rd_T68 xs i).f1) ∧ w.cell? ⟨(ad.add (i.toNat * 5)).block, (ad.add (i.toNat * 5)).off + 2, none⟩ = some (.int .u8 (rd_T68 xs i).f2) ∧ w.cell? ⟨(ad.add (i.toNat * 5)).block, (ad.add (i.toNat * 5)).off + 3, none⟩ = some (.int .u8 (rd_T68 xs i).f3) ∧ w.cell? ⟨(ad.add (i.toNat * 5)).block, (ad.add (i.toNat * 5)).off + 4, none⟩ = some (.int .i64 (rd_T68 xs i).f4) := by
  obtain ⟨ad, c, e, _, hK, hc0⟩ := Kd.C_get h z68 i h0 h1; have hc : ∀ j u, c[j]? = some u → w.cell? (ad.add (i.toNat * 5 + j)) = some u := hc0; obtain rfl := k68_open hK; exact ⟨ad, e, hc 0 _ rfl, by rw [← add_field _ _ 1 (by omega)]; exact hc 1 _ rfl, by rw [← add_field _ _ 2 (by omega)]; exact hc 2 _ rfl, by rw [← add_field _ _ 3 (by omega)]; exact hc 3 _ rfl, by rw [← add_field _ _ 4 (by omega)]; exact hc 4 _ rfl⟩
end Go.Proofs.YtfkfpcciacplkaaDoor.F

namespace Go.Proofs.YtfkfpcciacplkaaDoor.F
open Go.RowKit Go.Proofs.YtfkfpcciacplkaaDoorW.PrintWords Go.Proofs.YtfkfpcciacplkaaDoorW.PrintLast Go.Proofs.YtfkfpcciacplkaaDoorW.PrintMore
attribute [local go_sem] max2_int min2_int max_two min_two max_three min_three max_four min_four
set_option linter.unusedVariables false
set_option linter.unusedSimpArgs false
def lockstitchref03_digit.f (a0 : Int) (a1 : Int) : Option (Int) := if a0 < 48 then (some (-1)) else (if ((a0 - 48) % 256) ≥ a1 then (some (-1)) else (some ((a0 - 48) % 256)))
mutual
def lockstitchref03_Right.l0 : Nat → List ByteArray → Int → Option (Bool)
  | 0, _, _ => none
  | k + 1, x0, x3 => if x3 < (x0.length : Int) then (if 0 ≤ x3 then (lockstitchref03_Right.l1 k x0 x3 (rdOf ByteArray.empty x0 x3) 0) else (none)) else (if (x0.length : Int) ≥ 1 then (some (decide ((x0.length : Int) ≤ 8))) else (some false))
def lockstitchref03_Right.l1 : Nat → List ByteArray → Int → ByteArray → Int → Option (Bool)
  | 0, _, _, _, _ => none
  | k + 1, x0, x3, x4, x5 => if x5 < (x4.size : Int) then (if 0 ≤ x5 then (if (bt x4 x5) = 105 then (lockstitchref03_Right.l1 k x0 x3 x4 (wrap64 (x5 + 1))) else ((lockstitchref03_digit.f (bt x4 x5) (x0.length : Int)).bind fun t102 => (if t102 < 0 then (some false) else (lockstitchref03_Right.l1 k x0 x3 x4 (wrap64 (x5 + 1)))))) else (none)) else (if (x4.size : Int) < 1 then (some false) else (if (x4.size : Int) > 6 then (some false) else (lockstitchref03_Right.l0 k x0 (wrap64 (x3 + 1)))))
end
def lockstitchref03_Right.f (k : Nat) (l0 : List ByteArray) : Option (Bool) := lockstitchref03_Right.l0 k l0 0
theorem lockstitchref03_Right.mono_l : ∀ k, (∀ y0 y1, LeO (lockstitchref03_Right.l0 k y0 y1) (lockstitchref03_Right.l0 (k + 1) y0 y1)) ∧ (∀ y0 y1 y2 y3, LeO (lockstitchref03_Right.l1 k y0 y1 y2 y3) (lockstitchref03_Right.l1 (k + 1) y0 y1 y2 y3))
  | 0 => ⟨fun _ _ r h => by simp [lockstitchref03_Right.l0] at h, fun _ _ _ _ r h => by simp [lockstitchref03_Right.l1] at h⟩
  | k + 1 => by
    obtain ⟨ih0, ih1⟩ := lockstitchref03_Right.mono_l k; refine ⟨?_, ?_⟩
    · intro y0 y1
      unfold lockstitchref03_Right.l0
      repeat' first
      | (with_reducible exact ih0 _ _)
      | (with_reducible exact ih1 _ _ _ _)
      | (with_reducible exact LeO.refl _)
      | (with_reducible exact LeO.none _)
      | (with_reducible refine LeO.ite ?_ ?_)
      | (with_reducible refine LeO.bind ?_ (fun _ => ?_))
      | exact ih0 _ _
      | exact ih1 _ _ _ _
      | exact LeO.none _
      | refine LeO.ite ?_ ?_
      | refine LeO.bind ?_ (fun _ => ?_)
    · intro y0 y1 y2 y3
      unfold lockstitchref03_Right.l1
      repeat' first
      | (with_reducible exact ih0 _ _)
      | (with_reducible exact ih1 _ _ _ _)
      | (with_reducible exact LeO.refl _)
      | (with_reducible exact LeO.none _)
      | (with_reducible refine LeO.ite ?_ ?_)
      | (with_reducible refine LeO.bind ?_ (fun _ => ?_))
      | exact ih0 _ _
      | exact ih1 _ _ _ _
      | exact LeO.none _
      | refine LeO.ite ?_ ?_
      | refine LeO.bind ?_ (fun _ => ?_)
theorem lockstitchref03_Right.mono : ∀ a0 k, LeO (lockstitchref03_Right.f k a0) (lockstitchref03_Right.f (k + 1) a0) := by
  intro a0 k; obtain ⟨ih0, ih1⟩ := lockstitchref03_Right.mono_l k
  unfold lockstitchref03_Right.f
  repeat' first
      | (with_reducible exact ih0 _ _)
      | (with_reducible exact ih1 _ _ _ _)
      | (with_reducible exact LeO.refl _)
      | (with_reducible exact LeO.none _)
      | (with_reducible refine LeO.ite ?_ ?_)
      | (with_reducible refine LeO.bind ?_ (fun _ => ?_))
      | exact ih0 _ _
      | exact ih1 _ _ _ _
      | exact LeO.none _
      | refine LeO.ite ?_ ?_
      | refine LeO.bind ?_ (fun _ => ?_)
def lockstitchref03_Refs.l0 : Nat → List ByteArray → ByteArray → Int → Option (Bool)
  | 0, _, _, _ => none
  | k + 1, x0, x1, x5 => if x5 < (x1.size : Int) then (if 0 ≤ x5 then ((lockstitchref03_digit.f (bt x1 x5) (x0.length : Int)).bind fun t103 => (if t103 < 0 then (some false) else (lockstitchref03_Refs.l0 k x0 x1 (wrap64 (x5 + 1))))) else (none)) else ((lockstitchref03_Right.f k x0).bind fun t104 => (some t104))
def lockstitchref03_Refs.f (k : Nat) (l0 : List ByteArray) (a1 : ByteArray) : Option (Bool) := lockstitchref03_Refs.l0 k l0 a1 0
theorem lockstitchref03_Refs.mono_l : ∀ k, (∀ y0 y1 y2, LeO (lockstitchref03_Refs.l0 k y0 y1 y2) (lockstitchref03_Refs.l0 (k + 1) y0 y1 y2))
  | 0 => fun _ _ _ r h => by simp [lockstitchref03_Refs.l0] at h
  | k + 1 => by
    have ih0 := lockstitchref03_Refs.mono_l k
    · intro y0 y1 y2
      unfold lockstitchref03_Refs.l0
      repeat' first
      | (with_reducible exact ih0 _ _ _)
      | (with_reducible exact lockstitchref03_Right.mono _ _)
      | (with_reducible exact LeO.refl _)
      | (with_reducible exact LeO.none _)
      | (with_reducible refine LeO.ite ?_ ?_)
      | (with_reducible refine LeO.bind ?_ (fun _ => ?_))
      | exact ih0 _ _ _
      | exact lockstitchref03_Right.mono _ _
      | exact LeO.none _
      | refine LeO.ite ?_ ?_
      | refine LeO.bind ?_ (fun _ => ?_)
theorem lockstitchref03_Refs.mono : ∀ a0 a1 k, LeO (lockstitchref03_Refs.f k a0 a1) (lockstitchref03_Refs.f (k + 1) a0 a1) := by
  intro a0 a1 k; have ih0 := lockstitchref03_Refs.mono_l k
  unfold lockstitchref03_Refs.f
  repeat' first
      | (with_reducible exact ih0 _ _ _)
      | (with_reducible exact lockstitchref03_Right.mono _ _)
      | (with_reducible exact LeO.refl _)
      | (with_reducible exact LeO.none _)
      | (with_reducible refine LeO.ite ?_ ?_)
      | (with_reducible refine LeO.bind ?_ (fun _ => ?_))
      | exact ih0 _ _ _
      | exact lockstitchref03_Right.mono _ _
      | exact LeO.none _
      | refine LeO.ite ?_ ?_
      | refine LeO.bind ?_ (fun _ => ?_)
def lockstitchref03_is.f (k : Nat) (l0 : List ByteArray) (a1 : Int) : Option (Bool) := (lockstitchref03_Right.f k l0).bind fun t105 => (if t105 = true then (if a1 ≥ 0 then (some (decide (a1 < (l0.length : Int)))) else (some false)) else (some false))
theorem lockstitchref03_is.mono : ∀ a0 a1 k, LeO (lockstitchref03_is.f k a0 a1) (lockstitchref03_is.f (k + 1) a0 a1) := by
  intro a0 a1 k
  unfold lockstitchref03_is.f
  repeat' first
      | (with_reducible exact lockstitchref03_Right.mono _ _)
      | (with_reducible exact LeO.refl _)
      | (with_reducible exact LeO.none _)
      | (with_reducible refine LeO.ite ?_ ?_)
      | (with_reducible refine LeO.bind ?_ (fun _ => ?_))
      | exact lockstitchref03_Right.mono _ _
      | exact LeO.none _
      | refine LeO.ite ?_ ?_
      | refine LeO.bind ?_ (fun _ => ?_)
def lockstitchref03_Size.f (k : Nat) (l0 : List ByteArray) (a1 : Int) : Option (Int) := (lockstitchref03_is.f k l0 a1).bind fun t106 => (if t106 = true then (if 0 ≤ a1 then (if a1 < (l0.length : Int) then (some ((rdOf ByteArray.empty l0 a1).size : Int)) else (none)) else (none)) else (some 0))
theorem lockstitchref03_Size.mono : ∀ a0 a1 k, LeO (lockstitchref03_Size.f k a0 a1) (lockstitchref03_Size.f (k + 1) a0 a1) := by
  intro a0 a1 k
  unfold lockstitchref03_Size.f
  repeat' first
      | (with_reducible exact lockstitchref03_is.mono _ _ _)
      | (with_reducible exact LeO.refl _)
      | (with_reducible exact LeO.none _)
      | (with_reducible refine LeO.ite ?_ ?_)
      | (with_reducible refine LeO.bind ?_ (fun _ => ?_))
      | exact lockstitchref03_is.mono _ _ _
      | exact LeO.none _
      | refine LeO.ite ?_ ?_
      | refine LeO.bind ?_ (fun _ => ?_)
def lockstitchref03_To.f (k : Nat) (l0 : List ByteArray) (a1 : Int) (a2 : Int) : Option (Int) := (lockstitchref03_is.f k l0 a1).bind fun t108 => (if t108 = true then (if a2 < 0 then (some (-1)) else (if 0 ≤ a1 then (if a1 < (l0.length : Int) then (if a2 ≥ ((rdOf ByteArray.empty l0 a1).size : Int) then (some (-1)) else (if 0 ≤ a2 then (if a2 < ((rdOf ByteArray.empty l0 a1).size : Int) then ((lockstitchref03_digit.f (bt (rdOf ByteArray.empty l0 a1) a2) (l0.length : Int)).bind fun t111 => (some t111)) else (none)) else (none))) else (none)) else (none))) else (some (-1)))
theorem lockstitchref03_To.mono : ∀ a0 a1 a2 k, LeO (lockstitchref03_To.f k a0 a1 a2) (lockstitchref03_To.f (k + 1) a0 a1 a2) := by
  intro a0 a1 a2 k
  unfold lockstitchref03_To.f
  repeat' first
      | (with_reducible exact lockstitchref03_is.mono _ _ _)
      | (with_reducible exact LeO.refl _)
      | (with_reducible exact LeO.none _)
      | (with_reducible refine LeO.ite ?_ ?_)
      | (with_reducible refine LeO.bind ?_ (fun _ => ?_))
      | exact lockstitchref03_is.mono _ _ _
      | exact LeO.none _
      | refine LeO.ite ?_ ?_
      | refine LeO.bind ?_ (fun _ => ?_)
def lockstitchref04_rest.f (a0 : Int) : Option (ByteArray × ByteArray) := if a0 = 11 then (some ((⟨#[115, 116, 111, 114, 101, 112]⟩ : ByteArray), (⟨#[97, 110, 98]⟩ : ByteArray))) else (if a0 = 12 then (some ((⟨#[108, 111, 97, 100, 103]⟩ : ByteArray), (⟨#[97, 98]⟩ : ByteArray))) else (if a0 = 13 then (some ((⟨#[115, 116, 111, 114, 101, 103]⟩ : ByteArray), (⟨#[97, 98]⟩ : ByteArray))) else (if a0 = 14 then (some ((⟨#[112, 114, 105, 110, 116]⟩ : ByteArray), (⟨#[97]⟩ : ByteArray))) else (if a0 = 15 then (some ((⟨#[115, 97, 109, 101]⟩ : ByteArray), (⟨#[97, 98, 99]⟩ : ByteArray))) else (some ((⟨#[]⟩ : ByteArray), (⟨#[]⟩ : ByteArray)))))))
def lockstitchref04_shape.f (a0 : Int) : Option (ByteArray × ByteArray) := if a0 = 1 then (some ((⟨#[115, 101, 116]⟩ : ByteArray), (⟨#[97, 110]⟩ : ByteArray))) else (if a0 = 2 then (some ((⟨#[97, 100, 100]⟩ : ByteArray), (⟨#[97, 98, 99]⟩ : ByteArray))) else (if a0 = 3 then (some ((⟨#[106, 117, 109, 112]⟩ : ByteArray), (⟨#[110]⟩ : ByteArray))) else (if a0 = 4 then (some ((⟨#[122, 101, 114, 111]⟩ : ByteArray), (⟨#[97, 110]⟩ : ByteArray))) else (if a0 = 5 then (some ((⟨#[110, 101, 119]⟩ : ByteArray), (⟨#[97]⟩ : ByteArray))) else (if a0 = 6 then (some ((⟨#[110, 105, 108]⟩ : ByteArray), (⟨#[97]⟩ : ByteArray))) else (if a0 = 7 then (some ((⟨#[109, 111, 118, 101]⟩ : ByteArray), (⟨#[97, 98]⟩ : ByteArray))) else (if a0 = 8 then (some ((⟨#[108, 111, 97, 100, 105]⟩ : ByteArray), (⟨#[97, 98, 110]⟩ : ByteArray))) else (if a0 = 9 then (some ((⟨#[115, 116, 111, 114, 101, 105]⟩ : ByteArray), (⟨#[97, 110, 98]⟩ : ByteArray))) else (if a0 = 10 then (some ((⟨#[108, 111, 97, 100, 112]⟩ : ByteArray), (⟨#[97, 98, 110]⟩ : ByteArray))) else ((lockstitchref04_rest.f a0).bind fun bt112 => (some (bt112.1, bt112.2))))))))))))
end Go.Proofs.YtfkfpcciacplkaaDoor.F

namespace Go.Proofs.YtfkfpcciacplkaaDoor.F
open Go.RowKit Go.Proofs.YtfkfpcciacplkaaDoorW.PrintWords Go.Proofs.YtfkfpcciacplkaaDoorW.PrintLast Go.Proofs.YtfkfpcciacplkaaDoorW.PrintMore
attribute [local go_sem] max2_int min2_int max_two min_two max_three min_three max_four min_four
set_option linter.unusedVariables false
set_option linter.unusedSimpArgs false
def lockstitchref04_part.f (a0_0 : Int) (a0_1 : Int) (a0_2 : Int) (a0_3 : Int) (a0_4 : Int) (a1 : Int) : Option (Int) := if a1 = 97 then (some (wrap64 (a0_1))) else (if a1 = 98 then (some (wrap64 (a0_2))) else (if a1 = 99 then (some (wrap64 (a0_3))) else (some a0_4)))
mutual
def lockstitchref02_digits.j0 : Nat → ByteArray → ByteArray → Bool → Option (Bool)
  | 0, _, _, _ => none
  | k + 1, x0, x3, x13 => if x13 = true then (if 1 ≤ (x0.size : Int) then (lockstitchref02_digits.j1 k x0 (x0.extract 1 x0.size)) else (none)) else (lockstitchref02_digits.j1 k x0 x3)
def lockstitchref02_digits.j1 : Nat → ByteArray → ByteArray → Option (Bool)
  | 0, _, _ => none
  | k + 1, x0, x3 => if x3.toList = ([] : List UInt8) then (lockstitchref02_digits.j2 k x3 true) else (if 0 < (x3.size : Int) then (if (bt x3 0) = 48 then (if (x3.size : Int) > 1 then (lockstitchref02_digits.j2 k x3 true) else (lockstitchref02_digits.j2 k x3 (decide ((x0.size : Int) > 1)))) else (lockstitchref02_digits.j2 k x3 false)) else (none))
def lockstitchref02_digits.j2 : Nat → ByteArray → Bool → Option (Bool)
  | 0, _, _ => none
  | k + 1, x3, x32 => if x32 = true then (some false) else (lockstitchref02_digits.l0 k x3 0)
def lockstitchref02_digits.l0 : Nat → ByteArray → Int → Option (Bool)
  | 0, _, _ => none
  | k + 1, x3, x4 => if x4 < (x3.size : Int) then (if 0 ≤ x4 then (if (bt x3 x4) < 48 then (some false) else (if (bt x3 x4) > 57 then (some false) else (lockstitchref02_digits.l0 k x3 (wrap64 (x4 + 1))))) else (none)) else (some true)
end
def lockstitchref02_digits.f (k : Nat) (a0 : ByteArray) : Option (Bool) := if (a0.size : Int) > 0 then (if 0 < (a0.size : Int) then (lockstitchref02_digits.j0 k a0 a0 ((bt a0 0) == 45)) else (none)) else (lockstitchref02_digits.j0 k a0 a0 false)
theorem lockstitchref02_digits.mono_l : ∀ k, (∀ y0 y1 y2, LeO (lockstitchref02_digits.j0 k y0 y1 y2) (lockstitchref02_digits.j0 (k + 1) y0 y1 y2)) ∧ (∀ y0 y1, LeO (lockstitchref02_digits.j1 k y0 y1) (lockstitchref02_digits.j1 (k + 1) y0 y1)) ∧ (∀ y0 y1, LeO (lockstitchref02_digits.j2 k y0 y1) (lockstitchref02_digits.j2 (k + 1) y0 y1)) ∧ (∀ y0 y1, LeO (lockstitchref02_digits.l0 k y0 y1) (lockstitchref02_digits.l0 (k + 1) y0 y1))
  | 0 => ⟨fun _ _ _ r h => by simp [lockstitchref02_digits.j0] at h, fun _ _ r h => by simp [lockstitchref02_digits.j1] at h, fun _ _ r h => by simp [lockstitchref02_digits.j2] at h, fun _ _ r h => by simp [lockstitchref02_digits.l0] at h⟩
  | k + 1 => by
    obtain ⟨ih0, ih1, ih2, ih3⟩ := lockstitchref02_digits.mono_l k; refine ⟨?_, ?_, ?_, ?_⟩
    · intro y0 y1 y2
      unfold lockstitchref02_digits.j0
      repeat' first
      | (with_reducible exact ih0 _ _ _)
      | (with_reducible exact ih1 _ _)
      | (with_reducible exact ih2 _ _)
      | (with_reducible exact ih3 _ _)
      | (with_reducible exact LeO.refl _)
      | (with_reducible exact LeO.none _)
      | (with_reducible refine LeO.ite ?_ ?_)
      | (with_reducible refine LeO.bind ?_ (fun _ => ?_))
      | exact ih0 _ _ _
      | exact ih1 _ _
      | exact ih2 _ _
      | exact ih3 _ _
      | exact LeO.none _
      | refine LeO.ite ?_ ?_
      | refine LeO.bind ?_ (fun _ => ?_)
    · intro y0 y1
      unfold lockstitchref02_digits.j1
      repeat' first
      | (with_reducible exact ih0 _ _ _)
      | (with_reducible exact ih1 _ _)
      | (with_reducible exact ih2 _ _)
      | (with_reducible exact ih3 _ _)
      | (with_reducible exact LeO.refl _)
      | (with_reducible exact LeO.none _)
      | (with_reducible refine LeO.ite ?_ ?_)
      | (with_reducible refine LeO.bind ?_ (fun _ => ?_))
      | exact ih0 _ _ _
      | exact ih1 _ _
      | exact ih2 _ _
      | exact ih3 _ _
      | exact LeO.none _
      | refine LeO.ite ?_ ?_
      | refine LeO.bind ?_ (fun _ => ?_)
    · intro y0 y1
      unfold lockstitchref02_digits.j2
      repeat' first
      | (with_reducible exact ih0 _ _ _)
      | (with_reducible exact ih1 _ _)
      | (with_reducible exact ih2 _ _)
      | (with_reducible exact ih3 _ _)
      | (with_reducible exact LeO.refl _)
      | (with_reducible exact LeO.none _)
      | (with_reducible refine LeO.ite ?_ ?_)
      | (with_reducible refine LeO.bind ?_ (fun _ => ?_))
      | exact ih0 _ _ _
      | exact ih1 _ _
      | exact ih2 _ _
      | exact ih3 _ _
      | exact LeO.none _
      | refine LeO.ite ?_ ?_
      | refine LeO.bind ?_ (fun _ => ?_)
    · intro y0 y1
      unfold lockstitchref02_digits.l0
      repeat' first
      | (with_reducible exact ih0 _ _ _)
      | (with_reducible exact ih1 _ _)
      | (with_reducible exact ih2 _ _)
      | (with_reducible exact ih3 _ _)
      | (with_reducible exact LeO.refl _)
      | (with_reducible exact LeO.none _)
      | (with_reducible refine LeO.ite ?_ ?_)
      | (with_reducible refine LeO.bind ?_ (fun _ => ?_))
      | exact ih0 _ _ _
      | exact ih1 _ _
      | exact ih2 _ _
      | exact ih3 _ _
      | exact LeO.none _
      | refine LeO.ite ?_ ?_
      | refine LeO.bind ?_ (fun _ => ?_)
theorem lockstitchref02_digits.mono : ∀ a0 k, LeO (lockstitchref02_digits.f k a0) (lockstitchref02_digits.f (k + 1) a0) := by
  intro a0 k; obtain ⟨ih0, ih1, ih2, ih3⟩ := lockstitchref02_digits.mono_l k
  unfold lockstitchref02_digits.f
  repeat' first
      | (with_reducible exact ih0 _ _ _)
      | (with_reducible exact ih1 _ _)
      | (with_reducible exact ih2 _ _)
      | (with_reducible exact ih3 _ _)
      | (with_reducible exact LeO.refl _)
      | (with_reducible exact LeO.none _)
      | (with_reducible refine LeO.ite ?_ ?_)
      | (with_reducible refine LeO.bind ?_ (fun _ => ?_))
      | exact ih0 _ _ _
      | exact ih1 _ _
      | exact ih2 _ _
      | exact ih3 _ _
      | exact LeO.none _
      | refine LeO.ite ?_ ?_
      | refine LeO.bind ?_ (fun _ => ?_)
end Go.Proofs.YtfkfpcciacplkaaDoor.F

namespace Go.Proofs.YtfkfpcciacplkaaDoor.F
open Go.RowKit Go.Proofs.YtfkfpcciacplkaaDoorW.PrintWords Go.Proofs.YtfkfpcciacplkaaDoorW.PrintLast Go.Proofs.YtfkfpcciacplkaaDoorW.PrintMore
attribute [local go_sem] max2_int min2_int max_two min_two max_three min_three max_four min_four
set_option linter.unusedVariables false
set_option linter.unusedSimpArgs false
mutual
def lockstitchref02_Number.j0 : Nat → ByteArray → Bool → Option (Int × Int)
  | 0, _, _ => none
  | k + 1, x4, x5 => lockstitchref02_Number.l0 k x4 x5 0 0
def lockstitchref02_Number.j2 : Nat → ByteArray → Bool → Int → Option (Int × Int)
  | 0, _, _, _ => none
  | k + 1, x4, x5, x6 => if (x4.size : Int) > 19 then (lockstitchref02_Number.j3 k x5 x6 (decide ((x4.size : Int) > 19))) else (if x6 > 9223372036854775808 then (lockstitchref02_Number.j3 k x5 x6 (decide (x6 > 9223372036854775808))) else (if x6 = 9223372036854775808 then (lockstitchref02_Number.j3 k x5 x6 (!x5)) else (lockstitchref02_Number.j3 k x5 x6 false)))
def lockstitchref02_Number.j3 : Nat → Bool → Int → Bool → Option (Int × Int)
  | 0, _, _, _ => none
  | k + 1, x5, x6, x36 => if x36 = true then (some (0, 3)) else (if x5 = true then (some (wrap64 (-(wrap64 (x6))), 0)) else (some (wrap64 (x6), 0)))
def lockstitchref02_Number.l0 : Nat → ByteArray → Bool → Int → Int → Option (Int × Int)
  | 0, _, _, _, _ => none
  | k + 1, x4, x5, x6, x7 => if x7 < (x4.size : Int) then (if x7 < 19 then (if 0 ≤ x7 then (lockstitchref02_Number.l0 k x4 x5 (IntKind.u64.wrap ((IntKind.u64.wrap (x6 * 10)) + (((bt x4 x7) - 48) % 256))) (wrap64 (x7 + 1))) else (none)) else (lockstitchref02_Number.j2 k x4 x5 x6)) else (lockstitchref02_Number.j2 k x4 x5 x6)
end
def lockstitchref02_Number.f (k : Nat) (a0 : ByteArray) : Option (Int × Int) := (lockstitchref02_digits.f k a0).bind fun t115 => (if t115 = true then (if 0 < (a0.size : Int) then (if (bt a0 0) = 45 then (if 1 ≤ (a0.size : Int) then (lockstitchref02_Number.j0 k (a0.extract 1 a0.size) ((bt a0 0) == 45)) else (none)) else (lockstitchref02_Number.j0 k a0 ((bt a0 0) == 45))) else (none)) else (some (0, 4)))
theorem lockstitchref02_Number.mono_l : ∀ k, (∀ y0 y1, LeO (lockstitchref02_Number.j0 k y0 y1) (lockstitchref02_Number.j0 (k + 1) y0 y1)) ∧ (∀ y0 y1 y2, LeO (lockstitchref02_Number.j2 k y0 y1 y2) (lockstitchref02_Number.j2 (k + 1) y0 y1 y2)) ∧ (∀ y0 y1 y2, LeO (lockstitchref02_Number.j3 k y0 y1 y2) (lockstitchref02_Number.j3 (k + 1) y0 y1 y2)) ∧ (∀ y0 y1 y2 y3, LeO (lockstitchref02_Number.l0 k y0 y1 y2 y3) (lockstitchref02_Number.l0 (k + 1) y0 y1 y2 y3))
  | 0 => ⟨fun _ _ r h => by simp [lockstitchref02_Number.j0] at h, fun _ _ _ r h => by simp [lockstitchref02_Number.j2] at h, fun _ _ _ r h => by simp [lockstitchref02_Number.j3] at h, fun _ _ _ _ r h => by simp [lockstitchref02_Number.l0] at h⟩
  | k + 1 => by
    obtain ⟨ih0, ih1, ih2, ih3⟩ := lockstitchref02_Number.mono_l k; refine ⟨?_, ?_, ?_, ?_⟩
    · intro y0 y1
      unfold lockstitchref02_Number.j0
      repeat' first
      | (with_reducible exact ih0 _ _)
      | (with_reducible exact ih1 _ _ _)
      | (with_reducible exact ih2 _ _ _)
      | (with_reducible exact ih3 _ _ _ _)
      | (with_reducible exact lockstitchref02_digits.mono _ _)
      | (with_reducible exact LeO.refl _)
      | (with_reducible exact LeO.none _)
      | (with_reducible refine LeO.ite ?_ ?_)
      | (with_reducible refine LeO.bind ?_ (fun _ => ?_))
      | exact ih0 _ _
      | exact ih1 _ _ _
      | exact ih2 _ _ _
      | exact ih3 _ _ _ _
      | exact lockstitchref02_digits.mono _ _
      | exact LeO.none _
      | refine LeO.ite ?_ ?_
      | refine LeO.bind ?_ (fun _ => ?_)
    · intro y0 y1 y2
      unfold lockstitchref02_Number.j2
      repeat' first
      | (with_reducible exact ih0 _ _)
      | (with_reducible exact ih1 _ _ _)
      | (with_reducible exact ih2 _ _ _)
      | (with_reducible exact ih3 _ _ _ _)
      | (with_reducible exact lockstitchref02_digits.mono _ _)
      | (with_reducible exact LeO.refl _)
      | (with_reducible exact LeO.none _)
      | (with_reducible refine LeO.ite ?_ ?_)
      | (with_reducible refine LeO.bind ?_ (fun _ => ?_))
      | exact ih0 _ _
      | exact ih1 _ _ _
      | exact ih2 _ _ _
      | exact ih3 _ _ _ _
      | exact lockstitchref02_digits.mono _ _
      | exact LeO.none _
      | refine LeO.ite ?_ ?_
      | refine LeO.bind ?_ (fun _ => ?_)
    · intro y0 y1 y2
      unfold lockstitchref02_Number.j3
      repeat' first
      | (with_reducible exact ih0 _ _)
      | (with_reducible exact ih1 _ _ _)
      | (with_reducible exact ih2 _ _ _)
      | (with_reducible exact ih3 _ _ _ _)
      | (with_reducible exact lockstitchref02_digits.mono _ _)
      | (with_reducible exact LeO.refl _)
      | (with_reducible exact LeO.none _)
      | (with_reducible refine LeO.ite ?_ ?_)
      | (with_reducible refine LeO.bind ?_ (fun _ => ?_))
      | exact ih0 _ _
      | exact ih1 _ _ _
      | exact ih2 _ _ _
      | exact ih3 _ _ _ _
      | exact lockstitchref02_digits.mono _ _
      | exact LeO.none _
      | refine LeO.ite ?_ ?_
      | refine LeO.bind ?_ (fun _ => ?_)
    · intro y0 y1 y2 y3
      unfold lockstitchref02_Number.l0
      repeat' first
      | (with_reducible exact ih0 _ _)
      | (with_reducible exact ih1 _ _ _)
      | (with_reducible exact ih2 _ _ _)
      | (with_reducible exact ih3 _ _ _ _)
      | (with_reducible exact lockstitchref02_digits.mono _ _)
      | (with_reducible exact LeO.refl _)
      | (with_reducible exact LeO.none _)
      | (with_reducible refine LeO.ite ?_ ?_)
      | (with_reducible refine LeO.bind ?_ (fun _ => ?_))
      | exact ih0 _ _
      | exact ih1 _ _ _
      | exact ih2 _ _ _
      | exact ih3 _ _ _ _
      | exact lockstitchref02_digits.mono _ _
      | exact LeO.none _
      | refine LeO.ite ?_ ?_
      | refine LeO.bind ?_ (fun _ => ?_)
theorem lockstitchref02_Number.mono : ∀ a0 k, LeO (lockstitchref02_Number.f k a0) (lockstitchref02_Number.f (k + 1) a0) := by
  intro a0 k; obtain ⟨ih0, ih1, ih2, ih3⟩ := lockstitchref02_Number.mono_l k
  unfold lockstitchref02_Number.f
  repeat' first
      | (with_reducible exact ih0 _ _)
      | (with_reducible exact ih1 _ _ _)
      | (with_reducible exact ih2 _ _ _)
      | (with_reducible exact ih3 _ _ _ _)
      | (with_reducible exact lockstitchref02_digits.mono _ _)
      | (with_reducible exact LeO.refl _)
      | (with_reducible exact LeO.none _)
      | (with_reducible refine LeO.ite ?_ ?_)
      | (with_reducible refine LeO.bind ?_ (fun _ => ?_))
      | exact ih0 _ _
      | exact ih1 _ _ _
      | exact ih2 _ _ _
      | exact ih3 _ _ _ _
      | exact lockstitchref02_digits.mono _ _
      | exact LeO.none _
      | refine LeO.ite ?_ ?_
      | refine LeO.bind ?_ (fun _ => ?_)
def lockstitchref04_with.j0 : Nat → Int → Int → Bool → Int → Int → Int → Int → Int → Option (Int × Int × Int × Int × Int × Bool)
  | 0, _, _, _, _, _, _, _, _ => none
  | k + 1, x1, x2, x18, x117000, x117001, x117002, x117003, x117004 => if x18 = true then (some (x117000, x117001, x117002, x117003, x117004, false)) else (if x1 = 97 then (some (x117000, (x2) % 256, x117002, x117003, x117004, true)) else (if x1 = 98 then (some (x117000, x117001, (x2) % 256, x117003, x117004, true)) else (some (x117000, x117001, x117002, (x2) % 256, x117004, true))))
def lockstitchref04_with.f (k : Nat) (a0_0 : Int) (a0_1 : Int) (a0_2 : Int) (a0_3 : Int) (a0_4 : Int) (a1 : Int) (a2 : Int) : Option (Int × Int × Int × Int × Int × Bool) := if a1 = 110 then (some (a0_0, a0_1, a0_2, a0_3, a2, true)) else (if a2 < 0 then (lockstitchref04_with.j0 k a1 a2 true a0_0 a0_1 a0_2 a0_3 a0_4) else (lockstitchref04_with.j0 k a1 a2 (decide (a2 > 255)) a0_0 a0_1 a0_2 a0_3 a0_4))
theorem lockstitchref04_with.mono_l : ∀ k, (∀ y0 y1 y2 y3 y4 y5 y6 y7, LeO (lockstitchref04_with.j0 k y0 y1 y2 y3 y4 y5 y6 y7) (lockstitchref04_with.j0 (k + 1) y0 y1 y2 y3 y4 y5 y6 y7))
  | 0 => fun _ _ _ _ _ _ _ _ r h => by simp [lockstitchref04_with.j0] at h
  | k + 1 => by
    have ih0 := lockstitchref04_with.mono_l k
    · intro y0 y1 y2 y3 y4 y5 y6 y7
      unfold lockstitchref04_with.j0
      repeat' first
      | (with_reducible exact ih0 _ _ _ _ _ _ _ _)
      | (with_reducible exact LeO.refl _)
      | (with_reducible exact LeO.none _)
      | (with_reducible refine LeO.ite ?_ ?_)
      | (with_reducible refine LeO.bind ?_ (fun _ => ?_))
      | exact ih0 _ _ _ _ _ _ _ _
      | exact LeO.none _
      | refine LeO.ite ?_ ?_
      | refine LeO.bind ?_ (fun _ => ?_)
theorem lockstitchref04_with.mono : ∀ a0 a1 a2 a3 a4 a5 a6 k, LeO (lockstitchref04_with.f k a0 a1 a2 a3 a4 a5 a6) (lockstitchref04_with.f (k + 1) a0 a1 a2 a3 a4 a5 a6) := by
  intro a0 a1 a2 a3 a4 a5 a6 k; have ih0 := lockstitchref04_with.mono_l k
  unfold lockstitchref04_with.f
  repeat' first
      | (with_reducible exact ih0 _ _ _ _ _ _ _ _)
      | (with_reducible exact LeO.refl _)
      | (with_reducible exact LeO.none _)
      | (with_reducible refine LeO.ite ?_ ?_)
      | (with_reducible refine LeO.bind ?_ (fun _ => ?_))
      | exact ih0 _ _ _ _ _ _ _ _
      | exact LeO.none _
      | refine LeO.ite ?_ ?_
      | refine LeO.bind ?_ (fun _ => ?_)
end Go.Proofs.YtfkfpcciacplkaaDoor.F

namespace Go.Proofs.YtfkfpcciacplkaaDoor.F
open Go.RowKit Go.Proofs.YtfkfpcciacplkaaDoorW.PrintWords Go.Proofs.YtfkfpcciacplkaaDoorW.PrintLast Go.Proofs.YtfkfpcciacplkaaDoorW.PrintMore
attribute [local go_sem] max2_int min2_int max_two min_two max_three min_three max_four min_four
set_option linter.unusedVariables false
set_option linter.unusedSimpArgs false
mutual
def lockstitchref04_read.l0 : Nat → List ByteArray → Int → Option (Int × Int × Int × Int × Int × Bool)
  | 0, _, _ => none
  | k + 1, x0, x4 => if x4 ≤ 15 then ((lockstitchref04_shape.f x4).bind fun bt119 => (if 0 < (x0.length : Int) then (if (rdOf ByteArray.empty x0 0).toList = bt119.1.toList then (lockstitchref04_read.j1 k x0 x4 bt119.2 ((x0.length : Int) != (wrap64 ((bt119.2.size : Int) + 1)))) else (lockstitchref04_read.j1 k x0 x4 bt119.2 true)) else (none))) else (some (0, 0, 0, 0, 0, false))
def lockstitchref04_read.j1 : Nat → List ByteArray → Int → ByteArray → Bool → Option (Int × Int × Int × Int × Int × Bool)
  | 0, _, _, _, _ => none
  | k + 1, x0, x4, x6, x34 => if x34 = true then (lockstitchref04_read.l0 k x0 ((x4 + 1) % 256)) else (lockstitchref04_read.l1 k x0 x6 0 x4 0 0 0 0)
def lockstitchref04_read.l1 : Nat → List ByteArray → ByteArray → Int → Int → Int → Int → Int → Int → Option (Int × Int × Int × Int × Int × Bool)
  | 0, _, _, _, _, _, _, _, _ => none
  | k + 1, x0, x6, x8, x123000, x123001, x123002, x123003, x123004 => if x8 < (x6.size : Int) then (if 0 ≤ (wrap64 (x8 + 1)) then (if (wrap64 (x8 + 1)) < (x0.length : Int) then ((lockstitchref02_Number.f k (rdOf ByteArray.empty x0 (wrap64 (x8 + 1)))).bind fun bt124 => (if 0 ≤ x8 then ((lockstitchref04_with.f k x123000 x123001 x123002 x123003 x123004 (bt x6 x8) bt124.1).bind fun bt126 => (if bt124.2 = 0 then (if bt126.2.2.2.2.2 = true then (lockstitchref04_read.l1 k x0 x6 (wrap64 (x8 + 1)) bt126.1 bt126.2.1 bt126.2.2.1 bt126.2.2.2.1 bt126.2.2.2.2.1) else (some (0, 0, 0, 0, 0, false))) else (some (0, 0, 0, 0, 0, false)))) else (none))) else (none)) else (none)) else (some (x123000, x123001, x123002, x123003, x123004, true))
end
def lockstitchref04_read.f (k : Nat) (l0 : List ByteArray) : Option (Int × Int × Int × Int × Int × Bool) := lockstitchref04_read.l0 k l0 1
def lockstitchref04_read.T11 : Bool × List (List Nat × List Nat) := (true, [([], []), ([], []), ([], []), ([1, 2], [1, 2]), ([], []), ([0, 3, 4], [0, 3, 4]), ([5], [5]), ([6], [6]), ([6], [6]), ([], []), ([9, 7, 5, 0, 1, 2, 3, 4, 5, 6, 7, 9], [7, 9]), ([8, 10, 0, 1, 2, 3, 4, 5, 6, 7, 8, 9, 10], [8])])
def lockstitchref04_read.B11 : List Nat := [0, 0, 0, 6, 0, 31, 63, 127, 127, 0, 767, 2047]
end Go.Proofs.YtfkfpcciacplkaaDoor.F

namespace Go.Proofs.YtfkfpcciacplkaaDoor.F
open Go.RowKit Go.Proofs.YtfkfpcciacplkaaDoorW.PrintWords Go.Proofs.YtfkfpcciacplkaaDoorW.PrintLast Go.Proofs.YtfkfpcciacplkaaDoorW.PrintMore
attribute [local go_sem] max2_int min2_int max_two min_two max_three min_three max_four min_four
set_option linter.unusedVariables false
set_option linter.unusedSimpArgs false
def lockstitchref05_at.f (k : Nat) (l0 : List ByteArray) (a1 : ByteArray) (a2 : Int) : Option (Int) := if (wrap64 (a2)) ≥ (a1.size : Int) then (some (-1)) else (if 0 ≤ (wrap64 (a2)) then (if (wrap64 (a2)) ≤ (wrap64 ((wrap64 (a2)) + 1)) then (if (wrap64 ((wrap64 (a2)) + 1)) ≤ (a1.size : Int) then ((lockstitchref03_Refs.f k l0 (a1.extract ((wrap64 (a2)) : Int).toNat ((wrap64 ((wrap64 (a2)) + 1)) : Int).toNat)).bind fun t133 => (if t133 = true then (if 0 ≤ a2 then (if a2 < (a1.size : Int) then (some (((bt a1 a2) - 48) % 256)) else (none)) else (none)) else (some (-1)))) else (none)) else (none)) else (none))
theorem lockstitchref05_at.mono : ∀ a0 a1 a2 k, LeO (lockstitchref05_at.f k a0 a1 a2) (lockstitchref05_at.f (k + 1) a0 a1 a2) := by
  intro a0 a1 a2 k
  unfold lockstitchref05_at.f
  repeat' first
      | (with_reducible exact lockstitchref03_Refs.mono _ _ _)
      | (with_reducible exact LeO.refl _)
      | (with_reducible exact LeO.none _)
      | (with_reducible refine LeO.ite ?_ ?_)
      | (with_reducible refine LeO.bind ?_ (fun _ => ?_))
      | exact lockstitchref03_Refs.mono _ _ _
      | exact LeO.none _
      | refine LeO.ite ?_ ?_
      | refine LeO.bind ?_ (fun _ => ?_)
def lockstitchref05_Local.f (k : Nat) (l0_0 : List ByteArray) (a0_1 : ByteArray) (a0_2 : ByteArray) (l0_3 : List (S68)) (a1 : Int) : Option (Int) := (lockstitchref05_at.f k l0_0 a0_1 a1).bind fun t135 => (some t135)
theorem lockstitchref05_Local.mono : ∀ a0 a1 a2 a3 a4 k, LeO (lockstitchref05_Local.f k a0 a1 a2 a3 a4) (lockstitchref05_Local.f (k + 1) a0 a1 a2 a3 a4) := by
  intro a0 a1 a2 a3 a4 k
  unfold lockstitchref05_Local.f
  repeat' first
      | (with_reducible exact lockstitchref05_at.mono _ _ _ _)
      | (with_reducible exact LeO.refl _)
      | (with_reducible exact LeO.none _)
      | (with_reducible refine LeO.ite ?_ ?_)
      | (with_reducible refine LeO.bind ?_ (fun _ => ?_))
      | exact lockstitchref05_at.mono _ _ _ _
      | exact LeO.none _
      | refine LeO.ite ?_ ?_
      | refine LeO.bind ?_ (fun _ => ?_)
def lockstitchref05_one.f (a0 : Int) (a1 : Int) : Option (Bool) := if a0 ≥ 0 then (some (a0 == a1)) else (some false)
def lockstitchref05_number.f (k : Nat) (l0_0 : List ByteArray) (a0_1 : ByteArray) (a0_2 : ByteArray) (l0_3 : List (S68)) (a1 : Int) (a2 : Int) : Option (Bool) := if a2 < 0 then (some false) else ((lockstitchref03_Size.f k l0_0 a1).bind fun t137 => (if a2 ≥ t137 then (some false) else ((lockstitchref03_To.f k l0_0 a1 a2).bind fun t138 => (some (decide (t138 < 0))))))
theorem lockstitchref05_number.mono : ∀ a0 a1 a2 a3 a4 a5 k, LeO (lockstitchref05_number.f k a0 a1 a2 a3 a4 a5) (lockstitchref05_number.f (k + 1) a0 a1 a2 a3 a4 a5) := by
  intro a0 a1 a2 a3 a4 a5 k
  unfold lockstitchref05_number.f
  repeat' first
      | (with_reducible exact lockstitchref03_Size.mono _ _ _)
      | (with_reducible exact lockstitchref03_To.mono _ _ _ _)
      | (with_reducible exact LeO.refl _)
      | (with_reducible exact LeO.none _)
      | (with_reducible refine LeO.ite ?_ ?_)
      | (with_reducible refine LeO.bind ?_ (fun _ => ?_))
      | exact lockstitchref03_Size.mono _ _ _
      | exact lockstitchref03_To.mono _ _ _ _
      | exact LeO.none _
      | refine LeO.ite ?_ ?_
      | refine LeO.bind ?_ (fun _ => ?_)
def lockstitchref05_to.f (k : Nat) (l0_0 : List ByteArray) (a0_1 : ByteArray) (a0_2 : ByteArray) (l0_3 : List (S68)) (a1 : Int) (a2 : Int) : Option (Int) := if a2 < 0 then (some (-1)) else (if a2 > 6 then (some (-1)) else ((lockstitchref03_To.f k l0_0 a1 a2).bind fun t140 => (some t140)))
theorem lockstitchref05_to.mono : ∀ a0 a1 a2 a3 a4 a5 k, LeO (lockstitchref05_to.f k a0 a1 a2 a3 a4 a5) (lockstitchref05_to.f (k + 1) a0 a1 a2 a3 a4 a5) := by
  intro a0 a1 a2 a3 a4 a5 k
  unfold lockstitchref05_to.f
  repeat' first
      | (with_reducible exact lockstitchref03_To.mono _ _ _ _)
      | (with_reducible exact LeO.refl _)
      | (with_reducible exact LeO.none _)
      | (with_reducible refine LeO.ite ?_ ?_)
      | (with_reducible refine LeO.bind ?_ (fun _ => ?_))
      | exact lockstitchref03_To.mono _ _ _ _
      | exact LeO.none _
      | refine LeO.ite ?_ ?_
      | refine LeO.bind ?_ (fun _ => ?_)
def lockstitchref05_Glob.f (k : Nat) (l0_0 : List ByteArray) (a0_1 : ByteArray) (a0_2 : ByteArray) (l0_3 : List (S68)) (a1 : Int) : Option (Int) := (lockstitchref05_at.f k l0_0 a0_2 a1).bind fun t142 => (some t142)
theorem lockstitchref05_Glob.mono : ∀ a0 a1 a2 a3 a4 k, LeO (lockstitchref05_Glob.f k a0 a1 a2 a3 a4) (lockstitchref05_Glob.f (k + 1) a0 a1 a2 a3 a4) := by
  intro a0 a1 a2 a3 a4 k
  unfold lockstitchref05_Glob.f
  repeat' first
      | (with_reducible exact lockstitchref05_at.mono _ _ _ _)
      | (with_reducible exact LeO.refl _)
      | (with_reducible exact LeO.none _)
      | (with_reducible refine LeO.ite ?_ ?_)
      | (with_reducible refine LeO.bind ?_ (fun _ => ?_))
      | exact lockstitchref05_at.mono _ _ _ _
      | exact LeO.none _
      | refine LeO.ite ?_ ?_
      | refine LeO.bind ?_ (fun _ => ?_)
end Go.Proofs.YtfkfpcciacplkaaDoor.F

namespace Go.Proofs.YtfkfpcciacplkaaDoor.F
open Go.RowKit Go.Proofs.YtfkfpcciacplkaaDoorW.PrintWords Go.Proofs.YtfkfpcciacplkaaDoorW.PrintLast Go.Proofs.YtfkfpcciacplkaaDoorW.PrintMore
attribute [local go_sem] max2_int min2_int max_two min_two max_three min_three max_four min_four
set_option linter.unusedVariables false
set_option linter.unusedSimpArgs false
def lockstitchref05_kinds.j0 : Nat → Int → Int → Int → Bool → List ByteArray → ByteArray → ByteArray → List (S68) → Int → Int → Int → Int → Int → Option (Bool)
  | 0, _, _, _, _, _, _, _, _, _, _, _, _, _ => none
  | k + 1, x5, x6, x16, x17, x144000, x144001, x144002, x144003, x145000, x145001, x145002, x145003, x145004 => if x17 = true then (some (decide (x5 ≥ 0))) else (if x16 = 7 then ((lockstitchref05_one.f x5 x6).bind fun t147 => (some t147)) else (if x16 = 15 then ((lockstitchref05_Local.f k x144000 x144001 x144002 x144003 x145003).bind fun t148 => ((lockstitchref05_one.f x6 t148).bind fun t149 => (some t149))) else (if x16 = 8 then (if x6 ≥ 0 then ((lockstitchref05_number.f k x144000 x144001 x144002 x144003 x6 x145004).bind fun t150 => (some t150)) else (some false)) else (if x16 = 9 then (if x5 ≥ 0 then ((lockstitchref05_number.f k x144000 x144001 x144002 x144003 x5 x145004).bind fun t151 => (some t151)) else (some false)) else (if x16 = 10 then (if x6 ≥ 0 then ((lockstitchref05_to.f k x144000 x144001 x144002 x144003 x6 x145004).bind fun t152 => ((lockstitchref05_one.f x5 t152).bind fun t153 => (some t153))) else (some false)) else (if x16 = 11 then (if x5 ≥ 0 then ((lockstitchref05_to.f k x144000 x144001 x144002 x144003 x5 x145004).bind fun t154 => ((lockstitchref05_one.f x6 t154).bind fun t155 => (some t155))) else (some false)) else (if x16 = 12 then ((lockstitchref05_Glob.f k x144000 x144001 x144002 x144003 x145002).bind fun t156 => ((lockstitchref05_one.f x5 t156).bind fun t157 => (some t157))) else (if x16 = 13 then ((lockstitchref05_Glob.f k x144000 x144001 x144002 x144003 x145001).bind fun t158 => ((lockstitchref05_one.f x6 t158).bind fun t159 => (some t159))) else (some true)))))))))
def lockstitchref05_kinds.f (k : Nat) (l0_0 : List ByteArray) (a0_1 : ByteArray) (a0_2 : ByteArray) (l0_3 : List (S68)) (a1_0 : Int) (a1_1 : Int) (a1_2 : Int) (a1_3 : Int) (a1_4 : Int) : Option (Bool) := (lockstitchref05_Local.f k l0_0 a0_1 a0_2 l0_3 a1_1).bind fun t145 => ((lockstitchref05_Local.f k l0_0 a0_1 a0_2 l0_3 a1_2).bind fun t146 => (if a1_0 = 5 then (lockstitchref05_kinds.j0 k t145 t146 a1_0 (a1_0 == 5) l0_0 a0_1 a0_2 l0_3 a1_0 a1_1 a1_2 a1_3 a1_4) else (lockstitchref05_kinds.j0 k t145 t146 a1_0 (a1_0 == 6) l0_0 a0_1 a0_2 l0_3 a1_0 a1_1 a1_2 a1_3 a1_4)))
def lockstitchref05_kinds.T1 : Bool × List (List Nat × List Nat) := (true, [([], []), ([], []), ([1], [1]), ([0, 2], [0, 2]), ([], []), ([], []), ([5], [5]), ([4, 6, 3], [4, 6]), ([3, 7, 0, 1, 2, 3], [3]), ([7, 8, 0, 1, 2, 3, 4, 5, 6, 7, 8], [7])])
def lockstitchref05_kinds.B1 : List Nat := [0, 0, 2, 7, 0, 0, 32, 127, 255, 511]
end Go.Proofs.YtfkfpcciacplkaaDoor.F

namespace Go.Proofs.YtfkfpcciacplkaaDoor.F
open Go.RowKit Go.Proofs.YtfkfpcciacplkaaDoorW.PrintWords Go.Proofs.YtfkfpcciacplkaaDoorW.PrintLast Go.Proofs.YtfkfpcciacplkaaDoorW.PrintMore
attribute [local go_sem] max2_int min2_int max_two min_two max_three min_three max_four min_four
set_option linter.unusedVariables false
set_option linter.unusedSimpArgs false
def lockstitchref05_ints.j0 : Nat → Int → Bool → Int → Int → Int → Int → Int → Option (Bool)
  | 0, _, _, _, _, _, _, _ => none
  | k + 1, x4, x5, x161000, x161001, x161002, x161003, x161004 => if x5 = true then (some (decide (x161001 < 8))) else (if x4 = 2 then (if x161001 < 8 then (if x161002 < 8 then (some (decide (x161003 < 8))) else (some false)) else (some false)) else (if x4 = 9 then (some (decide (x161002 < 8))) else (some true)))
def lockstitchref05_ints.f (k : Nat) (a0_0 : Int) (a0_1 : Int) (a0_2 : Int) (a0_3 : Int) (a0_4 : Int) : Option (Bool) := if a0_0 = 1 then (lockstitchref05_ints.j0 k a0_0 (a0_0 == 1) a0_0 a0_1 a0_2 a0_3 a0_4) else (if a0_0 = 4 then (lockstitchref05_ints.j0 k a0_0 (a0_0 == 4) a0_0 a0_1 a0_2 a0_3 a0_4) else (if a0_0 = 8 then (lockstitchref05_ints.j0 k a0_0 (a0_0 == 8) a0_0 a0_1 a0_2 a0_3 a0_4) else (if a0_0 = 14 then (lockstitchref05_ints.j0 k a0_0 (a0_0 == 14) a0_0 a0_1 a0_2 a0_3 a0_4) else (lockstitchref05_ints.j0 k a0_0 (a0_0 == 15) a0_0 a0_1 a0_2 a0_3 a0_4))))
def lockstitchlaw04_Few.l0 : Nat → Int → List ByteArray → Int → Int → List ByteArray → ByteArray → ByteArray → List (S68) → Option (Bool)
  | 0, _, _, _, _, _, _, _, _ => none
  | k + 1, x3, x14, x15, x16, x162000, x162001, x162002, x162003 => if x16 < x15 then (if 0 ≤ x16 then (if x16 < (x14.length : Int) then (lockstitchlaw04_Few.l0 k (wrap64 (x3 + (wrap64 (((rdOf ByteArray.empty x14 x16).size : Int) + 1)))) x14 x15 (wrap64 (x16 + 1)) x162000 x162001 x162002 x162003) else (none)) else (none)) else (if x3 ≤ 500 then (some (decide ((x162003.length : Int) ≤ 210))) else (some false))
def lockstitchlaw04_Few.f (k : Nat) (l0_0 : List ByteArray) (a0_1 : ByteArray) (a0_2 : ByteArray) (l0_3 : List (S68)) : Option (Bool) := lockstitchlaw04_Few.l0 k (wrap64 ((a0_1.size : Int) + (a0_2.size : Int))) l0_0 (l0_0.length : Int) 0 l0_0 a0_1 a0_2 l0_3
mutual
def lockstitchref07_Next.j0 : Nat → Int → Bool → List ByteArray → ByteArray → ByteArray → List (S68) → Option (List Int)
  | 0, _, _, _, _, _, _ => none
  | k + 1, x1, x15, x164000, x164001, x164002, x164003 => if x15 = true then (some ([] : List Int)) else (if 0 ≤ x1 then (if x1 < (x164003.length : Int) then (if ((rd_T68 x164003 x1).f0) = 3 then (some (([(rd_T68 x164003 x1).f4] : List Int))) else (if ((rd_T68 x164003 x1).f0) = 4 then (lockstitchref07_Next.j1 k x1 ((rd_T68 x164003 x1).f4) (decide (((rd_T68 x164003 x1).f4) < (wrap64 (x1 + 1)))) ((rd_T68 x164003 x1).f0) ((rd_T68 x164003 x1).f1) ((rd_T68 x164003 x1).f2) ((rd_T68 x164003 x1).f3) ((rd_T68 x164003 x1).f4)) else (lockstitchref07_Next.j1 k x1 ((rd_T68 x164003 x1).f4) false ((rd_T68 x164003 x1).f0) ((rd_T68 x164003 x1).f1) ((rd_T68 x164003 x1).f2) ((rd_T68 x164003 x1).f3) ((rd_T68 x164003 x1).f4)))) else (none)) else (none))
def lockstitchref07_Next.j1 : Nat → Int → Int → Bool → Int → Int → Int → Int → Int → Option (List Int)
  | 0, _, _, _, _, _, _, _, _ => none
  | k + 1, x1, x6, x29, x166000, x166001, x166002, x166003, x166004 => if x29 = true then (some (([x6, wrap64 (x1 + 1)] : List Int))) else (if x166000 = 4 then (if x6 > (wrap64 (x1 + 1)) then (some (([wrap64 (x1 + 1), x6] : List Int))) else (some (([wrap64 (x1 + 1)] : List Int)))) else (some (([wrap64 (x1 + 1)] : List Int))))
end
def lockstitchref07_Next.f (k : Nat) (l0_0 : List ByteArray) (a0_1 : ByteArray) (a0_2 : ByteArray) (l0_3 : List (S68)) (a1 : Int) : Option (List Int) := if a1 < 0 then (lockstitchref07_Next.j0 k a1 true l0_0 a0_1 a0_2 l0_3) else (lockstitchref07_Next.j0 k a1 (decide (a1 ≥ (l0_3.length : Int))) l0_0 a0_1 a0_2 l0_3)
theorem lockstitchref07_Next.mono_l : ∀ k, (∀ y0 y1 y2 y3 y4 y5, LeO (lockstitchref07_Next.j0 k y0 y1 y2 y3 y4 y5) (lockstitchref07_Next.j0 (k + 1) y0 y1 y2 y3 y4 y5)) ∧ (∀ y0 y1 y2 y3 y4 y5 y6 y7, LeO (lockstitchref07_Next.j1 k y0 y1 y2 y3 y4 y5 y6 y7) (lockstitchref07_Next.j1 (k + 1) y0 y1 y2 y3 y4 y5 y6 y7))
  | 0 => ⟨fun _ _ _ _ _ _ r h => by simp [lockstitchref07_Next.j0] at h, fun _ _ _ _ _ _ _ _ r h => by simp [lockstitchref07_Next.j1] at h⟩
  | k + 1 => by
    obtain ⟨ih0, ih1⟩ := lockstitchref07_Next.mono_l k; refine ⟨?_, ?_⟩
    · intro y0 y1 y2 y3 y4 y5
      unfold lockstitchref07_Next.j0
      repeat' first
      | (with_reducible exact ih0 _ _ _ _ _ _)
      | (with_reducible exact ih1 _ _ _ _ _ _ _ _)
      | (with_reducible exact LeO.refl _)
      | (with_reducible exact LeO.none _)
      | (with_reducible refine LeO.ite ?_ ?_)
      | (with_reducible refine LeO.bind ?_ (fun _ => ?_))
      | exact ih0 _ _ _ _ _ _
      | exact ih1 _ _ _ _ _ _ _ _
      | exact LeO.none _
      | refine LeO.ite ?_ ?_
      | refine LeO.bind ?_ (fun _ => ?_)
    · intro y0 y1 y2 y3 y4 y5 y6 y7
      unfold lockstitchref07_Next.j1
      repeat' first
      | (with_reducible exact ih0 _ _ _ _ _ _)
      | (with_reducible exact ih1 _ _ _ _ _ _ _ _)
      | (with_reducible exact LeO.refl _)
      | (with_reducible exact LeO.none _)
      | (with_reducible refine LeO.ite ?_ ?_)
      | (with_reducible refine LeO.bind ?_ (fun _ => ?_))
      | exact ih0 _ _ _ _ _ _
      | exact ih1 _ _ _ _ _ _ _ _
      | exact LeO.none _
      | refine LeO.ite ?_ ?_
      | refine LeO.bind ?_ (fun _ => ?_)
theorem lockstitchref07_Next.mono : ∀ a0 a1 a2 a3 a4 k, LeO (lockstitchref07_Next.f k a0 a1 a2 a3 a4) (lockstitchref07_Next.f (k + 1) a0 a1 a2 a3 a4) := by
  intro a0 a1 a2 a3 a4 k; obtain ⟨ih0, ih1⟩ := lockstitchref07_Next.mono_l k
  unfold lockstitchref07_Next.f
  repeat' first
      | (with_reducible exact ih0 _ _ _ _ _ _)
      | (with_reducible exact ih1 _ _ _ _ _ _ _ _)
      | (with_reducible exact LeO.refl _)
      | (with_reducible exact LeO.none _)
      | (with_reducible refine LeO.ite ?_ ?_)
      | (with_reducible refine LeO.bind ?_ (fun _ => ?_))
      | exact ih0 _ _ _ _ _ _
      | exact ih1 _ _ _ _ _ _ _ _
      | exact LeO.none _
      | refine LeO.ite ?_ ?_
      | refine LeO.bind ?_ (fun _ => ?_)
end Go.Proofs.YtfkfpcciacplkaaDoor.F

namespace Go.Proofs.YtfkfpcciacplkaaDoor.F
open Go.RowKit Go.Proofs.YtfkfpcciacplkaaDoorW.PrintWords Go.Proofs.YtfkfpcciacplkaaDoorW.PrintLast Go.Proofs.YtfkfpcciacplkaaDoorW.PrintMore
attribute [local go_sem] max2_int min2_int max_two min_two max_three min_three max_four min_four
set_option linter.unusedVariables false
set_option linter.unusedSimpArgs false
mutual
def lockstitchref07_Reach.j0 : Nat → Int → Bool → List ByteArray → ByteArray → ByteArray → List (S68) → Option (List Bool)
  | 0, _, _, _, _, _, _ => none
  | k + 1, x1, x19, x182000, x182001, x182002, x182003 => if x19 = true then (some ([] : List Bool)) else (if 0 ≤ (wrap64 ((x182003.length : Int) + 1)) then (if (wrap64 ((x182003.length : Int) + 1) : Int).toNat ≤ 281474976710656 then (lockstitchref07_Reach.l0 k x1 (List.replicate (wrap64 ((x182003.length : Int) + 1) : Int).toNat false) 0 x182000 x182001 x182002 x182003) else (none)) else (none))
def lockstitchref07_Reach.l0 : Nat → Int → List Bool → Int → List ByteArray → ByteArray → ByteArray → List (S68) → Option (List Bool)
  | 0, _, _, _, _, _, _, _ => none
  | k + 1, x1, x5, x6, x182000, x182001, x182002, x182003 => if x6 ≤ (x182003.length : Int) then (lockstitchref07_Reach.l1 k x1 x5 x6 0 x182000 x182001 x182002 x182003) else (some x5)
def lockstitchref07_Reach.l1 : Nat → Int → List Bool → Int → Int → List ByteArray → ByteArray → ByteArray → List (S68) → Option (List Bool)
  | 0, _, _, _, _, _, _, _, _ => none
  | k + 1, x1, x5, x6, x7, x182000, x182001, x182002, x182003 => if x7 ≤ (x182003.length : Int) then ((lockstitchref07_Next.f k x182000 x182001 x182002 x182003 x7).bind fun t185 => (lockstitchref07_Reach.l2 k x1 x5 x6 x7 t185 0 x182000 x182001 x182002 x182003)) else (lockstitchref07_Reach.l0 k x1 x5 (wrap64 (x6 + 1)) x182000 x182001 x182002 x182003)
def lockstitchref07_Reach.l2 : Nat → Int → List Bool → Int → Int → List Int → Int → List ByteArray → ByteArray → ByteArray → List (S68) → Option (List Bool)
  | 0, _, _, _, _, _, _, _, _, _, _ => none
  | k + 1, x1, x5, x6, x7, x8, x9, x182000, x182001, x182002, x182003 => if x9 < (x8.length : Int) then (if x7 = x1 then (if 0 ≤ x9 then (if 0 ≤ (rd x8 x9) then (if (rd x8 x9) < (x5.length : Int) then (lockstitchref07_Reach.l2 k x1 (x5.set ((rd x8 x9) : Int).toNat true) x6 x7 x8 (wrap64 (x9 + 1)) x182000 x182001 x182002 x182003) else (none)) else (none)) else (none)) else (if 0 ≤ x7 then (if x7 < (x5.length : Int) then (if rdOf false x5 x7 = true then (if 0 ≤ x9 then (if 0 ≤ (rd x8 x9) then (if (rd x8 x9) < (x5.length : Int) then (lockstitchref07_Reach.l2 k x1 (x5.set ((rd x8 x9) : Int).toNat true) x6 x7 x8 (wrap64 (x9 + 1)) x182000 x182001 x182002 x182003) else (none)) else (none)) else (none)) else (lockstitchref07_Reach.l2 k x1 x5 x6 x7 x8 (wrap64 (x9 + 1)) x182000 x182001 x182002 x182003)) else (none)) else (none))) else (lockstitchref07_Reach.l1 k x1 x5 x6 (wrap64 (x7 + 1)) x182000 x182001 x182002 x182003)
end
def lockstitchref07_Reach.f (k : Nat) (l0_0 : List ByteArray) (a0_1 : ByteArray) (a0_2 : ByteArray) (l0_3 : List (S68)) (a1 : Int) : Option (List Bool) := if a1 < 0 then (lockstitchref07_Reach.j0 k a1 true l0_0 a0_1 a0_2 l0_3) else (lockstitchref07_Reach.j0 k a1 (decide (a1 > (l0_3.length : Int))) l0_0 a0_1 a0_2 l0_3)
def flow_Safe.j0 : Nat → Int → Bool → List ByteArray → ByteArray → ByteArray → List (S68) → Option (Bool)
  | 0, _, _, _, _, _, _ => none
  | k + 1, x1, x14, x194000, x194001, x194002, x194003 => if x14 = true then (some false) else (if 0 ≤ x1 then (if x1 < (x194003.length : Int) then (if ((rd_T68 x194003 x1).f0) = 5 then (some true) else (if ((rd_T68 x194003 x1).f0) = 3 then (some (decide (((rd_T68 x194003 x1).f4) ≤ x1))) else (if ((rd_T68 x194003 x1).f0) = 4 then (some (decide (((rd_T68 x194003 x1).f4) ≤ x1))) else (some false)))) else (none)) else (none))
def flow_Safe.f (k : Nat) (l0_0 : List ByteArray) (a0_1 : ByteArray) (a0_2 : ByteArray) (l0_3 : List (S68)) (a1 : Int) : Option (Bool) := if a1 < 0 then (flow_Safe.j0 k a1 true l0_0 a0_1 a0_2 l0_3) else (flow_Safe.j0 k a1 (decide (a1 ≥ (l0_3.length : Int))) l0_0 a0_1 a0_2 l0_3)
end Go.Proofs.YtfkfpcciacplkaaDoor.F

namespace Go.Proofs.YtfkfpcciacplkaaDoor.F
open Go.RowKit Go.Proofs.YtfkfpcciacplkaaDoorW.PrintWords Go.Proofs.YtfkfpcciacplkaaDoorW.PrintLast Go.Proofs.YtfkfpcciacplkaaDoorW.PrintMore
attribute [local go_sem] max2_int min2_int max_two min_two max_three min_three max_four min_four
set_option linter.unusedVariables false
set_option linter.unusedSimpArgs false
end Go.Proofs.YtfkfpcciacplkaaDoor.F

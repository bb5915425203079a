-- printed over print.py by myprint.py (a program of this session's) for the claims of this seat
import Derived.Test.YtjmhkimffocpeaaK5x0
namespace Go.Proofs.Ytjmhkimffocpeaa.K5
open Go.RowKit Go.Proofs.YtjmhkimffocpeaaW.PrintWords Go.Proofs.YtjmhkimffocpeaaW.PrintLast Go.Proofs.YtjmhkimffocpeaaW.PrintMore
attribute [local go_sem] max2_int min2_int max_two min_two max_three min_three max_four min_four   -- for this text's walks alone
set_option linter.unusedVariables false
set_option linter.unusedSimpArgs false

open Go.Proofs.Ytjmhkimffocpeaa.K
open Go.Proofs.Ytjmhkimffocpeaa.KG
open Go.Proofs.Ytjmhkimffocpeaa.KA
/-! ### lockstitchlaw03_KindLetters: function 8 -/
mutual
noncomputable def lockstitchlaw03_KindLetters.j0 : Nat → List ByteArray → Bool → Option (Bool)
  | 0, _, _ => none
  | k + 1, x0, x3 => lockstitchlaw03_KindLetters.l0 k x0 x3 x0 (x0.length : Int) 0
noncomputable def lockstitchlaw03_KindLetters.l0 : Nat → List ByteArray → Bool → List ByteArray → Int → Int → Option (Bool)
  | 0, _, _, _, _, _ => none
  | k + 1, x0, x3, x25, x26, x27 => if x27 < x26 then (if 0 ≤ x27 then (if x27 < (x25.length : Int) then (if x3 = true then (if ((rdOf ByteArray.empty x25 x27).size : Int) ≥ 1 then (lockstitchlaw03_KindLetters.j2 k x0 (decide (((rdOf ByteArray.empty x25 x27).size : Int) ≤ 6)) (rdOf ByteArray.empty x25 x27) x25 x26 x27) else (lockstitchlaw03_KindLetters.j2 k x0 false (rdOf ByteArray.empty x25 x27) x25 x26 x27)) else (lockstitchlaw03_KindLetters.j2 k x0 false (rdOf ByteArray.empty x25 x27) x25 x26 x27)) else (none)) else (none)) else ((kind_Right.f k x0).bind fun t104 => (if (t104 != x3) = true then (some false) else (lockstitchlaw03_KindLetters.l2 k x0 x3 0)))
noncomputable def lockstitchlaw03_KindLetters.j2 : Nat → List ByteArray → Bool → ByteArray → List ByteArray → Int → Int → Option (Bool)
  | 0, _, _, _, _, _, _ => none
  | k + 1, x0, x3, x5, x25, x26, x27 => lockstitchlaw03_KindLetters.l1 k x0 x3 x5 x25 x26 x27 (x5.size : Int) 0
noncomputable def lockstitchlaw03_KindLetters.l1 : Nat → List ByteArray → Bool → ByteArray → List ByteArray → Int → Int → Int → Int → Option (Bool)
  | 0, _, _, _, _, _, _, _, _ => none
  | k + 1, x0, x3, x5, x25, x26, x27, x43, x44 => if x44 < x43 then (if x3 = true then (if 0 ≤ x44 then (if x44 < (x5.size : Int) then (if (bt x5 x44) = 105 then (lockstitchlaw03_KindLetters.l1 k x0 true x5 x25 x26 x27 x43 (wrap64 (x44 + 1))) else (if (bt x5 x44) ≥ 48 then (lockstitchlaw03_KindLetters.l1 k x0 (decide ((((bt x5 x44) - 48) % 256) < (x0.length : Int))) x5 x25 x26 x27 x43 (wrap64 (x44 + 1))) else (lockstitchlaw03_KindLetters.l1 k x0 false x5 x25 x26 x27 x43 (wrap64 (x44 + 1))))) else (none)) else (none)) else (lockstitchlaw03_KindLetters.l1 k x0 false x5 x25 x26 x27 x43 (wrap64 (x44 + 1)))) else (lockstitchlaw03_KindLetters.l0 k x0 x3 x25 x26 (wrap64 (x27 + 1)))
noncomputable def lockstitchlaw03_KindLetters.l2 : Nat → List ByteArray → Bool → Int → Option (Bool)
  | 0, _, _, _ => none
  | k + 1, x0, x3, x7 => if x3 = true then (lockstitchlaw03_KindLetters.j5 k x0 x3 x7 (decide (x7 < (x0.length : Int)))) else (lockstitchlaw03_KindLetters.j5 k x0 x3 x7 false)
noncomputable def lockstitchlaw03_KindLetters.j5 : Nat → List ByteArray → Bool → Int → Bool → Option (Bool)
  | 0, _, _, _, _ => none
  | k + 1, x0, x3, x7, x82 => if x82 = true then (if 0 ≤ x7 then (if x7 < (x0.length : Int) then (lockstitchlaw03_KindLetters.l3 k x0 x3 x7 0 ((rdOf ByteArray.empty x0 x7).size : Int) 0) else (none)) else (none)) else (some true)
noncomputable def lockstitchlaw03_KindLetters.l3 : Nat → List ByteArray → Bool → Int → Int → Int → Int → Option (Bool)
  | 0, _, _, _, _, _, _ => none
  | k + 1, x0, x3, x7, x8, x89, x90 => if x90 < x89 then (if 0 ≤ x7 then (if x7 < (x0.length : Int) then (if 0 ≤ x90 then (if x90 < ((rdOf ByteArray.empty x0 x7).size : Int) then (if (bt (rdOf ByteArray.empty x0 x7) x90) = 105 then (lockstitchlaw03_KindLetters.l3 k x0 x3 x7 x8 x89 (wrap64 (x90 + 1))) else (lockstitchlaw03_KindLetters.l3 k x0 x3 x7 (wrap64 (x8 + 1)) x89 (wrap64 (x90 + 1)))) else (none)) else (none)) else (none)) else (none)) else (lockstitchlaw03_KindLetters.l4 k x0 x3 x7 x8 0 0)
noncomputable def lockstitchlaw03_KindLetters.l4 : Nat → List ByteArray → Bool → Int → Int → Int → Int → Option (Bool)
  | 0, _, _, _, _, _, _ => none
  | k + 1, x0, x3, x7, x8, x10, x103 => if x103 < 8 then ((kind_Mask.f k x0 x7).bind fun t107 => (if 0 ≤ x103 then (lockstitchlaw03_KindLetters.l4 k x0 x3 x7 x8 (wrap64 (x10 + (wrap64 (Go.bits .and .u8 (shr .u8 t107 x103) 1)))) (wrap64 (x103 + 1))) else (none))) else (if x10 = x8 then (lockstitchlaw03_KindLetters.l2 k x0 x3 (wrap64 (x7 + 1))) else (some false))
end
noncomputable def lockstitchlaw03_KindLetters.f (k : Nat) (l0 : List ByteArray) : Option (Bool) := (lockstitchlaw03_alive.f k).bind fun t101 => (if t101 = true then ((lockstitchlaw03_few.f k l0).bind fun t102 => (if t102 = true then (if (l0.length : Int) ≥ 1 then (lockstitchlaw03_KindLetters.j0 k l0 (decide ((l0.length : Int) ≤ 8))) else (lockstitchlaw03_KindLetters.j0 k l0 false)) else (some true))) else (some false))
theorem lockstitchlaw03_KindLetters.mono_l : ∀ k, (∀ y0 y1, LeO (lockstitchlaw03_KindLetters.j0 k y0 y1) (lockstitchlaw03_KindLetters.j0 (k + 1) y0 y1)) ∧ (∀ y0 y1 y2 y3 y4, LeO (lockstitchlaw03_KindLetters.l0 k y0 y1 y2 y3 y4) (lockstitchlaw03_KindLetters.l0 (k + 1) y0 y1 y2 y3 y4)) ∧ (∀ y0 y1 y2 y3 y4 y5, LeO (lockstitchlaw03_KindLetters.j2 k y0 y1 y2 y3 y4 y5) (lockstitchlaw03_KindLetters.j2 (k + 1) y0 y1 y2 y3 y4 y5)) ∧ (∀ y0 y1 y2 y3 y4 y5 y6 y7, LeO (lockstitchlaw03_KindLetters.l1 k y0 y1 y2 y3 y4 y5 y6 y7) (lockstitchlaw03_KindLetters.l1 (k + 1) y0 y1 y2 y3 y4 y5 y6 y7)) ∧ (∀ y0 y1 y2, LeO (lockstitchlaw03_KindLetters.l2 k y0 y1 y2) (lockstitchlaw03_KindLetters.l2 (k + 1) y0 y1 y2)) ∧ (∀ y0 y1 y2 y3, LeO (lockstitchlaw03_KindLetters.j5 k y0 y1 y2 y3) (lockstitchlaw03_KindLetters.j5 (k + 1) y0 y1 y2 y3)) ∧ (∀ y0 y1 y2 y3 y4 y5, LeO (lockstitchlaw03_KindLetters.l3 k y0 y1 y2 y3 y4 y5) (lockstitchlaw03_KindLetters.l3 (k + 1) y0 y1 y2 y3 y4 y5)) ∧ (∀ y0 y1 y2 y3 y4 y5, LeO (lockstitchlaw03_KindLetters.l4 k y0 y1 y2 y3 y4 y5) (lockstitchlaw03_KindLetters.l4 (k + 1) y0 y1 y2 y3 y4 y5))
  | 0 => ⟨fun _ _ r h => by simp [lockstitchlaw03_KindLetters.j0] at h, fun _ _ _ _ _ r h => by simp [lockstitchlaw03_KindLetters.l0] at h, fun _ _ _ _ _ _ r h => by simp [lockstitchlaw03_KindLetters.j2] at h, fun _ _ _ _ _ _ _ _ r h => by simp [lockstitchlaw03_KindLetters.l1] at h, fun _ _ _ r h => by simp [lockstitchlaw03_KindLetters.l2] at h, fun _ _ _ _ r h => by simp [lockstitchlaw03_KindLetters.j5] at h, fun _ _ _ _ _ _ r h => by simp [lockstitchlaw03_KindLetters.l3] at h, fun _ _ _ _ _ _ r h => by simp [lockstitchlaw03_KindLetters.l4] at h⟩
  | k + 1 => by
    obtain ⟨ih0, ih1, ih2, ih3, ih4, ih5, ih6, ih7⟩ := lockstitchlaw03_KindLetters.mono_l k
    refine ⟨?_, ?_, ?_, ?_, ?_, ?_, ?_, ?_⟩
    · intro y0 y1
      unfold lockstitchlaw03_KindLetters.j0
      repeat' first
      | (with_reducible exact ih0 _ _)
      | (with_reducible exact ih1 _ _ _ _ _)
      | (with_reducible exact ih2 _ _ _ _ _ _)
      | (with_reducible exact ih3 _ _ _ _ _ _ _ _)
      | (with_reducible exact ih4 _ _ _)
      | (with_reducible exact ih5 _ _ _ _)
      | (with_reducible exact ih6 _ _ _ _ _ _)
      | (with_reducible exact ih7 _ _ _ _ _ _)
      | (with_reducible exact kind_Mask.mono _ _ _)
      | (with_reducible exact kind_Right.mono _ _)
      | (with_reducible exact lockstitchlaw03_alive.mono _)
      | (with_reducible exact lockstitchlaw03_few.mono _ _)
      | (with_reducible exact LeO.refl _)
      | (with_reducible exact LeO.none _)
      | (with_reducible refine LeO.ite ?_ ?_)
      | (with_reducible refine LeO.bind ?_ (fun _ => ?_))
      | exact ih0 _ _
      | exact ih1 _ _ _ _ _
      | exact ih2 _ _ _ _ _ _
      | exact ih3 _ _ _ _ _ _ _ _
      | exact ih4 _ _ _
      | exact ih5 _ _ _ _
      | exact ih6 _ _ _ _ _ _
      | exact ih7 _ _ _ _ _ _
      | exact kind_Mask.mono _ _ _
      | exact kind_Right.mono _ _
      | exact lockstitchlaw03_alive.mono _
      | exact lockstitchlaw03_few.mono _ _
      | exact LeO.none _
      | refine LeO.ite ?_ ?_
      | refine LeO.bind ?_ (fun _ => ?_)
    · intro y0 y1 y2 y3 y4
      unfold lockstitchlaw03_KindLetters.l0
      repeat' first
      | (with_reducible exact ih0 _ _)
      | (with_reducible exact ih1 _ _ _ _ _)
      | (with_reducible exact ih2 _ _ _ _ _ _)
      | (with_reducible exact ih3 _ _ _ _ _ _ _ _)
      | (with_reducible exact ih4 _ _ _)
      | (with_reducible exact ih5 _ _ _ _)
      | (with_reducible exact ih6 _ _ _ _ _ _)
      | (with_reducible exact ih7 _ _ _ _ _ _)
      | (with_reducible exact kind_Mask.mono _ _ _)
      | (with_reducible exact kind_Right.mono _ _)
      | (with_reducible exact lockstitchlaw03_alive.mono _)
      | (with_reducible exact lockstitchlaw03_few.mono _ _)
      | (with_reducible exact LeO.refl _)
      | (with_reducible exact LeO.none _)
      | (with_reducible refine LeO.ite ?_ ?_)
      | (with_reducible refine LeO.bind ?_ (fun _ => ?_))
      | exact ih0 _ _
      | exact ih1 _ _ _ _ _
      | exact ih2 _ _ _ _ _ _
      | exact ih3 _ _ _ _ _ _ _ _
      | exact ih4 _ _ _
      | exact ih5 _ _ _ _
      | exact ih6 _ _ _ _ _ _
      | exact ih7 _ _ _ _ _ _
      | exact kind_Mask.mono _ _ _
      | exact kind_Right.mono _ _
      | exact lockstitchlaw03_alive.mono _
      | exact lockstitchlaw03_few.mono _ _
      | exact LeO.none _
      | refine LeO.ite ?_ ?_
      | refine LeO.bind ?_ (fun _ => ?_)
    · intro y0 y1 y2 y3 y4 y5
      unfold lockstitchlaw03_KindLetters.j2
      repeat' first
      | (with_reducible exact ih0 _ _)
      | (with_reducible exact ih1 _ _ _ _ _)
      | (with_reducible exact ih2 _ _ _ _ _ _)
      | (with_reducible exact ih3 _ _ _ _ _ _ _ _)
      | (with_reducible exact ih4 _ _ _)
      | (with_reducible exact ih5 _ _ _ _)
      | (with_reducible exact ih6 _ _ _ _ _ _)
      | (with_reducible exact ih7 _ _ _ _ _ _)
      | (with_reducible exact kind_Mask.mono _ _ _)
      | (with_reducible exact kind_Right.mono _ _)
      | (with_reducible exact lockstitchlaw03_alive.mono _)
      | (with_reducible exact lockstitchlaw03_few.mono _ _)
      | (with_reducible exact LeO.refl _)
      | (with_reducible exact LeO.none _)
      | (with_reducible refine LeO.ite ?_ ?_)
      | (with_reducible refine LeO.bind ?_ (fun _ => ?_))
      | exact ih0 _ _
      | exact ih1 _ _ _ _ _
      | exact ih2 _ _ _ _ _ _
      | exact ih3 _ _ _ _ _ _ _ _
      | exact ih4 _ _ _
      | exact ih5 _ _ _ _
      | exact ih6 _ _ _ _ _ _
      | exact ih7 _ _ _ _ _ _
      | exact kind_Mask.mono _ _ _
      | exact kind_Right.mono _ _
      | exact lockstitchlaw03_alive.mono _
      | exact lockstitchlaw03_few.mono _ _
      | exact LeO.none _
      | refine LeO.ite ?_ ?_
      | refine LeO.bind ?_ (fun _ => ?_)
    · intro y0 y1 y2 y3 y4 y5 y6 y7
      unfold lockstitchlaw03_KindLetters.l1
      repeat' first
      | (with_reducible exact ih0 _ _)
      | (with_reducible exact ih1 _ _ _ _ _)
      | (with_reducible exact ih2 _ _ _ _ _ _)
      | (with_reducible exact ih3 _ _ _ _ _ _ _ _)
      | (with_reducible exact ih4 _ _ _)
      | (with_reducible exact ih5 _ _ _ _)
      | (with_reducible exact ih6 _ _ _ _ _ _)
      | (with_reducible exact ih7 _ _ _ _ _ _)
      | (with_reducible exact kind_Mask.mono _ _ _)
      | (with_reducible exact kind_Right.mono _ _)
      | (with_reducible exact lockstitchlaw03_alive.mono _)
      | (with_reducible exact lockstitchlaw03_few.mono _ _)
      | (with_reducible exact LeO.refl _)
      | (with_reducible exact LeO.none _)
      | (with_reducible refine LeO.ite ?_ ?_)
      | (with_reducible refine LeO.bind ?_ (fun _ => ?_))
      | exact ih0 _ _
      | exact ih1 _ _ _ _ _
      | exact ih2 _ _ _ _ _ _
      | exact ih3 _ _ _ _ _ _ _ _
      | exact ih4 _ _ _
      | exact ih5 _ _ _ _
      | exact ih6 _ _ _ _ _ _
      | exact ih7 _ _ _ _ _ _
      | exact kind_Mask.mono _ _ _
      | exact kind_Right.mono _ _
      | exact lockstitchlaw03_alive.mono _
      | exact lockstitchlaw03_few.mono _ _
      | exact LeO.none _
      | refine LeO.ite ?_ ?_
      | refine LeO.bind ?_ (fun _ => ?_)
    · intro y0 y1 y2
      unfold lockstitchlaw03_KindLetters.l2
      repeat' first
      | (with_reducible exact ih0 _ _)
      | (with_reducible exact ih1 _ _ _ _ _)
      | (with_reducible exact ih2 _ _ _ _ _ _)
      | (with_reducible exact ih3 _ _ _ _ _ _ _ _)
      | (with_reducible exact ih4 _ _ _)
      | (with_reducible exact ih5 _ _ _ _)
      | (with_reducible exact ih6 _ _ _ _ _ _)
      | (with_reducible exact ih7 _ _ _ _ _ _)
      | (with_reducible exact kind_Mask.mono _ _ _)
      | (with_reducible exact kind_Right.mono _ _)
      | (with_reducible exact lockstitchlaw03_alive.mono _)
      | (with_reducible exact lockstitchlaw03_few.mono _ _)
      | (with_reducible exact LeO.refl _)
      | (with_reducible exact LeO.none _)
      | (with_reducible refine LeO.ite ?_ ?_)
      | (with_reducible refine LeO.bind ?_ (fun _ => ?_))
      | exact ih0 _ _
      | exact ih1 _ _ _ _ _
      | exact ih2 _ _ _ _ _ _
      | exact ih3 _ _ _ _ _ _ _ _
      | exact ih4 _ _ _
      | exact ih5 _ _ _ _
      | exact ih6 _ _ _ _ _ _
      | exact ih7 _ _ _ _ _ _
      | exact kind_Mask.mono _ _ _
      | exact kind_Right.mono _ _
      | exact lockstitchlaw03_alive.mono _
      | exact lockstitchlaw03_few.mono _ _
      | exact LeO.none _
      | refine LeO.ite ?_ ?_
      | refine LeO.bind ?_ (fun _ => ?_)
    · intro y0 y1 y2 y3
      unfold lockstitchlaw03_KindLetters.j5
      repeat' first
      | (with_reducible exact ih0 _ _)
      | (with_reducible exact ih1 _ _ _ _ _)
      | (with_reducible exact ih2 _ _ _ _ _ _)
      | (with_reducible exact ih3 _ _ _ _ _ _ _ _)
      | (with_reducible exact ih4 _ _ _)
      | (with_reducible exact ih5 _ _ _ _)
      | (with_reducible exact ih6 _ _ _ _ _ _)
      | (with_reducible exact ih7 _ _ _ _ _ _)
      | (with_reducible exact kind_Mask.mono _ _ _)
      | (with_reducible exact kind_Right.mono _ _)
      | (with_reducible exact lockstitchlaw03_alive.mono _)
      | (with_reducible exact lockstitchlaw03_few.mono _ _)
      | (with_reducible exact LeO.refl _)
      | (with_reducible exact LeO.none _)
      | (with_reducible refine LeO.ite ?_ ?_)
      | (with_reducible refine LeO.bind ?_ (fun _ => ?_))
      | exact ih0 _ _
      | exact ih1 _ _ _ _ _
      | exact ih2 _ _ _ _ _ _
      | exact ih3 _ _ _ _ _ _ _ _
      | exact ih4 _ _ _
      | exact ih5 _ _ _ _
      | exact ih6 _ _ _ _ _ _
      | exact ih7 _ _ _ _ _ _
      | exact kind_Mask.mono _ _ _
      | exact kind_Right.mono _ _
      | exact lockstitchlaw03_alive.mono _
      | exact lockstitchlaw03_few.mono _ _
      | exact LeO.none _
      | refine LeO.ite ?_ ?_
      | refine LeO.bind ?_ (fun _ => ?_)
    · intro y0 y1 y2 y3 y4 y5
      unfold lockstitchlaw03_KindLetters.l3
      repeat' first
      | (with_reducible exact ih0 _ _)
      | (with_reducible exact ih1 _ _ _ _ _)
      | (with_reducible exact ih2 _ _ _ _ _ _)
      | (with_reducible exact ih3 _ _ _ _ _ _ _ _)
      | (with_reducible exact ih4 _ _ _)
      | (with_reducible exact ih5 _ _ _ _)
      | (with_reducible exact ih6 _ _ _ _ _ _)
      | (with_reducible exact ih7 _ _ _ _ _ _)
      | (with_reducible exact kind_Mask.mono _ _ _)
      | (with_reducible exact kind_Right.mono _ _)
      | (with_reducible exact lockstitchlaw03_alive.mono _)
      | (with_reducible exact lockstitchlaw03_few.mono _ _)
      | (with_reducible exact LeO.refl _)
      | (with_reducible exact LeO.none _)
      | (with_reducible refine LeO.ite ?_ ?_)
      | (with_reducible refine LeO.bind ?_ (fun _ => ?_))
      | exact ih0 _ _
      | exact ih1 _ _ _ _ _
      | exact ih2 _ _ _ _ _ _
      | exact ih3 _ _ _ _ _ _ _ _
      | exact ih4 _ _ _
      | exact ih5 _ _ _ _
      | exact ih6 _ _ _ _ _ _
      | exact ih7 _ _ _ _ _ _
      | exact kind_Mask.mono _ _ _
      | exact kind_Right.mono _ _
      | exact lockstitchlaw03_alive.mono _
      | exact lockstitchlaw03_few.mono _ _
      | exact LeO.none _
      | refine LeO.ite ?_ ?_
      | refine LeO.bind ?_ (fun _ => ?_)
    · intro y0 y1 y2 y3 y4 y5
      unfold lockstitchlaw03_KindLetters.l4
      repeat' first
      | (with_reducible exact ih0 _ _)
      | (with_reducible exact ih1 _ _ _ _ _)
      | (with_reducible exact ih2 _ _ _ _ _ _)
      | (with_reducible exact ih3 _ _ _ _ _ _ _ _)
      | (with_reducible exact ih4 _ _ _)
      | (with_reducible exact ih5 _ _ _ _)
      | (with_reducible exact ih6 _ _ _ _ _ _)
      | (with_reducible exact ih7 _ _ _ _ _ _)
      | (with_reducible exact kind_Mask.mono _ _ _)
      | (with_reducible exact kind_Right.mono _ _)
      | (with_reducible exact lockstitchlaw03_alive.mono _)
      | (with_reducible exact lockstitchlaw03_few.mono _ _)
      | (with_reducible exact LeO.refl _)
      | (with_reducible exact LeO.none _)
      | (with_reducible refine LeO.ite ?_ ?_)
      | (with_reducible refine LeO.bind ?_ (fun _ => ?_))
      | exact ih0 _ _
      | exact ih1 _ _ _ _ _
      | exact ih2 _ _ _ _ _ _
      | exact ih3 _ _ _ _ _ _ _ _
      | exact ih4 _ _ _
      | exact ih5 _ _ _ _
      | exact ih6 _ _ _ _ _ _
      | exact ih7 _ _ _ _ _ _
      | exact kind_Mask.mono _ _ _
      | exact kind_Right.mono _ _
      | exact lockstitchlaw03_alive.mono _
      | exact lockstitchlaw03_few.mono _ _
      | exact LeO.none _
      | refine LeO.ite ?_ ?_
      | refine LeO.bind ?_ (fun _ => ?_)
theorem lockstitchlaw03_KindLetters.mono : ∀ a0 k, LeO (lockstitchlaw03_KindLetters.f k a0) (lockstitchlaw03_KindLetters.f (k + 1) a0) := by
  intro a0 k
  obtain ⟨ih0, ih1, ih2, ih3, ih4, ih5, ih6, ih7⟩ := lockstitchlaw03_KindLetters.mono_l k
  unfold lockstitchlaw03_KindLetters.f
  repeat' first
      | (with_reducible exact ih0 _ _)
      | (with_reducible exact ih1 _ _ _ _ _)
      | (with_reducible exact ih2 _ _ _ _ _ _)
      | (with_reducible exact ih3 _ _ _ _ _ _ _ _)
      | (with_reducible exact ih4 _ _ _)
      | (with_reducible exact ih5 _ _ _ _)
      | (with_reducible exact ih6 _ _ _ _ _ _)
      | (with_reducible exact ih7 _ _ _ _ _ _)
      | (with_reducible exact kind_Mask.mono _ _ _)
      | (with_reducible exact kind_Right.mono _ _)
      | (with_reducible exact lockstitchlaw03_alive.mono _)
      | (with_reducible exact lockstitchlaw03_few.mono _ _)
      | (with_reducible exact LeO.refl _)
      | (with_reducible exact LeO.none _)
      | (with_reducible refine LeO.ite ?_ ?_)
      | (with_reducible refine LeO.bind ?_ (fun _ => ?_))
      | exact ih0 _ _
      | exact ih1 _ _ _ _ _
      | exact ih2 _ _ _ _ _ _
      | exact ih3 _ _ _ _ _ _ _ _
      | exact ih4 _ _ _
      | exact ih5 _ _ _ _
      | exact ih6 _ _ _ _ _ _
      | exact ih7 _ _ _ _ _ _
      | exact kind_Mask.mono _ _ _
      | exact kind_Right.mono _ _
      | exact lockstitchlaw03_alive.mono _
      | exact lockstitchlaw03_few.mono _ _
      | exact LeO.none _
      | refine LeO.ite ?_ ?_
      | refine LeO.bind ?_ (fun _ => ?_)
set_option maxHeartbeats 8000000 in
set_option maxRecDepth 100000 in
theorem lockstitchlaw03_KindLetters.calls (k : Nat) (A0 : Option Addr) (c0 : Nat) (l0 : List ByteArray) (r : Bool) (w : World) (hr0 : Kd.C Kd.string w A0 l0.length l0) (hc0 : l0.length ≤ c0) (h : lockstitchlaw03_KindLetters.f k l0 = some r) :
    Calls Try.prog 8 #[.slice A0 l0.length c0] w fun e w' => e = .returned (.bool r) ∧ Below w.heap.size w w' := by
  have HR0 := Aside0.mk hr0
  have HC0 := Aside0.mk hc0
  clear hr0 hc0
  have HB := Aside0.mk (Below.refl w.heap.size w)
  have H : ((lockstitchlaw03_alive.f k).bind fun t101 => (if t101 = true then ((lockstitchlaw03_few.f k l0).bind fun t102 => (if t102 = true then (if (l0.length : Int) ≥ 1 then (lockstitchlaw03_KindLetters.j0 k l0 (decide ((l0.length : Int) ≤ 8))) else (lockstitchlaw03_KindLetters.j0 k l0 false)) else (some true))) else (some false))) = some r := h
  clear h
  replace H := Option.bind_eq_some_iff.mp H
  obtain ⟨t101, A20, H⟩ := H
  replace H : (if t101 = true then ((lockstitchlaw03_few.f k l0).bind fun t102 => (if t102 = true then (if (l0.length : Int) ≥ 1 then (lockstitchlaw03_KindLetters.j0 k l0 (decide ((l0.length : Int) ≤ 8))) else (lockstitchlaw03_KindLetters.j0 k l0 false)) else (some true))) else (some false)) = some r := H
  have A2 := Aside0.mk A20
  clear A20
  by_cases c3 : t101 = true
  · subst c3
    have H1 : ((lockstitchlaw03_few.f k l0).bind fun t102 => (if t102 = true then (if (l0.length : Int) ≥ 1 then (lockstitchlaw03_KindLetters.j0 k l0 (decide ((l0.length : Int) ≤ 8))) else (lockstitchlaw03_KindLetters.j0 k l0 false)) else (some true))) = some r := by rw [if_pos rfl] at H; exact H
    clear H
    have H := H1
    clear H1
    replace H := Option.bind_eq_some_iff.mp H
    obtain ⟨t102, A40, H⟩ := H
    replace H : (if t102 = true then (if (l0.length : Int) ≥ 1 then (lockstitchlaw03_KindLetters.j0 k l0 (decide ((l0.length : Int) ≤ 8))) else (lockstitchlaw03_KindLetters.j0 k l0 false)) else (some true)) = some r := H
    have A4 := Aside0.mk A40
    clear A40
    by_cases c5 : t102 = true
    · subst c5
      have H1 : (if (l0.length : Int) ≥ 1 then (lockstitchlaw03_KindLetters.j0 k l0 (decide ((l0.length : Int) ≤ 8))) else (lockstitchlaw03_KindLetters.j0 k l0 false)) = some r := by rw [if_pos rfl] at H; exact H
      clear H
      have H := H1
      clear H1
      have HC6 := Aside0.mk H
      clear H
      go_enter Try.func8, Try.ntmps8
      go_upto_region 5 with (first | ((with_reducible refine gate_callee (f := 10) rfl ?_); refine goesL_ (some 12) rfl rfl Try.func10 (by kernel_rfl) rfl #[] rfl (by (try simp only [List.map_toArray, List.map_cons, List.map_nil]); first | done | rfl | (simp only [List.length_drop, List.length_take]; rfl)) ?_; (with_reducible refine (lockstitchlaw03_alive.calls k  true _ A2.out).mono ?_); rintro e w7 ⟨rfl, hb⟩; refine ⟨_, rfl, ?_⟩; have n0_ := Aside0.mk (below_step (by repeat (first | (with_reducible first | exact HB.out | apply below_alloc | apply pw_below_drewN | apply below_drew1) | exact HB.out)) hb); clear HB; have HB := n0_; clear n0_; (try clear hb); (try clear hb2); (try clear hk); (try clear hi)) | ((with_reducible refine gate_callee (f := 11) rfl ?_); refine goesL_ (some 15) rfl rfl Try.func11 (by kernel_rfl) rfl #[.slice A0 l0.length c0] rfl (by (try simp only [List.map_toArray, List.map_cons, List.map_nil]); first | done | rfl | (simp only [List.length_drop, List.length_take]; rfl)) ?_; (with_reducible refine (lockstitchlaw03_few.calls k _ _ l0 true _ ?side1 ?side2 A4.out).mono ?_); (case side1 => repeat (first | exact (Kd.C_below HR0.out HB.out) | (with_reducible refine Kd.C_alloc ?_ _) | (with_reducible refine Kd.C_drewN ?_ _) | (with_reducible refine Kd.C_drew ?_))); (case side2 => exact HC0.out); rintro e w' ⟨rfl, ⟨nd, rfl⟩⟩; refine ⟨_, rfl, ?_⟩))
      (try simp only [Act.put, List.setIfInBounds_toArray, List.set_cons_zero, List.set_cons_succ])
      go_cut [3] (fun v3 wc => ∃ (kq : Nat) (x3_5 : Bool), v3 = .bool x3_5 ∧ Aside0 (lockstitchlaw03_KindLetters.j0 kq l0 x3_5 = some r) ∧ Aside0 (kq ≤ k) ∧ Aside0 (Below w.heap.size w wc))
      case first =>
        have H := HC6.out
        clear HC6
        by_cases c8 : (l0.length : Int) ≥ 1
        · rw [if_pos c8] at H
          have c8b0 : decide (1 ≤ (l0.length : Int)) = true := decide_eq_true c8
          have c8b1 : decide (1 ≤ l0.length) = true := decide_eq_true (by omega)
          clear c8
          (first | rw [c8b0] | (simp only [i64_w, i32_w]; rw [c8b0]) | skip)
          have H' := Aside0.mk H
          clear H
          go_wp2
          go_meet
          case rel => exact ⟨_, (decide ((l0.length : Int) ≤ 8)), (by first | rfl | (simp; done) | (simp [*]; done)), H', ⟨by first | omega | exact Nat.le_refl _⟩, ⟨by repeat (first | (with_reducible first | exact HB.out | apply below_alloc | apply pw_below_drewN | apply below_drew1) | exact HB.out)⟩⟩
        · rw [if_neg c8] at H
          have c8b0 : decide (1 ≤ (l0.length : Int)) = false := decide_eq_false c8
          have c8b1 : decide (1 ≤ l0.length) = false := decide_eq_false (by omega)
          clear c8
          (first | rw [c8b0] | (simp only [i64_w, i32_w]; rw [c8b0]) | skip)
          have H' := Aside0.mk H
          clear H
          go_wp2
          go_meet
          case rel => exact ⟨_, (false), (by first | rfl | (simp; done) | (simp [*]; done)), H', ⟨by first | omega | exact Nat.le_refl _⟩, ⟨by repeat (first | (with_reducible first | exact HB.out | apply below_alloc | apply pw_below_drewN | apply below_drew1) | exact HB.out)⟩⟩
      case rest =>
        clear HC6
        try clear c1
        try clear p2
        try clear c3
        try clear c5
        try clear c8
        try clear c8b0
        try clear c8b1
        obtain ⟨kq, x3_5, rfl, HA, HJ5, HB⟩ := hcut
        cases kq with
        | zero => exact absurd HA.out (by simp [lockstitchlaw03_KindLetters.j0])
        | succ kj5 =>
          have H := HA.out
          clear HA
          simp only [lockstitchlaw03_KindLetters.j0] at H
          have H' := Aside0.mk H
          clear H
          go_wp2
          go_loopg [3, 27] kj5 (fun kq v3 v27 w' => ∃ (x3_2 : Bool) (x27_2 : Int), v3 = .bool x3_2 ∧ v27 = .int .i64 x27_2 ∧ Aside0 (lockstitchlaw03_KindLetters.l0 kq l0 x3_2 l0 (l0.length : Int) x27_2 = some r) ∧ Aside0 (kq ≤ kj5) ∧ Aside0 (Below w.heap.size w w'))
          case atStart => exact ⟨(x3_5), (0), (by first | rfl | (simp; done) | (simp [*]; done)), (by first | rfl | (simp; done) | (simp [*]; done)), H', ⟨Nat.le_refl _⟩, ⟨by repeat (first | (with_reducible first | exact HB.out | apply below_alloc | apply pw_below_drewN | apply below_drew1) | exact HB.out)⟩⟩
          case round =>
            clear H'
            try clear c1
            try clear p2
            try clear c3
            try clear c5
            try clear c8
            try clear c8b0
            try clear c8b1
            try clear p2
            obtain ⟨x3_2, x27_2, rfl, rfl, HA, HK2, HB⟩ := hrel
            cases gk with
            | zero => exact absurd HA.out (by simp [lockstitchlaw03_KindLetters.l0])
            | succ k2 =>
              have H := HA.out
              clear HA
              simp only [lockstitchlaw03_KindLetters.l0] at H
              by_cases c9 : x27_2 < (l0.length : Int)
              · rw [if_pos c9] at H
                have c9b0 : decide (x27_2 < (l0.length : Int)) = true := decide_eq_true c9
                clear c9
                by_cases c10 : 0 ≤ x27_2
                · rw [if_pos c10] at H
                  have c10b0 : decide (0 ≤ x27_2) = true := decide_eq_true c10
                  clear c10
                  by_cases c11 : x27_2 < (l0.length : Int)
                  · rw [if_pos c11] at H
                    have c11b0 : decide (x27_2 < (l0.length : Int)) = true := decide_eq_true c11
                    clear c11
                    have HC12 := Aside0.mk H
                    clear H
                    have p103 : 0 ≤ (x27_2 : Int) := of_decide_eq_true (by first | (with_reducible assumption) | assumption)
                    have q103 : x27_2 < (l0.length : Int) := of_decide_eq_true (by first | (with_reducible assumption) | assumption)
                    obtain ⟨ad103, e103, hx103_0⟩ := Kd.at_string HR0.out x27_2 p103 q103
                    cases e103
                    replace hx103_0 := (HB.out.cell (World.block_lt_of_cell? w _ hx103_0)).trans hx103_0
                    replace p103 := eq_true p103
                    replace q103 := eq_true q103
                    go_upto_region 9 with (fail)
                    go_cut [3] (fun v3 wc => ∃ (kq : Nat) (x3_11 : Bool), v3 = .bool x3_11 ∧ Aside0 (lockstitchlaw03_KindLetters.j2 kq l0 x3_11 (rdOf ByteArray.empty l0 x27_2) l0 (l0.length : Int) x27_2 = some r) ∧ Aside0 (kq ≤ k2) ∧ Aside0 (Below w.heap.size w wc))
                    case first =>
                      have H := HC12.out
                      clear HC12
                      by_cases c13 : x3_2 = true
                      · subst c13
                        have H1 : (if ((rdOf ByteArray.empty l0 x27_2).size : Int) ≥ 1 then (lockstitchlaw03_KindLetters.j2 k2 l0 (decide (((rdOf ByteArray.empty l0 x27_2).size : Int) ≤ 6)) (rdOf ByteArray.empty l0 x27_2) l0 (l0.length : Int) x27_2) else (lockstitchlaw03_KindLetters.j2 k2 l0 false (rdOf ByteArray.empty l0 x27_2) l0 (l0.length : Int) x27_2)) = some r := by rw [if_pos rfl] at H; exact H
                        clear H
                        have H := H1
                        clear H1
                        by_cases c14 : ((rdOf ByteArray.empty l0 x27_2).size : Int) ≥ 1
                        · rw [if_pos c14] at H
                          have c14b0 : decide (1 ≤ ((rdOf ByteArray.empty l0 x27_2).size : Int)) = true := decide_eq_true c14
                          have c14b1 : decide (1 ≤ (rdOf ByteArray.empty l0 x27_2).size) = true := decide_eq_true (by omega)
                          clear c14
                          (first | rw [c14b0] | (simp only [i64_w, i32_w]; rw [c14b0]) | skip)
                          have H' := Aside0.mk H
                          clear H
                          go_wp2
                          go_meet
                          case rel => exact ⟨_, (decide (((rdOf ByteArray.empty l0 x27_2).size : Int) ≤ 6)), (by first | rfl | (simp; done) | (simp [*]; done)), H', ⟨by have := HJ5.out; have := HK2.out; first | omega | exact Nat.le_refl _⟩, ⟨by repeat (first | (with_reducible first | exact HB.out | apply below_alloc | apply pw_below_drewN | apply below_drew1) | exact HB.out)⟩⟩
                        · rw [if_neg c14] at H
                          have c14b0 : decide (1 ≤ ((rdOf ByteArray.empty l0 x27_2).size : Int)) = false := decide_eq_false c14
                          have c14b1 : decide (1 ≤ (rdOf ByteArray.empty l0 x27_2).size) = false := decide_eq_false (by omega)
                          clear c14
                          (first | rw [c14b0] | (simp only [i64_w, i32_w]; rw [c14b0]) | skip)
                          have H' := Aside0.mk H
                          clear H
                          go_wp2
                          go_meet
                          case rel => exact ⟨_, (false), (by first | rfl | (simp; done) | (simp [*]; done)), H', ⟨by have := HJ5.out; have := HK2.out; first | omega | exact Nat.le_refl _⟩, ⟨by repeat (first | (with_reducible first | exact HB.out | apply below_alloc | apply pw_below_drewN | apply below_drew1) | exact HB.out)⟩⟩
                      · replace c13 := Bool.eq_false_iff.mpr c13
                        subst c13
                        have H1 : (lockstitchlaw03_KindLetters.j2 k2 l0 false (rdOf ByteArray.empty l0 x27_2) l0 (l0.length : Int) x27_2) = some r := by rw [if_neg (show ¬ (false = true) by decide)] at H; exact H
                        clear H
                        have H := H1
                        clear H1
                        have H' := Aside0.mk H
                        clear H
                        go_wp2
                        go_meet
                        case rel => exact ⟨_, (false), (by first | rfl | (simp; done) | (simp [*]; done)), H', ⟨by have := HJ5.out; have := HK2.out; first | omega | exact Nat.le_refl _⟩, ⟨by repeat (first | (with_reducible first | exact HB.out | apply below_alloc | apply pw_below_drewN | apply below_drew1) | exact HB.out)⟩⟩
                    case rest =>
                      clear HC12
                      try clear c1
                      try clear p1
                      try clear q1
                      try clear hx1
                      try clear p2
                      try clear c3
                      try clear c5
                      try clear c8
                      try clear c8b0
                      try clear c8b1
                      try clear c9
                      try clear c9b0
                      try clear c10
                      try clear c10b0
                      try clear p10
                      try clear q10
                      try clear hx10
                      try clear c11
                      try clear c11b0
                      try clear c13
                      try clear c14
                      try clear c14b0
                      try clear c14b1
                      try clear hx103_0
                      try clear p103
                      try clear p2
                      try clear q103
                      obtain ⟨kq, x3_11, rfl, HA, HJ11, HB⟩ := hcut
                      cases kq with
                      | zero => exact absurd HA.out (by simp [lockstitchlaw03_KindLetters.j2])
                      | succ kj11 =>
                        have H := HA.out
                        clear HA
                        simp only [lockstitchlaw03_KindLetters.j2] at H
                        have H' := Aside0.mk H
                        clear H
                        go_wp2
                        go_loopg [3, 44] kj11 (fun kq v3 v44 w' => ∃ (x3_4 : Bool) (x44_4 : Int), v3 = .bool x3_4 ∧ v44 = .int .i64 x44_4 ∧ Aside0 (lockstitchlaw03_KindLetters.l1 kq l0 x3_4 (rdOf ByteArray.empty l0 x27_2) l0 (l0.length : Int) x27_2 ((rdOf ByteArray.empty l0 x27_2).size : Int) x44_4 = some r) ∧ Aside0 (kq ≤ kj11) ∧ Aside0 (Below w.heap.size w w'))
                        case atStart => exact ⟨(x3_11), (0), (by first | rfl | (simp; done) | (simp [*]; done)), (by first | rfl | (simp; done) | (simp [*]; done)), H', ⟨Nat.le_refl _⟩, ⟨by repeat (first | (with_reducible first | exact HB.out | apply below_alloc | apply pw_below_drewN | apply below_drew1) | exact HB.out)⟩⟩
                        case round =>
                          clear H'
                          try clear c1
                          try clear p1
                          try clear q1
                          try clear hx1
                          try clear p2
                          try clear c3
                          try clear c5
                          try clear c8
                          try clear c8b0
                          try clear c8b1
                          try clear c9
                          try clear c9b0
                          try clear c10
                          try clear c10b0
                          try clear p10
                          try clear q10
                          try clear hx10
                          try clear c11
                          try clear c11b0
                          try clear c13
                          try clear c14
                          try clear c14b0
                          try clear c14b1
                          try clear hx103_0
                          try clear p1
                          try clear p10
                          try clear p103
                          try clear p2
                          try clear q1
                          try clear q10
                          try clear q103
                          obtain ⟨x3_4, x44_4, rfl, rfl, HA, HK4, HB⟩ := hrel
                          cases gk with
                          | zero => exact absurd HA.out (by simp [lockstitchlaw03_KindLetters.l1])
                          | succ k4 =>
                            have H := HA.out
                            clear HA
                            simp only [lockstitchlaw03_KindLetters.l1] at H
                            by_cases c15 : x44_4 < ((rdOf ByteArray.empty l0 x27_2).size : Int)
                            · rw [if_pos c15] at H
                              have c15b0 : decide (x44_4 < ((rdOf ByteArray.empty l0 x27_2).size : Int)) = true := decide_eq_true c15
                              clear c15
                              by_cases c16 : x3_4 = true
                              · subst c16
                                have H1 : (if 0 ≤ x44_4 then (if x44_4 < ((rdOf ByteArray.empty l0 x27_2).size : Int) then (if (bt (rdOf ByteArray.empty l0 x27_2) x44_4) = 105 then (lockstitchlaw03_KindLetters.l1 k4 l0 true (rdOf ByteArray.empty l0 x27_2) l0 (l0.length : Int) x27_2 ((rdOf ByteArray.empty l0 x27_2).size : Int) (wrap64 (x44_4 + 1))) else (if (bt (rdOf ByteArray.empty l0 x27_2) x44_4) ≥ 48 then (lockstitchlaw03_KindLetters.l1 k4 l0 (decide ((((bt (rdOf ByteArray.empty l0 x27_2) x44_4) - 48) % 256) < (l0.length : Int))) (rdOf ByteArray.empty l0 x27_2) l0 (l0.length : Int) x27_2 ((rdOf ByteArray.empty l0 x27_2).size : Int) (wrap64 (x44_4 + 1))) else (lockstitchlaw03_KindLetters.l1 k4 l0 false (rdOf ByteArray.empty l0 x27_2) l0 (l0.length : Int) x27_2 ((rdOf ByteArray.empty l0 x27_2).size : Int) (wrap64 (x44_4 + 1))))) else (none)) else (none)) = some r := by rw [if_pos rfl] at H; exact H
                                clear H
                                have H := H1
                                clear H1
                                by_cases c17 : 0 ≤ x44_4
                                · rw [if_pos c17] at H
                                  have c17b0 : decide (0 ≤ x44_4) = true := decide_eq_true c17
                                  clear c17
                                  by_cases c18 : x44_4 < ((rdOf ByteArray.empty l0 x27_2).size : Int)
                                  · rw [if_pos c18] at H
                                    have c18b0 : decide (x44_4 < ((rdOf ByteArray.empty l0 x27_2).size : Int)) = true := decide_eq_true c18
                                    clear c18
                                    by_cases c20 : (bt (rdOf ByteArray.empty l0 x27_2) x44_4) = 105
                                    · rw [if_pos c20] at H
                                      have c20b0 : ((bt (rdOf ByteArray.empty l0 x27_2) x44_4) == 105) = true := beq_iff_eq.mpr c20
                                      have c20b1 : ((bt (rdOf ByteArray.empty l0 x27_2) x44_4) != 105) = false := bne_eq_false_iff_eq.mpr c20
                                      clear c20
                                      have H' := Aside0.mk H
                                      clear H
                                      have p19 : 0 ≤ (x44_4 : Int) := of_decide_eq_true (by first | (with_reducible assumption) | assumption)
                                      have q19 : x44_4 < ((rdOf ByteArray.empty l0 x27_2).size : Int) := of_decide_eq_true (by first | (with_reducible assumption) | assumption)
                                      have hx19 := bt_at (rdOf ByteArray.empty l0 x27_2) x44_4
                                      replace p19 := eq_true p19
                                      replace q19 := eq_true q19
                                      go_wp2
                                      go_roundg k4
                                      case measure => have := HJ5.out; have := HK2.out; have := HJ11.out; have := HK4.out; omega
                                      case rel => exact ⟨(true), (wrap64 (x44_4 + 1)), (by first | rfl | (simp; done) | (simp [*]; done)), (by first | rfl | (simp; done) | (simp [*]; done)), H', ⟨by have := HJ5.out; have := HK2.out; have := HJ11.out; have := HK4.out; omega⟩, ⟨by repeat (first | (with_reducible first | exact HB.out | apply below_alloc | apply pw_below_drewN | apply below_drew1) | exact HB.out)⟩⟩
                                    · rw [if_neg c20] at H
                                      have c20b0 : ((bt (rdOf ByteArray.empty l0 x27_2) x44_4) == 105) = false := beq_eq_false_iff_ne.mpr c20
                                      have c20b1 : ((bt (rdOf ByteArray.empty l0 x27_2) x44_4) != 105) = true := bne_iff_ne.mpr c20
                                      by_cases c22 : (bt (rdOf ByteArray.empty l0 x27_2) x44_4) ≥ 48
                                      · rw [if_pos c22] at H
                                        have c22b0 : decide (48 ≤ (bt (rdOf ByteArray.empty l0 x27_2) x44_4)) = true := decide_eq_true c22
                                        clear c22
                                        have H' := Aside0.mk H
                                        clear H
                                        have p19 : 0 ≤ (x44_4 : Int) := of_decide_eq_true (by first | (with_reducible assumption) | assumption)
                                        have q19 : x44_4 < ((rdOf ByteArray.empty l0 x27_2).size : Int) := of_decide_eq_true (by first | (with_reducible assumption) | assumption)
                                        have hx19 := bt_at (rdOf ByteArray.empty l0 x27_2) x44_4
                                        replace p19 := eq_true p19
                                        replace q19 := eq_true q19
                                        have p21 : 0 ≤ (x44_4 : Int) := of_decide_eq_true (by first | (with_reducible assumption) | assumption)
                                        have q21 : x44_4 < ((rdOf ByteArray.empty l0 x27_2).size : Int) := of_decide_eq_true (by first | (with_reducible assumption) | assumption)
                                        have hx21 := bt_at (rdOf ByteArray.empty l0 x27_2) x44_4
                                        replace p21 := eq_true p21
                                        replace q21 := eq_true q21
                                        have p23 : 0 ≤ (x44_4 : Int) := of_decide_eq_true (by first | (with_reducible assumption) | assumption)
                                        have q23 : x44_4 < ((rdOf ByteArray.empty l0 x27_2).size : Int) := of_decide_eq_true (by first | (with_reducible assumption) | assumption)
                                        have hx23 := bt_at (rdOf ByteArray.empty l0 x27_2) x44_4
                                        replace p23 := eq_true p23
                                        replace q23 := eq_true q23
                                        go_wp2
                                        go_roundg k4
                                        case measure => have := HJ5.out; have := HK2.out; have := HJ11.out; have := HK4.out; omega
                                        case rel => exact ⟨(decide ((((bt (rdOf ByteArray.empty l0 x27_2) x44_4) - 48) % 256) < (l0.length : Int))), (wrap64 (x44_4 + 1)), (by first | rfl | (simp; done) | (simp [*]; done)), (by first | rfl | (simp; done) | (simp [*]; done)), H', ⟨by have := HJ5.out; have := HK2.out; have := HJ11.out; have := HK4.out; omega⟩, ⟨by repeat (first | (with_reducible first | exact HB.out | apply below_alloc | apply pw_below_drewN | apply below_drew1) | exact HB.out)⟩⟩
                                      · rw [if_neg c22] at H
                                        have c22b0 : decide (48 ≤ (bt (rdOf ByteArray.empty l0 x27_2) x44_4)) = false := decide_eq_false c22
                                        clear c22
                                        have H' := Aside0.mk H
                                        clear H
                                        have p19 : 0 ≤ (x44_4 : Int) := of_decide_eq_true (by first | (with_reducible assumption) | assumption)
                                        have q19 : x44_4 < ((rdOf ByteArray.empty l0 x27_2).size : Int) := of_decide_eq_true (by first | (with_reducible assumption) | assumption)
                                        have hx19 := bt_at (rdOf ByteArray.empty l0 x27_2) x44_4
                                        replace p19 := eq_true p19
                                        replace q19 := eq_true q19
                                        have p21 : 0 ≤ (x44_4 : Int) := of_decide_eq_true (by first | (with_reducible assumption) | assumption)
                                        have q21 : x44_4 < ((rdOf ByteArray.empty l0 x27_2).size : Int) := of_decide_eq_true (by first | (with_reducible assumption) | assumption)
                                        have hx21 := bt_at (rdOf ByteArray.empty l0 x27_2) x44_4
                                        replace p21 := eq_true p21
                                        replace q21 := eq_true q21
                                        go_wp2
                                        go_roundg k4
                                        case measure => have := HJ5.out; have := HK2.out; have := HJ11.out; have := HK4.out; omega
                                        case rel => exact ⟨(false), (wrap64 (x44_4 + 1)), (by first | rfl | (simp; done) | (simp [*]; done)), (by first | rfl | (simp; done) | (simp [*]; done)), H', ⟨by have := HJ5.out; have := HK2.out; have := HJ11.out; have := HK4.out; omega⟩, ⟨by repeat (first | (with_reducible first | exact HB.out | apply below_alloc | apply pw_below_drewN | apply below_drew1) | exact HB.out)⟩⟩
                                  · rw [if_neg c18] at H
                                    exact absurd H (by simp)
                                · rw [if_neg c17] at H
                                  exact absurd H (by simp)
                              · replace c16 := Bool.eq_false_iff.mpr c16
                                subst c16
                                have H1 : (lockstitchlaw03_KindLetters.l1 k4 l0 false (rdOf ByteArray.empty l0 x27_2) l0 (l0.length : Int) x27_2 ((rdOf ByteArray.empty l0 x27_2).size : Int) (wrap64 (x44_4 + 1))) = some r := by rw [if_neg (show ¬ (false = true) by decide)] at H; exact H
                                clear H
                                have H := H1
                                clear H1
                                have H' := Aside0.mk H
                                clear H
                                go_wp2
                                go_roundg k4
                                case measure => have := HJ5.out; have := HK2.out; have := HJ11.out; have := HK4.out; omega
                                case rel => exact ⟨(false), (wrap64 (x44_4 + 1)), (by first | rfl | (simp; done) | (simp [*]; done)), (by first | rfl | (simp; done) | (simp [*]; done)), H', ⟨by have := HJ5.out; have := HK2.out; have := HJ11.out; have := HK4.out; omega⟩, ⟨by repeat (first | (with_reducible first | exact HB.out | apply below_alloc | apply pw_below_drewN | apply below_drew1) | exact HB.out)⟩⟩
                            · rw [if_neg c15] at H
                              have c15b0 : decide (x44_4 < ((rdOf ByteArray.empty l0 x27_2).size : Int)) = false := decide_eq_false c15
                              clear c15
                              have H' := Aside0.mk H
                              clear H
                              go_wp2
                              go_roundg k4
                              case measure => have := HJ5.out; have := HK2.out; have := HJ11.out; have := HK4.out; omega
                              case rel => exact ⟨(x3_4), (wrap64 (x27_2 + 1)), (by first | rfl | (simp; done) | (simp [*]; done)), (by first | rfl | (simp; done) | (simp [*]; done)), H', ⟨by have := HJ5.out; have := HK2.out; have := HJ11.out; have := HK4.out; omega⟩, ⟨by repeat (first | (with_reducible first | exact HB.out | apply below_alloc | apply pw_below_drewN | apply below_drew1) | exact HB.out)⟩⟩
                  · rw [if_neg c11] at H
                    exact absurd H (by simp)
                · rw [if_neg c10] at H
                  exact absurd H (by simp)
              · rw [if_neg c9] at H
                have c9b0 : decide (x27_2 < (l0.length : Int)) = false := decide_eq_false c9
                clear c9
                replace H := Option.bind_eq_some_iff.mp H
                obtain ⟨t104, A240, H⟩ := H
                replace H : (if (t104 != x3_2) = true then (some false) else (lockstitchlaw03_KindLetters.l2 k2 l0 x3_2 0)) = some r := H
                have A24 := Aside0.mk A240
                clear A240
                by_cases c25 : (t104 != x3_2) = true
                · rw [if_pos c25] at H
                  have c25b0 : (t104 != x3_2) = true := c25
                  (try (have c25b1 : decide (t104 = x3_2) = false := by simpa using c25))
                  (try (have c25b2 : (t104 == x3_2) = false := by simpa using c25))
                  (try (have c25b3 : ¬ (t104 = x3_2) := by simpa using c25))
                  clear c25
                  obtain rfl := Option.some.inj H
                  go_wp2_with (first | ((with_reducible refine gate_callee (f := 12) rfl ?_); refine goesL_ (some 73) rfl rfl Try.func12 (by kernel_rfl) rfl #[.slice A0 l0.length c0] rfl (by (try simp only [List.map_toArray, List.map_cons, List.map_nil]); first | done | rfl | (simp only [List.length_drop, List.length_take]; rfl)) ?_; (with_reducible refine (kind_Right.calls k2 _ _ l0 t104 _ ?side1 ?side2 A24.out).mono ?_); (case side1 => repeat (first | exact (Kd.C_below HR0.out HB.out) | (with_reducible refine Kd.C_alloc ?_ _) | (with_reducible refine Kd.C_drewN ?_ _) | (with_reducible refine Kd.C_drew ?_))); (case side2 => exact HC0.out); rintro e w' ⟨rfl, ⟨nd, rfl⟩⟩; refine ⟨_, rfl, ?_⟩))
                  go_ret
                  exact ⟨by first | rfl | (simp [errW_none, errW_some] <;> rfl) | (simp [*, errW_none, errW_some] <;> rfl), by repeat (first | (with_reducible first | exact HB.out | apply below_alloc | apply pw_below_drewN | apply below_drew1) | exact HB.out)⟩
                · rw [if_neg c25] at H
                  have c25b0 : (t104 != x3_2) = false := by simpa using c25
                  (try (have c25b1 : decide (t104 = x3_2) = true := by simpa using c25))
                  (try (have c25b2 : (t104 == x3_2) = true := by simpa using c25))
                  clear c25
                  have H' := Aside0.mk H
                  clear H
                  go_wp2_with (first | ((with_reducible refine gate_callee (f := 12) rfl ?_); refine goesL_ (some 73) rfl rfl Try.func12 (by kernel_rfl) rfl #[.slice A0 l0.length c0] rfl (by (try simp only [List.map_toArray, List.map_cons, List.map_nil]); first | done | rfl | (simp only [List.length_drop, List.length_take]; rfl)) ?_; (with_reducible refine (kind_Right.calls k2 _ _ l0 t104 _ ?side1 ?side2 A24.out).mono ?_); (case side1 => repeat (first | exact (Kd.C_below HR0.out HB.out) | (with_reducible refine Kd.C_alloc ?_ _) | (with_reducible refine Kd.C_drewN ?_ _) | (with_reducible refine Kd.C_drew ?_))); (case side2 => exact HC0.out); rintro e w' ⟨rfl, ⟨nd, rfl⟩⟩; refine ⟨_, rfl, ?_⟩))
                  go_loopg [7] k2 (fun kq v7 w' => ∃ (x7_3 : Int), v7 = .int .i64 x7_3 ∧ Aside0 (lockstitchlaw03_KindLetters.l2 kq l0 x3_2 x7_3 = some r) ∧ Aside0 (kq ≤ k2) ∧ Aside0 (Below w.heap.size w w'))
                  case atStart => exact ⟨(0), (by first | rfl | (simp; done) | (simp [*]; done)), H', ⟨Nat.le_refl _⟩, ⟨by repeat (first | (with_reducible first | exact HB.out | apply below_alloc | apply pw_below_drewN | apply below_drew1) | exact HB.out)⟩⟩
                  case round =>
                    clear H'
                    try clear c1
                    try clear p1
                    try clear q1
                    try clear hx1
                    try clear c2
                    try clear p2
                    try clear q2
                    try clear hx2
                    try clear c3
                    try clear c5
                    try clear p6
                    try clear c8
                    try clear c8b0
                    try clear c8b1
                    try clear c9
                    try clear c9b0
                    try clear c10
                    try clear c10b0
                    try clear p10
                    try clear q10
                    try clear hx10
                    try clear c11
                    try clear c11b0
                    try clear c12
                    try clear c13
                    try clear c14
                    try clear c14b0
                    try clear c14b1
                    try clear c15
                    try clear c15b0
                    try clear c16
                    try clear c17
                    try clear c17b0
                    try clear c18
                    try clear c18b0
                    try clear p19
                    try clear q19
                    try clear hx19
                    try clear c20
                    try clear c20b0
                    try clear c20b1
                    try clear p21
                    try clear q21
                    try clear hx21
                    try clear c22
                    try clear c22b0
                    try clear p23
                    try clear q23
                    try clear hx23
                    try clear c25
                    try clear c25b0
                    try clear c25b1
                    try clear c25b2
                    try clear hx103_0
                    try clear p1
                    try clear p10
                    try clear p103
                    try clear p19
                    try clear p2
                    try clear p21
                    try clear p23
                    try clear q1
                    try clear q10
                    try clear q103
                    try clear q19
                    try clear q21
                    try clear q23
                    obtain ⟨x7_3, rfl, HA, HK3, HB⟩ := hrel
                    cases gk with
                    | zero => exact absurd HA.out (by simp [lockstitchlaw03_KindLetters.l2])
                    | succ k3 =>
                      have H := HA.out
                      clear HA
                      simp only [lockstitchlaw03_KindLetters.l2] at H
                      have HC26 := Aside0.mk H
                      clear H
                      go_upto_region 19 with (fail)
                      go_cut [82] (fun v82 wc => ∃ (kq : Nat) (x82_25 : Bool), v82 = .bool x82_25 ∧ Aside0 (lockstitchlaw03_KindLetters.j5 kq l0 x3_2 x7_3 x82_25 = some r) ∧ Aside0 (kq ≤ k3) ∧ Aside0 (Below w.heap.size w wc))
                      case first =>
                        have H := HC26.out
                        clear HC26
                        by_cases c27 : x3_2 = true
                        · subst c27
                          have H1 : (lockstitchlaw03_KindLetters.j5 k3 l0 true x7_3 (decide (x7_3 < (l0.length : Int)))) = some r := by rw [if_pos rfl] at H; exact H
                          clear H
                          have H := H1
                          clear H1
                          have H' := Aside0.mk H
                          clear H
                          go_wp2
                          go_meet
                          case rel => exact ⟨_, (decide (x7_3 < (l0.length : Int))), (by first | rfl | (simp; done) | (simp [*]; done)), H', ⟨by have := HJ5.out; have := HK2.out; have := HK3.out; first | omega | exact Nat.le_refl _⟩, ⟨by repeat (first | (with_reducible first | exact HB.out | apply below_alloc | apply pw_below_drewN | apply below_drew1) | exact HB.out)⟩⟩
                        · replace c27 := Bool.eq_false_iff.mpr c27
                          subst c27
                          have H1 : (lockstitchlaw03_KindLetters.j5 k3 l0 false x7_3 false) = some r := by rw [if_neg (show ¬ (false = true) by decide)] at H; exact H
                          clear H
                          have H := H1
                          clear H1
                          have H' := Aside0.mk H
                          clear H
                          go_wp2
                          go_meet
                          case rel => exact ⟨_, (false), (by first | rfl | (simp; done) | (simp [*]; done)), H', ⟨by have := HJ5.out; have := HK2.out; have := HK3.out; first | omega | exact Nat.le_refl _⟩, ⟨by repeat (first | (with_reducible first | exact HB.out | apply below_alloc | apply pw_below_drewN | apply below_drew1) | exact HB.out)⟩⟩
                      case rest =>
                        clear HC26
                        try clear c1
                        try clear p1
                        try clear q1
                        try clear hx1
                        try clear c2
                        try clear p2
                        try clear q2
                        try clear hx2
                        try clear c3
                        try clear c5
                        try clear p6
                        try clear c8
                        try clear c8b0
                        try clear c8b1
                        try clear c9
                        try clear c9b0
                        try clear c10
                        try clear c10b0
                        try clear p10
                        try clear q10
                        try clear hx10
                        try clear c11
                        try clear c11b0
                        try clear c12
                        try clear c13
                        try clear c14
                        try clear c14b0
                        try clear c14b1
                        try clear c15
                        try clear c15b0
                        try clear c16
                        try clear c17
                        try clear c17b0
                        try clear c18
                        try clear c18b0
                        try clear p19
                        try clear q19
                        try clear hx19
                        try clear c20
                        try clear c20b0
                        try clear c20b1
                        try clear p21
                        try clear q21
                        try clear hx21
                        try clear c22
                        try clear c22b0
                        try clear p23
                        try clear q23
                        try clear hx23
                        try clear c25
                        try clear c25b0
                        try clear c25b1
                        try clear c25b2
                        try clear c27
                        try clear hx103_0
                        try clear p1
                        try clear p10
                        try clear p103
                        try clear p19
                        try clear p2
                        try clear p21
                        try clear p23
                        try clear p6
                        try clear q1
                        try clear q10
                        try clear q103
                        try clear q19
                        try clear q2
                        try clear q21
                        try clear q23
                        obtain ⟨kq, x82_25, rfl, HA, HJ25, HB⟩ := hcut
                        cases kq with
                        | zero => exact absurd HA.out (by simp [lockstitchlaw03_KindLetters.j5])
                        | succ kj25 =>
                          have H := HA.out
                          clear HA
                          simp only [lockstitchlaw03_KindLetters.j5] at H
                          by_cases c28 : x82_25 = true
                          · subst c28
                            have H1 : (if 0 ≤ x7_3 then (if x7_3 < (l0.length : Int) then (lockstitchlaw03_KindLetters.l3 kj25 l0 x3_2 x7_3 0 ((rdOf ByteArray.empty l0 x7_3).size : Int) 0) else (none)) else (none)) = some r := by rw [if_pos rfl] at H; exact H
                            clear H
                            have H := H1
                            clear H1
                            by_cases c29 : 0 ≤ x7_3
                            · rw [if_pos c29] at H
                              have c29b0 : decide (0 ≤ x7_3) = true := decide_eq_true c29
                              clear c29
                              by_cases c30 : x7_3 < (l0.length : Int)
                              · rw [if_pos c30] at H
                                have c30b0 : decide (x7_3 < (l0.length : Int)) = true := decide_eq_true c30
                                clear c30
                                have H' := Aside0.mk H
                                clear H
                                have p105 : 0 ≤ (x7_3 : Int) := of_decide_eq_true (by first | (with_reducible assumption) | assumption)
                                have q105 : x7_3 < (l0.length : Int) := of_decide_eq_true (by first | (with_reducible assumption) | assumption)
                                obtain ⟨ad105, e105, hx105_0⟩ := Kd.at_string HR0.out x7_3 p105 q105
                                cases e105
                                replace hx105_0 := (HB.out.cell (World.block_lt_of_cell? w _ hx105_0)).trans hx105_0
                                replace p105 := eq_true p105
                                replace q105 := eq_true q105
                                go_wp2
                                go_loopg [8, 90] kj25 (fun kq v8 v90 w' => ∃ (x8_5 : Int) (x90_5 : Int), v8 = .int .i64 x8_5 ∧ v90 = .int .i64 x90_5 ∧ Aside0 (lockstitchlaw03_KindLetters.l3 kq l0 x3_2 x7_3 x8_5 ((rdOf ByteArray.empty l0 x7_3).size : Int) x90_5 = some r) ∧ Aside0 (kq ≤ kj25) ∧ Aside0 (Below w.heap.size w w'))
                                case atStart => exact ⟨(0), (0), (by first | rfl | (simp; done) | (simp [*]; done)), (by first | rfl | (simp; done) | (simp [*]; done)), H', ⟨Nat.le_refl _⟩, ⟨by repeat (first | (with_reducible first | exact HB.out | apply below_alloc | apply pw_below_drewN | apply below_drew1) | exact HB.out)⟩⟩
                                case round =>
                                  clear H'
                                  try clear c1
                                  try clear p1
                                  try clear q1
                                  try clear hx1
                                  try clear c2
                                  try clear p2
                                  try clear q2
                                  try clear hx2
                                  try clear c3
                                  try clear c5
                                  try clear p6
                                  try clear c8
                                  try clear c8b0
                                  try clear c8b1
                                  try clear c9
                                  try clear c9b0
                                  try clear c10
                                  try clear c10b0
                                  try clear p10
                                  try clear q10
                                  try clear hx10
                                  try clear c11
                                  try clear c11b0
                                  try clear c12
                                  try clear c13
                                  try clear c14
                                  try clear c14b0
                                  try clear c14b1
                                  try clear c15
                                  try clear c15b0
                                  try clear c16
                                  try clear c17
                                  try clear c17b0
                                  try clear c18
                                  try clear c18b0
                                  try clear p19
                                  try clear q19
                                  try clear hx19
                                  try clear c20
                                  try clear c20b0
                                  try clear c20b1
                                  try clear p21
                                  try clear q21
                                  try clear hx21
                                  try clear c22
                                  try clear c22b0
                                  try clear p23
                                  try clear q23
                                  try clear hx23
                                  try clear c25
                                  try clear c25b0
                                  try clear c25b1
                                  try clear c25b2
                                  try clear c27
                                  try clear c28
                                  try clear c29
                                  try clear c29b0
                                  try clear c30
                                  try clear c30b0
                                  try clear hx103_0
                                  try clear hx105_0
                                  try clear p1
                                  try clear p10
                                  try clear p103
                                  try clear p105
                                  try clear p19
                                  try clear p2
                                  try clear p21
                                  try clear p23
                                  try clear p6
                                  try clear q1
                                  try clear q10
                                  try clear q103
                                  try clear q105
                                  try clear q19
                                  try clear q2
                                  try clear q21
                                  try clear q23
                                  obtain ⟨x8_5, x90_5, rfl, rfl, HA, HK5, HB⟩ := hrel
                                  cases gk with
                                  | zero => exact absurd HA.out (by simp [lockstitchlaw03_KindLetters.l3])
                                  | succ k5 =>
                                    have H := HA.out
                                    clear HA
                                    simp only [lockstitchlaw03_KindLetters.l3] at H
                                    by_cases c31 : x90_5 < ((rdOf ByteArray.empty l0 x7_3).size : Int)
                                    · rw [if_pos c31] at H
                                      have c31b0 : decide (x90_5 < ((rdOf ByteArray.empty l0 x7_3).size : Int)) = true := decide_eq_true c31
                                      clear c31
                                      by_cases c32 : 0 ≤ x7_3
                                      · rw [if_pos c32] at H
                                        have c32b0 : decide (0 ≤ x7_3) = true := decide_eq_true c32
                                        clear c32
                                        by_cases c33 : x7_3 < (l0.length : Int)
                                        · rw [if_pos c33] at H
                                          have c33b0 : decide (x7_3 < (l0.length : Int)) = true := decide_eq_true c33
                                          clear c33
                                          by_cases c34 : 0 ≤ x90_5
                                          · rw [if_pos c34] at H
                                            have c34b0 : decide (0 ≤ x90_5) = true := decide_eq_true c34
                                            clear c34
                                            by_cases c35 : x90_5 < ((rdOf ByteArray.empty l0 x7_3).size : Int)
                                            · rw [if_pos c35] at H
                                              have c35b0 : decide (x90_5 < ((rdOf ByteArray.empty l0 x7_3).size : Int)) = true := decide_eq_true c35
                                              clear c35
                                              by_cases c37 : (bt (rdOf ByteArray.empty l0 x7_3) x90_5) = 105
                                              · rw [if_pos c37] at H
                                                have c37b0 : ((bt (rdOf ByteArray.empty l0 x7_3) x90_5) == 105) = true := beq_iff_eq.mpr c37
                                                have c37b1 : ((bt (rdOf ByteArray.empty l0 x7_3) x90_5) != 105) = false := bne_eq_false_iff_eq.mpr c37
                                                clear c37
                                                have H' := Aside0.mk H
                                                clear H
                                                have p106 : 0 ≤ (x7_3 : Int) := of_decide_eq_true (by first | (with_reducible assumption) | assumption)
                                                have q106 : x7_3 < (l0.length : Int) := of_decide_eq_true (by first | (with_reducible assumption) | assumption)
                                                obtain ⟨ad106, e106, hx106_0⟩ := Kd.at_string HR0.out x7_3 p106 q106
                                                obtain rfl : ad105 = ad106 := (by injection e106)
                                                replace hx106_0 := (HB.out.cell (World.block_lt_of_cell? w _ hx106_0)).trans hx106_0
                                                replace p106 := eq_true p106
                                                replace q106 := eq_true q106
                                                have p36 : 0 ≤ (x90_5 : Int) := of_decide_eq_true (by first | (with_reducible assumption) | assumption)
                                                have q36 : x90_5 < ((rdOf ByteArray.empty l0 x7_3).size : Int) := of_decide_eq_true (by first | (with_reducible assumption) | assumption)
                                                have hx36 := bt_at (rdOf ByteArray.empty l0 x7_3) x90_5
                                                replace p36 := eq_true p36
                                                replace q36 := eq_true q36
                                                go_wp2
                                                go_roundg k5
                                                case measure => have := HJ5.out; have := HK2.out; have := HK3.out; have := HJ25.out; have := HK5.out; omega
                                                case rel => exact ⟨(x8_5), (wrap64 (x90_5 + 1)), (by first | rfl | (simp; done) | (simp [*]; done)), (by first | rfl | (simp; done) | (simp [*]; done)), H', ⟨by have := HJ5.out; have := HK2.out; have := HK3.out; have := HJ25.out; have := HK5.out; omega⟩, ⟨by repeat (first | (with_reducible first | exact HB.out | apply below_alloc | apply pw_below_drewN | apply below_drew1) | exact HB.out)⟩⟩
                                              · rw [if_neg c37] at H
                                                have c37b0 : ((bt (rdOf ByteArray.empty l0 x7_3) x90_5) == 105) = false := beq_eq_false_iff_ne.mpr c37
                                                have c37b1 : ((bt (rdOf ByteArray.empty l0 x7_3) x90_5) != 105) = true := bne_iff_ne.mpr c37
                                                have H' := Aside0.mk H
                                                clear H
                                                have p106 : 0 ≤ (x7_3 : Int) := of_decide_eq_true (by first | (with_reducible assumption) | assumption)
                                                have q106 : x7_3 < (l0.length : Int) := of_decide_eq_true (by first | (with_reducible assumption) | assumption)
                                                obtain ⟨ad106, e106, hx106_0⟩ := Kd.at_string HR0.out x7_3 p106 q106
                                                obtain rfl : ad105 = ad106 := (by injection e106)
                                                replace hx106_0 := (HB.out.cell (World.block_lt_of_cell? w _ hx106_0)).trans hx106_0
                                                replace p106 := eq_true p106
                                                replace q106 := eq_true q106
                                                have p36 : 0 ≤ (x90_5 : Int) := of_decide_eq_true (by first | (with_reducible assumption) | assumption)
                                                have q36 : x90_5 < ((rdOf ByteArray.empty l0 x7_3).size : Int) := of_decide_eq_true (by first | (with_reducible assumption) | assumption)
                                                have hx36 := bt_at (rdOf ByteArray.empty l0 x7_3) x90_5
                                                replace p36 := eq_true p36
                                                replace q36 := eq_true q36
                                                go_wp2
                                                go_roundg k5
                                                case measure => have := HJ5.out; have := HK2.out; have := HK3.out; have := HJ25.out; have := HK5.out; omega
                                                case rel => exact ⟨(wrap64 (x8_5 + 1)), (wrap64 (x90_5 + 1)), (by first | rfl | (simp; done) | (simp [*]; done)), (by first | rfl | (simp; done) | (simp [*]; done)), H', ⟨by have := HJ5.out; have := HK2.out; have := HK3.out; have := HJ25.out; have := HK5.out; omega⟩, ⟨by repeat (first | (with_reducible first | exact HB.out | apply below_alloc | apply pw_below_drewN | apply below_drew1) | exact HB.out)⟩⟩
                                            · rw [if_neg c35] at H
                                              exact absurd H (by simp)
                                          · rw [if_neg c34] at H
                                            exact absurd H (by simp)
                                        · rw [if_neg c33] at H
                                          exact absurd H (by simp)
                                      · rw [if_neg c32] at H
                                        exact absurd H (by simp)
                                    · rw [if_neg c31] at H
                                      have c31b0 : decide (x90_5 < ((rdOf ByteArray.empty l0 x7_3).size : Int)) = false := decide_eq_false c31
                                      clear c31
                                      have H' := Aside0.mk H
                                      clear H
                                      go_wp2
                                      go_loopg [10, 103] k5 (fun kq v10 v103 w' => ∃ (x10_6 : Int) (x103_6 : Int), v10 = .int .i64 x10_6 ∧ v103 = .int .i64 x103_6 ∧ Aside0 (lockstitchlaw03_KindLetters.l4 kq l0 x3_2 x7_3 x8_5 x10_6 x103_6 = some r) ∧ Aside0 (kq ≤ k5) ∧ Aside0 (Below w.heap.size w w'))
                                      case atStart => exact ⟨(0), (0), (by first | rfl | (simp; done) | (simp [*]; done)), (by first | rfl | (simp; done) | (simp [*]; done)), H', ⟨Nat.le_refl _⟩, ⟨by repeat (first | (with_reducible first | exact HB.out | apply below_alloc | apply pw_below_drewN | apply below_drew1) | exact HB.out)⟩⟩
                                      case round =>
                                        clear H'
                                        try clear c1
                                        try clear p1
                                        try clear q1
                                        try clear hx1
                                        try clear c2
                                        try clear p2
                                        try clear q2
                                        try clear hx2
                                        try clear c3
                                        try clear p3
                                        try clear q3
                                        try clear hx3
                                        try clear c5
                                        try clear p6
                                        try clear c8
                                        try clear c8b0
                                        try clear c8b1
                                        try clear c9
                                        try clear c9b0
                                        try clear c10
                                        try clear c10b0
                                        try clear p10
                                        try clear q10
                                        try clear hx10
                                        try clear c11
                                        try clear c11b0
                                        try clear c12
                                        try clear c13
                                        try clear c14
                                        try clear c14b0
                                        try clear c14b1
                                        try clear c15
                                        try clear c15b0
                                        try clear c16
                                        try clear c17
                                        try clear c17b0
                                        try clear c18
                                        try clear c18b0
                                        try clear p19
                                        try clear q19
                                        try clear hx19
                                        try clear c20
                                        try clear c20b0
                                        try clear c20b1
                                        try clear p21
                                        try clear q21
                                        try clear hx21
                                        try clear c22
                                        try clear c22b0
                                        try clear p23
                                        try clear q23
                                        try clear hx23
                                        try clear c25
                                        try clear c25b0
                                        try clear c25b1
                                        try clear c25b2
                                        try clear c27
                                        try clear c28
                                        try clear c29
                                        try clear c29b0
                                        try clear c30
                                        try clear c30b0
                                        try clear c31
                                        try clear c31b0
                                        try clear c32
                                        try clear c32b0
                                        try clear c33
                                        try clear c33b0
                                        try clear c34
                                        try clear c34b0
                                        try clear c35
                                        try clear c35b0
                                        try clear p36
                                        try clear q36
                                        try clear hx36
                                        try clear c37
                                        try clear c37b0
                                        try clear c37b1
                                        try clear hx103_0
                                        try clear hx105_0
                                        try clear hx106_0
                                        try clear p1
                                        try clear p10
                                        try clear p103
                                        try clear p105
                                        try clear p106
                                        try clear p19
                                        try clear p2
                                        try clear p21
                                        try clear p23
                                        try clear p36
                                        try clear p6
                                        try clear q1
                                        try clear q10
                                        try clear q103
                                        try clear q105
                                        try clear q106
                                        try clear q19
                                        try clear q2
                                        try clear q21
                                        try clear q23
                                        try clear q36
                                        obtain ⟨x10_6, x103_6, rfl, rfl, HA, HK6, HB⟩ := hrel
                                        cases gk with
                                        | zero => exact absurd HA.out (by simp [lockstitchlaw03_KindLetters.l4])
                                        | succ k6 =>
                                          have H := HA.out
                                          clear HA
                                          simp only [lockstitchlaw03_KindLetters.l4] at H
                                          by_cases c38 : x103_6 < 8
                                          · rw [if_pos c38] at H
                                            have c38b0 : decide (x103_6 < 8) = true := decide_eq_true c38
                                            clear c38
                                            replace H := Option.bind_eq_some_iff.mp H
                                            obtain ⟨t107, A390, H⟩ := H
                                            replace H : (if 0 ≤ x103_6 then (lockstitchlaw03_KindLetters.l4 k6 l0 x3_2 x7_3 x8_5 (wrap64 (x10_6 + (wrap64 (Go.bits .and .u8 (shr .u8 t107 x103_6) 1)))) (wrap64 (x103_6 + 1))) else (none)) = some r := H
                                            have A39 := Aside0.mk A390
                                            clear A390
                                            by_cases c40 : 0 ≤ x103_6
                                            · rw [if_pos c40] at H
                                              have c40b0 := eq_true c40
                                              have c40b1 : decide (0 ≤ x103_6) = true := decide_eq_true c40
                                              clear c40
                                              obtain ⟨ji41, hji41⟩ : ∃ j_ : Int, (shr .u8 t107 x103_6) = j_ := ⟨_, rfl⟩
                                              replace H : (lockstitchlaw03_KindLetters.l4 k6 l0 x3_2 x7_3 x8_5 (wrap64 (x10_6 + (wrap64 (Go.bits .and .u8 (ji41) 1)))) (wrap64 (x103_6 + 1))) = some r := by first | (rw [hji41] at H; exact H) | (simp only [hji41] at H ⊢; exact H)
                                              (try rw [hji41] at A39)
                                              have hji41_ : (t107 / 2 ^ min x103_6.toNat 8) = ji41 := hji41
                                              have hji41z : x103_6 ≤ 8 → (t107 / 2 ^ x103_6.toNat) = ji41 := shr_small hji41
                                              have H' := Aside0.mk H
                                              clear H
                                              go_wp2_with (first | ((with_reducible refine gate_callee (f := 18) rfl ?_); refine goesL_ (some 109) rfl rfl Try.func18 (by kernel_rfl) rfl #[.slice (some ad105) l0.length c0, .int .i64 x7_3] rfl (by (try simp only [List.map_toArray, List.map_cons, List.map_nil]); first | done | rfl | (simp only [List.length_drop, List.length_take]; rfl)) ?_; (with_reducible refine (kind_Mask.calls k6 _ _ l0 x7_3 t107 _ ?side1 ?side2 A39.out).mono ?_); (case side1 => repeat (first | exact (Kd.C_below HR0.out HB.out) | (with_reducible refine Kd.C_alloc ?_ _) | (with_reducible refine Kd.C_drewN ?_ _) | (with_reducible refine Kd.C_drew ?_))); (case side2 => exact HC0.out); rintro e w' ⟨rfl, ⟨nd, rfl⟩⟩; refine ⟨_, rfl, ?_⟩))
                                              go_roundg k6
                                              case measure => have := HJ5.out; have := HK2.out; have := HK3.out; have := HJ25.out; have := HK5.out; have := HK6.out; omega
                                              case rel => exact ⟨(wrap64 (x10_6 + (wrap64 (Go.bits .and .u8 (ji41) 1)))), (wrap64 (x103_6 + 1)), (by first | rfl | (simp; done) | (simp only [← hji41] <;> (first | rfl | simp)) | (simp [*]; done)), (by first | rfl | (simp; done) | (simp [*]; done)), H', ⟨by have := HJ5.out; have := HK2.out; have := HK3.out; have := HJ25.out; have := HK5.out; have := HK6.out; omega⟩, ⟨by repeat (first | (with_reducible first | exact HB.out | apply below_alloc | apply pw_below_drewN | apply below_drew1) | exact HB.out)⟩⟩
                                            · rw [if_neg c40] at H
                                              exact absurd H (by simp)
                                          · rw [if_neg c38] at H
                                            have c38b0 : decide (x103_6 < 8) = false := decide_eq_false c38
                                            clear c38
                                            by_cases c42 : x10_6 = x8_5
                                            · rw [if_pos c42] at H
                                              have c42b0 : (x10_6 == x8_5) = true := beq_iff_eq.mpr c42
                                              have c42b1 : (x10_6 != x8_5) = false := bne_eq_false_iff_eq.mpr c42
                                              clear c42
                                              have H' := Aside0.mk H
                                              clear H
                                              go_wp2
                                              go_roundg k6
                                              case measure => have := HJ5.out; have := HK2.out; have := HK3.out; have := HJ25.out; have := HK5.out; have := HK6.out; omega
                                              case rel => exact ⟨(wrap64 (x7_3 + 1)), (by first | rfl | (simp; done) | (simp [*]; done)), H', ⟨by have := HJ5.out; have := HK2.out; have := HK3.out; have := HJ25.out; have := HK5.out; have := HK6.out; omega⟩, ⟨by repeat (first | (with_reducible first | exact HB.out | apply below_alloc | apply pw_below_drewN | apply below_drew1) | exact HB.out)⟩⟩
                                            · rw [if_neg c42] at H
                                              have c42b0 : (x10_6 == x8_5) = false := beq_eq_false_iff_ne.mpr c42
                                              have c42b1 : (x10_6 != x8_5) = true := bne_iff_ne.mpr c42
                                              obtain rfl := Option.some.inj H
                                              go_wp2
                                              go_ret
                                              exact ⟨by first | rfl | (simp [errW_none, errW_some] <;> rfl) | (simp [*, errW_none, errW_some] <;> rfl), by repeat (first | (with_reducible first | exact HB.out | apply below_alloc | apply pw_below_drewN | apply below_drew1) | exact HB.out)⟩
                              · rw [if_neg c30] at H
                                exact absurd H (by simp)
                            · rw [if_neg c29] at H
                              exact absurd H (by simp)
                          · replace c28 := Bool.eq_false_iff.mpr c28
                            subst c28
                            have H1 : (some true) = some r := by rw [if_neg (show ¬ (false = true) by decide)] at H; exact H
                            clear H
                            have H := H1
                            clear H1
                            obtain rfl := Option.some.inj H
                            go_wp2
                            go_ret
                            exact ⟨by first | rfl | (simp [errW_none, errW_some] <;> rfl) | (simp [*, errW_none, errW_some] <;> rfl), by repeat (first | (with_reducible first | exact HB.out | apply below_alloc | apply pw_below_drewN | apply below_drew1) | exact HB.out)⟩
    · replace c5 := Bool.eq_false_iff.mpr c5
      subst c5
      have H1 : (some true) = some r := by rw [if_neg (show ¬ (false = true) by decide)] at H; exact H
      clear H
      have H := H1
      clear H1
      obtain rfl := Option.some.inj H
      go_enter Try.func8, Try.ntmps8
      go_wp2_with (first | ((with_reducible refine gate_callee (f := 10) rfl ?_); refine goesL_ (some 12) rfl rfl Try.func10 (by kernel_rfl) rfl #[] rfl (by (try simp only [List.map_toArray, List.map_cons, List.map_nil]); first | done | rfl | (simp only [List.length_drop, List.length_take]; rfl)) ?_; (with_reducible refine (lockstitchlaw03_alive.calls k  true _ A2.out).mono ?_); rintro e w43 ⟨rfl, hb⟩; refine ⟨_, rfl, ?_⟩; have n0_ := Aside0.mk (below_step (by repeat (first | (with_reducible first | exact HB.out | apply below_alloc | apply pw_below_drewN | apply below_drew1) | exact HB.out)) hb); clear HB; have HB := n0_; clear n0_; (try clear hb); (try clear hb2); (try clear hk); (try clear hi)) | ((with_reducible refine gate_callee (f := 11) rfl ?_); refine goesL_ (some 15) rfl rfl Try.func11 (by kernel_rfl) rfl #[.slice A0 l0.length c0] rfl (by (try simp only [List.map_toArray, List.map_cons, List.map_nil]); first | done | rfl | (simp only [List.length_drop, List.length_take]; rfl)) ?_; (with_reducible refine (lockstitchlaw03_few.calls k _ _ l0 false _ ?side1 ?side2 A4.out).mono ?_); (case side1 => repeat (first | exact (Kd.C_below HR0.out HB.out) | (with_reducible refine Kd.C_alloc ?_ _) | (with_reducible refine Kd.C_drewN ?_ _) | (with_reducible refine Kd.C_drew ?_))); (case side2 => exact HC0.out); rintro e w' ⟨rfl, ⟨nd, rfl⟩⟩; refine ⟨_, rfl, ?_⟩))
      go_ret
      exact ⟨by first | rfl | (simp [errW_none, errW_some] <;> rfl) | (simp [*, errW_none, errW_some] <;> rfl), by repeat (first | (with_reducible first | exact HB.out | apply below_alloc | apply pw_below_drewN | apply below_drew1) | exact HB.out)⟩
  · replace c3 := Bool.eq_false_iff.mpr c3
    subst c3
    have H1 : (some false) = some r := by rw [if_neg (show ¬ (false = true) by decide)] at H; exact H
    clear H
    have H := H1
    clear H1
    obtain rfl := Option.some.inj H
    go_enter Try.func8, Try.ntmps8
    go_wp2_with (first | ((with_reducible refine gate_callee (f := 10) rfl ?_); refine goesL_ (some 12) rfl rfl Try.func10 (by kernel_rfl) rfl #[] rfl (by (try simp only [List.map_toArray, List.map_cons, List.map_nil]); first | done | rfl | (simp only [List.length_drop, List.length_take]; rfl)) ?_; (with_reducible refine (lockstitchlaw03_alive.calls k  false _ A2.out).mono ?_); rintro e w44 ⟨rfl, hb⟩; refine ⟨_, rfl, ?_⟩; have n0_ := Aside0.mk (below_step (by repeat (first | (with_reducible first | exact HB.out | apply below_alloc | apply pw_below_drewN | apply below_drew1) | exact HB.out)) hb); clear HB; have HB := n0_; clear n0_; (try clear hb); (try clear hb2); (try clear hk); (try clear hi)))
    go_ret
    exact ⟨by first | rfl | (simp [errW_none, errW_some] <;> rfl) | (simp [*, errW_none, errW_some] <;> rfl), by repeat (first | (with_reducible first | exact HB.out | apply below_alloc | apply pw_below_drewN | apply below_drew1) | exact HB.out)⟩

end Go.Proofs.Ytjmhkimffocpeaa.K5

/- Texts of this claim, pruned to what it needs and laid together by prune.py. -/
import Derived.Test.YtkplgfhkebkaaaaDoorProg
import Derived.Below
import Derived.Deep.Draws
import Derived.Deep.AppendLies
import Derived.Maps.AppendAt
import Derived.OwnWalk
import Derived.Laws.BytesArg
import Derived.Laws.MakeOwn
import Derived.Laws.OwnMore
import Derived.Deep.OwnRows
import Derived.Tactics
import Derived.Lib.ConvBytes
import Derived.Laws.Slices
import Derived.WalkKit
import Derived.KernelRfl
import Derived.RowKit3
import Derived.Deep.LoopGhost
import Derived.Deep.QuietTactic
import Derived.BigQuiet
import Derived.WideLaws
import Derived.Deep.DeepCutAuto
import Derived.Deep.CutBlock
import Derived.Deep.RegionHeld3
import Derived.Laws.Rows
import Derived.Lib.AppendStr
import Derived.ArgAppend
import Derived.Laws.IdiomCopy
import Derived.OrdersHeld
import Derived.Laws.BitsLemmas
import Derived.RowKit
import Derived.Test.YtkplgfhkebkaaaaDoorMB25
import Derived.Test.YtkplgfhkebkaaaaDoorMB30
import Derived.Test.YtkplgfhkebkaaaaDoorMB1
import Derived.Test.YtkplgfhkebkaaaaDoorMB3
import Derived.Test.YtkplgfhkebkaaaaDoorMB15
import Derived.Test.YtkplgfhkebkaaaaDoorMB16
import Derived.Test.YtkplgfhkebkaaaaDoorMB4
import Derived.Test.YtkplgfhkebkaaaaDoorMB5
import Derived.Test.YtkplgfhkebkaaaaDoorMB6
import Derived.Test.YtkplgfhkebkaaaaDoorMB7
import Derived.Test.YtkplgfhkebkaaaaDoorMB8
import Derived.Test.YtkplgfhkebkaaaaDoorMB9
import Derived.Test.YtkplgfhkebkaaaaDoorMB10
import Derived.Test.YtkplgfhkebkaaaaDoorMB11
import Derived.Test.YtkplgfhkebkaaaaDoorMB17
import Derived.Test.YtkplgfhkebkaaaaDoorMB18
import Derived.Test.YtkplgfhkebkaaaaDoorMB19
import Derived.Test.YtkplgfhkebkaaaaDoorMB20
import Derived.Test.YtkplgfhkebkaaaaDoorMB21
import Derived.Test.YtkplgfhkebkaaaaDoorMB22
import Derived.Test.YtkplgfhkebkaaaaDoorMB23
import Derived.Test.YtkplgfhkebkaaaaDoorMB12
import Derived.Test.YtkplgfhkebkaaaaDoorMB13
namespace Go.Proofs.YtkplgfhkebkaaaaDoor.Z
open Go.RowKit Go.Proofs.YtkplgfhkebkaaaaDoorW.PrintWords Go.Proofs.YtkplgfhkebkaaaaDoorW.PrintLast Go.Proofs.YtkplgfhkebkaaaaDoorW.PrintMore
attribute [local go_sem] max2_int min2_int max_two min_two max_three min_three max_four min_four
set_option linter.unusedVariables false
set_option linter.unusedSimpArgs false
open Go.Proofs.YtkplgfhkebkaaaaDoor.F
open Go.Proofs.YtkplgfhkebkaaaaDoor.V
noncomputable def rd_L1 (xs : List (List ByteArray)) (i : Int) : (List ByteArray) := xs.getD i.toNat ([] : List ByteArray)
noncomputable def rd_L5 (xs : List (List S47)) (i : Int) : (List S47) := xs.getD i.toNat ([] : List S47)
end Go.Proofs.YtkplgfhkebkaaaaDoor.Z

namespace Go.Proofs.YtkplgfhkebkaaaaDoor.Z
open Go.RowKit Go.Proofs.YtkplgfhkebkaaaaDoorW.PrintWords Go.Proofs.YtkplgfhkebkaaaaDoorW.PrintLast Go.Proofs.YtkplgfhkebkaaaaDoorW.PrintMore
attribute [local go_sem] max2_int min2_int max_two min_two max_three min_three max_four min_four
set_option linter.unusedVariables false
set_option linter.unusedSimpArgs false
open Go.Proofs.YtkplgfhkebkaaaaDoor.F
open Go.Proofs.YtkplgfhkebkaaaaDoor.V
mutual
noncomputable def fresh_Out.j0 : Nat → Int → Int → Bool → List ByteArray → ByteArray → ByteArray → List (S47) → Option (Int)
  | 0, _, _, _, _, _, _, _ => none
  | k + 1, x1, x2, x17, x102000, x102001, x102002, x102003 => if x17 = true then (some x2) else ((flow_Safe.f k x102000 x102001 x102002 x102003 x1).bind fun t102 => (if t102 = true then (fresh_Out.j1 k x1 0 x102000 x102001 x102002 x102003) else (fresh_Out.j1 k x1 x2 x102000 x102001 x102002 x102003)))
noncomputable def fresh_Out.j1 : Nat → Int → Int → List ByteArray → ByteArray → ByteArray → List (S47) → Option (Int)
  | 0, _, _, _, _, _, _ => none
  | k + 1, x1, x2, x102000, x102001, x102002, x102003 => if 0 ≤ x1 then (if x1 < (x102003.length : Int) then (if 0 ≤ ((rd_T47 x102003 x1).f1) then (if ((rd_T47 x102003 x1).f0) = 5 then (fresh_Out.j2 k x2 (shl .u8 1 ((rd_T47 x102003 x1).f1)) true ((rd_T47 x102003 x1).f0) ((rd_T47 x102003 x1).f1) ((rd_T47 x102003 x1).f2) ((rd_T47 x102003 x1).f3) ((rd_T47 x102003 x1).f4)) else (if ((rd_T47 x102003 x1).f0) = 6 then (fresh_Out.j2 k x2 (shl .u8 1 ((rd_T47 x102003 x1).f1)) true ((rd_T47 x102003 x1).f0) ((rd_T47 x102003 x1).f1) ((rd_T47 x102003 x1).f2) ((rd_T47 x102003 x1).f3) ((rd_T47 x102003 x1).f4)) else (if ((rd_T47 x102003 x1).f0) = 7 then (if 0 ≤ ((rd_T47 x102003 x1).f2) then (fresh_Out.j2 k x2 (shl .u8 1 ((rd_T47 x102003 x1).f1)) ((Go.bits .and .u8 (shr .u8 x2 ((rd_T47 x102003 x1).f2)) 1) == 1) ((rd_T47 x102003 x1).f0) ((rd_T47 x102003 x1).f1) ((rd_T47 x102003 x1).f2) ((rd_T47 x102003 x1).f3) ((rd_T47 x102003 x1).f4)) else (none)) else (fresh_Out.j2 k x2 (shl .u8 1 ((rd_T47 x102003 x1).f1)) false ((rd_T47 x102003 x1).f0) ((rd_T47 x102003 x1).f1) ((rd_T47 x102003 x1).f2) ((rd_T47 x102003 x1).f3) ((rd_T47 x102003 x1).f4))))) else (none)) else (none)) else (none)
noncomputable def fresh_Out.j2 : Nat → Int → Int → Bool → Int → Int → Int → Int → Int → Option (Int)
  | 0, _, _, _, _, _, _, _, _ => none
  | k + 1, x2, x8, x30, x105000, x105001, x105002, x105003, x105004 => if x30 = true then (some (Go.bits .or .u8 x2 x8)) else (if x105000 = 7 then (some (Go.bits .andNot .u8 x2 x8)) else (if x105000 = 10 then (some (Go.bits .andNot .u8 x2 x8)) else (if x105000 = 12 then (some (Go.bits .andNot .u8 x2 x8)) else (some x2))))
end
noncomputable def fresh_Out.f (k : Nat) (l0_0 : List ByteArray) (a0_1 : ByteArray) (a0_2 : ByteArray) (l0_3 : List (S47)) (a1 : Int) (a2 : Int) : Option (Int) := if a1 < 0 then (fresh_Out.j0 k a1 a2 true l0_0 a0_1 a0_2 l0_3) else (fresh_Out.j0 k a1 a2 (decide (a1 ≥ (l0_3.length : Int))) l0_0 a0_1 a0_2 l0_3)
theorem fresh_Out.mono_l : ∀ k, (∀ y0 y1 y2 y3 y4 y5 y6, LeO (fresh_Out.j0 k y0 y1 y2 y3 y4 y5 y6) (fresh_Out.j0 (k + 1) y0 y1 y2 y3 y4 y5 y6)) ∧ (∀ y0 y1 y2 y3 y4 y5, LeO (fresh_Out.j1 k y0 y1 y2 y3 y4 y5) (fresh_Out.j1 (k + 1) y0 y1 y2 y3 y4 y5)) ∧ (∀ y0 y1 y2 y3 y4 y5 y6 y7, LeO (fresh_Out.j2 k y0 y1 y2 y3 y4 y5 y6 y7) (fresh_Out.j2 (k + 1) y0 y1 y2 y3 y4 y5 y6 y7))
  | 0 => ⟨fun _ _ _ _ _ _ _ r h => by simp [fresh_Out.j0] at h, fun _ _ _ _ _ _ r h => by simp [fresh_Out.j1] at h, fun _ _ _ _ _ _ _ _ r h => by simp [fresh_Out.j2] at h⟩
  | k + 1 => by
    obtain ⟨ih0, ih1, ih2⟩ := fresh_Out.mono_l k; refine ⟨?_, ?_, ?_⟩
    · intro y0 y1 y2 y3 y4 y5 y6
      unfold fresh_Out.j0
      repeat' first
      | (with_reducible exact ih0 _ _ _ _ _ _ _)
      | (with_reducible exact ih1 _ _ _ _ _ _)
      | (with_reducible exact ih2 _ _ _ _ _ _ _ _)
      | (with_reducible exact flow_Safe.mono _ _ _ _ _ _)
      | (with_reducible exact LeO.refl _)
      | (with_reducible exact LeO.none _)
      | (with_reducible refine LeO.ite ?_ ?_)
      | (with_reducible refine LeO.bind ?_ (fun _ => ?_))
      | exact ih0 _ _ _ _ _ _ _
      | exact ih1 _ _ _ _ _ _
      | exact ih2 _ _ _ _ _ _ _ _
      | exact flow_Safe.mono _ _ _ _ _ _
      | exact LeO.none _
      | refine LeO.ite ?_ ?_
      | refine LeO.bind ?_ (fun _ => ?_)
    · intro y0 y1 y2 y3 y4 y5
      unfold fresh_Out.j1
      repeat' first
      | (with_reducible exact ih0 _ _ _ _ _ _ _)
      | (with_reducible exact ih1 _ _ _ _ _ _)
      | (with_reducible exact ih2 _ _ _ _ _ _ _ _)
      | (with_reducible exact flow_Safe.mono _ _ _ _ _ _)
      | (with_reducible exact LeO.refl _)
      | (with_reducible exact LeO.none _)
      | (with_reducible refine LeO.ite ?_ ?_)
      | (with_reducible refine LeO.bind ?_ (fun _ => ?_))
      | exact ih0 _ _ _ _ _ _ _
      | exact ih1 _ _ _ _ _ _
      | exact ih2 _ _ _ _ _ _ _ _
      | exact flow_Safe.mono _ _ _ _ _ _
      | exact LeO.none _
      | refine LeO.ite ?_ ?_
      | refine LeO.bind ?_ (fun _ => ?_)
    · intro y0 y1 y2 y3 y4 y5 y6 y7
      unfold fresh_Out.j2
      repeat' first
      | (with_reducible exact ih0 _ _ _ _ _ _ _)
      | (with_reducible exact ih1 _ _ _ _ _ _)
      | (with_reducible exact ih2 _ _ _ _ _ _ _ _)
      | (with_reducible exact flow_Safe.mono _ _ _ _ _ _)
      | (with_reducible exact LeO.refl _)
      | (with_reducible exact LeO.none _)
      | (with_reducible refine LeO.ite ?_ ?_)
      | (with_reducible refine LeO.bind ?_ (fun _ => ?_))
      | exact ih0 _ _ _ _ _ _ _
      | exact ih1 _ _ _ _ _ _
      | exact ih2 _ _ _ _ _ _ _ _
      | exact flow_Safe.mono _ _ _ _ _ _
      | exact LeO.none _
      | refine LeO.ite ?_ ?_
      | refine LeO.bind ?_ (fun _ => ?_)
theorem fresh_Out.mono : ∀ a0 a1 a2 a3 a4 a5 k, LeO (fresh_Out.f k a0 a1 a2 a3 a4 a5) (fresh_Out.f (k + 1) a0 a1 a2 a3 a4 a5) := by
  intro a0 a1 a2 a3 a4 a5 k; obtain ⟨ih0, ih1, ih2⟩ := fresh_Out.mono_l k
  unfold fresh_Out.f
  repeat' first
      | (with_reducible exact ih0 _ _ _ _ _ _ _)
      | (with_reducible exact ih1 _ _ _ _ _ _)
      | (with_reducible exact ih2 _ _ _ _ _ _ _ _)
      | (with_reducible exact flow_Safe.mono _ _ _ _ _ _)
      | (with_reducible exact LeO.refl _)
      | (with_reducible exact LeO.none _)
      | (with_reducible refine LeO.ite ?_ ?_)
      | (with_reducible refine LeO.bind ?_ (fun _ => ?_))
      | exact ih0 _ _ _ _ _ _ _
      | exact ih1 _ _ _ _ _ _
      | exact ih2 _ _ _ _ _ _ _ _
      | exact flow_Safe.mono _ _ _ _ _ _
      | exact LeO.none _
      | refine LeO.ite ?_ ?_
      | refine LeO.bind ?_ (fun _ => ?_)
set_option maxHeartbeats 8000000 in
set_option maxRecDepth 100000 in
theorem fresh_Out.calls (k : Nat) (A0_0 : Option Addr) (c0_0 : Nat) (l0_0 : List ByteArray) (a0_1 : ByteArray) (a0_2 : ByteArray) (A0_3 : Option Addr) (c0_3 : Nat) (l0_3 : List (S47)) (a1 : Int) (a2 : Int) (r : Int) (w : World) (hr0_0 : Kd.C Kd.string w A0_0 l0_0.length l0_0) (hc0_0 : l0_0.length ≤ c0_0) (hr0_3 : Kd.C k47 w A0_3 l0_3.length l0_3) (hc0_3 : l0_3.length ≤ c0_3) (h : fresh_Out.f k l0_0 a0_1 a0_2 l0_3 a1 a2 = some r) :
    Calls Tryd.prog 33 #[.agg #[.slice A0_0 l0_0.length c0_0, .string a0_1, .string a0_2, .slice A0_3 l0_3.length c0_3], .int .i64 a1, .int .u8 a2] w fun e w' => e = .returned (.int .u8 r) ∧ Below w.heap.size w w' := by
  have hu25 := Tryd.underlying25; have hu47 := Tryd.underlying47; have HR0_0 := Aside0.mk hr0_0; have HC0_0 := Aside0.mk hc0_0; clear hr0_0 hc0_0; have HR0_3 := Aside0.mk hr0_3; have HC0_3 := Aside0.mk hc0_3; clear hr0_3 hc0_3; have HB := Aside0.mk (Below.refl w.heap.size w); have H : (if a1 < 0 then (fresh_Out.j0 k a1 a2 true l0_0 a0_1 a0_2 l0_3) else (fresh_Out.j0 k a1 a2 (decide (a1 ≥ (l0_3.length : Int))) l0_0 a0_1 a0_2 l0_3)) = some r := h; clear h; have HC4 := Aside0.mk H; clear H
  go_enter Tryd.func33, Tryd.ntmps33
  go_upto_region 1 with (first | ((with_reducible refine gate_dst (N := 3) rfl ?_); (try (refine gate_guard (by rfl) ?_; dsimp only)); refine box_event ?hg (N := 3) ?hd (cs := #[.slice A0_0 l0_0.length c0_0, .string a0_1, .string a0_2, .slice A0_3 l0_3.length c0_3]) (t := 25) ?hr ?_; (case hd => rfl); (case hg => rfl); (case hr => first | (go_simp; done) | (go_simp; rfl)); intro gb101 hg w5 hbox hb; have n0_ := Aside0.mk (below_step hB97 hb); have n1_ := Aside0.mk (hbox); have n2_ := Aside0.mk ((by rw [hg]; exact (below_size hB97) : w.heap.size ≤ gb101)); have n3_ := Aside0.mk ((by rw [hg]; exact (below_size hB97) : w.heap.size ≤ gb101)); clear HB; have HB := n0_; have BK101 := n1_; have GW101 := n2_; have GE101 := n3_; clear n0_ n1_ n2_ n3_; clear hb hbox hg))
  (try simp only [Act.put, List.setIfInBounds_toArray, List.set_cons_zero, List.set_cons_succ])
  go_cut [17] (fun v17 wc => ∃ (kq : Nat) (x17_3 : Bool), v17 = .bool x17_3 ∧ Aside0 (fresh_Out.j0 kq a1 a2 x17_3 l0_0 a0_1 a0_2 l0_3 = some r) ∧ Aside0 (kq ≤ k) ∧ Aside0 (wc.heap[gb101]? = some (.cells #[(.slice A0_0 l0_0.length c0_0), .string a0_1, .string a0_2, (.slice A0_3 l0_3.length c0_3)] 25 (0, 0))) ∧ Aside0 (Below w.heap.size w wc))
  case first =>
    have H := HC4.out; clear HC4; by_cases c6 : a1 < 0
    · rw [if_pos c6] at H; have c6b0 : decide (a1 < 0) = true := decide_eq_true c6; clear c6
      (first | rw [c6b0] | (simp only [i64_w, i32_w]; rw [c6b0]) | skip)
      have H' := Aside0.mk H; clear H; go_wp2; go_meet
      case rel => exact ⟨_, (true), hB64, H', ⟨by first | omega | exact Nat.le_refl _⟩, ⟨hB40⟩, ⟨hB72⟩⟩
    rw [if_neg c6] at H; have c6b0 : decide (a1 < 0) = false := decide_eq_false c6; clear c6
    (first | rw [c6b0] | (simp only [i64_w, i32_w]; rw [c6b0]) | skip)
    have H' := Aside0.mk H; clear H; have hcz7_0 : w5.cell? ⟨gb101, 0, none⟩ = some (.slice A0_0 l0_0.length c0_0) := (blk_cell BK101.out 0).trans rfl; have hcz7_1 : w5.cell? ⟨gb101, 1, none⟩ = some (.string a0_1) := (blk_cell BK101.out 1).trans rfl; have hcz7_2 : w5.cell? ⟨gb101, 2, none⟩ = some (.string a0_2) := (blk_cell BK101.out 2).trans rfl; have hcz7_3 : w5.cell? ⟨gb101, 3, none⟩ = some (.slice A0_3 l0_3.length c0_3) := (blk_cell BK101.out 3).trans rfl; have hfz7_0 := blk_frozen BK101.out 0; have hfz7_1 := blk_frozen BK101.out 1; have hfz7_2 := blk_frozen BK101.out 2; have hfz7_3 := blk_frozen BK101.out 3; go_wp2; go_meet
    case rel => exact ⟨_, (decide (a1 ≥ (l0_3.length : Int))), hB64, H', ⟨by first | omega | exact Nat.le_refl _⟩, ⟨hB40⟩, ⟨hB72⟩⟩
  case rest =>
    clear HC4; (try clear p2); (try clear c3); (try clear c6); (try clear c6b0); (try clear hcz7_0); (try clear hcz7_1); (try clear hcz7_2); (try clear hcz7_3); (try clear hfz7_0); (try clear hfz7_1); (try clear hfz7_2); (try clear hfz7_3); obtain ⟨kq, x17_3, rfl, HA, HJ3, BK101, HB⟩ := hcut
    cases kq with
    | zero => exact absurd HA.out (by simp [fresh_Out.j0])
    | succ kj3 =>
      have H := HA.out; clear HA; simp only [fresh_Out.j0] at H; by_cases c8 : x17_3 = true
      · subst c8
        have H1 : (some a2) = some r := by rw [if_pos rfl] at H; exact H
        clear H; have H := H1; clear H1; obtain rfl := Option.some.inj H; go_wp2; go_ret; exact ⟨by first | rfl | (simp [errW_none, errW_some] <;> rfl) | (simp [*, errW_none, errW_some] <;> rfl), hB72⟩
      replace c8 := Bool.eq_false_iff.mpr c8; subst c8
      have H1 : ((flow_Safe.f kj3 l0_0 a0_1 a0_2 l0_3 a1).bind fun t102 => (if t102 = true then (fresh_Out.j1 kj3 a1 0 l0_0 a0_1 a0_2 l0_3) else (fresh_Out.j1 kj3 a1 a2 l0_0 a0_1 a0_2 l0_3))) = some r := by rw [if_neg (show ¬ (false = true) by decide)] at H; exact H
      clear H; have H := H1; clear H1; replace H := Option.bind_eq_some_iff.mp H; obtain ⟨t102, A90, H⟩ := H; replace H : (if t102 = true then (fresh_Out.j1 kj3 a1 0 l0_0 a0_1 a0_2 l0_3) else (fresh_Out.j1 kj3 a1 a2 l0_0 a0_1 a0_2 l0_3)) = some r := H; have A9 := Aside0.mk A90; clear A90; have HC10 := Aside0.mk H; clear H; have hcz11_0 : wc.cell? ⟨gb101, 0, none⟩ = some (.slice A0_0 l0_0.length c0_0) := (blk_cell BK101.out 0).trans rfl; have hcz11_1 : wc.cell? ⟨gb101, 1, none⟩ = some (.string a0_1) := (blk_cell BK101.out 1).trans rfl; have hcz11_2 : wc.cell? ⟨gb101, 2, none⟩ = some (.string a0_2) := (blk_cell BK101.out 2).trans rfl; have hcz11_3 : wc.cell? ⟨gb101, 3, none⟩ = some (.slice A0_3 l0_3.length c0_3) := (blk_cell BK101.out 3).trans rfl; have hfz11_0 := blk_frozen BK101.out 0; have hfz11_1 := blk_frozen BK101.out 1; have hfz11_2 := blk_frozen BK101.out 2; have hfz11_3 := blk_frozen BK101.out 3
      go_upto_if 21 with (first | ((with_reducible refine gate_callee (f := 11) rfl ?_); refine goesL_ (some 21) rfl rfl Tryd.func11 (by kernel_rfl) rfl #[.agg #[.slice A0_0 l0_0.length c0_0, .string a0_1, .string a0_2, .slice A0_3 l0_3.length c0_3], .int .i64 a1] rfl hB1 ?_; (with_reducible refine (flow_Safe.calls kj3 _ _ l0_0 a0_1 a0_2 _ _ l0_3 a1 t102 _ ?side1 ?side2 ?side3 ?side4 A9.out).mono ?_); (case side1 => repeat (first | exact (Kd.C_below HR0_0.out HB.out) | (with_reducible refine Kd.C_alloc ?_ _) | (with_reducible refine Kd.C_drewN ?_ _) | (with_reducible refine Kd.C_drew ?_))); (case side2 => exact HC0_0.out); (case side3 => repeat (first | exact (Kd.C_below HR0_3.out HB.out) | (with_reducible refine Kd.C_alloc ?_ _) | (with_reducible refine Kd.C_drewN ?_ _) | (with_reducible refine Kd.C_drew ?_))); (case side4 => exact HC0_3.out); rintro e w12 ⟨rfl, hb⟩; refine ⟨_, rfl, ?_⟩; have n0_ := Aside0.mk (blk_below (g := gb101) (o := .cells #[.slice A0_0 l0_0.length c0_0, .string a0_1, .string a0_2, .slice A0_3 l0_3.length c0_3] 25 (0, 0)) hB40 hb); have n1_ := Aside0.mk (below_step hB72 hb); clear BK101; clear HB; have BK101 := n0_; have HB := n1_; clear n0_ n1_; (try clear hb); (try clear hb2); (try clear hk); (try clear hi)))
      (try simp only [Act.put, List.setIfInBounds_toArray, List.set_cons_zero, List.set_cons_succ])
      go_cut [2] (fun v2 wc => ∃ (kq : Nat) (x2_9 : Int), v2 = .int .u8 x2_9 ∧ Aside0 (fresh_Out.j1 kq a1 x2_9 l0_0 a0_1 a0_2 l0_3 = some r) ∧ Aside0 (kq ≤ kj3) ∧ Aside0 (wc.heap[gb101]? = some (.cells #[(.slice A0_0 l0_0.length c0_0), .string a0_1, .string a0_2, (.slice A0_3 l0_3.length c0_3)] 25 (0, 0))) ∧ Aside0 (Below w.heap.size w wc))
      case first =>
        have H := HC10.out; clear HC10; by_cases c13 : t102 = true
        · subst c13
          have H1 : (fresh_Out.j1 kj3 a1 0 l0_0 a0_1 a0_2 l0_3) = some r := by rw [if_pos rfl] at H; exact H
          clear H; have H := H1; clear H1; have H' := Aside0.mk H; clear H; go_wp2; go_meet
          case rel => exact ⟨_, (0), hB64, H', ⟨by have := HJ3.out; first | omega | exact Nat.le_refl _⟩, ⟨hB40⟩, ⟨hB72⟩⟩
        replace c13 := Bool.eq_false_iff.mpr c13; subst c13
        have H1 : (fresh_Out.j1 kj3 a1 a2 l0_0 a0_1 a0_2 l0_3) = some r := by rw [if_neg (show ¬ (false = true) by decide)] at H; exact H
        clear H; have H := H1; clear H1; have H' := Aside0.mk H; clear H; go_wp2; go_meet
        case rel => exact ⟨_, (a2), hB64, H', ⟨by have := HJ3.out; first | omega | exact Nat.le_refl _⟩, ⟨hB40⟩, ⟨hB72⟩⟩
      case rest =>
        clear HC10; (try clear c1); (try clear p2); (try clear c3); (try clear c6); (try clear c6b0); (try clear c8); (try clear c11); (try clear c13); (try clear hcz11_0); (try clear hcz11_1); (try clear hcz11_2); (try clear hcz11_3); (try clear hcz7_0); (try clear hcz7_1); (try clear hcz7_2); (try clear hcz7_3); (try clear hfz11_0); (try clear hfz11_1); (try clear hfz11_2); (try clear hfz11_3); (try clear hfz7_0); (try clear hfz7_1); (try clear hfz7_2); (try clear hfz7_3); (try clear p2); obtain ⟨kq, x2_9, rfl, HA, HJ9, BK101, HB⟩ := hcut
        cases kq with
        | zero => exact absurd HA.out (by simp [fresh_Out.j1])
        | succ kj9 =>
          have H := HA.out; clear HA; simp only [fresh_Out.j1] at H; by_cases c14 : 0 ≤ a1
          rotate_left
          · rw [if_neg c14] at H; exact absurd H (by simp)
          rw [if_pos c14] at H; have c14b0 : decide (0 ≤ a1) = true := decide_eq_true c14; clear c14; by_cases c15 : a1 < (l0_3.length : Int)
          rotate_left
          · rw [if_neg c15] at H; exact absurd H (by simp)
          rw [if_pos c15] at H; have c15b0 : decide (a1 < (l0_3.length : Int)) = true := decide_eq_true c15; clear c15; by_cases c16 : 0 ≤ ((rd_T47 l0_3 a1).f1)
          rotate_left
          · rw [if_neg c16] at H; exact absurd H (by simp)
          rw [if_pos c16] at H; have c16b0 := eq_true c16; have c16b1 : decide (0 ≤ ((rd_T47 l0_3 a1).f1)) = true := decide_eq_true c16; clear c16; obtain ⟨ji17, hji17⟩ : ∃ j_ : Int, (shl .u8 1 ((rd_T47 l0_3 a1).f1)) = j_ := ⟨_, rfl⟩
          replace H : (if ((rd_T47 l0_3 a1).f0) = 5 then (fresh_Out.j2 kj9 x2_9 ji17 true ((rd_T47 l0_3 a1).f0) ((rd_T47 l0_3 a1).f1) ((rd_T47 l0_3 a1).f2) ((rd_T47 l0_3 a1).f3) ((rd_T47 l0_3 a1).f4)) else (if ((rd_T47 l0_3 a1).f0) = 6 then (fresh_Out.j2 kj9 x2_9 ji17 true ((rd_T47 l0_3 a1).f0) ((rd_T47 l0_3 a1).f1) ((rd_T47 l0_3 a1).f2) ((rd_T47 l0_3 a1).f3) ((rd_T47 l0_3 a1).f4)) else (if ((rd_T47 l0_3 a1).f0) = 7 then (if 0 ≤ ((rd_T47 l0_3 a1).f2) then (fresh_Out.j2 kj9 x2_9 ji17 ((Go.bits .and .u8 (shr .u8 x2_9 ((rd_T47 l0_3 a1).f2)) 1) == 1) ((rd_T47 l0_3 a1).f0) ((rd_T47 l0_3 a1).f1) ((rd_T47 l0_3 a1).f2) ((rd_T47 l0_3 a1).f3) ((rd_T47 l0_3 a1).f4)) else (none)) else (fresh_Out.j2 kj9 x2_9 ji17 false ((rd_T47 l0_3 a1).f0) ((rd_T47 l0_3 a1).f1) ((rd_T47 l0_3 a1).f2) ((rd_T47 l0_3 a1).f3) ((rd_T47 l0_3 a1).f4))))) = some r := by first | (rw [hji17] at H; exact H) | (simp only [hji17] at H ⊢; exact H)
          have hji17_ : (IntKind.u8.wrap (1 * 2 ^ min ((rd_T47 l0_3 a1).f1).toNat 8)) = ji17 := hji17; have hji17z : ((rd_T47 l0_3 a1).f1) ≤ 8 → (IntKind.u8.wrap (1 * 2 ^ ((rd_T47 l0_3 a1).f1).toNat)) = ji17 := shl_small hji17
          have hji17u : (IntKind.u8.wrap (2 ^ min ((rd_T47 l0_3 a1).f1).toNat 8)) = ji17 := by have h_ := hji17_; rw [Int.one_mul] at h_; exact h_
          have hji17v : ((rd_T47 l0_3 a1).f1) ≤ 8 → (IntKind.u8.wrap (2 ^ ((rd_T47 l0_3 a1).f1).toNat)) = ji17 := fun hle_ => by have h_ := hji17z hle_; rw [Int.one_mul] at h_; exact h_
          have HC18 := Aside0.mk H; clear H; have hcz19_0 : wc.cell? ⟨gb101, 0, none⟩ = some (.slice A0_0 l0_0.length c0_0) := (blk_cell BK101.out 0).trans rfl; have hcz19_1 : wc.cell? ⟨gb101, 1, none⟩ = some (.string a0_1) := (blk_cell BK101.out 1).trans rfl; have hcz19_2 : wc.cell? ⟨gb101, 2, none⟩ = some (.string a0_2) := (blk_cell BK101.out 2).trans rfl; have hcz19_3 : wc.cell? ⟨gb101, 3, none⟩ = some (.slice A0_3 l0_3.length c0_3) := (blk_cell BK101.out 3).trans rfl; have hfz19_0 := blk_frozen BK101.out 0; have hfz19_1 := blk_frozen BK101.out 1; have hfz19_2 := blk_frozen BK101.out 2; have hfz19_3 := blk_frozen BK101.out 3; have p103 : 0 ≤ (a1 : Int) := of_decide_eq_true hB63; have q103 : a1 < (l0_3.length : Int) := of_decide_eq_true hB63; obtain ⟨ad103, e103, hx103_0, hx103_1, hx103_2, hx103_3, hx103_4⟩ := at_T47 HR0_3.out a1 p103 q103
          cases e103
          replace hx103_0 := (HB.out.cell (World.block_lt_of_cell? w _ hx103_0)).trans hx103_0; replace hx103_1 := (HB.out.cell (World.block_lt_of_cell? w _ hx103_1)).trans hx103_1; replace hx103_2 := (HB.out.cell (World.block_lt_of_cell? w _ hx103_2)).trans hx103_2; replace hx103_3 := (HB.out.cell (World.block_lt_of_cell? w _ hx103_3)).trans hx103_3; replace hx103_4 := (HB.out.cell (World.block_lt_of_cell? w _ hx103_4)).trans hx103_4; replace p103 := eq_true p103; replace q103 := eq_true q103
          go_upto_region 7 with (first | ((with_reducible refine gate_dst (N := 7) rfl ?_); (try (refine gate_guard (by rfl) ?_; dsimp only)); refine box_event ?hg (N := 7) ?hd (cs := #[.int .u8 0, .int .u8 0, .int .u8 0, .int .u8 0, .int .i64 0]) (t := 47) ?hr ?_; (case hd => rfl); (case hg => rfl); (case hr => first | (go_simp; done) | (go_simp; rfl)); intro gb104 hg w20 hbox hb; have n0_ := Aside0.mk (blk_below (g := gb101) (o := .cells #[.slice A0_0 l0_0.length c0_0, .string a0_1, .string a0_2, .slice (some ad103) l0_3.length c0_3] 25 (0, 0)) hB40 hb); have n1_ := Aside0.mk (below_step hB72 hb); have n2_ := Aside0.mk (hbox); have n3_ := Aside0.mk ((by rw [hg]; exact (below_size hB72) : w.heap.size ≤ gb104)); have n4_ := Aside0.mk ((by rw [hg]; exact (below_size hB72) : w.heap.size ≤ gb104)); have n5_ := Aside0.mk ((by rw [hg]; exact Nat.ne_of_lt (blk_lt (g := gb101) (o := .cells #[.slice A0_0 l0_0.length c0_0, .string a0_1, .string a0_2, .slice (some ad103) l0_3.length c0_3] 25 (0, 0)) hB40) : gb101 ≠ gb104)); have n6_ := Aside0.mk ((by rw [hg]; exact Nat.ne_of_gt (blk_lt (g := gb101) (o := .cells #[.slice A0_0 l0_0.length c0_0, .string a0_1, .string a0_2, .slice (some ad103) l0_3.length c0_3] 25 (0, 0)) hB40) : gb104 ≠ gb101)); clear BK101; clear HB; have BK101 := n0_; have HB := n1_; have BK104 := n2_; have GW104 := n3_; have GE104 := n4_; have NB101_104 := n5_; have NB104_101 := n6_; clear n0_ n1_ n2_ n3_ n4_ n5_ n6_; clear hb hbox hg; have hnb21 := NB104_101.out; have hnc21 := NB101_104.out; have hcz22_0 : w20.cell? ⟨gb104, 0, none⟩ = some (.int .u8 0) := (blk_cell BK104.out 0).trans rfl; have hcz22_1 : w20.cell? ⟨gb104, 1, none⟩ = some (.int .u8 0) := (blk_cell BK104.out 1).trans rfl; have hcz22_2 : w20.cell? ⟨gb104, 2, none⟩ = some (.int .u8 0) := (blk_cell BK104.out 2).trans rfl; have hcz22_3 : w20.cell? ⟨gb104, 3, none⟩ = some (.int .u8 0) := (blk_cell BK104.out 3).trans rfl; have hcz22_4 : w20.cell? ⟨gb104, 4, none⟩ = some (.int .i64 0) := (blk_cell BK104.out 4).trans rfl; have hfz22_0 := blk_frozen BK104.out 0; have hfz22_1 := blk_frozen BK104.out 1; have hfz22_2 := blk_frozen BK104.out 2; have hfz22_3 := blk_frozen BK104.out 3; have hfz22_4 := blk_frozen BK104.out 4))
          (try simp only [Act.put, List.setIfInBounds_toArray, List.set_cons_zero, List.set_cons_succ])
          go_cut [30] (fun v30 wc => ∃ (kq : Nat) (x30_17 : Bool), v30 = .bool x30_17 ∧ Aside0 (fresh_Out.j2 kq x2_9 ji17 x30_17 ((rd_T47 l0_3 a1).f0) ((rd_T47 l0_3 a1).f1) ((rd_T47 l0_3 a1).f2) ((rd_T47 l0_3 a1).f3) ((rd_T47 l0_3 a1).f4) = some r) ∧ Aside0 (kq ≤ kj9) ∧ Aside0 (wc.heap[gb101]? = some (.cells #[(.slice A0_0 l0_0.length c0_0), .string a0_1, .string a0_2, (.slice (some ad103) l0_3.length c0_3)] 25 (0, 0))) ∧ Aside0 (wc.heap[gb104]? = some (.cells #[.int .u8 ((rd_T47 l0_3 a1).f0), .int .u8 ((rd_T47 l0_3 a1).f1), .int .u8 ((rd_T47 l0_3 a1).f2), .int .u8 ((rd_T47 l0_3 a1).f3), .int .i64 ((rd_T47 l0_3 a1).f4)] 47 (0, 0))) ∧ Aside0 (Below w.heap.size w wc))
          case first =>
            have H := HC18.out; clear HC18; by_cases c23 : ((rd_T47 l0_3 a1).f0) = 5
            · rw [if_pos c23] at H; have c23b0 : (((rd_T47 l0_3 a1).f0) == 5) = true := beq_iff_eq.mpr c23; have c23b1 : (((rd_T47 l0_3 a1).f0) != 5) = false := bne_eq_false_iff_eq.mpr c23; clear c23
              (first | rw [c23b0] | (simp only [i64_w, i32_w]; rw [c23b0]) | skip)
              have H' := Aside0.mk H; clear H; have hnb24 := NB104_101.out; have hnc24 := NB101_104.out; have hcz25_0 : w20.cell? ⟨gb104, 0, none⟩ = some (.int .u8 0) := (blk_cell BK104.out 0).trans rfl; have hcz25_1 : w20.cell? ⟨gb104, 1, none⟩ = some (.int .u8 0) := (blk_cell BK104.out 1).trans rfl; have hcz25_2 : w20.cell? ⟨gb104, 2, none⟩ = some (.int .u8 0) := (blk_cell BK104.out 2).trans rfl; have hcz25_3 : w20.cell? ⟨gb104, 3, none⟩ = some (.int .u8 0) := (blk_cell BK104.out 3).trans rfl; have hcz25_4 : w20.cell? ⟨gb104, 4, none⟩ = some (.int .i64 0) := (blk_cell BK104.out 4).trans rfl; have hfz25_0 := blk_frozen BK104.out 0; have hfz25_1 := blk_frozen BK104.out 1; have hfz25_2 := blk_frozen BK104.out 2; have hfz25_3 := blk_frozen BK104.out 3; have hfz25_4 := blk_frozen BK104.out 4; go_wp2; go_meet
              case rel => exact ⟨_, (true), hB64, H', ⟨hB68⟩, ⟨hB59⟩, ⟨hB61⟩, ⟨hB71⟩⟩
            rw [if_neg c23] at H; have c23b0 : (((rd_T47 l0_3 a1).f0) == 5) = false := beq_eq_false_iff_ne.mpr c23; have c23b1 : (((rd_T47 l0_3 a1).f0) != 5) = true := bne_iff_ne.mpr c23
            (first | rw [c23b0] | (simp only [i64_w, i32_w]; rw [c23b0]) | skip)
            by_cases c26 : ((rd_T47 l0_3 a1).f0) = 6
            · rw [if_pos c26] at H; have c26b0 : (((rd_T47 l0_3 a1).f0) == 6) = true := beq_iff_eq.mpr c26; have c26b1 : (((rd_T47 l0_3 a1).f0) != 6) = false := bne_eq_false_iff_eq.mpr c26; clear c26; have H' := Aside0.mk H; clear H; have hnb27 := NB104_101.out; have hnc27 := NB101_104.out; have hcz28_0 : w20.cell? ⟨gb104, 0, none⟩ = some (.int .u8 0) := (blk_cell BK104.out 0).trans rfl; have hcz28_1 : w20.cell? ⟨gb104, 1, none⟩ = some (.int .u8 0) := (blk_cell BK104.out 1).trans rfl; have hcz28_2 : w20.cell? ⟨gb104, 2, none⟩ = some (.int .u8 0) := (blk_cell BK104.out 2).trans rfl; have hcz28_3 : w20.cell? ⟨gb104, 3, none⟩ = some (.int .u8 0) := (blk_cell BK104.out 3).trans rfl; have hcz28_4 : w20.cell? ⟨gb104, 4, none⟩ = some (.int .i64 0) := (blk_cell BK104.out 4).trans rfl; have hfz28_0 := blk_frozen BK104.out 0; have hfz28_1 := blk_frozen BK104.out 1; have hfz28_2 := blk_frozen BK104.out 2; have hfz28_3 := blk_frozen BK104.out 3; have hfz28_4 := blk_frozen BK104.out 4; go_wp2; go_meet
              case rel => exact ⟨_, (true), hB64, H', ⟨hB68⟩, ⟨hB59⟩, ⟨hB61⟩, ⟨hB71⟩⟩
            rw [if_neg c26] at H; have c26b0 : (((rd_T47 l0_3 a1).f0) == 6) = false := beq_eq_false_iff_ne.mpr c26; have c26b1 : (((rd_T47 l0_3 a1).f0) != 6) = true := bne_iff_ne.mpr c26; by_cases c29 : ((rd_T47 l0_3 a1).f0) = 7
            rotate_left
            · rw [if_neg c29] at H; have c29b0 : (((rd_T47 l0_3 a1).f0) == 7) = false := beq_eq_false_iff_ne.mpr c29; have c29b1 : (((rd_T47 l0_3 a1).f0) != 7) = true := bne_iff_ne.mpr c29; have H' := Aside0.mk H; clear H; have hnb34 := NB104_101.out; have hnc34 := NB101_104.out; have hcz35_0 : w20.cell? ⟨gb104, 0, none⟩ = some (.int .u8 0) := (blk_cell BK104.out 0).trans rfl; have hcz35_1 : w20.cell? ⟨gb104, 1, none⟩ = some (.int .u8 0) := (blk_cell BK104.out 1).trans rfl; have hcz35_2 : w20.cell? ⟨gb104, 2, none⟩ = some (.int .u8 0) := (blk_cell BK104.out 2).trans rfl; have hcz35_3 : w20.cell? ⟨gb104, 3, none⟩ = some (.int .u8 0) := (blk_cell BK104.out 3).trans rfl; have hcz35_4 : w20.cell? ⟨gb104, 4, none⟩ = some (.int .i64 0) := (blk_cell BK104.out 4).trans rfl; have hfz35_0 := blk_frozen BK104.out 0; have hfz35_1 := blk_frozen BK104.out 1; have hfz35_2 := blk_frozen BK104.out 2; have hfz35_3 := blk_frozen BK104.out 3; have hfz35_4 := blk_frozen BK104.out 4; go_wp2; go_meet
              case rel => exact ⟨_, (false), hB64, H', ⟨hB68⟩, ⟨hB59⟩, ⟨hB61⟩, ⟨hB71⟩⟩
            rw [if_pos c29] at H; have c29b0 : (((rd_T47 l0_3 a1).f0) == 7) = true := beq_iff_eq.mpr c29; have c29b1 : (((rd_T47 l0_3 a1).f0) != 7) = false := bne_eq_false_iff_eq.mpr c29; clear c29; by_cases c30 : 0 ≤ ((rd_T47 l0_3 a1).f2)
            rotate_left
            · rw [if_neg c30] at H; exact absurd H (by simp)
            rw [if_pos c30] at H; have c30b0 := eq_true c30; have c30b1 : decide (0 ≤ ((rd_T47 l0_3 a1).f2)) = true := decide_eq_true c30; clear c30; obtain ⟨ji31, hji31⟩ : ∃ j_ : Int, (shr .u8 x2_9 ((rd_T47 l0_3 a1).f2)) = j_ := ⟨_, rfl⟩
            replace H : (fresh_Out.j2 kj9 x2_9 ji17 ((Go.bits .and .u8 (ji31) 1) == 1) ((rd_T47 l0_3 a1).f0) ((rd_T47 l0_3 a1).f1) ((rd_T47 l0_3 a1).f2) ((rd_T47 l0_3 a1).f3) ((rd_T47 l0_3 a1).f4)) = some r := by first | (rw [hji31] at H; exact H) | (simp only [hji31] at H ⊢; exact H)
            have hji31_ : (x2_9 / 2 ^ min ((rd_T47 l0_3 a1).f2).toNat 8) = ji31 := hji31; have hji31z : ((rd_T47 l0_3 a1).f2) ≤ 8 → (x2_9 / 2 ^ ((rd_T47 l0_3 a1).f2).toNat) = ji31 := shr_small hji31; have H' := Aside0.mk H; clear H; have hnb32 := NB104_101.out; have hnc32 := NB101_104.out; have hcz33_0 : w20.cell? ⟨gb104, 0, none⟩ = some (.int .u8 0) := (blk_cell BK104.out 0).trans rfl; have hcz33_1 : w20.cell? ⟨gb104, 1, none⟩ = some (.int .u8 0) := (blk_cell BK104.out 1).trans rfl; have hcz33_2 : w20.cell? ⟨gb104, 2, none⟩ = some (.int .u8 0) := (blk_cell BK104.out 2).trans rfl; have hcz33_3 : w20.cell? ⟨gb104, 3, none⟩ = some (.int .u8 0) := (blk_cell BK104.out 3).trans rfl; have hcz33_4 : w20.cell? ⟨gb104, 4, none⟩ = some (.int .i64 0) := (blk_cell BK104.out 4).trans rfl; have hfz33_0 := blk_frozen BK104.out 0; have hfz33_1 := blk_frozen BK104.out 1; have hfz33_2 := blk_frozen BK104.out 2; have hfz33_3 := blk_frozen BK104.out 3; have hfz33_4 := blk_frozen BK104.out 4; go_wp2; go_meet
            case rel => exact ⟨_, (((Go.bits .and .u8 (ji31) 1) == 1)), (by first | rfl | (simp; done) | (simp only [← hji31] <;> (first | rfl | simp)) | (simp [*]; done)), H', ⟨hB68⟩, ⟨hB59⟩, ⟨hB61⟩, ⟨hB71⟩⟩
          case rest =>
            clear HC18; (try clear c1); (try clear p1); (try clear q1); (try clear hx1); (try clear c2); (try clear p2); (try clear c3); (try clear c6); (try clear c6b0); (try clear c8); (try clear p10); (try clear q10); (try clear hx10); (try clear c11); (try clear c13); (try clear c14); (try clear c14b0); (try clear c15); (try clear c15b0); (try clear c16); (try clear c16b0); (try clear c16b1); (try clear c21); (try clear c23); (try clear c23b0); (try clear c23b1); (try clear c24); (try clear c26); (try clear c26b0); (try clear c26b1); (try clear c27); (try clear c29); (try clear c29b0); (try clear c29b1); (try clear c30); (try clear c30b0); (try clear c30b1); (try clear c32); (try clear c33); (try clear c34); (try clear hcz11_0); (try clear hcz11_1); (try clear hcz11_2); (try clear hcz11_3); (try clear hcz19_0); (try clear hcz19_1); (try clear hcz19_2); (try clear hcz19_3); (try clear hcz22_0); (try clear hcz22_1); (try clear hcz22_2); (try clear hcz22_3); (try clear hcz22_4); (try clear hcz25_0); (try clear hcz25_1); (try clear hcz25_2); (try clear hcz25_3); (try clear hcz25_4); (try clear hcz28_0); (try clear hcz28_1); (try clear hcz28_2); (try clear hcz28_3); (try clear hcz28_4); (try clear hcz33_0); (try clear hcz33_1); (try clear hcz33_2); (try clear hcz33_3); (try clear hcz33_4); (try clear hcz35_0); (try clear hcz35_1); (try clear hcz35_2); (try clear hcz35_3); (try clear hcz35_4); (try clear hcz7_0); (try clear hcz7_1); (try clear hcz7_2); (try clear hcz7_3); (try clear hfz11_0); (try clear hfz11_1); (try clear hfz11_2); (try clear hfz11_3); (try clear hfz19_0); (try clear hfz19_1); (try clear hfz19_2); (try clear hfz19_3); (try clear hfz22_0); (try clear hfz22_1); (try clear hfz22_2); (try clear hfz22_3); (try clear hfz22_4); (try clear hfz25_0); (try clear hfz25_1); (try clear hfz25_2); (try clear hfz25_3); (try clear hfz25_4); (try clear hfz28_0); (try clear hfz28_1); (try clear hfz28_2); (try clear hfz28_3); (try clear hfz28_4); (try clear hfz33_0); (try clear hfz33_1); (try clear hfz33_2); (try clear hfz33_3); (try clear hfz33_4); (try clear hfz35_0); (try clear hfz35_1); (try clear hfz35_2); (try clear hfz35_3); (try clear hfz35_4); (try clear hfz7_0); (try clear hfz7_1); (try clear hfz7_2); (try clear hfz7_3); (try clear hx103_0); (try clear hx103_1); (try clear hx103_2); (try clear hx103_3); (try clear hx103_4); (try clear p103); (try clear p2); (try clear q103); obtain ⟨kq, x30_17, rfl, HA, HJ17, BK101, BK104, HB⟩ := hcut
            cases kq with
            | zero => exact absurd HA.out (by simp [fresh_Out.j2])
            | succ kj17 =>
              have H := HA.out; clear HA; simp only [fresh_Out.j2] at H; by_cases c36 : x30_17 = true
              · subst c36
                have H1 : (some (Go.bits .or .u8 x2_9 ji17)) = some r := by rw [if_pos rfl] at H; exact H
                clear H; have H := H1; clear H1; obtain rfl := Option.some.inj H; go_wp2; go_ret; exact ⟨by first | rfl | (simp [errW_none, errW_some] <;> rfl) | (simp only [← hji17]; first | rfl | (simp [errW_none, errW_some] <;> rfl)) | (simp [*, errW_none, errW_some] <;> rfl), hB71⟩
              replace c36 := Bool.eq_false_iff.mpr c36; subst c36
              have H1 : (if ((rd_T47 l0_3 a1).f0) = 7 then (some (Go.bits .andNot .u8 x2_9 ji17)) else (if ((rd_T47 l0_3 a1).f0) = 10 then (some (Go.bits .andNot .u8 x2_9 ji17)) else (if ((rd_T47 l0_3 a1).f0) = 12 then (some (Go.bits .andNot .u8 x2_9 ji17)) else (some x2_9)))) = some r := by rw [if_neg (show ¬ (false = true) by decide)] at H; exact H
              clear H; have H := H1; clear H1; by_cases c37 : ((rd_T47 l0_3 a1).f0) = 7
              · rw [if_pos c37] at H; have c37b0 : (((rd_T47 l0_3 a1).f0) == 7) = true := beq_iff_eq.mpr c37; have c37b1 : (((rd_T47 l0_3 a1).f0) != 7) = false := bne_eq_false_iff_eq.mpr c37; clear c37; obtain rfl := Option.some.inj H; have hnb38 := NB104_101.out; have hnc38 := NB101_104.out; have hcz39_0 : wc.cell? ⟨gb104, 0, none⟩ = some (.int .u8 ((rd_T47 l0_3 a1).f0)) := (blk_cell BK104.out 0).trans rfl; have hcz39_1 : wc.cell? ⟨gb104, 1, none⟩ = some (.int .u8 ((rd_T47 l0_3 a1).f1)) := (blk_cell BK104.out 1).trans rfl; have hcz39_2 : wc.cell? ⟨gb104, 2, none⟩ = some (.int .u8 ((rd_T47 l0_3 a1).f2)) := (blk_cell BK104.out 2).trans rfl; have hcz39_3 : wc.cell? ⟨gb104, 3, none⟩ = some (.int .u8 ((rd_T47 l0_3 a1).f3)) := (blk_cell BK104.out 3).trans rfl; have hcz39_4 : wc.cell? ⟨gb104, 4, none⟩ = some (.int .i64 ((rd_T47 l0_3 a1).f4)) := (blk_cell BK104.out 4).trans rfl; have hfz39_0 := blk_frozen BK104.out 0; have hfz39_1 := blk_frozen BK104.out 1; have hfz39_2 := blk_frozen BK104.out 2; have hfz39_3 := blk_frozen BK104.out 3; have hfz39_4 := blk_frozen BK104.out 4; go_wp2; go_ret; exact ⟨by first | rfl | (simp [errW_none, errW_some] <;> rfl) | (simp only [← hji17]; first | rfl | (simp [errW_none, errW_some] <;> rfl)) | (simp [*, errW_none, errW_some] <;> rfl), hB71⟩
              rw [if_neg c37] at H; have c37b0 : (((rd_T47 l0_3 a1).f0) == 7) = false := beq_eq_false_iff_ne.mpr c37; have c37b1 : (((rd_T47 l0_3 a1).f0) != 7) = true := bne_iff_ne.mpr c37; by_cases c40 : ((rd_T47 l0_3 a1).f0) = 10
              · rw [if_pos c40] at H; have c40b0 : (((rd_T47 l0_3 a1).f0) == 10) = true := beq_iff_eq.mpr c40; have c40b1 : (((rd_T47 l0_3 a1).f0) != 10) = false := bne_eq_false_iff_eq.mpr c40; clear c40; obtain rfl := Option.some.inj H; have hnb41 := NB104_101.out; have hnc41 := NB101_104.out; have hcz42_0 : wc.cell? ⟨gb104, 0, none⟩ = some (.int .u8 ((rd_T47 l0_3 a1).f0)) := (blk_cell BK104.out 0).trans rfl; have hcz42_1 : wc.cell? ⟨gb104, 1, none⟩ = some (.int .u8 ((rd_T47 l0_3 a1).f1)) := (blk_cell BK104.out 1).trans rfl; have hcz42_2 : wc.cell? ⟨gb104, 2, none⟩ = some (.int .u8 ((rd_T47 l0_3 a1).f2)) := (blk_cell BK104.out 2).trans rfl; have hcz42_3 : wc.cell? ⟨gb104, 3, none⟩ = some (.int .u8 ((rd_T47 l0_3 a1).f3)) := (blk_cell BK104.out 3).trans rfl; have hcz42_4 : wc.cell? ⟨gb104, 4, none⟩ = some (.int .i64 ((rd_T47 l0_3 a1).f4)) := (blk_cell BK104.out 4).trans rfl; have hfz42_0 := blk_frozen BK104.out 0; have hfz42_1 := blk_frozen BK104.out 1; have hfz42_2 := blk_frozen BK104.out 2; have hfz42_3 := blk_frozen BK104.out 3; have hfz42_4 := blk_frozen BK104.out 4; go_wp2; go_ret; exact ⟨by first | rfl | (simp [errW_none, errW_some] <;> rfl) | (simp only [← hji17]; first | rfl | (simp [errW_none, errW_some] <;> rfl)) | (simp [*, errW_none, errW_some] <;> rfl), hB71⟩
              rw [if_neg c40] at H; have c40b0 : (((rd_T47 l0_3 a1).f0) == 10) = false := beq_eq_false_iff_ne.mpr c40; have c40b1 : (((rd_T47 l0_3 a1).f0) != 10) = true := bne_iff_ne.mpr c40; by_cases c43 : ((rd_T47 l0_3 a1).f0) = 12
              rotate_left
              · rw [if_neg c43] at H; have c43b0 : (((rd_T47 l0_3 a1).f0) == 12) = false := beq_eq_false_iff_ne.mpr c43; have c43b1 : (((rd_T47 l0_3 a1).f0) != 12) = true := bne_iff_ne.mpr c43; obtain rfl := Option.some.inj H; have hnb46 := NB104_101.out; have hnc46 := NB101_104.out; have hcz47_0 : wc.cell? ⟨gb104, 0, none⟩ = some (.int .u8 ((rd_T47 l0_3 a1).f0)) := (blk_cell BK104.out 0).trans rfl; have hcz47_1 : wc.cell? ⟨gb104, 1, none⟩ = some (.int .u8 ((rd_T47 l0_3 a1).f1)) := (blk_cell BK104.out 1).trans rfl; have hcz47_2 : wc.cell? ⟨gb104, 2, none⟩ = some (.int .u8 ((rd_T47 l0_3 a1).f2)) := (blk_cell BK104.out 2).trans rfl; have hcz47_3 : wc.cell? ⟨gb104, 3, none⟩ = some (.int .u8 ((rd_T47 l0_3 a1).f3)) := (blk_cell BK104.out 3).trans rfl; have hcz47_4 : wc.cell? ⟨gb104, 4, none⟩ = some (.int .i64 ((rd_T47 l0_3 a1).f4)) := (blk_cell BK104.out 4).trans rfl; have hfz47_0 := blk_frozen BK104.out 0; have hfz47_1 := blk_frozen BK104.out 1; have hfz47_2 := blk_frozen BK104.out 2; have hfz47_3 := blk_frozen BK104.out 3; have hfz47_4 := blk_frozen BK104.out 4; go_wp2; go_ret; exact ⟨by first | rfl | (simp [errW_none, errW_some] <;> rfl) | (simp only [← hji17]; first | rfl | (simp [errW_none, errW_some] <;> rfl)) | (simp [*, errW_none, errW_some] <;> rfl), hB71⟩
              rw [if_pos c43] at H; have c43b0 : (((rd_T47 l0_3 a1).f0) == 12) = true := beq_iff_eq.mpr c43; have c43b1 : (((rd_T47 l0_3 a1).f0) != 12) = false := bne_eq_false_iff_eq.mpr c43; clear c43; obtain rfl := Option.some.inj H; have hnb44 := NB104_101.out; have hnc44 := NB101_104.out; have hcz45_0 : wc.cell? ⟨gb104, 0, none⟩ = some (.int .u8 ((rd_T47 l0_3 a1).f0)) := (blk_cell BK104.out 0).trans rfl; have hcz45_1 : wc.cell? ⟨gb104, 1, none⟩ = some (.int .u8 ((rd_T47 l0_3 a1).f1)) := (blk_cell BK104.out 1).trans rfl; have hcz45_2 : wc.cell? ⟨gb104, 2, none⟩ = some (.int .u8 ((rd_T47 l0_3 a1).f2)) := (blk_cell BK104.out 2).trans rfl; have hcz45_3 : wc.cell? ⟨gb104, 3, none⟩ = some (.int .u8 ((rd_T47 l0_3 a1).f3)) := (blk_cell BK104.out 3).trans rfl; have hcz45_4 : wc.cell? ⟨gb104, 4, none⟩ = some (.int .i64 ((rd_T47 l0_3 a1).f4)) := (blk_cell BK104.out 4).trans rfl; have hfz45_0 := blk_frozen BK104.out 0; have hfz45_1 := blk_frozen BK104.out 1; have hfz45_2 := blk_frozen BK104.out 2; have hfz45_3 := blk_frozen BK104.out 3; have hfz45_4 := blk_frozen BK104.out 4; go_wp2; go_ret; exact ⟨by first | rfl | (simp [errW_none, errW_some] <;> rfl) | (simp only [← hji17]; first | rfl | (simp [errW_none, errW_some] <;> rfl)) | (simp [*, errW_none, errW_some] <;> rfl), hB71⟩
end Go.Proofs.YtkplgfhkebkaaaaDoor.Z

namespace Go.Proofs.YtkplgfhkebkaaaaDoor.Z
open Go.RowKit Go.Proofs.YtkplgfhkebkaaaaDoorW.PrintWords Go.Proofs.YtkplgfhkebkaaaaDoorW.PrintLast Go.Proofs.YtkplgfhkebkaaaaDoorW.PrintMore
attribute [local go_sem] max2_int min2_int max_two min_two max_three min_three max_four min_four
set_option linter.unusedVariables false
set_option linter.unusedSimpArgs false
open Go.Proofs.YtkplgfhkebkaaaaDoor.F
open Go.Proofs.YtkplgfhkebkaaaaDoor.V
end Go.Proofs.YtkplgfhkebkaaaaDoor.Z

/- Texts of this claim, pruned to what it needs and laid together by prune.py. -/
import Derived.Test.YtkplgfhkebkaaaaDoorProg
import Derived.Below
import Derived.Deep.Draws
import Derived.Deep.AppendLies
import Derived.Maps.AppendAt
import Derived.OwnWalk
import Derived.Laws.BytesArg
import Derived.Laws.MakeOwn
import Derived.Laws.OwnMore
import Derived.Deep.OwnRows
import Derived.Tactics
import Derived.Lib.ConvBytes
import Derived.Laws.Slices
import Derived.WalkKit
import Derived.KernelRfl
import Derived.RowKit3
import Derived.Deep.LoopGhost
import Derived.Deep.QuietTactic
import Derived.BigQuiet
import Derived.WideLaws
import Derived.Deep.DeepCutAuto
import Derived.Deep.CutBlock
import Derived.Deep.RegionHeld3
import Derived.Laws.Rows
import Derived.Lib.AppendStr
import Derived.ArgAppend
import Derived.Laws.IdiomCopy
import Derived.OrdersHeld
import Derived.Laws.BitsLemmas
import Derived.RowKit
import Derived.Test.YtkplgfhkebkaaaaDoorMB25
import Derived.Test.YtkplgfhkebkaaaaDoorMB29
import Derived.Test.YtkplgfhkebkaaaaDoorMB30
import Derived.Test.YtkplgfhkebkaaaaDoorMB32
import Derived.Test.YtkplgfhkebkaaaaDoorMB1
import Derived.Test.YtkplgfhkebkaaaaDoorMB3
import Derived.Test.YtkplgfhkebkaaaaDoorMB15
import Derived.Test.YtkplgfhkebkaaaaDoorMB16
import Derived.Test.YtkplgfhkebkaaaaDoorMB4
import Derived.Test.YtkplgfhkebkaaaaDoorMB5
import Derived.Test.YtkplgfhkebkaaaaDoorMB6
import Derived.Test.YtkplgfhkebkaaaaDoorMB7
import Derived.Test.YtkplgfhkebkaaaaDoorMB8
import Derived.Test.YtkplgfhkebkaaaaDoorMB9
import Derived.Test.YtkplgfhkebkaaaaDoorMB10
import Derived.Test.YtkplgfhkebkaaaaDoorMB11
import Derived.Test.YtkplgfhkebkaaaaDoorMB17
import Derived.Test.YtkplgfhkebkaaaaDoorMB18
import Derived.Test.YtkplgfhkebkaaaaDoorMB19
import Derived.Test.YtkplgfhkebkaaaaDoorMB20
import Derived.Test.YtkplgfhkebkaaaaDoorMB21
import Derived.Test.YtkplgfhkebkaaaaDoorMB22
import Derived.Test.YtkplgfhkebkaaaaDoorMB23
import Derived.Test.YtkplgfhkebkaaaaDoorMB12
import Derived.Test.YtkplgfhkebkaaaaDoorMB13
namespace Go.Proofs.YtkplgfhkebkaaaaDoor.ZD
open Go.RowKit Go.Proofs.YtkplgfhkebkaaaaDoorW.PrintWords Go.Proofs.YtkplgfhkebkaaaaDoorW.PrintLast Go.Proofs.YtkplgfhkebkaaaaDoorW.PrintMore
attribute [local go_sem] max2_int min2_int max_two min_two max_three min_three max_four min_four
set_option linter.unusedVariables false
set_option linter.unusedSimpArgs false
open Go.Proofs.YtkplgfhkebkaaaaDoor.F
open Go.Proofs.YtkplgfhkebkaaaaDoor.FG
open Go.Proofs.YtkplgfhkebkaaaaDoor.V
open Go.Proofs.YtkplgfhkebkaaaaDoor.Z
theorem info3 : (Tryd.prog.info? 3).map (fun i => (i.zero, i.size, i.bytes)) = some (some (.int .i64 0), 1, 8) := by kernel_rfl
theorem info5 : (Tryd.prog.info? 5).map (fun i => (i.zero, i.size, i.bytes)) = some (some (.int .u8 0), 1, 1) := by kernel_rfl
noncomputable def rd_L1 (xs : List (List ByteArray)) (i : Int) : (List ByteArray) := xs.getD i.toNat ([] : List ByteArray)
noncomputable def rd_L5 (xs : List (List S47)) (i : Int) : (List S47) := xs.getD i.toNat ([] : List S47)
noncomputable def rd_L6 (xs : List (List Int)) (i : Int) : (List Int) := xs.getD i.toNat ([] : List Int)
end Go.Proofs.YtkplgfhkebkaaaaDoor.ZD

namespace Go.Proofs.YtkplgfhkebkaaaaDoor.ZD
open Go.RowKit Go.Proofs.YtkplgfhkebkaaaaDoorW.PrintWords Go.Proofs.YtkplgfhkebkaaaaDoorW.PrintLast Go.Proofs.YtkplgfhkebkaaaaDoorW.PrintMore
attribute [local go_sem] max2_int min2_int max_two min_two max_three min_three max_four min_four
set_option linter.unusedVariables false
set_option linter.unusedSimpArgs false
open Go.Proofs.YtkplgfhkebkaaaaDoor.F
open Go.Proofs.YtkplgfhkebkaaaaDoor.FG
open Go.Proofs.YtkplgfhkebkaaaaDoor.V
open Go.Proofs.YtkplgfhkebkaaaaDoor.Z
end Go.Proofs.YtkplgfhkebkaaaaDoor.ZD

namespace Go.Proofs.YtkplgfhkebkaaaaDoor.ZD
open Go.RowKit Go.Proofs.YtkplgfhkebkaaaaDoorW.PrintWords Go.Proofs.YtkplgfhkebkaaaaDoorW.PrintLast Go.Proofs.YtkplgfhkebkaaaaDoorW.PrintMore
attribute [local go_sem] max2_int min2_int max_two min_two max_three min_three max_four min_four
set_option linter.unusedVariables false
set_option linter.unusedSimpArgs false
open Go.Proofs.YtkplgfhkebkaaaaDoor.F
open Go.Proofs.YtkplgfhkebkaaaaDoor.FG
open Go.Proofs.YtkplgfhkebkaaaaDoor.V
open Go.Proofs.YtkplgfhkebkaaaaDoor.Z
theorem make0 {P : Program} {ops : Array Oper} {rest : List Oper} {o : Oper} {a : Act} {Q : Exit → Act → World → Prop} {W : World} (e : Nat) (hgd : o.guard = none) {N : Tmp} (hd : o.dst = some N) (t : TypeId) (x y : Operand) (ho : o.op = .makeSlice t x y) (m : Nat) (hx : a.eval x = .int .i64 0) (hy : a.eval y = .int .i64 (m : Int))
    (ht : P.underlying t = some (.slice e)) (hinfo : (P.info? e).map (fun i => (i.zero, i.size, i.bytes)) = some (some (.int .i64 0), 1, 8)) (hm : m ≤ 35184372088832)
    (h : ∀ v1 w1, (Kd.int .i64).R e w1 W.heap.size (fun _ => True) v1 (List.replicate (0 : Int).toNat (0 : Int)) → Below W.heap.size W w1 → W.grownBy w1 none → True → wpList P ops Q rest (a.put o.dst v1) w1) : wpList P ops Q (o :: rest) a W := by
  obtain ⟨i0, hi, hzz⟩ := Option.map_eq_some_iff.1 hinfo; simp only [Prod.mk.injEq] at hzz; obtain ⟨hz0, hz1, hz2⟩ := hzz; have hr := run_make (P := P) W t e i0 (.int .i64 0) ht hi hz0 .i64 .i64 (0 : Int) (m : Int) (by omega) (by omega)
    (by
      have h3 : ((i0.bytes * m : Nat) : Int) ≤ 281474976710656 := by rw [hz2]; omega
      rwa [Int.natCast_mul] at h3) (by omega)
  simp only [Int.toNat_natCast] at hr; rw [hz1] at hr
  have hO : (W.alloc (.cells (madeCells (Value.int .i64 0).cells (m * 1)) e)).ownsRow W.heap.size e 1 (.slice (some ⟨W.heap.size, 0, none⟩) 0 m) 0 (nums .i64 []) := by
    refine ⟨rfl, .inr ⟨W.heap.size, m, _, rfl, Nat.le_refl _, heap_alloc_new W _, Nat.zero_le _, by unfold maxLen; omega, by simp [madeCells], by simp [nums]⟩⟩
  refine Kd.event_run hgd ?_ (h _ _ (Kd.R_of_own hO fun _ _ => trivial) (below_alloc (Below.refl _ _) _) (World.grownBy_alloc W _ none) trivial)
  simp [execOp, ho, hx, hy, hr]
mutual
noncomputable def fresh_In.l0 : Nat → List Int → List Int → Int → Int → List ByteArray → ByteArray → ByteArray → List (S47) → Option (List Int)
  | 0, _, _, _, _, _, _, _, _ => none
  | k + 1, x3, x4, x19, x20, x102000, x102001, x102002, x102003 => if x20 < x19 then (if 0 ≤ x20 then (if x20 < (x3.length : Int) then (if x4.length < 17592186044416 then (fresh_In.l0 k (x3.set (x20 : Int).toNat 255) (x4 ++ [x20]) x19 (wrap64 (x20 + 1)) x102000 x102001 x102002 x102003) else (none)) else (none)) else (none)) else (fresh_In.l1 k x3 x4 x102000 x102001 x102002 x102003)
noncomputable def fresh_In.l1 : Nat → List Int → List Int → List ByteArray → ByteArray → ByteArray → List (S47) → Option (List Int)
  | 0, _, _, _, _, _, _ => none
  | k + 1, x3, x4, x102000, x102001, x102002, x102003 => if (x4.length : Int) > 0 then (if 0 < (x4.length : Int) then (if 1 ≤ (x4.length : Int) then (if 0 ≤ (rd x4 0) then (if (rd x4 0) < (x3.length : Int) then ((fresh_Out.f k x102000 x102001 x102002 x102003 (rd x4 0) (rd x3 (rd x4 0))).bind fun t117 => ((flow_Next.f x102000 x102001 x102002 x102003 (rd x4 0)).bind fun t118 => (fresh_In.l2 k x3 (x4.drop (1 : Int).toNat) t117 t118 (t118.length : Int) 0 x102000 x102001 x102002 x102003))) else (none)) else (none)) else (none)) else (none)) else (some x3)
noncomputable def fresh_In.l2 : Nat → List Int → List Int → Int → List Int → Int → Int → List ByteArray → ByteArray → ByteArray → List (S47) → Option (List Int)
  | 0, _, _, _, _, _, _, _, _, _, _ => none
  | k + 1, x3, x4, x7, x48, x49, x50, x102000, x102001, x102002, x102003 => if x50 < x49 then (if 0 ≤ x50 then (if x50 < (x48.length : Int) then (if (rd x48 x50) ≥ 0 then (if (rd x48 x50) < (x3.length : Int) then (if 0 ≤ (rd x48 x50) then (if (Go.bits .and .u8 (rd x3 (rd x48 x50)) x7) = (rd x3 (rd x48 x50)) then (fresh_In.l2 k x3 x4 x7 x48 x49 (wrap64 (x50 + 1)) x102000 x102001 x102002 x102003) else (if x4.length < 17592186044416 then (fresh_In.l2 k (x3.set ((rd x48 x50) : Int).toNat (Go.bits .and .u8 (rd x3 (rd x48 x50)) x7)) (x4 ++ [rd x48 x50]) x7 x48 x49 (wrap64 (x50 + 1)) x102000 x102001 x102002 x102003) else (none))) else (none)) else (fresh_In.l2 k x3 x4 x7 x48 x49 (wrap64 (x50 + 1)) x102000 x102001 x102002 x102003)) else (fresh_In.l2 k x3 x4 x7 x48 x49 (wrap64 (x50 + 1)) x102000 x102001 x102002 x102003)) else (none)) else (none)) else (fresh_In.l1 k x3 x4 x102000 x102001 x102002 x102003)
end
noncomputable def fresh_In.f (k : Nat) (l0_0 : List ByteArray) (a0_1 : ByteArray) (a0_2 : ByteArray) (l0_3 : List (S47)) : Option (List Int) := if 0 ≤ (wrap64 ((l0_3.length : Int) + 1)) then (if (wrap64 ((l0_3.length : Int) + 1) : Int).toNat ≤ 281474976710656 then ((some (List.replicate (wrap64 ((l0_3.length : Int) + 1) : Int).toNat 0 : List Int)).bind fun y102 => (if y102.length ≤ 35184372088832 then (fresh_In.l0 k y102 (List.replicate 0 0) (y102.length : Int) 0 l0_0 a0_1 a0_2 l0_3) else (none))) else (none)) else (none)
noncomputable def fresh_In.T12 : Bool × List (List Nat × List Nat) := (true, [([], []), ([], []), ([], []), ([], []), ([2, 3], [2, 3]), ([4], [4]), ([0, 1, 5], [0, 1, 5]), ([6, 6, 0, 1, 2, 3, 4, 5, 6], [6])])
noncomputable def fresh_In.B12 : List Nat := [0, 0, 0, 0, 12, 28, 63, 127]
theorem fresh_In.tab12 : rtab .any (opsOf Tryd.f20 12) = fresh_In.T12 := by kernel_rfl
theorem fresh_In.bits12 : waitsOk fresh_In.T12.2 fresh_In.B12 = true := by kernel_rfl
noncomputable def fresh_In.T16 : Bool × List (List Nat × List Nat) := (true, [([], []), ([0], [0]), ([1], [1]), ([2], [2]), ([2], [2]), ([4, 2], [2, 4]), ([3, 5, 2], [2, 3, 5]), ([2, 6], [2, 6]), ([7, 2], [7]), ([8], [8]), ([8], [8]), ([9, 10, 8], [8, 9, 10]), ([11, 8], [8, 11]), ([8], [8]), ([12, 13, 8], [8, 12, 13]), ([8], [8]), ([8], [8]), ([15, 16, 8], [8, 15, 16]), ([17, 8], [8, 17]), ([14, 18, 8], [8, 14, 18]), ([8, 19], [8, 19])])
noncomputable def fresh_In.B16 : List Nat := [0, 1, 3, 7, 7, 23, 63, 127, 255, 511, 511, 2047, 4095, 511, 16383, 511, 511, 98815, 229887, 524287, 1048575]
theorem fresh_In.tab16 : rtab .any (opsOf Tryd.f20 16) = fresh_In.T16 := by kernel_rfl
theorem fresh_In.bits16 : waitsOk fresh_In.T16.2 fresh_In.B16 = true := by kernel_rfl
set_option maxHeartbeats 8000000 in
set_option maxRecDepth 100000 in
theorem fresh_In.calls (k : Nat) (A0_0 : Option Addr) (c0_0 : Nat) (l0_0 : List ByteArray) (a0_1 : ByteArray) (a0_2 : ByteArray) (A0_3 : Option Addr) (c0_3 : Nat) (l0_3 : List (S47)) (r : List Int) (w : World) (hr0_0 : Kd.C Kd.string w A0_0 l0_0.length l0_0) (hc0_0 : l0_0.length ≤ c0_0) (hr0_3 : Kd.C k47 w A0_3 l0_3.length l0_3) (hc0_3 : l0_3.length ≤ c0_3) (h : fresh_In.f k l0_0 a0_1 a0_2 l0_3 = some r) :
    Calls Tryd.prog 20 #[.agg #[.slice A0_0 l0_0.length c0_0, .string a0_1, .string a0_2, .slice A0_3 l0_3.length c0_3]] w fun e w' => ∃ v0_ : Value, e = .returned (v0_) ∧ Kd.R (Kd.int .u8) 5 w' w.heap.size (fun _ => True) v0_ r ∧ Below w.heap.size w w' := by
  have hu25 := Tryd.underlying25; have HR0_0 := Aside0.mk hr0_0; have HC0_0 := Aside0.mk hc0_0; clear hr0_0 hc0_0; have HR0_3 := Aside0.mk hr0_3; have HC0_3 := Aside0.mk hc0_3; clear hr0_3 hc0_3; have HB := Aside0.mk (Below.refl w.heap.size w); have H : (if 0 ≤ (wrap64 ((l0_3.length : Int) + 1)) then (if (wrap64 ((l0_3.length : Int) + 1) : Int).toNat ≤ 281474976710656 then ((some (List.replicate (wrap64 ((l0_3.length : Int) + 1) : Int).toNat 0 : List Int)).bind fun y102 => (if y102.length ≤ 35184372088832 then (fresh_In.l0 k y102 (List.replicate 0 0) (y102.length : Int) 0 l0_0 a0_1 a0_2 l0_3) else (none))) else (none)) else (none)) = some r := h; clear h; obtain ⟨ji2, hji2⟩ : ∃ j_ : Int, (wrap64 ((l0_3.length : Int) + 1)) = j_ := ⟨_, rfl⟩
  replace H : (if 0 ≤ (ji2) then (if (ji2 : Int).toNat ≤ 281474976710656 then ((some (List.replicate (ji2 : Int).toNat 0 : List Int)).bind fun y102 => (if y102.length ≤ 35184372088832 then (fresh_In.l0 k y102 (List.replicate 0 0) (y102.length : Int) 0 l0_0 a0_1 a0_2 l0_3) else (none))) else (none)) else (none)) = some r := by first | (rw [hji2] at H; exact H) | (simp only [hji2] at H ⊢; exact H)
  have hji2w : (IntKind.i64.wrap ((l0_3.length : Int) + 1)) = ji2 := (i64_w _).trans hji2; by_cases c3 : 0 ≤ (ji2)
  rotate_left
  · rw [if_neg c3] at H; exact absurd H (by simp)
  rw [if_pos c3] at H; have c3b0 := eq_true c3; have c3b1 : decide (0 ≤ (ji2)) = true := decide_eq_true c3; clear c3; by_cases c4 : (ji2 : Int).toNat ≤ 281474976710656
  rotate_left
  · rw [if_neg c4] at H; exact absurd H (by simp)
  rw [if_pos c4] at H; have c4b0 := eq_true c4; have c4b1 : decide ((ji2 : Int).toNat ≤ 281474976710656) = true := decide_eq_true c4; clear c4; obtain ⟨y102, hy102⟩ : ∃ y_ : List Int, y_ = (List.replicate (ji2 : Int).toNat 0) := ⟨_, rfl⟩
  replace H : (if y102.length ≤ 35184372088832 then (fresh_In.l0 k y102 (List.replicate 0 0) (y102.length : Int) 0 l0_0 a0_1 a0_2 l0_3) else (none)) = some r := by first | (rw [hy102]; with_reducible exact H) | (have H2_ := (Option.bind_some _ _).symm.trans H; rw [hy102]; with_reducible exact H2_) | (have H2_ := (Option.bind_some _ _).symm.trans H; with_reducible exact H2_) | with_reducible exact H | (rw [hy102]; exact H) | exact H
  have Ny102 := Aside0.mk hy102; clear hy102; by_cases c5 : y102.length ≤ 35184372088832
  rotate_left
  · rw [if_neg c5] at H; exact absurd H (by simp)
  rw [if_pos c5] at H; have c5b0 := eq_true c5; have c5b1 : decide (y102.length ≤ 35184372088832) = true := decide_eq_true c5; clear c5; obtain ⟨y105, hy105⟩ : ∃ y_ : List Int, y_ = (List.replicate 0 0) := ⟨_, rfl⟩
  replace H : (fresh_In.l0 k y102 y105 (y102.length : Int) 0 l0_0 a0_1 a0_2 l0_3) = some r := by first | (rw [hy105]; with_reducible exact H) | (have H2_ := (Option.bind_some _ _).symm.trans H; rw [hy105]; with_reducible exact H2_) | (have H2_ := (Option.bind_some _ _).symm.trans H; with_reducible exact H2_) | with_reducible exact H | (rw [hy105]; exact H) | exact H
  have Ny105 := Aside0.mk hy105; clear hy105; have H' := Aside0.mk H; clear H
  go_enter Tryd.func20, Tryd.ntmps20
  go_wp2_with (first | ((with_reducible refine gate_dst (N := 1) rfl ?_); (try (refine gate_guard (by rfl) ?_; dsimp only)); refine box_event ?hg (N := 1) ?hd (cs := #[.slice A0_0 l0_0.length c0_0, .string a0_1, .string a0_2, .slice A0_3 l0_3.length c0_3]) (t := 25) ?hr ?_; (case hd => rfl); (case hg => rfl); (case hr => first | (go_simp; done) | (go_simp; rfl)); intro gb101 hg w6 hbox hb; have n0_ := Aside0.mk (below_step hB97 hb); have n1_ := Aside0.mk (hbox); have n2_ := Aside0.mk ((by rw [hg]; exact (below_size hB97) : w.heap.size ≤ gb101)); have n3_ := Aside0.mk ((by rw [hg]; exact (below_size hB97) : w.heap.size ≤ gb101)); clear HB; have HB := n0_; have BK101 := n1_; have GW101 := n2_; have GE101 := n3_; clear n0_ n1_ n2_ n3_; clear hb hbox hg; have hcz7_0 : w6.cell? ⟨gb101, 0, none⟩ = some (.slice A0_0 l0_0.length c0_0) := (blk_cell BK101.out 0).trans rfl; have hcz7_1 : w6.cell? ⟨gb101, 1, none⟩ = some (.string a0_1) := (blk_cell BK101.out 1).trans rfl; have hcz7_2 : w6.cell? ⟨gb101, 2, none⟩ = some (.string a0_2) := (blk_cell BK101.out 2).trans rfl; have hcz7_3 : w6.cell? ⟨gb101, 3, none⟩ = some (.slice A0_3 l0_3.length c0_3) := (blk_cell BK101.out 3).trans rfl; have hfz7_0 := blk_frozen BK101.out 0; have hfz7_1 := blk_frozen BK101.out 1; have hfz7_2 := blk_frozen BK101.out 2; have hfz7_3 := blk_frozen BK101.out 3) | ((with_reducible refine gate_dst (N := 14) rfl ?_); (try (refine gate_guard (by rfl) ?_; dsimp only)); refine Kd.R_make (Kd.int .u8) _ 5 rfl (N := 14) rfl 42 _ _ rfl ji2 rfl rfl Tryd.underlying42 (.int .u8 0) 1 info5 rfl (by decide) (by omega) 0 (ok := fun _ => True) (okp := fun _ => True) rfl (fun _ hk => hk) trivial (of_decide_eq_true hB63) (Nat.le_trans (Nat.mul_le_mul_right _ (of_decide_eq_true hB63 : ji2.toNat ≤ 281474976710656)) (by omega)) (Below.refl _ _) (Nat.le_refl _) ?_; intro v103 w8 ho9 hb hg_ hnew_; clear hg_ hnew_; (first | rw [← Ny102.out] at ho9 | (simp only [Int.reduceToNat] at ho9; rw [← Ny102.out] at ho9)); have n0_ := Aside0.mk (Kd.R_lower ho9 (below_size hB72)); have n1_ := Aside0.mk (blk_below (g := gb101) (o := .cells #[.slice A0_0 l0_0.length c0_0, .string a0_1, .string a0_2, .slice A0_3 l0_3.length c0_3] 25 (0, 0)) hB40 hb); have n2_ := Aside0.mk (below_step hB72 hb); clear BK101; clear HB; have HO104 := n0_; have BK101 := n1_; have HB := n2_; clear n0_ n1_ n2_; clear hb ho9; obtain ⟨Ao10, co10, eo10⟩ := Kd.R_slice HO104.out; subst eo10) | ((with_reducible refine gate_dst (N := 17) rfl ?_); (try (refine gate_guard (by rfl) ?_; dsimp only)); refine make0 3 rfl (N := 17) rfl 39 _ _ rfl y102.length rfl rfl Tryd.underlying39 info3 (of_decide_eq_true hB63) ?_; intro v106 w11 ho12 hb hg_ hnew_; clear hg_ hnew_; (first | rw [← Ny105.out] at ho12 | (simp only [Int.reduceToNat] at ho12; rw [← Ny105.out] at ho12)); have n0_ := Aside0.mk (Kd.R_below hB33 hb); have n1_ := Aside0.mk (Kd.R_lower ho12 (below_size hB72)); have n2_ := Aside0.mk (blk_below (g := gb101) (o := .cells #[.slice A0_0 l0_0.length c0_0, .string a0_1, .string a0_2, .slice A0_3 l0_3.length c0_3] 25 (0, 0)) hB40 hb); have n3_ := Aside0.mk (below_step hB72 hb); clear HO104; clear BK101; clear HB; have HO104 := n0_; have HO107 := n1_; have BK101 := n2_; have HB := n3_; clear n0_ n1_ n2_ n3_; clear hb ho12))
  generalize hn1 : y102.length = nn_1 at *
  go_loopg [4, 20] k (fun kq v4 v20 w' => ∃ (x3_1 : List Int) (x4_1 : List Int) (x20_1 : Int), v20 = .int .i64 x20_1 ∧ Aside0 (fresh_In.l0 kq x3_1 x4_1 (nn_1 : Int) x20_1 l0_0 a0_1 a0_2 l0_3 = some r) ∧ Aside0 (kq ≤ k) ∧ Aside0 (Kd.R (Kd.int .u8) 5 w' w.heap.size (fun _ => True) (.slice Ao10 nn_1 co10) x3_1) ∧ Aside0 (Kd.Q (Kd.int .i64) 3 w' w.heap.size (fun _ => True) v4 x4_1) ∧ Aside0 (w'.heap[gb101]? = some (.cells #[(.slice A0_0 l0_0.length c0_0), .string a0_1, .string a0_2, (.slice A0_3 l0_3.length c0_3)] 25 (0, 0))) ∧ Aside0 (Below w.heap.size w w'))
  case atStart => exact ⟨(y102), (y105), (0), hB64, H', ⟨Nat.le_refl _⟩, ⟨hB33⟩, ⟨Kd.Q_of_R (by (with_reducible repeat (first | apply Kd.R_alloc | apply Kd.R_drewN | apply Kd.R_drew)); exact HO107.out)⟩, ⟨hB40⟩, ⟨hB72⟩⟩
  case round =>
    clear H'; (try clear c2); (try clear p2); (try clear c3); (try clear c3b0); (try clear c3b1); (try clear c4); (try clear c4b0); (try clear c4b1); (try clear c5); (try clear c5b0); (try clear c5b1); (try clear p6); (try clear hcz7_0); (try clear hcz7_1); (try clear hcz7_2); (try clear hcz7_3); (try clear hfz7_0); (try clear hfz7_1); (try clear hfz7_2); (try clear hfz7_3); obtain ⟨x3_1, x4_1, x20_1, rfl, HA, HK1, HO_3, HO_4, BK101, HB⟩ := hrel; have hl3_1 := (Kd.R_reads' HO_3.out).1; subst hl3_1
    cases gk with
    | zero => exact absurd HA.out (by simp [fresh_In.l0])
    | succ k1 =>
      have H := HA.out; clear HA; simp only [fresh_In.l0] at H; by_cases c13 : x20_1 < (x3_1.length : Int)
      · rw [if_pos c13] at H; have c13b0 : decide (x20_1 < (x3_1.length : Int)) = true := decide_eq_true c13; clear c13; by_cases c14 : 0 ≤ x20_1
        rotate_left
        · rw [if_neg c14] at H; exact absurd H (by simp)
        rw [if_pos c14] at H; have c14b0 : decide (0 ≤ x20_1) = true := decide_eq_true c14; clear c14; by_cases c15 : x20_1 < (x3_1.length : Int)
        rotate_left
        · rw [if_neg c15] at H; exact absurd H (by simp)
        rw [if_pos c15] at H; have c15b0 : decide (x20_1 < (x3_1.length : Int)) = true := decide_eq_true c15; clear c15; obtain ⟨y108, hy108⟩ : ∃ y_ : List Int, y_ = (x3_1.set (x20_1 : Int).toNat 255) := ⟨_, rfl⟩
        replace H : (if x4_1.length < 17592186044416 then (fresh_In.l0 k1 y108 (x4_1 ++ [x20_1]) (x3_1.length : Int) (wrap64 (x20_1 + 1)) l0_0 a0_1 a0_2 l0_3) else (none)) = some r := by first | (rw [hy108]; with_reducible exact H) | (have H2_ := (Option.bind_some _ _).symm.trans H; rw [hy108]; with_reducible exact H2_) | (have H2_ := (Option.bind_some _ _).symm.trans H; with_reducible exact H2_) | with_reducible exact H | (rw [hy108]; exact H) | exact H
        have Ny108 := Aside0.mk hy108; clear hy108; by_cases c17 : x4_1.length < 17592186044416
        rotate_left
        · rw [if_neg c17] at H; exact absurd H (by simp)
        rw [if_pos c17] at H; have LMc17 := Aside0.mk c17; clear c17; obtain ⟨y109, hy109⟩ : ∃ y_ : List Int, y_ = (x4_1 ++ [x20_1]) := ⟨_, rfl⟩
        replace H : (fresh_In.l0 k1 y108 y109 (x3_1.length : Int) (wrap64 (x20_1 + 1)) l0_0 a0_1 a0_2 l0_3) = some r := by first | (rw [hy109]; with_reducible exact H) | (have H2_ := (Option.bind_some _ _).symm.trans H; rw [hy109]; with_reducible exact H2_) | (have H2_ := (Option.bind_some _ _).symm.trans H; with_reducible exact H2_) | with_reducible exact H | (rw [hy109]; exact H) | exact H
        have Ny109 := Aside0.mk hy109; clear hy109; have H' := Aside0.mk H; clear H; have p16 : 0 ≤ (x20_1 : Int) := of_decide_eq_true hB63; have q16 : (x20_1 : Int) < ((x3_1.length : Int) : Int) := of_decide_eq_true hB63; obtain ⟨go16, co16, eo16, gb16, gl16, cl16, HG16⟩ := Kd.R_form HO_3.out (by omega)
        (first | cases eo16 | (injection eo16 with ea_ en_ ec_; (first | subst ea_ | (injection ea_ with ea_; subst ea_)); subst ec_; clear en_))
        have GB16 := Aside0.mk gb16; have GG16 := Aside0.mk HG16; clear gb16 gl16 HG16; obtain ⟨hx16_0, hf16_0⟩ := Kd.R_celln 0 HO_3.out (x20_1 : Int) p16 q16; replace p16 := eq_true p16; replace q16 := eq_true q16; have HP18 := Kd.R_putg HO_3.out (x20_1 : Int) 255
        go_wp2_with (first | ((with_reducible refine gate_store (t := 5) (p := 25) rfl ?_); refine store_event (t := 5) (p := 25) (v := ?vo_w19) (w1 := (wr.setCell ⟨go16, (x20_1 : Int).toNat, none⟩ (.int .u8 255))) ?hg ?ho ?hn ?hr ?_; (case ho => rfl); (case hg => rfl); (case hn => rfl); (case hr => first | (go_simp; done) | (go_simp; rfl)); intro w19 hw; have hg : wr.grownBy w19 (some go16) := (by rw [hw]; exact HP18.2); have hp_ : Kd.R (Kd.int .u8) 5 w19 w.heap.size (fun _ => True) (.slice (some ⟨go16, 0, none⟩) x3_1.length co10) y108 := (by rw [hw, Ny108.out]; exact HP18.1); clear HP18; have n0_ := Aside0.mk (hp_); have n1_ := Aside0.mk (Kd.Q_over' (v := (.slice (some ⟨go16, 0, none⟩) x3_1.length co10)) hB9 (Kd.R_typed HO_3.out) (by decide) hg); have n2_ := Aside0.mk (blk_grown (g := gb101) (o := .cells #[.slice A0_0 l0_0.length c0_0, .string a0_1, .string a0_2, .slice A0_3 l0_3.length c0_3] 25 (0, 0)) hB40 hg (Kd.R_ne HO_3.out BK101.out (by decide))); have n3_ := Aside0.mk ((by rw [hw]; exact below_set (HB.out) GB16.out : Below w.heap.size w w19)); clear HO_3; clear HO_4; clear BK101; clear HB; have HO_3 := n0_; have HO_4 := n1_; have BK101 := n2_; have HB := n3_; clear n0_ n1_ n2_ n3_; clear hg hw hp_) | ((with_reducible refine gate_builtin (b := .append) (xs := #[.tmp 26, .tmp 28]) rfl ?_); (try (refine gate_guard (by rfl) ?_; dsimp only)); at_builtin; refine Kd.Q_append (Kd.int .i64) (w0 := w) w.heap.size rfl (.tmp 26) (.tmp 28) 39 3 (.int .i64 0) 8 rfl Tryd.underlying39 info3 rfl (by decide) (by omega) u4 x4_1 x20_1 [.int .i64 x20_1] (fun _ => True) (fun _ => False) rfl rfl ?aP (fun _ hk => hk.elim) ?aF ?aO ?aB ?aS ?aL ?_; (case aP => exact rfl); (case aB => exact hB72); (case aF => exact (fun _ _ => trivial)); (case aO => exact hB9); (case aS => exact (below_size hB72)); (case aL => have := LMc17.out; omega); intro v110 w20 ho hb hg hat; rw [← Ny109.out] at ho; have n0_ := Aside0.mk (Kd.R_over' hB38 (Kd.Q_typed hB9) (by decide) hg); have n1_ := Aside0.mk (blk_grown (g := gb101) (o := .cells #[.slice A0_0 l0_0.length c0_0, .string a0_1, .string a0_2, .slice A0_3 l0_3.length c0_3] 25 (0, 0)) hB40 hg (Kd.Q_ne HO_4.out BK101.out (by decide))); have n2_ := Aside0.mk (hb); have n3_ := Aside0.mk (ho); clear HO_3; clear BK101; clear HB; clear HO_4; have HO_3 := n0_; have BK101 := n1_; have HB := n2_; have HO111 := n3_; clear n0_ n1_ n2_ n3_; clear ho hb hg hat))
        go_roundg k1
        case measure => have := HK1.out; omega
        case rel => exact ⟨(y108), (y109), (wrap64 (x20_1 + 1)), hB64, H', ⟨by have := HK1.out; omega⟩, ⟨hB6⟩, ⟨by (try simp only [hl3_1]); (with_reducible repeat (first | apply Kd.Q_alloc | apply Kd.Q_drewN | apply Kd.Q_drew)); exact HO111.out⟩, ⟨hB7⟩, ⟨hB72⟩⟩
      rw [if_neg c13] at H; have c13b0 : decide (x20_1 < (x3_1.length : Int)) = false := decide_eq_false c13; clear c13; have H' := Aside0.mk H; clear H; go_wp2; generalize hn2 : x3_1.length = nn_2 at *
      go_loopg [4] k1 (fun kq v4 w' => ∃ (x3_2 : List Int) (x4_2 : List Int), Aside0 (fresh_In.l1 kq x3_2 x4_2 l0_0 a0_1 a0_2 l0_3 = some r) ∧ Aside0 (kq ≤ k1) ∧ Aside0 (Kd.R (Kd.int .u8) 5 w' w.heap.size (fun _ => True) (.slice Ao10 nn_2 co10) x3_2) ∧ Aside0 (Kd.Q (Kd.int .i64) 3 w' w.heap.size (fun _ => True) v4 x4_2) ∧ Aside0 (w'.heap[gb101]? = some (.cells #[(.slice A0_0 l0_0.length c0_0), .string a0_1, .string a0_2, (.slice A0_3 l0_3.length c0_3)] 25 (0, 0))) ∧ Aside0 (Below w.heap.size w w'))
      case atStart => exact ⟨(x3_1), (x4_1), H', ⟨Nat.le_refl _⟩, ⟨hB6⟩, ⟨by (try simp only [hl3_1]); (with_reducible repeat (first | apply Kd.Q_alloc | apply Kd.Q_drewN | apply Kd.Q_drew)); exact HO_4.out⟩, ⟨hB7⟩, ⟨hB72⟩⟩
      case round =>
        clear H'; (try clear c1); (try clear p1); (try clear q1); (try clear hx1); (try clear hf1); (try clear c2); (try clear p2); (try clear c3); (try clear c3b0); (try clear c3b1); (try clear c4); (try clear c4b0); (try clear c4b1); (try clear c5); (try clear c5b0); (try clear c5b1); (try clear p6); (try clear c13); (try clear c13b0); (try clear c14); (try clear c14b0); (try clear c15); (try clear c15b0); (try clear p16); (try clear q16); (try clear hx16); (try clear hf16); (try clear c17); (try clear c20); (try clear hcz7_0); (try clear hcz7_1); (try clear hcz7_2); (try clear hcz7_3); (try clear hfz7_0); (try clear hfz7_1); (try clear hfz7_2); (try clear hfz7_3); (try clear hx16_0); (try clear p16); (try clear p2); (try clear p6); (try clear q16); obtain ⟨x3_2, x4_2, HA, HK2, HO_3, HO_4, BK101, HB⟩ := hrel; have hl3_2 := (Kd.R_reads' HO_3.out).1; subst hl3_2
        cases gk with
        | zero => exact absurd HA.out (by simp [fresh_In.l1])
        | succ k2 =>
          have H := HA.out; clear HA; simp only [fresh_In.l1] at H; by_cases c21 : (x4_2.length : Int) > 0
          rotate_left
          · rw [if_neg c21] at H; have c21b0 : decide (0 < (x4_2.length : Int)) = false := decide_eq_false c21; have c21b1 : decide (0 < x4_2.length) = false := decide_eq_false (by omega); clear c21; obtain rfl := Option.some.inj H; obtain ⟨Ao51, co51, eo51, _⟩ := Kd.Q_slice HO_4.out; subst eo51; go_wp2; go_ret; exact ⟨_, by first | rfl | (simp [errW_none, errW_some] <;> rfl) | (simp only [← hji2]; first | rfl | (simp [errW_none, errW_some] <;> rfl)) | (simp [*, errW_none, errW_some] <;> rfl), by (with_reducible repeat (first | apply Kd.R_alloc | apply Kd.R_drewN | apply Kd.R_drew)); exact HO_3.out, hB72⟩
          rw [if_pos c21] at H; have c21b0 : decide (0 < (x4_2.length : Int)) = true := decide_eq_true c21; have c21b1 : decide (0 < x4_2.length) = true := decide_eq_true (by omega); clear c21; by_cases c22 : 0 < (x4_2.length : Int)
          rotate_left
          · rw [if_neg c22] at H; exact absurd H (by simp)
          rw [if_pos c22] at H; have c22b0 : decide (0 < (x4_2.length : Int)) = true := decide_eq_true c22; have c22b1 : decide (0 < x4_2.length) = true := decide_eq_true (by omega); clear c22; by_cases c23 : 1 ≤ (x4_2.length : Int)
          rotate_left
          · rw [if_neg c23] at H; exact absurd H (by simp)
          rw [if_pos c23] at H; have c23b0 := eq_true c23; have c23b1 : decide (1 ≤ (x4_2.length : Int)) = true := decide_eq_true c23; clear c23; obtain ⟨y113, hy113⟩ : ∃ y_ : List Int, y_ = (x4_2.drop (1 : Int).toNat) := ⟨_, rfl⟩
          replace H : (if 0 ≤ (rd x4_2 0) then (if (rd x4_2 0) < (x3_2.length : Int) then ((fresh_Out.f k2 l0_0 a0_1 a0_2 l0_3 (rd x4_2 0) (rd x3_2 (rd x4_2 0))).bind fun t117 => ((flow_Next.f l0_0 a0_1 a0_2 l0_3 (rd x4_2 0)).bind fun t118 => (fresh_In.l2 k2 x3_2 y113 t117 t118 (t118.length : Int) 0 l0_0 a0_1 a0_2 l0_3))) else (none)) else (none)) = some r := by first | (rw [hy113]; with_reducible exact H) | (have H2_ := (Option.bind_some _ _).symm.trans H; rw [hy113]; with_reducible exact H2_) | (have H2_ := (Option.bind_some _ _).symm.trans H; with_reducible exact H2_) | with_reducible exact H | (rw [hy113]; exact H) | exact H
          have Ny113 := Aside0.mk hy113; clear hy113; by_cases c24 : 0 ≤ (rd x4_2 0)
          rotate_left
          · rw [if_neg c24] at H; exact absurd H (by simp)
          rw [if_pos c24] at H; have c24b0 : decide (0 ≤ (rd x4_2 0)) = true := decide_eq_true c24; clear c24; by_cases c25 : (rd x4_2 0) < (x3_2.length : Int)
          rotate_left
          · rw [if_neg c25] at H; exact absurd H (by simp)
          rw [if_pos c25] at H; have c25b0 : decide ((rd x4_2 0) < (x3_2.length : Int)) = true := decide_eq_true c25; clear c25; replace H := Option.bind_eq_some_iff.mp H; obtain ⟨t117, A260, H⟩ := H; replace H : ((flow_Next.f l0_0 a0_1 a0_2 l0_3 (rd x4_2 0)).bind fun t118 => (fresh_In.l2 k2 x3_2 y113 t117 t118 (t118.length : Int) 0 l0_0 a0_1 a0_2 l0_3)) = some r := H; have A26 := Aside0.mk A260; clear A260; replace H := Option.bind_eq_some_iff.mp H; obtain ⟨t118, A270, H⟩ := H; replace H : (fresh_In.l2 k2 x3_2 y113 t117 t118 (t118.length : Int) 0 l0_0 a0_1 a0_2 l0_3) = some r := H; have A27 := Aside0.mk A270; clear A270; have H' := Aside0.mk H; clear H; obtain ⟨Ao28, co28, eo28, _⟩ := Kd.Q_slice HO_4.out; subst eo28; have p112 : 0 ≤ (0 : Int) := (by omega); have q112 : 0 < (x4_2.length : Int) := of_decide_eq_true hB63; obtain ⟨ad112, e112, hx112_0⟩ := Kd.at_int (Kd.Q_reads' HO_4.out).2.2 0 p112 q112
          cases e112
          have qi112 : (0 < x4_2.length) = True := eq_true (by omega)
          (try rw [show ((0 : Int)).toNat = 0 from rfl] at hx112_0)
          (try rw [Addr.add_zero'] at hx112_0)
          replace p112 := eq_true p112; replace q112 := eq_true q112; have q29 : (1 : Int) ≤ ((x4_2.length : Int) : Int) := of_decide_eq_true hB63; obtain ⟨i029, hi029, _, hsz29, _⟩ := info_parts info3; have hcut29 := cut_from (P := Tryd.prog) 39 3 .i64 Tryd.underlying39 hi029 1 hsz29 (some ad112) x4_2.length co28 1 (by omega) q29; have hr29 := Kd.Q_drop (k := (1 : Int).toNat) HO_4.out (by omega); obtain ⟨A29, hA29⟩ : ∃ A1, A1 = (if co28 = (1 : Int).toNat then (some ad112) else ((some ad112) : Option Addr).map (·.add ((1 : Int).toNat * 1))) := ⟨_, rfl⟩; obtain ⟨c29, hc29⟩ : ∃ c1, c1 = co28 - (1 : Int).toNat := ⟨_, rfl⟩; have hy29 : y113.length = x4_2.length - (1 : Int).toNat := (by rw [Ny113.out, List.length_drop]); rw [← Ny113.out] at hr29; rw [← hy29, ← hA29, ← hc29] at hcut29; replace hr29 : Kd.Q (Kd.int .i64) 3 wr w.heap.size (fun _ => True) (.slice A29 y113.length c29) y113 := (by rw [hA29, hc29, hy29]; exact hr29); have HE29 : Aside0 ((Value.slice A29 y113.length c29).ownBlock = (.slice (some ad112) x4_2.length co28 : Value).ownBlock) := ⟨by rw [hA29]; split <;> (cases ((some ad112) : Option Addr) <;> rfl)⟩; clear hy29 hi029 hsz29 HO_4 hA29 hc29; have HO115 := Aside0.mk hr29; clear hr29; replace q29 := eq_true q29; try go_wp2
          have n0_ := Aside0.mk (Kd.R_drew HO_3.out); have n1_ := Aside0.mk (Kd.Q_drew HO115.out); have n2_ := Aside0.mk (blk_drew BK101.out); have n3_ := Aside0.mk (below_drew1 HB.out); clear HO_3; clear HO115; clear BK101; clear HB; have HO_3 := n0_; have HO115 := n1_; have BK101 := n2_; have HB := n3_; clear n0_ n1_ n2_ n3_; have p116 : 0 ≤ ((rd x4_2 0) : Int) := of_decide_eq_true hB63; have q116 : (rd x4_2 0) < (x3_2.length : Int) := of_decide_eq_true hB63; obtain ⟨ad116, e116, hx116_0⟩ := Kd.at_int (Kd.R_reads' HO_3.out).2.2 (rd x4_2 0) p116 q116
          cases e116
          replace p116 := eq_true p116; replace q116 := eq_true q116; refine start_ (n := 8) (S := fun w' => w'.cell? ⟨gb101, 0, none⟩ = some (.slice A0_0 l0_0.length c0_0) ∧ w'.cell? ⟨gb101, 1, none⟩ = some (.string a0_1) ∧ w'.cell? ⟨gb101, 2, none⟩ = some (.string a0_2) ∧ w'.cell? ⟨gb101, 3, none⟩ = some (.slice A0_3 l0_3.length c0_3) ∧ w'.cell? (ad116.add ((rd x4_2 0)).toNat) = some (.int .u8 (rd x3_2 (rd x4_2 0)))) (ds := []) #[false, false, false, false, false, false, false, false] (by kernel_rfl) rfl rfl ⟨(blk_cell BK101.out 0).trans rfl, (blk_cell BK101.out 1).trans rfl, (blk_cell BK101.out 2).trans rfl, (blk_cell BK101.out 3).trans rfl, hx116_0⟩ (fun hHeld => ?_); refine with_tabW fresh_In.tab12 fresh_In.bits12 (fun HT_ HW_ => ?_); generalize wr.drew = w30 at HO_3 HO115 BK101 HB hx116_0 hHeld ⊢; refine pure_ (i := 1) (N := some 40) (v := ?_) (a' := ?_) (mk_ 8 2) rfl rfl (any_of HT_.out (by kernel_rfl)) (fun _ _ _ h => h) (Or.inl ⟨by rfl, ?_⟩) ?_ ?_; rotate_left
          · intro w'; go_simp; with_reducible rfl
          rotate_left
          · simp only [Act.put, List.setIfInBounds_toArray, List.set_cons_zero, List.set_cons_succ, i64_w, i32_w]; rfl
          refine pure_ (i := 2) (N := some 41) (v := ?_) (a' := ?_) (mk_ 8 6) rfl rfl (any_of HT_.out (by kernel_rfl)) (fun _ _ _ h => h) (Or.inl ⟨by rfl, ?_⟩) ?_ ?_; rotate_left
          · intro w'; go_simp; with_reducible rfl
          rotate_left
          · simp only [Act.put, List.setIfInBounds_toArray, List.set_cons_zero, List.set_cons_succ, i64_w, i32_w]; rfl
          refine pure_ (i := 3) (N := some 42) (v := ?_) (a' := ?_) (mk_ 8 14) rfl rfl (any_of HT_.out (by kernel_rfl)) (fun _ _ _ h => h) (Or.inl ⟨by rfl, ?_⟩) ?_ ?_; rotate_left
          · intro w'; go_simp; with_reducible rfl
          rotate_left
          · simp only [Act.put, List.setIfInBounds_toArray, List.set_cons_zero, List.set_cons_succ, i64_w, i32_w]; rfl
          refine pure_ (i := 4) (N := some 43) (v := ?_) (a' := ?_) (mk_ 8 30) rfl rfl (any_of HT_.out (by kernel_rfl)) (fun _ _ _ h => h) (Or.inl ⟨by rfl, ?_⟩) ?_ ?_; rotate_left
          · intro w'; go_simp; with_reducible rfl
          rotate_left
          · simp only [Act.put, List.setIfInBounds_toArray, List.set_cons_zero, List.set_cons_succ, i64_w, i32_w]; rfl
          refine take_ (i := 0) (N := some 39) (v := ?_) (a' := ?_) (mk_ 8 31) rfl rfl (take_ofW HT_.out HW_.out (by kernel_rfl)) (fun _ _ _ h => h) (Or.inl ⟨by rfl, ?_⟩) hHeld ?_ ?_; rotate_left
          · rintro w' ⟨s0, s1, s2, s3, s4⟩; go_simp; with_reducible rfl
          rotate_left
          · simp only [Act.put, List.setIfInBounds_toArray, List.set_cons_zero, List.set_cons_succ, i64_w, i32_w]; rfl
          refine take_ (i := 5) (N := some 44) (v := ?_) (a' := ?_) (mk_ 8 63) rfl rfl (take_ofW HT_.out HW_.out (by kernel_rfl)) (fun _ _ _ h => h) (Or.inl ⟨by rfl, ?_⟩) hHeld ?_ ?_; rotate_left
          · rintro w' ⟨s0, s1, s2, s3, s4⟩; go_simp; with_reducible rfl
          rotate_left
          · simp only [Act.put, List.setIfInBounds_toArray, List.set_cons_zero, List.set_cons_succ, i64_w, i32_w]; rfl
          refine one_ (i := 6) (N := some 45) (mk_ 8 127) rfl rfl (one_of HT_.out (by kernel_rfl)) (by decide) (fun K hK => ?_); refine goes_ Tryd.func33 (by kernel_rfl) rfl #[.agg #[.slice A0_0 l0_0.length c0_0, .string a0_1, .string a0_2, .slice A0_3 l0_3.length c0_3], .int .i64 (rd x4_2 0), .int .u8 (rd x3_2 (rd x4_2 0))] (by rfl) rfl rfl hB1 ?_; with_reducible refine (fresh_Out.calls k2 _ _ l0_0 a0_1 a0_2 _ _ l0_3 (rd x4_2 0) (rd x3_2 (rd x4_2 0)) t117 _ ?side1 ?side2 ?side3 ?side4 A26.out).mono ?_
          (case side1 => repeat (first | exact (Kd.C_below HR0_0.out HB.out) | (with_reducible refine Kd.C_alloc ?_ _) | (with_reducible refine Kd.C_drewN ?_ _) | (with_reducible refine Kd.C_drew ?_)))
          (case side2 => exact HC0_0.out)
          (case side3 => repeat (first | exact (Kd.C_below HR0_3.out HB.out) | (with_reducible refine Kd.C_alloc ?_ _) | (with_reducible refine Kd.C_drewN ?_ _) | (with_reducible refine Kd.C_drew ?_)))
          (case side4 => exact HC0_3.out)
          rintro e w31 ⟨rfl, hb⟩; have HS4_ := (hb.cell (World.block_lt_of_cell? _ _ (hHeld.2.2.2.2))).trans (hHeld.2.2.2.2); refine ⟨_, rfl, ?_⟩; have n0_ := Aside0.mk (Kd.R_below hB38 hb); have n1_ := Aside0.mk (Kd.Q_below hB8 hb); have n2_ := Aside0.mk (blk_below (g := gb101) (o := .cells #[.slice A0_0 l0_0.length c0_0, .string a0_1, .string a0_2, .slice A0_3 l0_3.length c0_3] 25 (0, 0)) hB40 hb); have n3_ := Aside0.mk (below_step hB72 hb); clear HO_3; clear HO115; clear BK101; clear HB; have HO_3 := n0_; have HO115 := n1_; have BK101 := n2_; have HB := n3_; clear n0_ n1_ n2_ n3_; (try clear hb); (try clear hb2); (try clear hk); (try clear hi); refine hK.out _ _ ⟨(blk_cell BK101.out 0).trans rfl, (blk_cell BK101.out 1).trans rfl, (blk_cell BK101.out 2).trans rfl, (blk_cell BK101.out 3).trans rfl, HS4_⟩ (fun hHeld => ?_); clear hK K; refine norm_ (a' := ?_) ?_ ?_; rotate_left
          · show Act.put _ (some 45) _ = _
            simp only [Act.put, List.setIfInBounds_toArray, List.set_cons_zero, List.set_cons_succ, i64_w, i32_w]; rfl
          refine pure_ (i := 7) (N := some 7) (v := ?_) (a' := ?_) (mk_ 8 255) rfl rfl (any_of HT_.out (by kernel_rfl)) (fun _ _ _ h => h) (Or.inl ⟨by rfl, ?_⟩) ?_ ?_; rotate_left
          · intro w'; go_simp; with_reducible rfl
          rotate_left
          · simp only [Act.put, List.setIfInBounds_toArray, List.set_cons_zero, List.set_cons_succ, i64_w, i32_w]; rfl
          refine done_ (done_of HT_.out (by kernel_rfl)) ?_; have hcz32_0 : w31.cell? ⟨gb101, 0, none⟩ = some (.slice A0_0 l0_0.length c0_0) := (blk_cell BK101.out 0).trans rfl; have hcz32_1 : w31.cell? ⟨gb101, 1, none⟩ = some (.string a0_1) := (blk_cell BK101.out 1).trans rfl; have hcz32_2 : w31.cell? ⟨gb101, 2, none⟩ = some (.string a0_2) := (blk_cell BK101.out 2).trans rfl; have hcz32_3 : w31.cell? ⟨gb101, 3, none⟩ = some (.slice A0_3 l0_3.length c0_3) := (blk_cell BK101.out 3).trans rfl; have hfz32_0 := blk_frozen BK101.out 0; have hfz32_1 := blk_frozen BK101.out 1; have hfz32_2 := blk_frozen BK101.out 2; have hfz32_3 := blk_frozen BK101.out 3; try go_wp2_with (first | ((with_reducible refine gate_callee (f := 13) rfl ?_); refine goesL_ (some 48) rfl rfl Tryd.func13 (by kernel_rfl) rfl #[.agg #[.slice A0_0 l0_0.length c0_0, .string a0_1, .string a0_2, .slice A0_3 l0_3.length c0_3], .int .i64 (rd x4_2 0)] rfl hB1 ?_; (with_reducible refine (flow_Next.calls _ _ l0_0 a0_1 a0_2 _ _ l0_3 (rd x4_2 0) t118 _ ?side1 ?side2 ?side3 ?side4 A27.out).mono ?_); (case side1 => repeat (first | exact (Kd.C_below HR0_0.out HB.out) | (with_reducible refine Kd.C_alloc ?_ _) | (with_reducible refine Kd.C_drewN ?_ _) | (with_reducible refine Kd.C_drew ?_))); (case side2 => exact HC0_0.out); (case side3 => repeat (first | exact (Kd.C_below HR0_3.out HB.out) | (with_reducible refine Kd.C_alloc ?_ _) | (with_reducible refine Kd.C_drewN ?_ _) | (with_reducible refine Kd.C_drew ?_))); (case side4 => exact HC0_3.out); rintro e w33 ⟨v119, rfl, ho0, hb⟩; refine ⟨_, rfl, ?_⟩; have n0_ := Aside0.mk (Kd.R_below hB38 hb); have n1_ := Aside0.mk (Kd.Q_elder' hB8 (Kd.R_base ho0) hb); have n2_ := Aside0.mk (Kd.R_lower (Kd.R_new' ho0 (Kd.Q_lt hB8)) (below_size hB72)); have n3_ := Aside0.mk (blk_below (g := gb101) (o := .cells #[.slice A0_0 l0_0.length c0_0, .string a0_1, .string a0_2, .slice A0_3 l0_3.length c0_3] 25 (0, 0)) hB40 hb); have n4_ := Aside0.mk (below_step hB72 hb); clear HO_3; clear HO115; clear BK101; clear HB; have HO_3 := n0_; have HO115 := n1_; have HO120 := n2_; have BK101 := n3_; have HB := n4_; clear n0_ n1_ n2_ n3_ n4_; (try clear hb); (try clear hb2); (try clear hk); (try clear hi); (try clear ho0); obtain ⟨Ao34, co34, eo34⟩ := Kd.R_slice HO120.out; subst eo34))
          generalize Value.pointer (some (ad116.add (rd x4_2 0).toNat)) = pp_; generalize hn3 : x3_2.length = nn_3 at *
          go_loopg [4, 50] k2 (fun kq v4 v50 w' => ∃ (x3_3 : List Int) (x4_3 : List Int) (x50_3 : Int), v50 = .int .i64 x50_3 ∧ Aside0 (fresh_In.l2 kq x3_3 x4_3 t117 t118 (t118.length : Int) x50_3 l0_0 a0_1 a0_2 l0_3 = some r) ∧ Aside0 (kq ≤ k2) ∧ Aside0 (Kd.R (Kd.int .u8) 5 w' w.heap.size (fun _ => True) (.slice (some ad116) nn_3 co10) x3_3) ∧ Aside0 (Kd.Q (Kd.int .i64) 3 w' w.heap.size (fun k_ => some k_ ≠ ((.slice Ao34 t118.length co34) : Value).ownBlock) v4 x4_3) ∧ Aside0 (Kd.R (Kd.int .i64) 3 w' w.heap.size (fun k_ => some k_ ≠ (v4 : Value).ownBlock) (.slice Ao34 t118.length co34) t118) ∧ Aside0 (w'.heap[gb101]? = some (.cells #[(.slice A0_0 l0_0.length c0_0), .string a0_1, .string a0_2, (.slice A0_3 l0_3.length c0_3)] 25 (0, 0))) ∧ Aside0 (Below w.heap.size w w'))
          case atStart => exact ⟨(x3_2), (y113), (0), hB64, H', ⟨Nat.le_refl _⟩, ⟨by (try simp only [hl3_1]); (try simp only [hl3_2]); (with_reducible repeat (first | apply Kd.R_alloc | apply Kd.R_drewN | apply Kd.R_drew)); exact HO_3.out⟩, ⟨by (try simp only [hl3_1]); (try simp only [hl3_2]); (with_reducible repeat (first | apply Kd.Q_alloc | apply Kd.Q_drewN | apply Kd.Q_drew)); exact Kd.Q_mono HO115.out (fun _ hk => hk.2)⟩, ⟨by (try simp only [hl3_1]); (try simp only [hl3_2]); (with_reducible repeat (first | apply Kd.R_alloc | apply Kd.R_drewN | apply Kd.R_drew)); exact Kd.R_mono HO120.out (fun _ hk => hk.2)⟩, ⟨by (try simp only [hl3_1]); (try simp only [hl3_2]); (with_reducible repeat (first | refine blk_drewN ?_ _ | refine blk_drew ?_ | refine blk_alloc ?_ _)); exact BK101.out⟩, ⟨hB72⟩⟩
          case round =>
            clear H'; (try clear c1); (try clear p1); (try clear q1); (try clear hx1); (try clear qi1); (try clear hf1); (try clear c2); (try clear p2); (try clear q2); (try clear c3); (try clear c3b0); (try clear c3b1); (try clear c4); (try clear c4b0); (try clear c4b1); (try clear c5); (try clear c5b0); (try clear c5b1); (try clear p6); (try clear p11); (try clear q11); (try clear hx11); (try clear qi11); (try clear c13); (try clear c13b0); (try clear c14); (try clear c14b0); (try clear c15); (try clear c15b0); (try clear p16); (try clear q16); (try clear hx16); (try clear hf16); (try clear c17); (try clear c20); (try clear c21); (try clear c21b0); (try clear c21b1); (try clear c22); (try clear c22b0); (try clear c22b1); (try clear c23); (try clear c23b0); (try clear c23b1); (try clear c24); (try clear c24b0); (try clear c25); (try clear c25b0); (try clear c29); (try clear q29); (try clear c33); (try clear hcz32_0); (try clear hcz32_1); (try clear hcz32_2); (try clear hcz32_3); (try clear hcz7_0); (try clear hcz7_1); (try clear hcz7_2); (try clear hcz7_3); (try clear hfz32_0); (try clear hfz32_1); (try clear hfz32_2); (try clear hfz32_3); (try clear hfz7_0); (try clear hfz7_1); (try clear hfz7_2); (try clear hfz7_3); (try clear hx112_0); (try clear hx116_0); (try clear hx16_0); (try clear p1); (try clear p112); (try clear p116); (try clear p16); (try clear p2); (try clear p6); (try clear q1); (try clear q112); (try clear q116); (try clear q16); (try clear q29); obtain ⟨x3_3, x4_3, x50_3, rfl, HA, HK3, HO_3, HO_4, HO_48, BK101, HB⟩ := hrel; have hl3_3 := (Kd.R_reads' HO_3.out).1; subst hl3_3
            cases gk with
            | zero => exact absurd HA.out (by simp [fresh_In.l2])
            | succ k3 =>
              have H := HA.out; clear HA; simp only [fresh_In.l2] at H; by_cases c35 : x50_3 < (t118.length : Int)
              rotate_left
              · rw [if_neg c35] at H; have c35b0 : decide (x50_3 < (t118.length : Int)) = false := decide_eq_false c35; clear c35; have H' := Aside0.mk H; clear H; go_wp2; go_roundg k3
                case measure => have := HK1.out; have := HK2.out; have := HK3.out; omega
                case rel => exact ⟨(x3_3), (x4_3), H', ⟨hB70⟩, ⟨hB3⟩, ⟨by (try simp only [hl3_1]); (try simp only [hl3_2]); (try simp only [hl3_3]); (with_reducible repeat (first | apply Kd.Q_alloc | apply Kd.Q_drewN | apply Kd.Q_drew)); exact Kd.Q_mono HO_4.out (fun _ hk => trivial)⟩, ⟨hB5⟩, ⟨hB72⟩⟩
              rw [if_pos c35] at H; have c35b0 : decide (x50_3 < (t118.length : Int)) = true := decide_eq_true c35; clear c35; by_cases c36 : 0 ≤ x50_3
              rotate_left
              · rw [if_neg c36] at H; exact absurd H (by simp)
              rw [if_pos c36] at H; have c36b0 : decide (0 ≤ x50_3) = true := decide_eq_true c36; clear c36; by_cases c37 : x50_3 < (t118.length : Int)
              rotate_left
              · rw [if_neg c37] at H; exact absurd H (by simp)
              rw [if_pos c37] at H; have c37b0 : decide (x50_3 < (t118.length : Int)) = true := decide_eq_true c37; clear c37; by_cases c38 : (rd t118 x50_3) ≥ 0
              rotate_left
              · rw [if_neg c38] at H; have c38b0 : decide (0 ≤ (rd t118 x50_3)) = false := decide_eq_false c38; clear c38; have H' := Aside0.mk H; clear H; have p121 : 0 ≤ (x50_3 : Int) := of_decide_eq_true hB63; have q121 : x50_3 < (t118.length : Int) := of_decide_eq_true hB63; obtain ⟨ad121, e121, hx121_0⟩ := Kd.at_int (Kd.R_reads' HO_48.out).2.2 x50_3 p121 q121
                cases e121
                replace p121 := eq_true p121; replace q121 := eq_true q121; try go_wp2
                have n0_ := Aside0.mk (Kd.R_drew HO_3.out); have n1_ := Aside0.mk (Kd.Q_drew HO_4.out); have n2_ := Aside0.mk (Kd.R_drew HO_48.out); have n3_ := Aside0.mk (blk_drew BK101.out); have n4_ := Aside0.mk (below_drew1 HB.out); clear HO_3; clear HO_4; clear HO_48; clear BK101; clear HB; have HO_3 := n0_; have HO_4 := n1_; have HO_48 := n2_; have BK101 := n3_; have HB := n4_; clear n0_ n1_ n2_ n3_ n4_; refine start_ (n := 21) (S := fun w' => True) (ds := []) #[false, false, false, false, false, false, false, false, false, false, false, false, false, false, false, false, false, false, false, false, false] (by kernel_rfl) rfl rfl trivial (fun hHeld => ?_); refine with_tabW fresh_In.tab16 fresh_In.bits16 (fun HT_ HW_ => ?_); generalize wr.drew = w50 at HO_3 HO_4 HO_48 BK101 HB hHeld ⊢; refine pure_ (i := 0) (N := some 54) (v := ?_) (a' := ?_) (mk_ 21 1) rfl rfl (any_of HT_.out (by kernel_rfl)) (fun _ _ _ h => h) (Or.inl ⟨by rfl, ?_⟩) ?_ ?_; rotate_left
                · intro w'; go_simp; with_reducible rfl
                rotate_left
                · simp only [Act.put, List.setIfInBounds_toArray, List.set_cons_zero, List.set_cons_succ, i64_w, i32_w]; rfl
                refine pure_ (i := 1) (N := some 55) (v := ?_) (a' := ?_) (mk_ 21 3) rfl rfl (any_of HT_.out (by kernel_rfl)) (fun _ _ _ h => h) (Or.inl ⟨by rfl, ?_⟩) ?_ ?_; rotate_left
                · intro w'; go_simp; with_reducible rfl
                rotate_left
                · simp only [Act.put, List.setIfInBounds_toArray, List.set_cons_zero, List.set_cons_succ, i64_w, i32_w]; rfl
                refine pure_ (i := 2) (N := some 56) (v := ?_) (a' := ?_) (mk_ 21 7) rfl rfl (any_of HT_.out (by kernel_rfl)) (fun _ _ _ h => h) (Or.inl ⟨by rfl, ?_⟩) ?_ ?_; rotate_left
                · intro w'; go_simp; with_reducible rfl
                rotate_left
                · simp only [Act.put, List.setIfInBounds_toArray, List.set_cons_zero, List.set_cons_succ, i64_w, i32_w]; rfl
                refine pure_ (i := 3) (N := some 57) (v := undef) (a' := ?_) (mk_ 21 15) rfl rfl (any_of HT_.out (by kernel_rfl)) (fun _ _ _ h => h) (Or.inr ⟨by rfl, rfl⟩) ?_ ?_; rotate_left
                · simp only [Act.put, List.setIfInBounds_toArray, List.set_cons_zero, List.set_cons_succ, i64_w, i32_w]; rfl
                refine pure_ (i := 4) (N := some 58) (v := undef) (a' := ?_) (mk_ 21 31) rfl rfl (any_of HT_.out (by kernel_rfl)) (fun _ _ _ h => h) (Or.inr ⟨by rfl, rfl⟩) ?_ ?_; rotate_left
                · simp only [Act.put, List.setIfInBounds_toArray, List.set_cons_zero, List.set_cons_succ, i64_w, i32_w]; rfl
                refine pure_ (i := 5) (N := some 59) (v := undef) (a' := ?_) (mk_ 21 63) rfl rfl (any_of HT_.out (by kernel_rfl)) (fun _ _ _ h => h) (Or.inr ⟨by rfl, rfl⟩) ?_ ?_; rotate_left
                · simp only [Act.put, List.setIfInBounds_toArray, List.set_cons_zero, List.set_cons_succ, i64_w, i32_w]; rfl
                refine pure_ (i := 6) (N := some 60) (v := undef) (a' := ?_) (mk_ 21 127) rfl rfl (any_of HT_.out (by kernel_rfl)) (fun _ _ _ h => h) (Or.inr ⟨by rfl, rfl⟩) ?_ ?_; rotate_left
                · simp only [Act.put, List.setIfInBounds_toArray, List.set_cons_zero, List.set_cons_succ, i64_w, i32_w]; rfl
                refine pure_ (i := 7) (N := some 61) (v := ?_) (a' := ?_) (mk_ 21 255) rfl rfl (any_of HT_.out (by kernel_rfl)) (fun _ _ _ h => h) (Or.inl ⟨by rfl, ?_⟩) ?_ ?_; rotate_left
                · intro w'; go_simp; with_reducible rfl
                rotate_left
                · simp only [Act.put, List.setIfInBounds_toArray, List.set_cons_zero, List.set_cons_succ, i64_w, i32_w]; rfl
                refine pure_ (i := 8) (N := some 62) (v := ?_) (a' := ?_) (mk_ 21 511) rfl rfl (any_of HT_.out (by kernel_rfl)) (fun _ _ _ h => h) (Or.inl ⟨by rfl, ?_⟩) ?_ ?_; rotate_left
                · intro w'; go_simp; with_reducible rfl
                rotate_left
                · simp only [Act.put, List.setIfInBounds_toArray, List.set_cons_zero, List.set_cons_succ, i64_w, i32_w]; rfl
                refine pure_ (i := 9) (N := some 63) (v := undef) (a' := ?_) (mk_ 21 1023) rfl rfl (any_of HT_.out (by kernel_rfl)) (fun _ _ _ h => h) (Or.inr ⟨by rfl, rfl⟩) ?_ ?_; rotate_left
                · simp only [Act.put, List.setIfInBounds_toArray, List.set_cons_zero, List.set_cons_succ, i64_w, i32_w]; rfl
                refine pure_ (i := 10) (N := some 64) (v := undef) (a' := ?_) (mk_ 21 2047) rfl rfl (any_of HT_.out (by kernel_rfl)) (fun _ _ _ h => h) (Or.inr ⟨by rfl, rfl⟩) ?_ ?_; rotate_left
                · simp only [Act.put, List.setIfInBounds_toArray, List.set_cons_zero, List.set_cons_succ, i64_w, i32_w]; rfl
                refine pure_ (i := 11) (N := some 65) (v := undef) (a' := ?_) (mk_ 21 4095) rfl rfl (any_of HT_.out (by kernel_rfl)) (fun _ _ _ h => h) (Or.inr ⟨by rfl, rfl⟩) ?_ ?_; rotate_left
                · simp only [Act.put, List.setIfInBounds_toArray, List.set_cons_zero, List.set_cons_succ, i64_w, i32_w]; rfl
                refine pure_ (i := 12) (N := some 66) (v := undef) (a' := ?_) (mk_ 21 8191) rfl rfl (any_of HT_.out (by kernel_rfl)) (fun _ _ _ h => h) (Or.inr ⟨by rfl, rfl⟩) ?_ ?_; rotate_left
                · simp only [Act.put, List.setIfInBounds_toArray, List.set_cons_zero, List.set_cons_succ, i64_w, i32_w]; rfl
                refine pure_ (i := 13) (N := some 67) (v := undef) (a' := ?_) (mk_ 21 16383) rfl rfl (any_of HT_.out (by kernel_rfl)) (fun _ _ _ h => h) (Or.inr ⟨by rfl, rfl⟩) ?_ ?_; rotate_left
                · simp only [Act.put, List.setIfInBounds_toArray, List.set_cons_zero, List.set_cons_succ, i64_w, i32_w]; rfl
                refine pure_ (i := 14) (N := some 68) (v := undef) (a' := ?_) (mk_ 21 32767) rfl rfl (any_of HT_.out (by kernel_rfl)) (fun _ _ _ h => h) (Or.inr ⟨by rfl, rfl⟩) ?_ ?_; rotate_left
                · simp only [Act.put, List.setIfInBounds_toArray, List.set_cons_zero, List.set_cons_succ, i64_w, i32_w]; rfl
                refine pure_ (i := 15) (N := some 69) (v := undef) (a' := ?_) (mk_ 21 65535) rfl rfl (any_of HT_.out (by kernel_rfl)) (fun _ _ _ h => h) (Or.inr ⟨by rfl, rfl⟩) ?_ ?_; rotate_left
                · simp only [Act.put, List.setIfInBounds_toArray, List.set_cons_zero, List.set_cons_succ, i64_w, i32_w]; rfl
                refine pure_ (i := 16) (N := some 70) (v := undef) (a' := ?_) (mk_ 21 131071) rfl rfl (any_of HT_.out (by kernel_rfl)) (fun _ _ _ h => h) (Or.inr ⟨by rfl, rfl⟩) ?_ ?_; rotate_left
                · simp only [Act.put, List.setIfInBounds_toArray, List.set_cons_zero, List.set_cons_succ, i64_w, i32_w]; rfl
                refine pure_ (i := 17) (N := some 71) (v := undef) (a' := ?_) (mk_ 21 262143) rfl rfl (any_of HT_.out (by kernel_rfl)) (fun _ _ _ h => h) (Or.inr ⟨by rfl, rfl⟩) ?_ ?_; rotate_left
                · simp only [Act.put, List.setIfInBounds_toArray, List.set_cons_zero, List.set_cons_succ, i64_w, i32_w]; rfl
                refine pure_ (i := 18) (N := some 72) (v := undef) (a' := ?_) (mk_ 21 524287) rfl rfl (any_of HT_.out (by kernel_rfl)) (fun _ _ _ h => h) (Or.inr ⟨by rfl, rfl⟩) ?_ ?_; rotate_left
                · simp only [Act.put, List.setIfInBounds_toArray, List.set_cons_zero, List.set_cons_succ, i64_w, i32_w]; rfl
                refine pure_ (i := 19) (N := some 73) (v := undef) (a' := ?_) (mk_ 21 1048575) rfl rfl (any_of HT_.out (by kernel_rfl)) (fun _ _ _ h => h) (Or.inr ⟨by rfl, rfl⟩) ?_ ?_; rotate_left
                · simp only [Act.put, List.setIfInBounds_toArray, List.set_cons_zero, List.set_cons_succ, i64_w, i32_w]; rfl
                refine pure_ (i := 20) (N := some 74) (v := ?_) (a' := ?_) (mk_ 21 2097151) rfl rfl (any_of HT_.out (by kernel_rfl)) (fun _ _ _ h => h) (Or.inl ⟨by rfl, ?_⟩) ?_ ?_; rotate_left
                · intro w'; go_simp; with_reducible rfl
                rotate_left
                · simp only [Act.put, List.setIfInBounds_toArray, List.set_cons_zero, List.set_cons_succ, i64_w, i32_w]; rfl
                refine done_ (done_of HT_.out (by kernel_rfl)) ?_; try go_wp2
                go_roundg k3
                case measure => have := HK1.out; have := HK2.out; have := HK3.out; omega
                case rel => exact ⟨(x3_3), (x4_3), (wrap64 (x50_3 + 1)), hB64, H', ⟨hB70⟩, ⟨hB3⟩, ⟨hB2⟩, ⟨hB4⟩, ⟨hB5⟩, ⟨hB72⟩⟩
              rw [if_pos c38] at H; have c38b0 : decide (0 ≤ (rd t118 x50_3)) = true := decide_eq_true c38; clear c38; by_cases c39 : (rd t118 x50_3) < (x3_3.length : Int)
              rotate_left
              · rw [if_neg c39] at H; have c39b0 : decide ((rd t118 x50_3) < (x3_3.length : Int)) = false := decide_eq_false c39; clear c39; have H' := Aside0.mk H; clear H; have p121 : 0 ≤ (x50_3 : Int) := of_decide_eq_true hB63; have q121 : x50_3 < (t118.length : Int) := of_decide_eq_true hB63; obtain ⟨ad121, e121, hx121_0⟩ := Kd.at_int (Kd.R_reads' HO_48.out).2.2 x50_3 p121 q121
                cases e121
                replace p121 := eq_true p121; replace q121 := eq_true q121; try go_wp2
                have n0_ := Aside0.mk (Kd.R_drew HO_3.out); have n1_ := Aside0.mk (Kd.Q_drew HO_4.out); have n2_ := Aside0.mk (Kd.R_drew HO_48.out); have n3_ := Aside0.mk (blk_drew BK101.out); have n4_ := Aside0.mk (below_drew1 HB.out); clear HO_3; clear HO_4; clear HO_48; clear BK101; clear HB; have HO_3 := n0_; have HO_4 := n1_; have HO_48 := n2_; have BK101 := n3_; have HB := n4_; clear n0_ n1_ n2_ n3_ n4_; refine start_ (n := 21) (S := fun w' => True) (ds := []) #[false, false, false, false, false, false, false, false, false, false, false, false, false, false, false, false, false, false, false, false, false] (by kernel_rfl) rfl rfl trivial (fun hHeld => ?_); refine with_tabW fresh_In.tab16 fresh_In.bits16 (fun HT_ HW_ => ?_); generalize wr.drew = w49 at HO_3 HO_4 HO_48 BK101 HB hHeld ⊢; refine pure_ (i := 0) (N := some 54) (v := ?_) (a' := ?_) (mk_ 21 1) rfl rfl (any_of HT_.out (by kernel_rfl)) (fun _ _ _ h => h) (Or.inl ⟨by rfl, ?_⟩) ?_ ?_; rotate_left
                · intro w'; go_simp; with_reducible rfl
                rotate_left
                · simp only [Act.put, List.setIfInBounds_toArray, List.set_cons_zero, List.set_cons_succ, i64_w, i32_w]; rfl
                refine pure_ (i := 1) (N := some 55) (v := ?_) (a' := ?_) (mk_ 21 3) rfl rfl (any_of HT_.out (by kernel_rfl)) (fun _ _ _ h => h) (Or.inl ⟨by rfl, ?_⟩) ?_ ?_; rotate_left
                · intro w'; go_simp; with_reducible rfl
                rotate_left
                · simp only [Act.put, List.setIfInBounds_toArray, List.set_cons_zero, List.set_cons_succ, i64_w, i32_w]; rfl
                refine pure_ (i := 2) (N := some 56) (v := ?_) (a' := ?_) (mk_ 21 7) rfl rfl (any_of HT_.out (by kernel_rfl)) (fun _ _ _ h => h) (Or.inl ⟨by rfl, ?_⟩) ?_ ?_; rotate_left
                · intro w'; go_simp; with_reducible rfl
                rotate_left
                · simp only [Act.put, List.setIfInBounds_toArray, List.set_cons_zero, List.set_cons_succ, i64_w, i32_w]; rfl
                refine pure_ (i := 3) (N := some 57) (v := ?_) (a' := ?_) (mk_ 21 15) rfl rfl (any_of HT_.out (by kernel_rfl)) (fun _ _ _ h => h) (Or.inl ⟨by rfl, ?_⟩) ?_ ?_; rotate_left
                · intro w'; go_simp; with_reducible rfl
                rotate_left
                · simp only [Act.put, List.setIfInBounds_toArray, List.set_cons_zero, List.set_cons_succ, i64_w, i32_w]; rfl
                refine pure_ (i := 4) (N := some 58) (v := ?_) (a' := ?_) (mk_ 21 31) rfl rfl (any_of HT_.out (by kernel_rfl)) (fun _ _ _ h => h) (Or.inl ⟨by rfl, ?_⟩) ?_ ?_; rotate_left
                · intro w'; go_simp; with_reducible rfl
                rotate_left
                · simp only [Act.put, List.setIfInBounds_toArray, List.set_cons_zero, List.set_cons_succ, i64_w, i32_w]; rfl
                refine pure_ (i := 5) (N := some 59) (v := ?_) (a' := ?_) (mk_ 21 63) rfl rfl (any_of HT_.out (by kernel_rfl)) (fun _ _ _ h => h) (Or.inl ⟨by rfl, ?_⟩) ?_ ?_; rotate_left
                · intro w'; go_simp; with_reducible rfl
                rotate_left
                · simp only [Act.put, List.setIfInBounds_toArray, List.set_cons_zero, List.set_cons_succ, i64_w, i32_w]; rfl
                refine pure_ (i := 6) (N := some 60) (v := ?_) (a' := ?_) (mk_ 21 127) rfl rfl (any_of HT_.out (by kernel_rfl)) (fun _ _ _ h => h) (Or.inl ⟨by rfl, ?_⟩) ?_ ?_; rotate_left
                · intro w'; go_simp; with_reducible rfl
                rotate_left
                · simp only [Act.put, List.setIfInBounds_toArray, List.set_cons_zero, List.set_cons_succ, i64_w, i32_w]; rfl
                refine pure_ (i := 7) (N := some 61) (v := ?_) (a' := ?_) (mk_ 21 255) rfl rfl (any_of HT_.out (by kernel_rfl)) (fun _ _ _ h => h) (Or.inl ⟨by rfl, ?_⟩) ?_ ?_; rotate_left
                · intro w'; go_simp; with_reducible rfl
                rotate_left
                · simp only [Act.put, List.setIfInBounds_toArray, List.set_cons_zero, List.set_cons_succ, i64_w, i32_w]; rfl
                refine pure_ (i := 8) (N := some 62) (v := ?_) (a' := ?_) (mk_ 21 511) rfl rfl (any_of HT_.out (by kernel_rfl)) (fun _ _ _ h => h) (Or.inl ⟨by rfl, ?_⟩) ?_ ?_; rotate_left
                · intro w'; go_simp; with_reducible rfl
                rotate_left
                · simp only [Act.put, List.setIfInBounds_toArray, List.set_cons_zero, List.set_cons_succ, i64_w, i32_w]; rfl
                refine pure_ (i := 9) (N := some 63) (v := undef) (a' := ?_) (mk_ 21 1023) rfl rfl (any_of HT_.out (by kernel_rfl)) (fun _ _ _ h => h) (Or.inr ⟨by rfl, rfl⟩) ?_ ?_; rotate_left
                · simp only [Act.put, List.setIfInBounds_toArray, List.set_cons_zero, List.set_cons_succ, i64_w, i32_w]; rfl
                refine pure_ (i := 10) (N := some 64) (v := undef) (a' := ?_) (mk_ 21 2047) rfl rfl (any_of HT_.out (by kernel_rfl)) (fun _ _ _ h => h) (Or.inr ⟨by rfl, rfl⟩) ?_ ?_; rotate_left
                · simp only [Act.put, List.setIfInBounds_toArray, List.set_cons_zero, List.set_cons_succ, i64_w, i32_w]; rfl
                refine pure_ (i := 11) (N := some 65) (v := undef) (a' := ?_) (mk_ 21 4095) rfl rfl (any_of HT_.out (by kernel_rfl)) (fun _ _ _ h => h) (Or.inr ⟨by rfl, rfl⟩) ?_ ?_; rotate_left
                · simp only [Act.put, List.setIfInBounds_toArray, List.set_cons_zero, List.set_cons_succ, i64_w, i32_w]; rfl
                refine pure_ (i := 12) (N := some 66) (v := undef) (a' := ?_) (mk_ 21 8191) rfl rfl (any_of HT_.out (by kernel_rfl)) (fun _ _ _ h => h) (Or.inr ⟨by rfl, rfl⟩) ?_ ?_; rotate_left
                · simp only [Act.put, List.setIfInBounds_toArray, List.set_cons_zero, List.set_cons_succ, i64_w, i32_w]; rfl
                refine pure_ (i := 13) (N := some 67) (v := undef) (a' := ?_) (mk_ 21 16383) rfl rfl (any_of HT_.out (by kernel_rfl)) (fun _ _ _ h => h) (Or.inr ⟨by rfl, rfl⟩) ?_ ?_; rotate_left
                · simp only [Act.put, List.setIfInBounds_toArray, List.set_cons_zero, List.set_cons_succ, i64_w, i32_w]; rfl
                refine pure_ (i := 14) (N := some 68) (v := undef) (a' := ?_) (mk_ 21 32767) rfl rfl (any_of HT_.out (by kernel_rfl)) (fun _ _ _ h => h) (Or.inr ⟨by rfl, rfl⟩) ?_ ?_; rotate_left
                · simp only [Act.put, List.setIfInBounds_toArray, List.set_cons_zero, List.set_cons_succ, i64_w, i32_w]; rfl
                refine pure_ (i := 15) (N := some 69) (v := undef) (a' := ?_) (mk_ 21 65535) rfl rfl (any_of HT_.out (by kernel_rfl)) (fun _ _ _ h => h) (Or.inr ⟨by rfl, rfl⟩) ?_ ?_; rotate_left
                · simp only [Act.put, List.setIfInBounds_toArray, List.set_cons_zero, List.set_cons_succ, i64_w, i32_w]; rfl
                refine pure_ (i := 16) (N := some 70) (v := undef) (a' := ?_) (mk_ 21 131071) rfl rfl (any_of HT_.out (by kernel_rfl)) (fun _ _ _ h => h) (Or.inr ⟨by rfl, rfl⟩) ?_ ?_; rotate_left
                · simp only [Act.put, List.setIfInBounds_toArray, List.set_cons_zero, List.set_cons_succ, i64_w, i32_w]; rfl
                refine pure_ (i := 17) (N := some 71) (v := undef) (a' := ?_) (mk_ 21 262143) rfl rfl (any_of HT_.out (by kernel_rfl)) (fun _ _ _ h => h) (Or.inr ⟨by rfl, rfl⟩) ?_ ?_; rotate_left
                · simp only [Act.put, List.setIfInBounds_toArray, List.set_cons_zero, List.set_cons_succ, i64_w, i32_w]; rfl
                refine pure_ (i := 18) (N := some 72) (v := undef) (a' := ?_) (mk_ 21 524287) rfl rfl (any_of HT_.out (by kernel_rfl)) (fun _ _ _ h => h) (Or.inr ⟨by rfl, rfl⟩) ?_ ?_; rotate_left
                · simp only [Act.put, List.setIfInBounds_toArray, List.set_cons_zero, List.set_cons_succ, i64_w, i32_w]; rfl
                refine pure_ (i := 19) (N := some 73) (v := undef) (a' := ?_) (mk_ 21 1048575) rfl rfl (any_of HT_.out (by kernel_rfl)) (fun _ _ _ h => h) (Or.inr ⟨by rfl, rfl⟩) ?_ ?_; rotate_left
                · simp only [Act.put, List.setIfInBounds_toArray, List.set_cons_zero, List.set_cons_succ, i64_w, i32_w]; rfl
                refine pure_ (i := 20) (N := some 74) (v := ?_) (a' := ?_) (mk_ 21 2097151) rfl rfl (any_of HT_.out (by kernel_rfl)) (fun _ _ _ h => h) (Or.inl ⟨by rfl, ?_⟩) ?_ ?_; rotate_left
                · intro w'; go_simp; with_reducible rfl
                rotate_left
                · simp only [Act.put, List.setIfInBounds_toArray, List.set_cons_zero, List.set_cons_succ, i64_w, i32_w]; rfl
                refine done_ (done_of HT_.out (by kernel_rfl)) ?_; try go_wp2
                go_roundg k3
                case measure => have := HK1.out; have := HK2.out; have := HK3.out; omega
                case rel => exact ⟨(x3_3), (x4_3), (wrap64 (x50_3 + 1)), hB64, H', ⟨hB70⟩, ⟨hB3⟩, ⟨hB2⟩, ⟨hB4⟩, ⟨hB5⟩, ⟨hB72⟩⟩
              rw [if_pos c39] at H; have c39b0 : decide ((rd t118 x50_3) < (x3_3.length : Int)) = true := decide_eq_true c39; clear c39; by_cases c40 : 0 ≤ (rd t118 x50_3)
              rotate_left
              · rw [if_neg c40] at H; exact absurd H (by simp)
              rw [if_pos c40] at H; have c40b0 : decide (0 ≤ (rd t118 x50_3)) = true := decide_eq_true c40; clear c40; by_cases c41 : (Go.bits .and .u8 (rd x3_3 (rd t118 x50_3)) t117) = (rd x3_3 (rd t118 x50_3))
              · rw [if_pos c41] at H; have c41b0 : ((Go.bits .and .u8 (rd x3_3 (rd t118 x50_3)) t117) == (rd x3_3 (rd t118 x50_3))) = true := beq_iff_eq.mpr c41; have c41b1 : ((Go.bits .and .u8 (rd x3_3 (rd t118 x50_3)) t117) != (rd x3_3 (rd t118 x50_3))) = false := bne_eq_false_iff_eq.mpr c41; clear c41; have H' := Aside0.mk H; clear H; have p121 : 0 ≤ (x50_3 : Int) := of_decide_eq_true hB63; have q121 : x50_3 < (t118.length : Int) := of_decide_eq_true hB63; obtain ⟨ad121, e121, hx121_0⟩ := Kd.at_int (Kd.R_reads' HO_48.out).2.2 x50_3 p121 q121
                cases e121
                replace p121 := eq_true p121; replace q121 := eq_true q121; try go_wp2
                have n0_ := Aside0.mk (Kd.R_drew HO_3.out); have n1_ := Aside0.mk (Kd.Q_drew HO_4.out); have n2_ := Aside0.mk (Kd.R_drew HO_48.out); have n3_ := Aside0.mk (blk_drew BK101.out); have n4_ := Aside0.mk (below_drew1 HB.out); clear HO_3; clear HO_4; clear HO_48; clear BK101; clear HB; have HO_3 := n0_; have HO_4 := n1_; have HO_48 := n2_; have BK101 := n3_; have HB := n4_; clear n0_ n1_ n2_ n3_ n4_; have p122 : 0 ≤ ((rd t118 x50_3) : Int) := of_decide_eq_true hB63; have q122 : (rd t118 x50_3) < (x3_3.length : Int) := of_decide_eq_true hB63; obtain ⟨ad122, e122, hx122_0⟩ := Kd.at_int (Kd.R_reads' HO_3.out).2.2 (rd t118 x50_3) p122 q122; obtain rfl : ad116 = ad122 := (by injection e122); replace p122 := eq_true p122; replace q122 := eq_true q122; have p123 : 0 ≤ ((rd t118 x50_3) : Int) := of_decide_eq_true hB63; have q123 : (rd t118 x50_3) < (x3_3.length : Int) := of_decide_eq_true hB63; obtain ⟨ad123, e123, hx123_0⟩ := Kd.at_int (Kd.R_reads' HO_3.out).2.2 (rd t118 x50_3) p123 q123; obtain rfl : ad116 = ad123 := (by injection e123); replace p123 := eq_true p123; replace q123 := eq_true q123; refine start_ (n := 21) (S := fun w' => w'.cell? (ad116.add ((rd t118 x50_3)).toNat) = some (.int .u8 (rd x3_3 (rd t118 x50_3))) ∧ w'.cell? (ad116.add ((rd t118 x50_3)).toNat) = some (.int .u8 (rd x3_3 (rd t118 x50_3)))) (ds := []) #[false, false, false, false, false, false, false, false, false, false, false, false, false, false, false, false, false, false, false, false, false] (by kernel_rfl) rfl rfl ⟨hx122_0, hx123_0⟩ (fun hHeld => ?_); refine with_tabW fresh_In.tab16 fresh_In.bits16 (fun HT_ HW_ => ?_); generalize wr.drew = w42 at HO_3 HO_4 HO_48 BK101 HB hx122_0 hx123_0 hHeld ⊢; refine pure_ (i := 0) (N := some 54) (v := ?_) (a' := ?_) (mk_ 21 1) rfl rfl (any_of HT_.out (by kernel_rfl)) (fun _ _ _ h => h) (Or.inl ⟨by rfl, ?_⟩) ?_ ?_; rotate_left
                · intro w'; go_simp; with_reducible rfl
                rotate_left
                · simp only [Act.put, List.setIfInBounds_toArray, List.set_cons_zero, List.set_cons_succ, i64_w, i32_w]; rfl
                refine pure_ (i := 1) (N := some 55) (v := ?_) (a' := ?_) (mk_ 21 3) rfl rfl (any_of HT_.out (by kernel_rfl)) (fun _ _ _ h => h) (Or.inl ⟨by rfl, ?_⟩) ?_ ?_; rotate_left
                · intro w'; go_simp; with_reducible rfl
                rotate_left
                · simp only [Act.put, List.setIfInBounds_toArray, List.set_cons_zero, List.set_cons_succ, i64_w, i32_w]; rfl
                refine pure_ (i := 2) (N := some 56) (v := ?_) (a' := ?_) (mk_ 21 7) rfl rfl (any_of HT_.out (by kernel_rfl)) (fun _ _ _ h => h) (Or.inl ⟨by rfl, ?_⟩) ?_ ?_; rotate_left
                · intro w'; go_simp; with_reducible rfl
                rotate_left
                · simp only [Act.put, List.setIfInBounds_toArray, List.set_cons_zero, List.set_cons_succ, i64_w, i32_w]; rfl
                refine pure_ (i := 3) (N := some 57) (v := ?_) (a' := ?_) (mk_ 21 15) rfl rfl (any_of HT_.out (by kernel_rfl)) (fun _ _ _ h => h) (Or.inl ⟨by rfl, ?_⟩) ?_ ?_; rotate_left
                · intro w'; go_simp; with_reducible rfl
                rotate_left
                · simp only [Act.put, List.setIfInBounds_toArray, List.set_cons_zero, List.set_cons_succ, i64_w, i32_w]; rfl
                refine pure_ (i := 4) (N := some 58) (v := ?_) (a' := ?_) (mk_ 21 31) rfl rfl (any_of HT_.out (by kernel_rfl)) (fun _ _ _ h => h) (Or.inl ⟨by rfl, ?_⟩) ?_ ?_; rotate_left
                · intro w'; go_simp; with_reducible rfl
                rotate_left
                · simp only [Act.put, List.setIfInBounds_toArray, List.set_cons_zero, List.set_cons_succ, i64_w, i32_w]; rfl
                refine pure_ (i := 5) (N := some 59) (v := ?_) (a' := ?_) (mk_ 21 63) rfl rfl (any_of HT_.out (by kernel_rfl)) (fun _ _ _ h => h) (Or.inl ⟨by rfl, ?_⟩) ?_ ?_; rotate_left
                · intro w'; go_simp; with_reducible rfl
                rotate_left
                · simp only [Act.put, List.setIfInBounds_toArray, List.set_cons_zero, List.set_cons_succ, i64_w, i32_w]; rfl
                refine pure_ (i := 6) (N := some 60) (v := ?_) (a' := ?_) (mk_ 21 127) rfl rfl (any_of HT_.out (by kernel_rfl)) (fun _ _ _ h => h) (Or.inl ⟨by rfl, ?_⟩) ?_ ?_; rotate_left
                · intro w'; go_simp; with_reducible rfl
                rotate_left
                · simp only [Act.put, List.setIfInBounds_toArray, List.set_cons_zero, List.set_cons_succ, i64_w, i32_w]; rfl
                refine pure_ (i := 7) (N := some 61) (v := ?_) (a' := ?_) (mk_ 21 255) rfl rfl (any_of HT_.out (by kernel_rfl)) (fun _ _ _ h => h) (Or.inl ⟨by rfl, ?_⟩) ?_ ?_; rotate_left
                · intro w'; go_simp; with_reducible rfl
                rotate_left
                · simp only [Act.put, List.setIfInBounds_toArray, List.set_cons_zero, List.set_cons_succ, i64_w, i32_w]; rfl
                refine pure_ (i := 8) (N := some 62) (v := ?_) (a' := ?_) (mk_ 21 511) rfl rfl (any_of HT_.out (by kernel_rfl)) (fun _ _ _ h => h) (Or.inl ⟨by rfl, ?_⟩) ?_ ?_; rotate_left
                · intro w'; go_simp; with_reducible rfl
                rotate_left
                · simp only [Act.put, List.setIfInBounds_toArray, List.set_cons_zero, List.set_cons_succ, i64_w, i32_w]; rfl
                refine pure_ (i := 9) (N := some 63) (v := ?_) (a' := ?_) (mk_ 21 1023) rfl rfl (any_of HT_.out (by kernel_rfl)) (fun _ _ _ h => h) (Or.inl ⟨by rfl, ?_⟩) ?_ ?_; rotate_left
                · intro w'; go_simp; with_reducible rfl
                rotate_left
                · simp only [Act.put, List.setIfInBounds_toArray, List.set_cons_zero, List.set_cons_succ, i64_w, i32_w]; rfl
                refine pure_ (i := 10) (N := some 64) (v := ?_) (a' := ?_) (mk_ 21 2047) rfl rfl (any_of HT_.out (by kernel_rfl)) (fun _ _ _ h => h) (Or.inl ⟨by rfl, ?_⟩) ?_ ?_; rotate_left
                · intro w'; go_simp; with_reducible rfl
                rotate_left
                · simp only [Act.put, List.setIfInBounds_toArray, List.set_cons_zero, List.set_cons_succ, i64_w, i32_w]; rfl
                refine pure_ (i := 11) (N := some 65) (v := ?_) (a' := ?_) (mk_ 21 4095) rfl rfl (any_of HT_.out (by kernel_rfl)) (fun _ _ _ h => h) (Or.inl ⟨by rfl, ?_⟩) ?_ ?_; rotate_left
                · intro w'; go_simp; with_reducible rfl
                rotate_left
                · simp only [Act.put, List.setIfInBounds_toArray, List.set_cons_zero, List.set_cons_succ, i64_w, i32_w]; rfl
                refine pure_ (i := 13) (N := some 67) (v := ?_) (a' := ?_) (mk_ 21 12287) rfl rfl (any_of HT_.out (by kernel_rfl)) (fun _ _ _ h => h) (Or.inl ⟨by rfl, ?_⟩) ?_ ?_; rotate_left
                · intro w'; go_simp; with_reducible rfl
                rotate_left
                · simp only [Act.put, List.setIfInBounds_toArray, List.set_cons_zero, List.set_cons_succ, i64_w, i32_w]; rfl
                refine pure_ (i := 15) (N := some 69) (v := ?_) (a' := ?_) (mk_ 21 45055) rfl rfl (any_of HT_.out (by kernel_rfl)) (fun _ _ _ h => h) (Or.inl ⟨by rfl, ?_⟩) ?_ ?_; rotate_left
                · intro w'; go_simp; with_reducible rfl
                rotate_left
                · simp only [Act.put, List.setIfInBounds_toArray, List.set_cons_zero, List.set_cons_succ, i64_w, i32_w]; rfl
                refine pure_ (i := 16) (N := some 70) (v := ?_) (a' := ?_) (mk_ 21 110591) rfl rfl (any_of HT_.out (by kernel_rfl)) (fun _ _ _ h => h) (Or.inl ⟨by rfl, ?_⟩) ?_ ?_; rotate_left
                · intro w'; go_simp; with_reducible rfl
                rotate_left
                · simp only [Act.put, List.setIfInBounds_toArray, List.set_cons_zero, List.set_cons_succ, i64_w, i32_w]; rfl
                refine pure_ (i := 17) (N := some 71) (v := ?_) (a' := ?_) (mk_ 21 241663) rfl rfl (any_of HT_.out (by kernel_rfl)) (fun _ _ _ h => h) (Or.inl ⟨by rfl, ?_⟩) ?_ ?_; rotate_left
                · intro w'; go_simp; with_reducible rfl
                rotate_left
                · simp only [Act.put, List.setIfInBounds_toArray, List.set_cons_zero, List.set_cons_succ, i64_w, i32_w]; rfl
                refine take_ (i := 12) (N := some 66) (v := ?_) (a' := ?_) (mk_ 21 245759) rfl rfl (take_ofW HT_.out HW_.out (by kernel_rfl)) (fun _ _ _ h => h) (Or.inl ⟨by rfl, ?_⟩) hHeld ?_ ?_; rotate_left
                · rintro w' ⟨s0, s1⟩; go_simp; with_reducible rfl
                rotate_left
                · simp only [Act.put, List.setIfInBounds_toArray, List.set_cons_zero, List.set_cons_succ, i64_w, i32_w]; rfl
                refine pure_ (i := 14) (N := some 68) (v := ?_) (a' := ?_) (mk_ 21 262143) rfl rfl (any_of HT_.out (by kernel_rfl)) (fun _ _ _ h => h) (Or.inl ⟨by rfl, ?_⟩) ?_ ?_; rotate_left
                · intro w'; go_simp; with_reducible rfl
                rotate_left
                · simp only [Act.put, List.setIfInBounds_toArray, List.set_cons_zero, List.set_cons_succ, i64_w, i32_w]; rfl
                refine take_ (i := 18) (N := some 72) (v := ?_) (a' := ?_) (mk_ 21 524287) rfl rfl (take_ofW HT_.out HW_.out (by kernel_rfl)) (fun _ _ _ h => h) (Or.inl ⟨by rfl, ?_⟩) hHeld ?_ ?_; rotate_left
                · rintro w' ⟨s0, s1⟩; go_simp; with_reducible rfl
                rotate_left
                · simp only [Act.put, List.setIfInBounds_toArray, List.set_cons_zero, List.set_cons_succ, i64_w, i32_w]; rfl
                refine pure_ (i := 19) (N := some 73) (v := ?_) (a' := ?_) (mk_ 21 1048575) rfl rfl (any_of HT_.out (by kernel_rfl)) (fun _ _ _ h => h) (Or.inl ⟨by rfl, ?_⟩) ?_ ?_; rotate_left
                · intro w'; go_simp; with_reducible rfl
                rotate_left
                · simp only [Act.put, List.setIfInBounds_toArray, List.set_cons_zero, List.set_cons_succ, i64_w, i32_w]; rfl
                refine pure_ (i := 20) (N := some 74) (v := ?_) (a' := ?_) (mk_ 21 2097151) rfl rfl (any_of HT_.out (by kernel_rfl)) (fun _ _ _ h => h) (Or.inl ⟨by rfl, ?_⟩) ?_ ?_; rotate_left
                · intro w'; go_simp; with_reducible rfl
                rotate_left
                · simp only [Act.put, List.setIfInBounds_toArray, List.set_cons_zero, List.set_cons_succ, i64_w, i32_w]; rfl
                refine done_ (done_of HT_.out (by kernel_rfl)) ?_; try go_wp2
                go_roundg k3
                case measure => have := HK1.out; have := HK2.out; have := HK3.out; omega
                case rel => exact ⟨(x3_3), (x4_3), (wrap64 (x50_3 + 1)), hB64, H', ⟨hB70⟩, ⟨hB3⟩, ⟨hB2⟩, ⟨hB4⟩, ⟨hB5⟩, ⟨hB72⟩⟩
              rw [if_neg c41] at H; have c41b0 : ((Go.bits .and .u8 (rd x3_3 (rd t118 x50_3)) t117) == (rd x3_3 (rd t118 x50_3))) = false := beq_eq_false_iff_ne.mpr c41; have c41b1 : ((Go.bits .and .u8 (rd x3_3 (rd t118 x50_3)) t117) != (rd x3_3 (rd t118 x50_3))) = true := bne_iff_ne.mpr c41; obtain ⟨y125, hy125⟩ : ∃ y_ : List Int, y_ = (x3_3.set ((rd t118 x50_3) : Int).toNat (Go.bits .and .u8 (rd x3_3 (rd t118 x50_3)) t117)) := ⟨_, rfl⟩
              replace H : (if x4_3.length < 17592186044416 then (fresh_In.l2 k3 y125 (x4_3 ++ [rd t118 x50_3]) t117 t118 (t118.length : Int) (wrap64 (x50_3 + 1)) l0_0 a0_1 a0_2 l0_3) else (none)) = some r := by first | (rw [hy125]; with_reducible exact H) | (have H2_ := (Option.bind_some _ _).symm.trans H; rw [hy125]; with_reducible exact H2_) | (have H2_ := (Option.bind_some _ _).symm.trans H; with_reducible exact H2_) | with_reducible exact H | (rw [hy125]; exact H) | exact H
              have Ny125 := Aside0.mk hy125; clear hy125; by_cases c44 : x4_3.length < 17592186044416
              rotate_left
              · rw [if_neg c44] at H; exact absurd H (by simp)
              rw [if_pos c44] at H; have LMc44 := Aside0.mk c44; clear c44; obtain ⟨y126, hy126⟩ : ∃ y_ : List Int, y_ = (x4_3 ++ [rd t118 x50_3]) := ⟨_, rfl⟩
              replace H : (fresh_In.l2 k3 y125 y126 t117 t118 (t118.length : Int) (wrap64 (x50_3 + 1)) l0_0 a0_1 a0_2 l0_3) = some r := by first | (rw [hy126]; with_reducible exact H) | (have H2_ := (Option.bind_some _ _).symm.trans H; rw [hy126]; with_reducible exact H2_) | (have H2_ := (Option.bind_some _ _).symm.trans H; with_reducible exact H2_) | with_reducible exact H | (rw [hy126]; exact H) | exact H
              have Ny126 := Aside0.mk hy126; clear hy126; have H' := Aside0.mk H; clear H; have p121 : 0 ≤ (x50_3 : Int) := of_decide_eq_true hB63; have q121 : x50_3 < (t118.length : Int) := of_decide_eq_true hB63; obtain ⟨ad121, e121, hx121_0⟩ := Kd.at_int (Kd.R_reads' HO_48.out).2.2 x50_3 p121 q121
              cases e121
              replace p121 := eq_true p121; replace q121 := eq_true q121; try go_wp2
              have n0_ := Aside0.mk (Kd.R_drew HO_3.out); have n1_ := Aside0.mk (Kd.Q_drew HO_4.out); have n2_ := Aside0.mk (Kd.R_drew HO_48.out); have n3_ := Aside0.mk (blk_drew BK101.out); have n4_ := Aside0.mk (below_drew1 HB.out); clear HO_3; clear HO_4; clear HO_48; clear BK101; clear HB; have HO_3 := n0_; have HO_4 := n1_; have HO_48 := n2_; have BK101 := n3_; have HB := n4_; clear n0_ n1_ n2_ n3_ n4_; have p122 : 0 ≤ ((rd t118 x50_3) : Int) := of_decide_eq_true hB63; have q122 : (rd t118 x50_3) < (x3_3.length : Int) := of_decide_eq_true hB63; obtain ⟨ad122, e122, hx122_0⟩ := Kd.at_int (Kd.R_reads' HO_3.out).2.2 (rd t118 x50_3) p122 q122; obtain rfl : ad116 = ad122 := (by injection e122); replace p122 := eq_true p122; replace q122 := eq_true q122; have p123 : 0 ≤ ((rd t118 x50_3) : Int) := of_decide_eq_true hB63; have q123 : (rd t118 x50_3) < (x3_3.length : Int) := of_decide_eq_true hB63; obtain ⟨ad123, e123, hx123_0⟩ := Kd.at_int (Kd.R_reads' HO_3.out).2.2 (rd t118 x50_3) p123 q123; obtain rfl : ad116 = ad123 := (by injection e123); replace p123 := eq_true p123; replace q123 := eq_true q123; refine start_ (n := 21) (S := fun w' => w'.cell? (ad116.add ((rd t118 x50_3)).toNat) = some (.int .u8 (rd x3_3 (rd t118 x50_3))) ∧ w'.cell? (ad116.add ((rd t118 x50_3)).toNat) = some (.int .u8 (rd x3_3 (rd t118 x50_3)))) (ds := []) #[false, false, false, false, false, false, false, false, false, false, false, false, false, false, false, false, false, false, false, false, false] (by kernel_rfl) rfl rfl ⟨hx122_0, hx123_0⟩ (fun hHeld => ?_); refine with_tabW fresh_In.tab16 fresh_In.bits16 (fun HT_ HW_ => ?_); generalize wr.drew = w45 at HO_3 HO_4 HO_48 BK101 HB hx122_0 hx123_0 hHeld ⊢; refine pure_ (i := 0) (N := some 54) (v := ?_) (a' := ?_) (mk_ 21 1) rfl rfl (any_of HT_.out (by kernel_rfl)) (fun _ _ _ h => h) (Or.inl ⟨by rfl, ?_⟩) ?_ ?_; rotate_left
              · intro w'; go_simp; with_reducible rfl
              rotate_left
              · simp only [Act.put, List.setIfInBounds_toArray, List.set_cons_zero, List.set_cons_succ, i64_w, i32_w]; rfl
              refine pure_ (i := 1) (N := some 55) (v := ?_) (a' := ?_) (mk_ 21 3) rfl rfl (any_of HT_.out (by kernel_rfl)) (fun _ _ _ h => h) (Or.inl ⟨by rfl, ?_⟩) ?_ ?_; rotate_left
              · intro w'; go_simp; with_reducible rfl
              rotate_left
              · simp only [Act.put, List.setIfInBounds_toArray, List.set_cons_zero, List.set_cons_succ, i64_w, i32_w]; rfl
              refine pure_ (i := 2) (N := some 56) (v := ?_) (a' := ?_) (mk_ 21 7) rfl rfl (any_of HT_.out (by kernel_rfl)) (fun _ _ _ h => h) (Or.inl ⟨by rfl, ?_⟩) ?_ ?_; rotate_left
              · intro w'; go_simp; with_reducible rfl
              rotate_left
              · simp only [Act.put, List.setIfInBounds_toArray, List.set_cons_zero, List.set_cons_succ, i64_w, i32_w]; rfl
              refine pure_ (i := 3) (N := some 57) (v := ?_) (a' := ?_) (mk_ 21 15) rfl rfl (any_of HT_.out (by kernel_rfl)) (fun _ _ _ h => h) (Or.inl ⟨by rfl, ?_⟩) ?_ ?_; rotate_left
              · intro w'; go_simp; with_reducible rfl
              rotate_left
              · simp only [Act.put, List.setIfInBounds_toArray, List.set_cons_zero, List.set_cons_succ, i64_w, i32_w]; rfl
              refine pure_ (i := 4) (N := some 58) (v := ?_) (a' := ?_) (mk_ 21 31) rfl rfl (any_of HT_.out (by kernel_rfl)) (fun _ _ _ h => h) (Or.inl ⟨by rfl, ?_⟩) ?_ ?_; rotate_left
              · intro w'; go_simp; with_reducible rfl
              rotate_left
              · simp only [Act.put, List.setIfInBounds_toArray, List.set_cons_zero, List.set_cons_succ, i64_w, i32_w]; rfl
              refine pure_ (i := 5) (N := some 59) (v := ?_) (a' := ?_) (mk_ 21 63) rfl rfl (any_of HT_.out (by kernel_rfl)) (fun _ _ _ h => h) (Or.inl ⟨by rfl, ?_⟩) ?_ ?_; rotate_left
              · intro w'; go_simp; with_reducible rfl
              rotate_left
              · simp only [Act.put, List.setIfInBounds_toArray, List.set_cons_zero, List.set_cons_succ, i64_w, i32_w]; rfl
              refine pure_ (i := 6) (N := some 60) (v := ?_) (a' := ?_) (mk_ 21 127) rfl rfl (any_of HT_.out (by kernel_rfl)) (fun _ _ _ h => h) (Or.inl ⟨by rfl, ?_⟩) ?_ ?_; rotate_left
              · intro w'; go_simp; with_reducible rfl
              rotate_left
              · simp only [Act.put, List.setIfInBounds_toArray, List.set_cons_zero, List.set_cons_succ, i64_w, i32_w]; rfl
              refine pure_ (i := 7) (N := some 61) (v := ?_) (a' := ?_) (mk_ 21 255) rfl rfl (any_of HT_.out (by kernel_rfl)) (fun _ _ _ h => h) (Or.inl ⟨by rfl, ?_⟩) ?_ ?_; rotate_left
              · intro w'; go_simp; with_reducible rfl
              rotate_left
              · simp only [Act.put, List.setIfInBounds_toArray, List.set_cons_zero, List.set_cons_succ, i64_w, i32_w]; rfl
              refine pure_ (i := 8) (N := some 62) (v := ?_) (a' := ?_) (mk_ 21 511) rfl rfl (any_of HT_.out (by kernel_rfl)) (fun _ _ _ h => h) (Or.inl ⟨by rfl, ?_⟩) ?_ ?_; rotate_left
              · intro w'; go_simp; with_reducible rfl
              rotate_left
              · simp only [Act.put, List.setIfInBounds_toArray, List.set_cons_zero, List.set_cons_succ, i64_w, i32_w]; rfl
              refine pure_ (i := 9) (N := some 63) (v := ?_) (a' := ?_) (mk_ 21 1023) rfl rfl (any_of HT_.out (by kernel_rfl)) (fun _ _ _ h => h) (Or.inl ⟨by rfl, ?_⟩) ?_ ?_; rotate_left
              · intro w'; go_simp; with_reducible rfl
              rotate_left
              · simp only [Act.put, List.setIfInBounds_toArray, List.set_cons_zero, List.set_cons_succ, i64_w, i32_w]; rfl
              refine pure_ (i := 10) (N := some 64) (v := ?_) (a' := ?_) (mk_ 21 2047) rfl rfl (any_of HT_.out (by kernel_rfl)) (fun _ _ _ h => h) (Or.inl ⟨by rfl, ?_⟩) ?_ ?_; rotate_left
              · intro w'; go_simp; with_reducible rfl
              rotate_left
              · simp only [Act.put, List.setIfInBounds_toArray, List.set_cons_zero, List.set_cons_succ, i64_w, i32_w]; rfl
              refine pure_ (i := 11) (N := some 65) (v := ?_) (a' := ?_) (mk_ 21 4095) rfl rfl (any_of HT_.out (by kernel_rfl)) (fun _ _ _ h => h) (Or.inl ⟨by rfl, ?_⟩) ?_ ?_; rotate_left
              · intro w'; go_simp; with_reducible rfl
              rotate_left
              · simp only [Act.put, List.setIfInBounds_toArray, List.set_cons_zero, List.set_cons_succ, i64_w, i32_w]; rfl
              refine pure_ (i := 13) (N := some 67) (v := ?_) (a' := ?_) (mk_ 21 12287) rfl rfl (any_of HT_.out (by kernel_rfl)) (fun _ _ _ h => h) (Or.inl ⟨by rfl, ?_⟩) ?_ ?_; rotate_left
              · intro w'; go_simp; with_reducible rfl
              rotate_left
              · simp only [Act.put, List.setIfInBounds_toArray, List.set_cons_zero, List.set_cons_succ, i64_w, i32_w]; rfl
              refine pure_ (i := 15) (N := some 69) (v := ?_) (a' := ?_) (mk_ 21 45055) rfl rfl (any_of HT_.out (by kernel_rfl)) (fun _ _ _ h => h) (Or.inl ⟨by rfl, ?_⟩) ?_ ?_; rotate_left
              · intro w'; go_simp; with_reducible rfl
              rotate_left
              · simp only [Act.put, List.setIfInBounds_toArray, List.set_cons_zero, List.set_cons_succ, i64_w, i32_w]; rfl
              refine pure_ (i := 16) (N := some 70) (v := ?_) (a' := ?_) (mk_ 21 110591) rfl rfl (any_of HT_.out (by kernel_rfl)) (fun _ _ _ h => h) (Or.inl ⟨by rfl, ?_⟩) ?_ ?_; rotate_left
              · intro w'; go_simp; with_reducible rfl
              rotate_left
              · simp only [Act.put, List.setIfInBounds_toArray, List.set_cons_zero, List.set_cons_succ, i64_w, i32_w]; rfl
              refine pure_ (i := 17) (N := some 71) (v := ?_) (a' := ?_) (mk_ 21 241663) rfl rfl (any_of HT_.out (by kernel_rfl)) (fun _ _ _ h => h) (Or.inl ⟨by rfl, ?_⟩) ?_ ?_; rotate_left
              · intro w'; go_simp; with_reducible rfl
              rotate_left
              · simp only [Act.put, List.setIfInBounds_toArray, List.set_cons_zero, List.set_cons_succ, i64_w, i32_w]; rfl
              refine take_ (i := 12) (N := some 66) (v := ?_) (a' := ?_) (mk_ 21 245759) rfl rfl (take_ofW HT_.out HW_.out (by kernel_rfl)) (fun _ _ _ h => h) (Or.inl ⟨by rfl, ?_⟩) hHeld ?_ ?_; rotate_left
              · rintro w' ⟨s0, s1⟩; go_simp; with_reducible rfl
              rotate_left
              · simp only [Act.put, List.setIfInBounds_toArray, List.set_cons_zero, List.set_cons_succ, i64_w, i32_w]; rfl
              refine pure_ (i := 14) (N := some 68) (v := ?_) (a' := ?_) (mk_ 21 262143) rfl rfl (any_of HT_.out (by kernel_rfl)) (fun _ _ _ h => h) (Or.inl ⟨by rfl, ?_⟩) ?_ ?_; rotate_left
              · intro w'; go_simp; with_reducible rfl
              rotate_left
              · simp only [Act.put, List.setIfInBounds_toArray, List.set_cons_zero, List.set_cons_succ, i64_w, i32_w]; rfl
              refine take_ (i := 18) (N := some 72) (v := ?_) (a' := ?_) (mk_ 21 524287) rfl rfl (take_ofW HT_.out HW_.out (by kernel_rfl)) (fun _ _ _ h => h) (Or.inl ⟨by rfl, ?_⟩) hHeld ?_ ?_; rotate_left
              · rintro w' ⟨s0, s1⟩; go_simp; with_reducible rfl
              rotate_left
              · simp only [Act.put, List.setIfInBounds_toArray, List.set_cons_zero, List.set_cons_succ, i64_w, i32_w]; rfl
              refine pure_ (i := 19) (N := some 73) (v := ?_) (a' := ?_) (mk_ 21 1048575) rfl rfl (any_of HT_.out (by kernel_rfl)) (fun _ _ _ h => h) (Or.inl ⟨by rfl, ?_⟩) ?_ ?_; rotate_left
              · intro w'; go_simp; with_reducible rfl
              rotate_left
              · simp only [Act.put, List.setIfInBounds_toArray, List.set_cons_zero, List.set_cons_succ, i64_w, i32_w]; rfl
              refine pure_ (i := 20) (N := some 74) (v := ?_) (a' := ?_) (mk_ 21 2097151) rfl rfl (any_of HT_.out (by kernel_rfl)) (fun _ _ _ h => h) (Or.inl ⟨by rfl, ?_⟩) ?_ ?_; rotate_left
              · intro w'; go_simp; with_reducible rfl
              rotate_left
              · simp only [Act.put, List.setIfInBounds_toArray, List.set_cons_zero, List.set_cons_succ, i64_w, i32_w]; rfl
              refine done_ (done_of HT_.out (by kernel_rfl)) ?_; have p124 : 0 ≤ ((rd t118 x50_3) : Int) := of_decide_eq_true hB63; have q124 : (rd t118 x50_3) < (x3_3.length : Int) := of_decide_eq_true hB63; obtain ⟨ad124, e124, hx124_0⟩ := Kd.at_int (Kd.R_reads' HO_3.out).2.2 (rd t118 x50_3) p124 q124; obtain rfl : ad116 = ad124 := (by injection e124); replace p124 := eq_true p124; replace q124 := eq_true q124; have p43 : 0 ≤ ((rd t118 x50_3) : Int) := of_decide_eq_true hB63; have q43 : ((rd t118 x50_3) : Int) < ((x3_3.length : Int) : Int) := of_decide_eq_true hB63; obtain ⟨go43, co43, eo43, gb43, gl43, cl43, HG43⟩ := Kd.R_form HO_3.out (by omega)
              (first | cases eo43 | (injection eo43 with ea_ en_ ec_; (first | subst ea_ | (injection ea_ with ea_; subst ea_)); subst ec_; clear en_))
              have GB43 := Aside0.mk gb43; have GG43 := Aside0.mk HG43; clear gb43 gl43 HG43
              (first | simp only [add_plain] at hx116_0 | skip)
              (first | simp only [add_plain] at hx122_0 | skip)
              (first | simp only [add_plain] at hx123_0 | skip)
              (first | simp only [add_plain] at hx124_0 | skip)
              obtain ⟨hx43_0, hf43_0⟩ := Kd.R_celln 0 HO_3.out ((rd t118 x50_3) : Int) p43 q43; replace p43 := eq_true p43; replace q43 := eq_true q43; obtain ⟨hy46_, hz46_⟩ := Kd.R_celln 0 HO_3.out ((rd t118 x50_3) : Int) (of_decide_eq_true hB63) (of_decide_eq_true hB63); have HP46 := Kd.R_putg HO_3.out ((rd t118 x50_3) : Int) (Go.bits .and .u8 (rd x3_3 (rd t118 x50_3)) t117); try go_wp2_with (first | ((with_reducible refine gate_store (t := 5) (p := 81) rfl ?_); refine store_event (t := 5) (p := 81) (v := ?vo_w47) (w1 := (w45.setCell ⟨go43, ((rd t118 x50_3) : Int).toNat, none⟩ (.int .u8 (Go.bits .and .u8 (rd x3_3 (rd t118 x50_3)) t117)))) ?hg ?ho ?hn ?hr ?_; (case ho => rfl); (case hg => rfl); (case hn => rfl); (case hr => first | (go_simp; done) | (go_simp; rfl)); intro w47 hw; have hg : w45.grownBy w47 (some go43) := (by rw [hw]; exact HP46.2); have hp_ : Kd.R (Kd.int .u8) 5 w47 w.heap.size (fun _ => True) (.slice (some ⟨go43, 0, none⟩) x3_3.length co10) y125 := (by rw [hw, Ny125.out]; exact HP46.1); clear HP46; have n0_ := Aside0.mk (hp_); have n1_ := Aside0.mk (Kd.Q_over' (v := (.slice (some ⟨go43, 0, none⟩) x3_3.length co10)) hB9 (Kd.R_typed HO_3.out) (by decide) hg); have n2_ := Aside0.mk (Kd.R_over' (v := (.slice (some ⟨go43, 0, none⟩) x3_3.length co10)) (by (with_reducible repeat (first | apply Kd.R_alloc | apply Kd.R_drewN | apply Kd.R_drew)); exact HO_48.out) (Kd.R_typed HO_3.out) (by decide) hg); have n3_ := Aside0.mk (blk_grown (g := gb101) (o := .cells #[.slice A0_0 l0_0.length c0_0, .string a0_1, .string a0_2, .slice A0_3 l0_3.length c0_3] 25 (0, 0)) hB40 hg (Kd.R_ne HO_3.out BK101.out (by decide))); have n4_ := Aside0.mk ((by rw [hw]; exact below_set (HB.out) GB43.out : Below w.heap.size w w47)); clear HO_3; clear HO_4; clear HO_48; clear BK101; clear HB; have HO_3 := n0_; have HO_4 := n1_; have HO_48 := n2_; have BK101 := n3_; have HB := n4_; clear n0_ n1_ n2_ n3_ n4_; clear hg hw hp_) | ((with_reducible refine gate_builtin (b := .append) (xs := #[.tmp 82, .tmp 84]) rfl ?_); (try (refine gate_guard (by rfl) ?_; dsimp only)); at_builtin; refine Kd.Q_append (Kd.int .i64) (w0 := w) w.heap.size rfl (.tmp 82) (.tmp 84) 39 3 (.int .i64 0) 8 rfl Tryd.underlying39 info3 rfl (by decide) (by omega) u4 x4_3 (rd t118 x50_3) [.int .i64 (rd t118 x50_3)] (fun k_ => some k_ ≠ (.slice (some ad121) t118.length co34 : Value).ownBlock) (fun _ => False) rfl rfl ?aP (fun _ hk => hk.elim) ?aF ?aO ?aB ?aS ?aL ?_; (case aP => exact rfl); (case aB => exact hB72); (case aF => exact (fun k_ hk => Kd.fresh' (Kd.R_lt (by (with_reducible repeat (first | apply Kd.R_alloc | apply Kd.R_drewN | apply Kd.R_drew)); exact HO_48.out)) k_ hk)); (case aO => exact hB9); (case aS => exact (below_size hB72)); (case aL => have := LMc44.out; omega); intro v127 w48 ho hb hg hat; rw [← Ny126.out] at ho; have n0_ := Aside0.mk (Kd.R_over' hB38 (Kd.Q_typed hB9) (by decide) hg); have n1_ := Aside0.mk (Kd.R_after (ok := (fun _ => True)) (by (with_reducible repeat (first | apply Kd.R_alloc | apply Kd.R_drewN | apply Kd.R_drew)); exact Kd.R_mono HO_48.out (fun _ hk => ⟨trivial, hk⟩)) hg hat); have n2_ := Aside0.mk (blk_grown (g := gb101) (o := .cells #[.slice A0_0 l0_0.length c0_0, .string a0_1, .string a0_2, .slice A0_3 l0_3.length c0_3] 25 (0, 0)) hB40 hg (Kd.Q_ne HO_4.out BK101.out (by decide))); have n3_ := Aside0.mk (hb); have n4_ := Aside0.mk (ho); clear HO_3; clear HO_48; clear BK101; clear HB; clear HO_4; have HO_3 := n0_; have HO_48 := n1_; have BK101 := n2_; have HB := n3_; have HO128 := n4_; clear n0_ n1_ n2_ n3_ n4_; clear ho hb hg hat))
              go_roundg k3
              case measure => have := HK1.out; have := HK2.out; have := HK3.out; omega
              case rel => exact ⟨(y125), (y126), (wrap64 (x50_3 + 1)), hB64, H', ⟨hB70⟩, ⟨hB3⟩, ⟨by (try simp only [hl3_1]); (try simp only [hl3_2]); (try simp only [hl3_3]); (with_reducible repeat (first | apply Kd.Q_alloc | apply Kd.Q_drewN | apply Kd.Q_drew)); exact HO128.out⟩, ⟨by (try simp only [hl3_1]); (try simp only [hl3_2]); (try simp only [hl3_3]); (with_reducible repeat (first | apply Kd.R_alloc | apply Kd.R_drewN | apply Kd.R_drew)); exact Kd.R_mono HO_48.out (fun _ hk => hk.2)⟩, ⟨hB5⟩, ⟨hB72⟩⟩
end Go.Proofs.YtkplgfhkebkaaaaDoor.ZD

namespace Go.Proofs.YtkplgfhkebkaaaaDoor.ZD
open Go.RowKit Go.Proofs.YtkplgfhkebkaaaaDoorW.PrintWords Go.Proofs.YtkplgfhkebkaaaaDoorW.PrintLast Go.Proofs.YtkplgfhkebkaaaaDoorW.PrintMore
attribute [local go_sem] max2_int min2_int max_two min_two max_three min_three max_four min_four
set_option linter.unusedVariables false
set_option linter.unusedSimpArgs false
open Go.Proofs.YtkplgfhkebkaaaaDoor.F
open Go.Proofs.YtkplgfhkebkaaaaDoor.FG
open Go.Proofs.YtkplgfhkebkaaaaDoor.V
open Go.Proofs.YtkplgfhkebkaaaaDoor.Z
end Go.Proofs.YtkplgfhkebkaaaaDoor.ZD

/- Texts of this claim, pruned to what it needs and laid together by prune.py. -/
import Derived.Test.YtkmkfiidlbhcgaaDoorProg
import Derived.Below
import Derived.Deep.Draws
import Derived.Deep.AppendLies
import Derived.Maps.AppendAt
import Derived.OwnWalk
import Derived.Laws.BytesArg
import Derived.Laws.MakeOwn
import Derived.Laws.OwnMore
import Derived.Deep.OwnRows
import Derived.Tactics
import Derived.Lib.ConvBytes
import Derived.Laws.Slices
import Derived.WalkKit
import Derived.KernelRfl
import Derived.RowKit3
import Derived.Deep.LoopGhost
import Derived.Deep.QuietTactic
import Derived.BigQuiet
import Derived.WideLaws
import Derived.Deep.DeepCutAuto
import Derived.Deep.CutBlock
import Derived.Deep.RegionHeld3
import Derived.Laws.Rows
import Derived.Lib.AppendStr
import Derived.ArgAppend
import Derived.Laws.IdiomCopy
import Derived.OrdersHeld
import Derived.Laws.BitsLemmas
import Derived.RowKit
import Derived.Test.YtkmkfiidlbhcgaaDoorMB24
import Derived.Test.YtkmkfiidlbhcgaaDoorMB2
import Derived.Test.YtkmkfiidlbhcgaaDoorMB29
import Derived.Test.YtkmkfiidlbhcgaaDoorMB26
import Derived.Test.YtkmkfiidlbhcgaaDoorMB30
import Derived.Test.YtkmkfiidlbhcgaaDoorMB31
import Derived.Test.YtkmkfiidlbhcgaaDoorMB1
import Derived.Test.YtkmkfiidlbhcgaaDoorMB3
import Derived.Test.YtkmkfiidlbhcgaaDoorMB4
import Derived.Test.YtkmkfiidlbhcgaaDoorMB5
import Derived.Test.YtkmkfiidlbhcgaaDoorMB6
import Derived.Test.YtkmkfiidlbhcgaaDoorMB7
import Derived.Test.YtkmkfiidlbhcgaaDoorMB8
import Derived.Test.YtkmkfiidlbhcgaaDoorMB9
import Derived.Test.YtkmkfiidlbhcgaaDoorMB10
import Derived.Test.YtkmkfiidlbhcgaaDoorMB11
import Derived.Test.YtkmkfiidlbhcgaaDoorMB12
import Derived.Test.YtkmkfiidlbhcgaaDoorMB13
import Derived.Test.YtkmkfiidlbhcgaaDoorMB14
import Derived.Test.YtkmkfiidlbhcgaaDoorMB15
import Derived.Test.YtkmkfiidlbhcgaaDoorMB16
import Derived.Test.YtkmkfiidlbhcgaaDoorMB17
import Derived.Test.YtkmkfiidlbhcgaaDoorMB18
import Derived.Test.YtkmkfiidlbhcgaaDoorMB19
import Derived.Test.YtkmkfiidlbhcgaaDoorMB20
import Derived.Test.YtkmkfiidlbhcgaaDoorMB21
import Derived.Test.YtkmkfiidlbhcgaaDoorMB22
namespace Go.Proofs.YtkmkfiidlbhcgaaDoor.L8Dead
open Go.RowKit Go.Proofs.YtkmkfiidlbhcgaaDoorW.PrintWords Go.Proofs.YtkmkfiidlbhcgaaDoorW.PrintLast Go.Proofs.YtkmkfiidlbhcgaaDoorW.PrintMore
attribute [local go_sem] max2_int min2_int max_two min_two max_three min_three max_four min_four
set_option linter.unusedVariables false
set_option linter.unusedSimpArgs false
open Go.Proofs.YtkmkfiidlbhcgaaDoor.F
open Go.Proofs.YtkmkfiidlbhcgaaDoor.FM
open Go.Proofs.YtkmkfiidlbhcgaaDoor.H
open Go.Proofs.YtkmkfiidlbhcgaaDoor.V
open Go.Proofs.YtkmkfiidlbhcgaaDoor.LG
open Go.Proofs.YtkmkfiidlbhcgaaDoor.GL
noncomputable def rd_L1 (xs : List (List ByteArray)) (i : Int) : (List ByteArray) := xs.getD i.toNat ([] : List ByteArray)
noncomputable def rd_L5 (xs : List (List S36)) (i : Int) : (List S36) := xs.getD i.toNat ([] : List S36)
noncomputable def rd_L6 (xs : List (List Int)) (i : Int) : (List Int) := xs.getD i.toNat ([] : List Int)
end Go.Proofs.YtkmkfiidlbhcgaaDoor.L8Dead

namespace Go.Proofs.YtkmkfiidlbhcgaaDoor.L8Dead
open Go.RowKit Go.Proofs.YtkmkfiidlbhcgaaDoorW.PrintWords Go.Proofs.YtkmkfiidlbhcgaaDoorW.PrintLast Go.Proofs.YtkmkfiidlbhcgaaDoorW.PrintMore
attribute [local go_sem] max2_int min2_int max_two min_two max_three min_three max_four min_four
set_option linter.unusedVariables false
set_option linter.unusedSimpArgs false
open Go.Proofs.YtkmkfiidlbhcgaaDoor.F
open Go.Proofs.YtkmkfiidlbhcgaaDoor.FM
open Go.Proofs.YtkmkfiidlbhcgaaDoor.H
open Go.Proofs.YtkmkfiidlbhcgaaDoor.V
open Go.Proofs.YtkmkfiidlbhcgaaDoor.LG
open Go.Proofs.YtkmkfiidlbhcgaaDoor.GL
end Go.Proofs.YtkmkfiidlbhcgaaDoor.L8Dead

namespace Go.Proofs.YtkmkfiidlbhcgaaDoor.L8Dead
open Go.RowKit Go.Proofs.YtkmkfiidlbhcgaaDoorW.PrintWords Go.Proofs.YtkmkfiidlbhcgaaDoorW.PrintLast Go.Proofs.YtkmkfiidlbhcgaaDoorW.PrintMore
attribute [local go_sem] max2_int min2_int max_two min_two max_three min_three max_four min_four
set_option linter.unusedVariables false
set_option linter.unusedSimpArgs false
open Go.Proofs.YtkmkfiidlbhcgaaDoor.F
open Go.Proofs.YtkmkfiidlbhcgaaDoor.FM
open Go.Proofs.YtkmkfiidlbhcgaaDoor.H
open Go.Proofs.YtkmkfiidlbhcgaaDoor.V
open Go.Proofs.YtkmkfiidlbhcgaaDoor.LG
open Go.Proofs.YtkmkfiidlbhcgaaDoor.GL
noncomputable def lockstitchlaw08_LiveDead.l0 : Nat → Int → List Int → List (S36) → Int → Int → List ByteArray → ByteArray → ByteArray → List (S36) → Option (Bool)
  | 0, _, _, _, _, _, _, _, _, _ => none
  | k + 1, x1, x5, x25, x26, x27, x102000, x102001, x102002, x102003 => if x27 < x26 then (if 0 ≤ x27 then (if x27 < (x25.length : Int) then ((live_Sets.f k ((rd_T36 x25 x27).f0) ((rd_T36 x25 x27).f1) ((rd_T36 x25 x27).f2) ((rd_T36 x25 x27).f3) ((rd_T36 x25 x27).f4)).bind fun t113 => ((live_Uses.f k ((rd_T36 x25 x27).f0) ((rd_T36 x25 x27).f1) ((rd_T36 x25 x27).f2) ((rd_T36 x25 x27).f3) ((rd_T36 x25 x27).f4)).bind fun t114 => (if x27 < (x5.length : Int) then (if (Go.bits .and .u8 (rd x5 x27) (Go.bits .andNot .u8 t113 t114)) = 0 then ((live_Uses.f k ((rd_T36 x25 x27).f0) ((rd_T36 x25 x27).f1) ((rd_T36 x25 x27).f2) ((rd_T36 x25 x27).f3) ((rd_T36 x25 x27).f4)).bind fun t116 => (if (Go.bits .andNot .u8 t116 (rd x5 x27)) = 0 then (lockstitchlaw08_LiveDead.l0 k x1 x5 x25 x26 (wrap64 (x27 + 1)) x102000 x102001 x102002 x102003) else (some false))) else (some false)) else (none)))) else (none)) else (none)) else (if (x102003.length : Int) = 0 then (none) else (if 0 ≤ (Int.tmod (wrap64 (x1)) (x102003.length : Int)) then (if (Int.tmod (wrap64 (x1)) (x102003.length : Int)) < (x102003.length : Int) then (if ((rd_T36 x102003 (Int.tmod (wrap64 (x1)) (x102003.length : Int))).f0) = 3 then (if (Int.tmod (wrap64 (x1)) (x102003.length : Int)) < (x5.length : Int) then (if 0 ≤ ((rd_T36 x102003 (Int.tmod (wrap64 (x1)) (x102003.length : Int))).f4) then (if ((rd_T36 x102003 (Int.tmod (wrap64 (x1)) (x102003.length : Int))).f4) < (x5.length : Int) then (some ((rd x5 (Int.tmod (wrap64 (x1)) (x102003.length : Int))) == (rd x5 ((rd_T36 x102003 (Int.tmod (wrap64 (x1)) (x102003.length : Int))).f4)))) else (none)) else (none)) else (none)) else (some true)) else (none)) else (none)))
noncomputable def lockstitchlaw08_LiveDead.f (k : Nat) (l0_0 : List ByteArray) (a0_1 : ByteArray) (a0_2 : ByteArray) (l0_3 : List (S36)) (a1 : Int) : Option (Bool) := (lockstitchlaw08_alive.f k).bind fun t102 => (if t102 = true then ((lockstitchlaw07_Sound.f k l0_0 a0_1 a0_2 l0_3).bind fun t103 => (if t103 = true then ((live_In.f l0_0 a0_1 a0_2 l0_3).bind fun t104 => (if (t104.length : Int) = (wrap64 ((l0_3.length : Int) + 1)) then (lockstitchlaw08_LiveDead.l0 k a1 t104 l0_3 (l0_3.length : Int) 0 l0_0 a0_1 a0_2 l0_3) else (some false))) else (some true))) else (some false))
noncomputable def lockstitchlaw08_LiveDead.T12 : Bool × List (List Nat × List Nat) := (true, [([], []), ([], []), ([0, 1], [0, 1]), ([2], [2]), ([], []), ([3, 4], [3, 4]), ([5], [5]), ([6], [6]), ([7], [7]), ([8, 7, 7], [7, 8]), ([7], [7]), ([7], [7]), ([10, 11, 7], [7, 10, 11]), ([12, 7], [7, 12]), ([9, 13, 7], [7, 9, 13]), ([14, 7], [7, 14]), ([7, 15], [7, 15])])
noncomputable def lockstitchlaw08_LiveDead.B12 : List Nat := [0, 0, 3, 7, 0, 31, 63, 127, 255, 511, 255, 255, 3327, 7423, 16383, 32767, 65535]
theorem lockstitchlaw08_LiveDead.tab12 : rtab .any (opsOf Tryd.f11 12) = lockstitchlaw08_LiveDead.T12 := by kernel_rfl
theorem lockstitchlaw08_LiveDead.bits12 : waitsOk lockstitchlaw08_LiveDead.T12.2 lockstitchlaw08_LiveDead.B12 = true := by kernel_rfl
noncomputable def lockstitchlaw08_LiveDead.T16 : Bool × List (List Nat × List Nat) := (true, [([], []), ([0], [0]), ([], []), ([1, 2], [1, 2]), ([3], [3]), ([4], [4]), ([5], [5]), ([6], [6]), ([7], [7]), ([7], [7]), ([8, 9, 7], [7, 8, 9]), ([10, 7], [7, 10]), ([7], [7]), ([7], [7]), ([13, 7], [7, 13]), ([7], [7]), ([14, 15, 7], [7, 14, 15]), ([16, 7], [7, 16]), ([17, 7], [7, 17]), ([12, 18, 7], [7, 12, 18]), ([19, 7], [7, 19]), ([11, 20, 7], [7, 11, 20]), ([7, 21], [7, 21]), ([22, 7, 0, 1, 2, 3, 4, 5, 6, 7, 8, 9, 10, 11, 12, 13, 14, 15, 16, 17, 18, 19, 20, 21, 22], [22])])
noncomputable def lockstitchlaw08_LiveDead.B16 : List Nat := [0, 1, 0, 7, 15, 31, 63, 127, 255, 255, 1023, 2047, 255, 255, 8447, 255, 57599, 123135, 254207, 520447, 1044735, 2097151, 4194303, 8388607]
theorem lockstitchlaw08_LiveDead.tab16 : rtab .any (opsOf Tryd.f11 16) = lockstitchlaw08_LiveDead.T16 := by kernel_rfl
theorem lockstitchlaw08_LiveDead.bits16 : waitsOk lockstitchlaw08_LiveDead.T16.2 lockstitchlaw08_LiveDead.B16 = true := by kernel_rfl
set_option maxHeartbeats 8000000 in
set_option maxRecDepth 100000 in
theorem lockstitchlaw08_LiveDead.calls (k : Nat) (A0_0 : Option Addr) (c0_0 : Nat) (l0_0 : List ByteArray) (a0_1 : ByteArray) (a0_2 : ByteArray) (A0_3 : Option Addr) (c0_3 : Nat) (l0_3 : List (S36)) (a1 : Int) (r : Bool) (w : World) (hr0_0 : Kd.C Kd.string w A0_0 l0_0.length l0_0) (hc0_0 : l0_0.length ≤ c0_0) (hr0_3 : Kd.C k36 w A0_3 l0_3.length l0_3) (hc0_3 : l0_3.length ≤ c0_3) (h : lockstitchlaw08_LiveDead.f k l0_0 a0_1 a0_2 l0_3 a1 = some r) (htab : TB w) :
    Calls Tryd.prog 11 #[.agg #[.slice A0_0 l0_0.length c0_0, .string a0_1, .string a0_2, .slice A0_3 l0_3.length c0_3], .int .u8 a1] w fun e w' => e = .returned (.bool r) ∧ Below w.heap.size w w' := by
  have HTB := Aside0.mk htab
  clear htab
  have hu25 := Tryd.underlying25
  have hu36 := Tryd.underlying36
  have HR0_0 := Aside0.mk hr0_0
  have HC0_0 := Aside0.mk hc0_0
  clear hr0_0 hc0_0
  have HR0_3 := Aside0.mk hr0_3
  have HC0_3 := Aside0.mk hc0_3
  clear hr0_3 hc0_3
  have HB := Aside0.mk (Below.refl w.heap.size w)
  have H : ((lockstitchlaw08_alive.f k).bind fun t102 => (if t102 = true then ((lockstitchlaw07_Sound.f k l0_0 a0_1 a0_2 l0_3).bind fun t103 => (if t103 = true then ((live_In.f l0_0 a0_1 a0_2 l0_3).bind fun t104 => (if (t104.length : Int) = (wrap64 ((l0_3.length : Int) + 1)) then (lockstitchlaw08_LiveDead.l0 k a1 t104 l0_3 (l0_3.length : Int) 0 l0_0 a0_1 a0_2 l0_3) else (some false))) else (some true))) else (some false))) = some r := h
  clear h
  replace H := Option.bind_eq_some_iff.mp H
  obtain ⟨t102, A30, H⟩ := H
  replace H : (if t102 = true then ((lockstitchlaw07_Sound.f k l0_0 a0_1 a0_2 l0_3).bind fun t103 => (if t103 = true then ((live_In.f l0_0 a0_1 a0_2 l0_3).bind fun t104 => (if (t104.length : Int) = (wrap64 ((l0_3.length : Int) + 1)) then (lockstitchlaw08_LiveDead.l0 k a1 t104 l0_3 (l0_3.length : Int) 0 l0_0 a0_1 a0_2 l0_3) else (some false))) else (some true))) else (some false)) = some r := H
  have A3 := Aside0.mk A30
  clear A30
  by_cases c4 : t102 = true
  rotate_left
  · replace c4 := Bool.eq_false_iff.mpr c4
    subst c4
    have H1 : (some false) = some r := by rw [if_neg (show ¬ (false = true) by decide)] at H; exact H
    clear H
    have H := H1
    clear H1
    obtain rfl := Option.some.inj H
    go_enter Tryd.func11, Tryd.ntmps11
    go_wp2_with (first | ((with_reducible refine gate_dst (N := 2) rfl ?_); refine box_event ?hg (N := 2) ?hd (cs := #[.slice A0_0 l0_0.length c0_0, .string a0_1, .string a0_2, .slice A0_3 l0_3.length c0_3]) (t := 25) ?hr ?_; (case hd => rfl); (case hg => rfl); (case hr => first | (go_simp; done) | (go_simp; rfl)); intro gb101 hg w76 hbox hb; have n0_ := Aside0.mk (below_step hB101 hb); have n1_ := Aside0.mk (hbox); have n2_ := Aside0.mk ((by rw [hg]; exact (below_size hB101) : w.heap.size ≤ gb101)); have n3_ := Aside0.mk ((by rw [hg]; exact (below_size hB101) : w.heap.size ≤ gb101)); clear HB; have HB := n0_; have BK101 := n1_; have GW101 := n2_; have GE101 := n3_; clear n0_ n1_ n2_ n3_; clear hb hbox hg) | ((with_reducible refine gate_callee (f := 29) rfl ?_); refine goesL_ (some 10) rfl rfl Tryd.func29 (by kernel_rfl) rfl #[] rfl hB1 ?_; (with_reducible refine (lockstitchlaw08_alive.calls k  false _ A3.out).mono ?_); rintro e w77 ⟨rfl, hb⟩; refine ⟨_, rfl, ?_⟩; have n0_ := Aside0.mk (blk_below (g := gb101) (o := .cells #[.slice A0_0 l0_0.length c0_0, .string a0_1, .string a0_2, .slice A0_3 l0_3.length c0_3] 25 (0, 0)) hB26 hb); have n1_ := Aside0.mk (below_step hB69 hb); clear BK101; clear HB; have BK101 := n0_; have HB := n1_; clear n0_ n1_; (try clear hb); (try clear hb2); (try clear hk); (try clear hi)))
    go_ret
    exact ⟨by first | rfl | (simp [errW_none, errW_some] <;> rfl) | (simp [*, errW_none, errW_some] <;> rfl), hB69⟩
  subst c4
  have H1 : ((lockstitchlaw07_Sound.f k l0_0 a0_1 a0_2 l0_3).bind fun t103 => (if t103 = true then ((live_In.f l0_0 a0_1 a0_2 l0_3).bind fun t104 => (if (t104.length : Int) = (wrap64 ((l0_3.length : Int) + 1)) then (lockstitchlaw08_LiveDead.l0 k a1 t104 l0_3 (l0_3.length : Int) 0 l0_0 a0_1 a0_2 l0_3) else (some false))) else (some true))) = some r := by rw [if_pos rfl] at H; exact H
  clear H
  have H := H1
  clear H1
  replace H := Option.bind_eq_some_iff.mp H
  obtain ⟨t103, A50, H⟩ := H
  replace H : (if t103 = true then ((live_In.f l0_0 a0_1 a0_2 l0_3).bind fun t104 => (if (t104.length : Int) = (wrap64 ((l0_3.length : Int) + 1)) then (lockstitchlaw08_LiveDead.l0 k a1 t104 l0_3 (l0_3.length : Int) 0 l0_0 a0_1 a0_2 l0_3) else (some false))) else (some true)) = some r := H
  have A5 := Aside0.mk A50
  clear A50
  by_cases c6 : t103 = true
  rotate_left
  · replace c6 := Bool.eq_false_iff.mpr c6
    subst c6
    have H1 : (some true) = some r := by rw [if_neg (show ¬ (false = true) by decide)] at H; exact H
    clear H
    have H := H1
    clear H1
    obtain rfl := Option.some.inj H
    go_enter Tryd.func11, Tryd.ntmps11
    go_wp2_with (first | ((with_reducible refine gate_dst (N := 2) rfl ?_); refine box_event ?hg (N := 2) ?hd (cs := #[.slice A0_0 l0_0.length c0_0, .string a0_1, .string a0_2, .slice A0_3 l0_3.length c0_3]) (t := 25) ?hr ?_; (case hd => rfl); (case hg => rfl); (case hr => first | (go_simp; done) | (go_simp; rfl)); intro gb101 hg w72 hbox hb; have n0_ := Aside0.mk (below_step hB101 hb); have n1_ := Aside0.mk (hbox); have n2_ := Aside0.mk ((by rw [hg]; exact (below_size hB101) : w.heap.size ≤ gb101)); have n3_ := Aside0.mk ((by rw [hg]; exact (below_size hB101) : w.heap.size ≤ gb101)); clear HB; have HB := n0_; have BK101 := n1_; have GW101 := n2_; have GE101 := n3_; clear n0_ n1_ n2_ n3_; clear hb hbox hg) | ((with_reducible refine gate_callee (f := 29) rfl ?_); refine goesL_ (some 10) rfl rfl Tryd.func29 (by kernel_rfl) rfl #[] rfl hB1 ?_; (with_reducible refine (lockstitchlaw08_alive.calls k  true _ A3.out).mono ?_); rintro e w73 ⟨rfl, hb⟩; refine ⟨_, rfl, ?_⟩; have n0_ := Aside0.mk (blk_below (g := gb101) (o := .cells #[.slice A0_0 l0_0.length c0_0, .string a0_1, .string a0_2, .slice A0_3 l0_3.length c0_3] 25 (0, 0)) hB26 hb); have n1_ := Aside0.mk (below_step hB69 hb); clear BK101; clear HB; have BK101 := n0_; have HB := n1_; clear n0_ n1_; (try clear hb); (try clear hb2); (try clear hk); (try clear hi); have hcz74_0 : w73.cell? ⟨gb101, 0, none⟩ = some (.slice A0_0 l0_0.length c0_0) := (blk_cell BK101.out 0).trans rfl; have hcz74_1 : w73.cell? ⟨gb101, 1, none⟩ = some (.string a0_1) := (blk_cell BK101.out 1).trans rfl; have hcz74_2 : w73.cell? ⟨gb101, 2, none⟩ = some (.string a0_2) := (blk_cell BK101.out 2).trans rfl; have hcz74_3 : w73.cell? ⟨gb101, 3, none⟩ = some (.slice A0_3 l0_3.length c0_3) := (blk_cell BK101.out 3).trans rfl; have hfz74_0 := blk_frozen BK101.out 0; have hfz74_1 := blk_frozen BK101.out 1; have hfz74_2 := blk_frozen BK101.out 2; have hfz74_3 := blk_frozen BK101.out 3) | ((with_reducible refine gate_callee (f := 19) rfl ?_); refine goesL_ (some 13) rfl rfl Tryd.func19 (by kernel_rfl) rfl #[.agg #[.slice A0_0 l0_0.length c0_0, .string a0_1, .string a0_2, .slice A0_3 l0_3.length c0_3]] rfl hB1 ?_; (with_reducible refine (lockstitchlaw07_Sound.calls k _ _ l0_0 a0_1 a0_2 _ _ l0_3 false _ ?side1 ?side2 ?side3 ?side4 A5.out (TB_below HTB.out hB69)).mono ?_); (case side1 => repeat (first | exact (Kd.C_below HR0_0.out HB.out) | (with_reducible refine Kd.C_alloc ?_ _) | (with_reducible refine Kd.C_drewN ?_ _) | (with_reducible refine Kd.C_drew ?_))); (case side2 => exact HC0_0.out); (case side3 => repeat (first | exact (Kd.C_below HR0_3.out HB.out) | (with_reducible refine Kd.C_alloc ?_ _) | (with_reducible refine Kd.C_drewN ?_ _) | (with_reducible refine Kd.C_drew ?_))); (case side4 => exact HC0_3.out); rintro e w75 ⟨rfl, hb⟩; refine ⟨_, rfl, ?_⟩; have n0_ := Aside0.mk (blk_below (g := gb101) (o := .cells #[.slice A0_0 l0_0.length c0_0, .string a0_1, .string a0_2, .slice A0_3 l0_3.length c0_3] 25 (0, 0)) hB26 hb); have n1_ := Aside0.mk (below_step hB69 hb); clear BK101; clear HB; have BK101 := n0_; have HB := n1_; clear n0_ n1_; (try clear hb); (try clear hb2); (try clear hk); (try clear hi)))
    go_ret
    exact ⟨by first | rfl | (simp [errW_none, errW_some] <;> rfl) | (simp [*, errW_none, errW_some] <;> rfl), hB69⟩
  subst c6
  have H1 : ((live_In.f l0_0 a0_1 a0_2 l0_3).bind fun t104 => (if (t104.length : Int) = (wrap64 ((l0_3.length : Int) + 1)) then (lockstitchlaw08_LiveDead.l0 k a1 t104 l0_3 (l0_3.length : Int) 0 l0_0 a0_1 a0_2 l0_3) else (some false))) = some r := by rw [if_pos rfl] at H; exact H
  clear H
  have H := H1
  clear H1
  replace H := Option.bind_eq_some_iff.mp H
  obtain ⟨t104, A70, H⟩ := H
  replace H : (if (t104.length : Int) = (wrap64 ((l0_3.length : Int) + 1)) then (lockstitchlaw08_LiveDead.l0 k a1 t104 l0_3 (l0_3.length : Int) 0 l0_0 a0_1 a0_2 l0_3) else (some false)) = some r := H
  have A7 := Aside0.mk A70
  clear A70
  by_cases c8 : (t104.length : Int) = (wrap64 ((l0_3.length : Int) + 1))
  rotate_left
  · rw [if_neg c8] at H
    have c8b0 : ((t104.length : Int) == (wrap64 ((l0_3.length : Int) + 1))) = false := beq_eq_false_iff_ne.mpr c8
    have c8b1 : ((t104.length : Int) != (wrap64 ((l0_3.length : Int) + 1))) = true := bne_iff_ne.mpr c8
    obtain rfl := Option.some.inj H
    go_enter Tryd.func11, Tryd.ntmps11
    go_wp2_with (first | ((with_reducible refine gate_dst (N := 2) rfl ?_); refine box_event ?hg (N := 2) ?hd (cs := #[.slice A0_0 l0_0.length c0_0, .string a0_1, .string a0_2, .slice A0_3 l0_3.length c0_3]) (t := 25) ?hr ?_; (case hd => rfl); (case hg => rfl); (case hr => first | (go_simp; done) | (go_simp; rfl)); intro gb101 hg w64 hbox hb; have n0_ := Aside0.mk (below_step hB101 hb); have n1_ := Aside0.mk (hbox); have n2_ := Aside0.mk ((by rw [hg]; exact (below_size hB101) : w.heap.size ≤ gb101)); have n3_ := Aside0.mk ((by rw [hg]; exact (below_size hB101) : w.heap.size ≤ gb101)); clear HB; have HB := n0_; have BK101 := n1_; have GW101 := n2_; have GE101 := n3_; clear n0_ n1_ n2_ n3_; clear hb hbox hg) | ((with_reducible refine gate_callee (f := 29) rfl ?_); refine goesL_ (some 10) rfl rfl Tryd.func29 (by kernel_rfl) rfl #[] rfl hB1 ?_; (with_reducible refine (lockstitchlaw08_alive.calls k  true _ A3.out).mono ?_); rintro e w65 ⟨rfl, hb⟩; refine ⟨_, rfl, ?_⟩; have n0_ := Aside0.mk (blk_below (g := gb101) (o := .cells #[.slice A0_0 l0_0.length c0_0, .string a0_1, .string a0_2, .slice A0_3 l0_3.length c0_3] 25 (0, 0)) hB26 hb); have n1_ := Aside0.mk (below_step hB69 hb); clear BK101; clear HB; have BK101 := n0_; have HB := n1_; clear n0_ n1_; (try clear hb); (try clear hb2); (try clear hk); (try clear hi); have hcz66_0 : w65.cell? ⟨gb101, 0, none⟩ = some (.slice A0_0 l0_0.length c0_0) := (blk_cell BK101.out 0).trans rfl; have hcz66_1 : w65.cell? ⟨gb101, 1, none⟩ = some (.string a0_1) := (blk_cell BK101.out 1).trans rfl; have hcz66_2 : w65.cell? ⟨gb101, 2, none⟩ = some (.string a0_2) := (blk_cell BK101.out 2).trans rfl; have hcz66_3 : w65.cell? ⟨gb101, 3, none⟩ = some (.slice A0_3 l0_3.length c0_3) := (blk_cell BK101.out 3).trans rfl; have hfz66_0 := blk_frozen BK101.out 0; have hfz66_1 := blk_frozen BK101.out 1; have hfz66_2 := blk_frozen BK101.out 2; have hfz66_3 := blk_frozen BK101.out 3) | ((with_reducible refine gate_callee (f := 19) rfl ?_); refine goesL_ (some 13) rfl rfl Tryd.func19 (by kernel_rfl) rfl #[.agg #[.slice A0_0 l0_0.length c0_0, .string a0_1, .string a0_2, .slice A0_3 l0_3.length c0_3]] rfl hB1 ?_; (with_reducible refine (lockstitchlaw07_Sound.calls k _ _ l0_0 a0_1 a0_2 _ _ l0_3 true _ ?side1 ?side2 ?side3 ?side4 A5.out (TB_below HTB.out hB69)).mono ?_); (case side1 => repeat (first | exact (Kd.C_below HR0_0.out HB.out) | (with_reducible refine Kd.C_alloc ?_ _) | (with_reducible refine Kd.C_drewN ?_ _) | (with_reducible refine Kd.C_drew ?_))); (case side2 => exact HC0_0.out); (case side3 => repeat (first | exact (Kd.C_below HR0_3.out HB.out) | (with_reducible refine Kd.C_alloc ?_ _) | (with_reducible refine Kd.C_drewN ?_ _) | (with_reducible refine Kd.C_drew ?_))); (case side4 => exact HC0_3.out); rintro e w67 ⟨rfl, hb⟩; refine ⟨_, rfl, ?_⟩; have n0_ := Aside0.mk (blk_below (g := gb101) (o := .cells #[.slice A0_0 l0_0.length c0_0, .string a0_1, .string a0_2, .slice A0_3 l0_3.length c0_3] 25 (0, 0)) hB26 hb); have n1_ := Aside0.mk (below_step hB69 hb); clear BK101; clear HB; have BK101 := n0_; have HB := n1_; clear n0_ n1_; (try clear hb); (try clear hb2); (try clear hk); (try clear hi); have hcz68_0 : w67.cell? ⟨gb101, 0, none⟩ = some (.slice A0_0 l0_0.length c0_0) := (blk_cell BK101.out 0).trans rfl; have hcz68_1 : w67.cell? ⟨gb101, 1, none⟩ = some (.string a0_1) := (blk_cell BK101.out 1).trans rfl; have hcz68_2 : w67.cell? ⟨gb101, 2, none⟩ = some (.string a0_2) := (blk_cell BK101.out 2).trans rfl; have hcz68_3 : w67.cell? ⟨gb101, 3, none⟩ = some (.slice A0_3 l0_3.length c0_3) := (blk_cell BK101.out 3).trans rfl; have hfz68_0 := blk_frozen BK101.out 0; have hfz68_1 := blk_frozen BK101.out 1; have hfz68_2 := blk_frozen BK101.out 2; have hfz68_3 := blk_frozen BK101.out 3) | ((with_reducible refine gate_callee (f := 34) rfl ?_); refine goesL_ (some 16) rfl rfl Tryd.func34 (by kernel_rfl) rfl #[.agg #[.slice A0_0 l0_0.length c0_0, .string a0_1, .string a0_2, .slice A0_3 l0_3.length c0_3]] rfl hB1 ?_; (with_reducible refine (live_In.calls _ _ l0_0 a0_1 a0_2 _ _ l0_3 t104 _ ?side1 ?side2 ?side3 ?side4 A7.out).mono ?_); (case side1 => repeat (first | exact (Kd.C_below HR0_0.out HB.out) | (with_reducible refine Kd.C_alloc ?_ _) | (with_reducible refine Kd.C_drewN ?_ _) | (with_reducible refine Kd.C_drew ?_))); (case side2 => exact HC0_0.out); (case side3 => repeat (first | exact (Kd.C_below HR0_3.out HB.out) | (with_reducible refine Kd.C_alloc ?_ _) | (with_reducible refine Kd.C_drewN ?_ _) | (with_reducible refine Kd.C_drew ?_))); (case side4 => exact HC0_3.out); rintro e w69 ⟨v105, rfl, ho0, hb⟩; refine ⟨_, rfl, ?_⟩; have n0_ := Aside0.mk (Kd.R_lower ho0 (below_size hB69)); have n1_ := Aside0.mk (blk_below (g := gb101) (o := .cells #[.slice A0_0 l0_0.length c0_0, .string a0_1, .string a0_2, .slice A0_3 l0_3.length c0_3] 25 (0, 0)) hB26 hb); have n2_ := Aside0.mk (below_step hB69 hb); clear BK101; clear HB; have HO106 := n0_; have BK101 := n1_; have HB := n2_; clear n0_ n1_ n2_; (try clear hb); (try clear hb2); (try clear hk); (try clear hi); (try clear ho0); obtain ⟨Ao70, co70, eo70⟩ := Kd.R_slice HO106.out; subst eo70; have hcz71_0 : w69.cell? ⟨gb101, 0, none⟩ = some (.slice A0_0 l0_0.length c0_0) := (blk_cell BK101.out 0).trans rfl; have hcz71_1 : w69.cell? ⟨gb101, 1, none⟩ = some (.string a0_1) := (blk_cell BK101.out 1).trans rfl; have hcz71_2 : w69.cell? ⟨gb101, 2, none⟩ = some (.string a0_2) := (blk_cell BK101.out 2).trans rfl; have hcz71_3 : w69.cell? ⟨gb101, 3, none⟩ = some (.slice A0_3 l0_3.length c0_3) := (blk_cell BK101.out 3).trans rfl; have hfz71_0 := blk_frozen BK101.out 0; have hfz71_1 := blk_frozen BK101.out 1; have hfz71_2 := blk_frozen BK101.out 2; have hfz71_3 := blk_frozen BK101.out 3))
    go_ret
    exact ⟨by first | rfl | (simp [errW_none, errW_some] <;> rfl) | (simp [*, errW_none, errW_some] <;> rfl), hB69⟩
  rw [if_pos c8] at H
  have c8b0 : ((t104.length : Int) == (wrap64 ((l0_3.length : Int) + 1))) = true := beq_iff_eq.mpr c8
  have c8b1 : ((t104.length : Int) != (wrap64 ((l0_3.length : Int) + 1))) = false := bne_eq_false_iff_eq.mpr c8
  clear c8
  have H' := Aside0.mk H
  clear H
  go_enter Tryd.func11, Tryd.ntmps11
  go_wp2_with (first | ((with_reducible refine gate_dst (N := 2) rfl ?_); refine box_event ?hg (N := 2) ?hd (cs := #[.slice A0_0 l0_0.length c0_0, .string a0_1, .string a0_2, .slice A0_3 l0_3.length c0_3]) (t := 25) ?hr ?_; (case hd => rfl); (case hg => rfl); (case hr => first | (go_simp; done) | (go_simp; rfl)); intro gb101 hg w9 hbox hb; have n0_ := Aside0.mk (below_step hB101 hb); have n1_ := Aside0.mk (hbox); have n2_ := Aside0.mk ((by rw [hg]; exact (below_size hB101) : w.heap.size ≤ gb101)); have n3_ := Aside0.mk ((by rw [hg]; exact (below_size hB101) : w.heap.size ≤ gb101)); clear HB; have HB := n0_; have BK101 := n1_; have GW101 := n2_; have GE101 := n3_; clear n0_ n1_ n2_ n3_; clear hb hbox hg) | ((with_reducible refine gate_callee (f := 29) rfl ?_); refine goesL_ (some 10) rfl rfl Tryd.func29 (by kernel_rfl) rfl #[] rfl hB1 ?_; (with_reducible refine (lockstitchlaw08_alive.calls k  true _ A3.out).mono ?_); rintro e w10 ⟨rfl, hb⟩; refine ⟨_, rfl, ?_⟩; have n0_ := Aside0.mk (blk_below (g := gb101) (o := .cells #[.slice A0_0 l0_0.length c0_0, .string a0_1, .string a0_2, .slice A0_3 l0_3.length c0_3] 25 (0, 0)) hB26 hb); have n1_ := Aside0.mk (below_step hB69 hb); clear BK101; clear HB; have BK101 := n0_; have HB := n1_; clear n0_ n1_; (try clear hb); (try clear hb2); (try clear hk); (try clear hi); have hcz11_0 : w10.cell? ⟨gb101, 0, none⟩ = some (.slice A0_0 l0_0.length c0_0) := (blk_cell BK101.out 0).trans rfl; have hcz11_1 : w10.cell? ⟨gb101, 1, none⟩ = some (.string a0_1) := (blk_cell BK101.out 1).trans rfl; have hcz11_2 : w10.cell? ⟨gb101, 2, none⟩ = some (.string a0_2) := (blk_cell BK101.out 2).trans rfl; have hcz11_3 : w10.cell? ⟨gb101, 3, none⟩ = some (.slice A0_3 l0_3.length c0_3) := (blk_cell BK101.out 3).trans rfl; have hfz11_0 := blk_frozen BK101.out 0; have hfz11_1 := blk_frozen BK101.out 1; have hfz11_2 := blk_frozen BK101.out 2; have hfz11_3 := blk_frozen BK101.out 3) | ((with_reducible refine gate_callee (f := 19) rfl ?_); refine goesL_ (some 13) rfl rfl Tryd.func19 (by kernel_rfl) rfl #[.agg #[.slice A0_0 l0_0.length c0_0, .string a0_1, .string a0_2, .slice A0_3 l0_3.length c0_3]] rfl hB1 ?_; (with_reducible refine (lockstitchlaw07_Sound.calls k _ _ l0_0 a0_1 a0_2 _ _ l0_3 true _ ?side1 ?side2 ?side3 ?side4 A5.out (TB_below HTB.out hB69)).mono ?_); (case side1 => repeat (first | exact (Kd.C_below HR0_0.out HB.out) | (with_reducible refine Kd.C_alloc ?_ _) | (with_reducible refine Kd.C_drewN ?_ _) | (with_reducible refine Kd.C_drew ?_))); (case side2 => exact HC0_0.out); (case side3 => repeat (first | exact (Kd.C_below HR0_3.out HB.out) | (with_reducible refine Kd.C_alloc ?_ _) | (with_reducible refine Kd.C_drewN ?_ _) | (with_reducible refine Kd.C_drew ?_))); (case side4 => exact HC0_3.out); rintro e w12 ⟨rfl, hb⟩; refine ⟨_, rfl, ?_⟩; have n0_ := Aside0.mk (blk_below (g := gb101) (o := .cells #[.slice A0_0 l0_0.length c0_0, .string a0_1, .string a0_2, .slice A0_3 l0_3.length c0_3] 25 (0, 0)) hB26 hb); have n1_ := Aside0.mk (below_step hB69 hb); clear BK101; clear HB; have BK101 := n0_; have HB := n1_; clear n0_ n1_; (try clear hb); (try clear hb2); (try clear hk); (try clear hi); have hcz13_0 : w12.cell? ⟨gb101, 0, none⟩ = some (.slice A0_0 l0_0.length c0_0) := (blk_cell BK101.out 0).trans rfl; have hcz13_1 : w12.cell? ⟨gb101, 1, none⟩ = some (.string a0_1) := (blk_cell BK101.out 1).trans rfl; have hcz13_2 : w12.cell? ⟨gb101, 2, none⟩ = some (.string a0_2) := (blk_cell BK101.out 2).trans rfl; have hcz13_3 : w12.cell? ⟨gb101, 3, none⟩ = some (.slice A0_3 l0_3.length c0_3) := (blk_cell BK101.out 3).trans rfl; have hfz13_0 := blk_frozen BK101.out 0; have hfz13_1 := blk_frozen BK101.out 1; have hfz13_2 := blk_frozen BK101.out 2; have hfz13_3 := blk_frozen BK101.out 3) | ((with_reducible refine gate_callee (f := 34) rfl ?_); refine goesL_ (some 16) rfl rfl Tryd.func34 (by kernel_rfl) rfl #[.agg #[.slice A0_0 l0_0.length c0_0, .string a0_1, .string a0_2, .slice A0_3 l0_3.length c0_3]] rfl hB1 ?_; (with_reducible refine (live_In.calls _ _ l0_0 a0_1 a0_2 _ _ l0_3 t104 _ ?side1 ?side2 ?side3 ?side4 A7.out).mono ?_); (case side1 => repeat (first | exact (Kd.C_below HR0_0.out HB.out) | (with_reducible refine Kd.C_alloc ?_ _) | (with_reducible refine Kd.C_drewN ?_ _) | (with_reducible refine Kd.C_drew ?_))); (case side2 => exact HC0_0.out); (case side3 => repeat (first | exact (Kd.C_below HR0_3.out HB.out) | (with_reducible refine Kd.C_alloc ?_ _) | (with_reducible refine Kd.C_drewN ?_ _) | (with_reducible refine Kd.C_drew ?_))); (case side4 => exact HC0_3.out); rintro e w14 ⟨v105, rfl, ho0, hb⟩; refine ⟨_, rfl, ?_⟩; have n0_ := Aside0.mk (Kd.R_lower ho0 (below_size hB69)); have n1_ := Aside0.mk (blk_below (g := gb101) (o := .cells #[.slice A0_0 l0_0.length c0_0, .string a0_1, .string a0_2, .slice A0_3 l0_3.length c0_3] 25 (0, 0)) hB26 hb); have n2_ := Aside0.mk (below_step hB69 hb); clear BK101; clear HB; have HO106 := n0_; have BK101 := n1_; have HB := n2_; clear n0_ n1_ n2_; (try clear hb); (try clear hb2); (try clear hk); (try clear hi); (try clear ho0); obtain ⟨Ao15, co15, eo15⟩ := Kd.R_slice HO106.out; subst eo15; have hcz16_0 : w14.cell? ⟨gb101, 0, none⟩ = some (.slice A0_0 l0_0.length c0_0) := (blk_cell BK101.out 0).trans rfl; have hcz16_1 : w14.cell? ⟨gb101, 1, none⟩ = some (.string a0_1) := (blk_cell BK101.out 1).trans rfl; have hcz16_2 : w14.cell? ⟨gb101, 2, none⟩ = some (.string a0_2) := (blk_cell BK101.out 2).trans rfl; have hcz16_3 : w14.cell? ⟨gb101, 3, none⟩ = some (.slice A0_3 l0_3.length c0_3) := (blk_cell BK101.out 3).trans rfl; have hfz16_0 := blk_frozen BK101.out 0; have hfz16_1 := blk_frozen BK101.out 1; have hfz16_2 := blk_frozen BK101.out 2; have hfz16_3 := blk_frozen BK101.out 3))
  go_loopg [27] k (fun kq v27 w' => ∃ (x27_1 : Int), v27 = .int .i64 x27_1 ∧ Aside0 (lockstitchlaw08_LiveDead.l0 kq a1 t104 l0_3 (l0_3.length : Int) x27_1 l0_0 a0_1 a0_2 l0_3 = some r) ∧ Aside0 (kq ≤ k) ∧ Aside0 (Kd.R (Kd.int .u8) 5 w' w.heap.size (fun _ => True) (.slice Ao15 t104.length co15) t104) ∧ Aside0 (w'.heap[gb101]? = some (.cells #[(.slice A0_0 l0_0.length c0_0), .string a0_1, .string a0_2, (.slice A0_3 l0_3.length c0_3)] 25 (0, 0))) ∧ Aside0 (Below w.heap.size w w'))
  case atStart => exact ⟨(0), hB59, H', ⟨Nat.le_refl _⟩, ⟨hB15⟩, ⟨hB26⟩, ⟨hB69⟩⟩
  case round =>
    clear H'
    try clear c1
    try clear c2
    try clear p2
    try clear c3
    try clear c4
    try clear c6
    try clear p6
    try clear c8
    try clear c8b0
    try clear c8b1
    try clear c11
    try clear hcz11_0
    try clear hcz11_1
    try clear hcz11_2
    try clear hcz11_3
    try clear hcz13_0
    try clear hcz13_1
    try clear hcz13_2
    try clear hcz13_3
    try clear hcz16_0
    try clear hcz16_1
    try clear hcz16_2
    try clear hcz16_3
    try clear hfz11_0
    try clear hfz11_1
    try clear hfz11_2
    try clear hfz11_3
    try clear hfz13_0
    try clear hfz13_1
    try clear hfz13_2
    try clear hfz13_3
    try clear hfz16_0
    try clear hfz16_1
    try clear hfz16_2
    try clear hfz16_3
    obtain ⟨x27_1, rfl, HA, HK1, HO_5, BK101, HB⟩ := hrel
    cases gk with
    | zero => exact absurd HA.out (by simp [lockstitchlaw08_LiveDead.l0])
    | succ k1 =>
      have H := HA.out
      clear HA
      simp only [lockstitchlaw08_LiveDead.l0] at H
      by_cases c17 : x27_1 < (l0_3.length : Int)
      rotate_left
      · rw [if_neg c17] at H
        have c17b0 : decide (x27_1 < (l0_3.length : Int)) = false := decide_eq_false c17
        clear c17
        by_cases c52 : (l0_3.length : Int) = 0
        · rw [if_pos c52] at H
          exact absurd H (by simp)
        rw [if_neg c52] at H
        have c52b0 : ((l0_3.length : Int) == 0) = false := beq_eq_false_iff_ne.mpr c52
        have c52b1 : ((l0_3.length : Int) != 0) = true := bne_iff_ne.mpr c52
        have c52b2 : ¬ (l0_3 = []) := fun h_ => c52 (by rw [h_]; rfl)
        obtain ⟨ji53, hji53⟩ : ∃ j_ : Int, (Int.tmod (wrap64 (a1)) (l0_3.length : Int)) = j_ := ⟨_, rfl⟩
        replace H : (if 0 ≤ (ji53) then (if (ji53) < (l0_3.length : Int) then (if ((rd_T36 l0_3 (ji53)).f0) = 3 then (if (ji53) < (t104.length : Int) then (if 0 ≤ ((rd_T36 l0_3 (ji53)).f4) then (if ((rd_T36 l0_3 (ji53)).f4) < (t104.length : Int) then (some ((rd t104 (ji53)) == (rd t104 ((rd_T36 l0_3 (ji53)).f4)))) else (none)) else (none)) else (none)) else (some true)) else (none)) else (none)) = some r := by first | (rw [hji53] at H; exact H) | (simp only [hji53] at H ⊢; exact H)
        by_cases c54 : 0 ≤ (ji53)
        rotate_left
        · rw [if_neg c54] at H
          exact absurd H (by simp)
        rw [if_pos c54] at H
        have c54b0 : decide (0 ≤ (ji53)) = true := decide_eq_true c54
        clear c54
        by_cases c55 : (ji53) < (l0_3.length : Int)
        rotate_left
        · rw [if_neg c55] at H
          exact absurd H (by simp)
        rw [if_pos c55] at H
        have c55b0 : decide ((ji53) < (l0_3.length : Int)) = true := decide_eq_true c55
        clear c55
        by_cases c56 : ((rd_T36 l0_3 (ji53)).f0) = 3
        rotate_left
        · rw [if_neg c56] at H
          have c56b0 : (((rd_T36 l0_3 (ji53)).f0) == 3) = false := beq_eq_false_iff_ne.mpr c56
          have c56b1 : (((rd_T36 l0_3 (ji53)).f0) != 3) = true := bne_iff_ne.mpr c56
          obtain rfl := Option.some.inj H
          have hcz62_0 : wr.cell? ⟨gb101, 0, none⟩ = some (.slice A0_0 l0_0.length c0_0) := (blk_cell BK101.out 0).trans rfl
          have hcz62_1 : wr.cell? ⟨gb101, 1, none⟩ = some (.string a0_1) := (blk_cell BK101.out 1).trans rfl
          have hcz62_2 : wr.cell? ⟨gb101, 2, none⟩ = some (.string a0_2) := (blk_cell BK101.out 2).trans rfl
          have hcz62_3 : wr.cell? ⟨gb101, 3, none⟩ = some (.slice A0_3 l0_3.length c0_3) := (blk_cell BK101.out 3).trans rfl
          have hfz62_0 := blk_frozen BK101.out 0
          have hfz62_1 := blk_frozen BK101.out 1
          have hfz62_2 := blk_frozen BK101.out 2
          have hfz62_3 := blk_frozen BK101.out 3
          try go_wp2
          have n0_ := Aside0.mk (Kd.R_drew HO_5.out)
          have n1_ := Aside0.mk (blk_drew BK101.out)
          have n2_ := Aside0.mk (below_drew1 HB.out)
          clear HO_5
          clear BK101
          clear HB
          have HO_5 := n0_
          have BK101 := n1_
          have HB := n2_
          clear n0_ n1_ n2_
          have p107 : 0 ≤ ((ji53) : Int) := of_decide_eq_true hB58
          have q107 : (ji53) < (l0_3.length : Int) := of_decide_eq_true hB58
          obtain ⟨ad107, e107, hx107_0, hx107_1, hx107_2, hx107_3, hx107_4⟩ := at_T36 HR0_3.out (ji53) p107 q107
          have hw107_4 := hx107_4
          have hw107_3 := hx107_3
          have hw107_2 := hx107_2
          have hw107_1 := hx107_1
          have hw107_0 := hx107_0
          cases e107
          replace hx107_0 := (HB.out.cell (World.block_lt_of_cell? w _ hx107_0)).trans hx107_0
          replace hx107_1 := (HB.out.cell (World.block_lt_of_cell? w _ hx107_1)).trans hx107_1
          replace hx107_2 := (HB.out.cell (World.block_lt_of_cell? w _ hx107_2)).trans hx107_2
          replace hx107_3 := (HB.out.cell (World.block_lt_of_cell? w _ hx107_3)).trans hx107_3
          replace hx107_4 := (HB.out.cell (World.block_lt_of_cell? w _ hx107_4)).trans hx107_4
          replace p107 := eq_true p107
          replace q107 := eq_true q107
          refine start_ (n := 24) (S := fun w' => w'.cell? ⟨gb101, 0, none⟩ = some (.slice A0_0 l0_0.length c0_0) ∧ w'.cell? ⟨gb101, 1, none⟩ = some (.string a0_1) ∧ w'.cell? ⟨gb101, 2, none⟩ = some (.string a0_2) ∧ w'.cell? ⟨gb101, 3, none⟩ = some (.slice (some ad107) l0_3.length c0_3) ∧ w'.cell? (ad107.add (((ji53)).toNat * 5)) = some (.int .u8 ((rd_T36 l0_3 (ji53)).f0)) ∧ w'.cell? ⟨(ad107.add (((ji53)).toNat * 5)).block, (ad107.add (((ji53)).toNat * 5)).off + 1, none⟩ = some (.int .u8 ((rd_T36 l0_3 (ji53)).f1)) ∧ w'.cell? ⟨(ad107.add (((ji53)).toNat * 5)).block, (ad107.add (((ji53)).toNat * 5)).off + 2, none⟩ = some (.int .u8 ((rd_T36 l0_3 (ji53)).f2)) ∧ w'.cell? ⟨(ad107.add (((ji53)).toNat * 5)).block, (ad107.add (((ji53)).toNat * 5)).off + 3, none⟩ = some (.int .u8 ((rd_T36 l0_3 (ji53)).f3)) ∧ w'.cell? ⟨(ad107.add (((ji53)).toNat * 5)).block, (ad107.add (((ji53)).toNat * 5)).off + 4, none⟩ = some (.int .i64 ((rd_T36 l0_3 (ji53)).f4))) (ds := []) #[false, false, false, false, false, false, false, false, false, false, false, false, false, false, false, false, false, false, false, false, false, false, false, false] (by kernel_rfl) rfl rfl ⟨(blk_cell BK101.out 0).trans rfl, (blk_cell BK101.out 1).trans rfl, (blk_cell BK101.out 2).trans rfl, (blk_cell BK101.out 3).trans rfl, ((HB.out.cell (World.block_lt_of_cell? w _ hw107_0)).trans hw107_0), ((HB.out.cell (World.block_lt_of_cell? w _ hw107_1)).trans hw107_1), ((HB.out.cell (World.block_lt_of_cell? w _ hw107_2)).trans hw107_2), ((HB.out.cell (World.block_lt_of_cell? w _ hw107_3)).trans hw107_3), ((HB.out.cell (World.block_lt_of_cell? w _ hw107_4)).trans hw107_4)⟩ (fun hHeld => ?_); refine with_tabW lockstitchlaw08_LiveDead.tab16 lockstitchlaw08_LiveDead.bits16 (fun HT_ HW_ => ?_)
          generalize wr.drew = w63 at HO_5 BK101 HB hx107_0 hx107_1 hx107_2 hx107_3 hx107_4 hHeld ⊢
          refine pure_ (i := 0) (N := some 61) (v := ?_) (a' := ?_) (mk_ 24 1) rfl rfl (any_of HT_.out (by kernel_rfl)) (fun _ _ _ h => h) (Or.inl ⟨by rfl, ?_⟩) ?_ ?_
          rotate_left
          · intro w'
            go_simp
            with_reducible rfl
          rotate_left
          · simp only [Act.put, List.setIfInBounds_toArray, List.set_cons_zero, List.set_cons_succ, i64_w, i32_w]
            rfl
          refine pure_ (i := 2) (N := some 63) (v := ?_) (a' := ?_) (mk_ 24 5) rfl rfl (any_of HT_.out (by kernel_rfl)) (fun _ _ _ h => h) (Or.inl ⟨by rfl, ?_⟩) ?_ ?_
          rotate_left
          · intro w'
            go_simp
            with_reducible rfl
          rotate_left
          · simp only [Act.put, List.setIfInBounds_toArray, List.set_cons_zero, List.set_cons_succ, i64_w, i32_w]
            rfl
          refine take_ (i := 1) (N := some 62) (v := ?_) (a' := ?_) (mk_ 24 7) rfl rfl (take_ofW HT_.out HW_.out (by kernel_rfl)) (fun _ _ _ h => h) (Or.inl ⟨by rfl, ?_⟩) hHeld ?_ ?_
          rotate_left
          · rintro w' ⟨s0, s1, s2, s3, s4, s5, s6, s7, s8⟩
            go_simp
            with_reducible rfl
          rotate_left
          · simp only [Act.put, List.setIfInBounds_toArray, List.set_cons_zero, List.set_cons_succ, i64_w, i32_w]
            rfl
          refine pure_ (i := 3) (N := some 64) (v := ?_) (a' := ?_) (mk_ 24 15) rfl rfl (any_of HT_.out (by kernel_rfl)) (fun _ _ _ h => h) (Or.inl ⟨by rfl, ?_⟩) ?_ ?_
          rotate_left
          · intro w'
            go_simp
            with_reducible rfl
          rotate_left
          · simp only [Act.put, List.setIfInBounds_toArray, List.set_cons_zero, List.set_cons_succ, i64_w, i32_w]
            rfl
          refine pure_ (i := 4) (N := some 65) (v := ?_) (a' := ?_) (mk_ 24 31) rfl rfl (any_of HT_.out (by kernel_rfl)) (fun _ _ _ h => h) (Or.inl ⟨by rfl, ?_⟩) ?_ ?_
          rotate_left
          · intro w'
            go_simp
            with_reducible rfl
          rotate_left
          · simp only [Act.put, List.setIfInBounds_toArray, List.set_cons_zero, List.set_cons_succ, i64_w, i32_w]
            rfl
          refine take_ (i := 5) (N := some 66) (v := ?_) (a' := ?_) (mk_ 24 63) rfl rfl (take_ofW HT_.out HW_.out (by kernel_rfl)) (fun _ _ _ h => h) (Or.inl ⟨by rfl, ?_⟩) hHeld ?_ ?_
          rotate_left
          · rintro w' ⟨s0, s1, s2, s3, s4, s5, s6, s7, s8⟩
            go_simp
            with_reducible rfl
          rotate_left
          · simp only [Act.put, List.setIfInBounds_toArray, List.set_cons_zero, List.set_cons_succ, i64_w, i32_w]
            rfl
          refine pure_ (i := 6) (N := some 67) (v := ?_) (a' := ?_) (mk_ 24 127) rfl rfl (any_of HT_.out (by kernel_rfl)) (fun _ _ _ h => h) (Or.inl ⟨by rfl, ?_⟩) ?_ ?_
          rotate_left
          · intro w'
            go_simp
            with_reducible rfl
          rotate_left
          · simp only [Act.put, List.setIfInBounds_toArray, List.set_cons_zero, List.set_cons_succ, i64_w, i32_w]
            rfl
          refine pure_ (i := 7) (N := some 68) (v := ?_) (a' := ?_) (mk_ 24 255) rfl rfl (any_of HT_.out (by kernel_rfl)) (fun _ _ _ h => h) (Or.inl ⟨by rfl, ?_⟩) ?_ ?_
          rotate_left
          · intro w'
            go_simp
            with_reducible rfl
          rotate_left
          · simp only [Act.put, List.setIfInBounds_toArray, List.set_cons_zero, List.set_cons_succ, i64_w, i32_w]
            rfl
          refine pure_ (i := 8) (N := some 69) (v := undef) (a' := ?_) (mk_ 24 511) rfl rfl (any_of HT_.out (by kernel_rfl)) (fun _ _ _ h => h) (Or.inr ⟨by rfl, rfl⟩) ?_ ?_
          rotate_left
          · simp only [Act.put, List.setIfInBounds_toArray, List.set_cons_zero, List.set_cons_succ, i64_w, i32_w]
            rfl
          refine pure_ (i := 9) (N := some 70) (v := undef) (a' := ?_) (mk_ 24 1023) rfl rfl (any_of HT_.out (by kernel_rfl)) (fun _ _ _ h => h) (Or.inr ⟨by rfl, rfl⟩) ?_ ?_
          rotate_left
          · simp only [Act.put, List.setIfInBounds_toArray, List.set_cons_zero, List.set_cons_succ, i64_w, i32_w]
            rfl
          refine pure_ (i := 10) (N := some 71) (v := undef) (a' := ?_) (mk_ 24 2047) rfl rfl (any_of HT_.out (by kernel_rfl)) (fun _ _ _ h => h) (Or.inr ⟨by rfl, rfl⟩) ?_ ?_
          rotate_left
          · simp only [Act.put, List.setIfInBounds_toArray, List.set_cons_zero, List.set_cons_succ, i64_w, i32_w]
            rfl
          refine pure_ (i := 11) (N := some 72) (v := undef) (a' := ?_) (mk_ 24 4095) rfl rfl (any_of HT_.out (by kernel_rfl)) (fun _ _ _ h => h) (Or.inr ⟨by rfl, rfl⟩) ?_ ?_
          rotate_left
          · simp only [Act.put, List.setIfInBounds_toArray, List.set_cons_zero, List.set_cons_succ, i64_w, i32_w]
            rfl
          refine pure_ (i := 12) (N := some 73) (v := undef) (a' := ?_) (mk_ 24 8191) rfl rfl (any_of HT_.out (by kernel_rfl)) (fun _ _ _ h => h) (Or.inr ⟨by rfl, rfl⟩) ?_ ?_
          rotate_left
          · simp only [Act.put, List.setIfInBounds_toArray, List.set_cons_zero, List.set_cons_succ, i64_w, i32_w]
            rfl
          refine pure_ (i := 13) (N := some 74) (v := undef) (a' := ?_) (mk_ 24 16383) rfl rfl (any_of HT_.out (by kernel_rfl)) (fun _ _ _ h => h) (Or.inr ⟨by rfl, rfl⟩) ?_ ?_
          rotate_left
          · simp only [Act.put, List.setIfInBounds_toArray, List.set_cons_zero, List.set_cons_succ, i64_w, i32_w]
            rfl
          refine pure_ (i := 14) (N := some 75) (v := undef) (a' := ?_) (mk_ 24 32767) rfl rfl (any_of HT_.out (by kernel_rfl)) (fun _ _ _ h => h) (Or.inr ⟨by rfl, rfl⟩) ?_ ?_
          rotate_left
          · simp only [Act.put, List.setIfInBounds_toArray, List.set_cons_zero, List.set_cons_succ, i64_w, i32_w]
            rfl
          refine pure_ (i := 15) (N := some 76) (v := undef) (a' := ?_) (mk_ 24 65535) rfl rfl (any_of HT_.out (by kernel_rfl)) (fun _ _ _ h => h) (Or.inr ⟨by rfl, rfl⟩) ?_ ?_
          rotate_left
          · simp only [Act.put, List.setIfInBounds_toArray, List.set_cons_zero, List.set_cons_succ, i64_w, i32_w]
            rfl
          refine pure_ (i := 16) (N := some 77) (v := undef) (a' := ?_) (mk_ 24 131071) rfl rfl (any_of HT_.out (by kernel_rfl)) (fun _ _ _ h => h) (Or.inr ⟨by rfl, rfl⟩) ?_ ?_
          rotate_left
          · simp only [Act.put, List.setIfInBounds_toArray, List.set_cons_zero, List.set_cons_succ, i64_w, i32_w]
            rfl
          refine pure_ (i := 17) (N := some 78) (v := undef) (a' := ?_) (mk_ 24 262143) rfl rfl (any_of HT_.out (by kernel_rfl)) (fun _ _ _ h => h) (Or.inr ⟨by rfl, rfl⟩) ?_ ?_
          rotate_left
          · simp only [Act.put, List.setIfInBounds_toArray, List.set_cons_zero, List.set_cons_succ, i64_w, i32_w]
            rfl
          refine pure_ (i := 18) (N := some 79) (v := undef) (a' := ?_) (mk_ 24 524287) rfl rfl (any_of HT_.out (by kernel_rfl)) (fun _ _ _ h => h) (Or.inr ⟨by rfl, rfl⟩) ?_ ?_
          rotate_left
          · simp only [Act.put, List.setIfInBounds_toArray, List.set_cons_zero, List.set_cons_succ, i64_w, i32_w]
            rfl
          refine pure_ (i := 19) (N := some 80) (v := undef) (a' := ?_) (mk_ 24 1048575) rfl rfl (any_of HT_.out (by kernel_rfl)) (fun _ _ _ h => h) (Or.inr ⟨by rfl, rfl⟩) ?_ ?_
          rotate_left
          · simp only [Act.put, List.setIfInBounds_toArray, List.set_cons_zero, List.set_cons_succ, i64_w, i32_w]
            rfl
          refine pure_ (i := 20) (N := some 81) (v := undef) (a' := ?_) (mk_ 24 2097151) rfl rfl (any_of HT_.out (by kernel_rfl)) (fun _ _ _ h => h) (Or.inr ⟨by rfl, rfl⟩) ?_ ?_
          rotate_left
          · simp only [Act.put, List.setIfInBounds_toArray, List.set_cons_zero, List.set_cons_succ, i64_w, i32_w]
            rfl
          refine pure_ (i := 21) (N := some 82) (v := undef) (a' := ?_) (mk_ 24 4194303) rfl rfl (any_of HT_.out (by kernel_rfl)) (fun _ _ _ h => h) (Or.inr ⟨by rfl, rfl⟩) ?_ ?_
          rotate_left
          · simp only [Act.put, List.setIfInBounds_toArray, List.set_cons_zero, List.set_cons_succ, i64_w, i32_w]
            rfl
          refine pure_ (i := 22) (N := some 83) (v := ?_) (a' := ?_) (mk_ 24 8388607) rfl rfl (any_of HT_.out (by kernel_rfl)) (fun _ _ _ h => h) (Or.inl ⟨by rfl, ?_⟩) ?_ ?_
          rotate_left
          · intro w'
            go_simp
            with_reducible rfl
          rotate_left
          · simp only [Act.put, List.setIfInBounds_toArray, List.set_cons_zero, List.set_cons_succ, i64_w, i32_w]
            rfl
          refine pure_ (i := 23) (N := some 4) (v := ?_) (a' := ?_) (mk_ 24 16777215) rfl rfl (any_of HT_.out (by kernel_rfl)) (fun _ _ _ h => h) (Or.inl ⟨by rfl, ?_⟩) ?_ ?_
          rotate_left
          · intro w'
            go_simp
            with_reducible rfl
          rotate_left
          · simp only [Act.put, List.setIfInBounds_toArray, List.set_cons_zero, List.set_cons_succ, i64_w, i32_w]
            rfl
          refine done_ (done_of HT_.out (by kernel_rfl)) ?_
          try go_wp2
          go_ret
          exact ⟨by first | rfl | (simp [errW_none, errW_some] <;> rfl) | (simp only [← hji53]; first | rfl | (simp [errW_none, errW_some] <;> rfl)) | (simp [*, errW_none, errW_some] <;> rfl), hB69⟩
        rw [if_pos c56] at H
        have c56b0 : (((rd_T36 l0_3 (ji53)).f0) == 3) = true := beq_iff_eq.mpr c56
        have c56b1 : (((rd_T36 l0_3 (ji53)).f0) != 3) = false := bne_eq_false_iff_eq.mpr c56
        clear c56
        by_cases c57 : (ji53) < (t104.length : Int)
        rotate_left
        · rw [if_neg c57] at H
          exact absurd H (by simp)
        rw [if_pos c57] at H
        have c57b0 : decide ((ji53) < (t104.length : Int)) = true := decide_eq_true c57
        clear c57
        by_cases c58 : 0 ≤ ((rd_T36 l0_3 (ji53)).f4)
        rotate_left
        · rw [if_neg c58] at H
          exact absurd H (by simp)
        rw [if_pos c58] at H
        have c58b0 : decide (0 ≤ ((rd_T36 l0_3 (ji53)).f4)) = true := decide_eq_true c58
        clear c58
        by_cases c59 : ((rd_T36 l0_3 (ji53)).f4) < (t104.length : Int)
        rotate_left
        · rw [if_neg c59] at H
          exact absurd H (by simp)
        rw [if_pos c59] at H
        have c59b0 : decide (((rd_T36 l0_3 (ji53)).f4) < (t104.length : Int)) = true := decide_eq_true c59
        clear c59
        obtain rfl := Option.some.inj H
        have hcz60_0 : wr.cell? ⟨gb101, 0, none⟩ = some (.slice A0_0 l0_0.length c0_0) := (blk_cell BK101.out 0).trans rfl
        have hcz60_1 : wr.cell? ⟨gb101, 1, none⟩ = some (.string a0_1) := (blk_cell BK101.out 1).trans rfl
        have hcz60_2 : wr.cell? ⟨gb101, 2, none⟩ = some (.string a0_2) := (blk_cell BK101.out 2).trans rfl
        have hcz60_3 : wr.cell? ⟨gb101, 3, none⟩ = some (.slice A0_3 l0_3.length c0_3) := (blk_cell BK101.out 3).trans rfl
        have hfz60_0 := blk_frozen BK101.out 0
        have hfz60_1 := blk_frozen BK101.out 1
        have hfz60_2 := blk_frozen BK101.out 2
        have hfz60_3 := blk_frozen BK101.out 3
        try go_wp2
        have n0_ := Aside0.mk (Kd.R_drew HO_5.out)
        have n1_ := Aside0.mk (blk_drew BK101.out)
        have n2_ := Aside0.mk (below_drew1 HB.out)
        clear HO_5
        clear BK101
        clear HB
        have HO_5 := n0_
        have BK101 := n1_
        have HB := n2_
        clear n0_ n1_ n2_
        have p107 : 0 ≤ ((ji53) : Int) := of_decide_eq_true hB58
        have q107 : (ji53) < (l0_3.length : Int) := of_decide_eq_true hB58
        obtain ⟨ad107, e107, hx107_0, hx107_1, hx107_2, hx107_3, hx107_4⟩ := at_T36 HR0_3.out (ji53) p107 q107
        have hw107_4 := hx107_4
        have hw107_3 := hx107_3
        have hw107_2 := hx107_2
        have hw107_1 := hx107_1
        have hw107_0 := hx107_0
        cases e107
        replace hx107_0 := (HB.out.cell (World.block_lt_of_cell? w _ hx107_0)).trans hx107_0
        replace hx107_1 := (HB.out.cell (World.block_lt_of_cell? w _ hx107_1)).trans hx107_1
        replace hx107_2 := (HB.out.cell (World.block_lt_of_cell? w _ hx107_2)).trans hx107_2
        replace hx107_3 := (HB.out.cell (World.block_lt_of_cell? w _ hx107_3)).trans hx107_3
        replace hx107_4 := (HB.out.cell (World.block_lt_of_cell? w _ hx107_4)).trans hx107_4
        replace p107 := eq_true p107
        replace q107 := eq_true q107
        have p108 : 0 ≤ ((ji53) : Int) := of_decide_eq_true hB58
        have q108 : (ji53) < (t104.length : Int) := of_decide_eq_true hB58
        obtain ⟨ad108, e108, hx108_0⟩ := Kd.at_int (Kd.R_reads' HO_5.out).2.2 (ji53) p108 q108
        cases e108
        replace p108 := eq_true p108
        replace q108 := eq_true q108
        have p109 : 0 ≤ ((ji53) : Int) := of_decide_eq_true hB58
        have q109 : (ji53) < (l0_3.length : Int) := of_decide_eq_true hB58
        obtain ⟨ad109, e109, hx109_0, hx109_1, hx109_2, hx109_3, hx109_4⟩ := at_T36 HR0_3.out (ji53) p109 q109
        have hw109_4 := hx109_4
        have hw109_3 := hx109_3
        have hw109_2 := hx109_2
        have hw109_1 := hx109_1
        have hw109_0 := hx109_0
        obtain rfl : ad107 = ad109 := (by injection e109)
        replace hx109_0 := (HB.out.cell (World.block_lt_of_cell? w _ hx109_0)).trans hx109_0
        replace hx109_1 := (HB.out.cell (World.block_lt_of_cell? w _ hx109_1)).trans hx109_1
        replace hx109_2 := (HB.out.cell (World.block_lt_of_cell? w _ hx109_2)).trans hx109_2
        replace hx109_3 := (HB.out.cell (World.block_lt_of_cell? w _ hx109_3)).trans hx109_3
        replace hx109_4 := (HB.out.cell (World.block_lt_of_cell? w _ hx109_4)).trans hx109_4
        replace p109 := eq_true p109
        replace q109 := eq_true q109
        have p110 : 0 ≤ (((rd_T36 l0_3 (ji53)).f4) : Int) := of_decide_eq_true hB58
        have q110 : ((rd_T36 l0_3 (ji53)).f4) < (t104.length : Int) := of_decide_eq_true hB58
        obtain ⟨ad110, e110, hx110_0⟩ := Kd.at_int (Kd.R_reads' HO_5.out).2.2 ((rd_T36 l0_3 (ji53)).f4) p110 q110
        obtain rfl : ad108 = ad110 := (by injection e110)
        replace p110 := eq_true p110
        replace q110 := eq_true q110
        refine start_ (n := 24) (S := fun w' => w'.cell? ⟨gb101, 0, none⟩ = some (.slice A0_0 l0_0.length c0_0) ∧ w'.cell? ⟨gb101, 1, none⟩ = some (.string a0_1) ∧ w'.cell? ⟨gb101, 2, none⟩ = some (.string a0_2) ∧ w'.cell? ⟨gb101, 3, none⟩ = some (.slice (some ad107) l0_3.length c0_3) ∧ w'.cell? (ad107.add (((ji53)).toNat * 5)) = some (.int .u8 ((rd_T36 l0_3 (ji53)).f0)) ∧ w'.cell? ⟨(ad107.add (((ji53)).toNat * 5)).block, (ad107.add (((ji53)).toNat * 5)).off + 1, none⟩ = some (.int .u8 ((rd_T36 l0_3 (ji53)).f1)) ∧ w'.cell? ⟨(ad107.add (((ji53)).toNat * 5)).block, (ad107.add (((ji53)).toNat * 5)).off + 2, none⟩ = some (.int .u8 ((rd_T36 l0_3 (ji53)).f2)) ∧ w'.cell? ⟨(ad107.add (((ji53)).toNat * 5)).block, (ad107.add (((ji53)).toNat * 5)).off + 3, none⟩ = some (.int .u8 ((rd_T36 l0_3 (ji53)).f3)) ∧ w'.cell? ⟨(ad107.add (((ji53)).toNat * 5)).block, (ad107.add (((ji53)).toNat * 5)).off + 4, none⟩ = some (.int .i64 ((rd_T36 l0_3 (ji53)).f4)) ∧ w'.cell? (ad108.add ((ji53)).toNat) = some (.int .u8 (rd t104 (ji53))) ∧ w'.cell? (ad107.add (((ji53)).toNat * 5)) = some (.int .u8 ((rd_T36 l0_3 (ji53)).f0)) ∧ w'.cell? ⟨(ad107.add (((ji53)).toNat * 5)).block, (ad107.add (((ji53)).toNat * 5)).off + 1, none⟩ = some (.int .u8 ((rd_T36 l0_3 (ji53)).f1)) ∧ w'.cell? ⟨(ad107.add (((ji53)).toNat * 5)).block, (ad107.add (((ji53)).toNat * 5)).off + 2, none⟩ = some (.int .u8 ((rd_T36 l0_3 (ji53)).f2)) ∧ w'.cell? ⟨(ad107.add (((ji53)).toNat * 5)).block, (ad107.add (((ji53)).toNat * 5)).off + 3, none⟩ = some (.int .u8 ((rd_T36 l0_3 (ji53)).f3)) ∧ w'.cell? ⟨(ad107.add (((ji53)).toNat * 5)).block, (ad107.add (((ji53)).toNat * 5)).off + 4, none⟩ = some (.int .i64 ((rd_T36 l0_3 (ji53)).f4)) ∧ w'.cell? (ad108.add (((rd_T36 l0_3 (ji53)).f4)).toNat) = some (.int .u8 (rd t104 ((rd_T36 l0_3 (ji53)).f4)))) (ds := []) #[false, false, false, false, false, false, false, false, false, false, false, false, false, false, false, false, false, false, false, false, false, false, false, false] (by kernel_rfl) rfl rfl ⟨(blk_cell BK101.out 0).trans rfl, (blk_cell BK101.out 1).trans rfl, (blk_cell BK101.out 2).trans rfl, (blk_cell BK101.out 3).trans rfl, ((HB.out.cell (World.block_lt_of_cell? w _ hw107_0)).trans hw107_0), ((HB.out.cell (World.block_lt_of_cell? w _ hw107_1)).trans hw107_1), ((HB.out.cell (World.block_lt_of_cell? w _ hw107_2)).trans hw107_2), ((HB.out.cell (World.block_lt_of_cell? w _ hw107_3)).trans hw107_3), ((HB.out.cell (World.block_lt_of_cell? w _ hw107_4)).trans hw107_4), hx108_0, ((HB.out.cell (World.block_lt_of_cell? w _ hw109_0)).trans hw109_0), ((HB.out.cell (World.block_lt_of_cell? w _ hw109_1)).trans hw109_1), ((HB.out.cell (World.block_lt_of_cell? w _ hw109_2)).trans hw109_2), ((HB.out.cell (World.block_lt_of_cell? w _ hw109_3)).trans hw109_3), ((HB.out.cell (World.block_lt_of_cell? w _ hw109_4)).trans hw109_4), hx110_0⟩ (fun hHeld => ?_); refine with_tabW lockstitchlaw08_LiveDead.tab16 lockstitchlaw08_LiveDead.bits16 (fun HT_ HW_ => ?_)
        generalize wr.drew = w61 at HO_5 BK101 HB hx107_0 hx107_1 hx107_2 hx107_3 hx107_4 hx108_0 hx109_0 hx109_1 hx109_2 hx109_3 hx109_4 hx110_0 hHeld ⊢
        refine pure_ (i := 0) (N := some 61) (v := ?_) (a' := ?_) (mk_ 24 1) rfl rfl (any_of HT_.out (by kernel_rfl)) (fun _ _ _ h => h) (Or.inl ⟨by rfl, ?_⟩) ?_ ?_
        rotate_left
        · intro w'
          go_simp
          with_reducible rfl
        rotate_left
        · simp only [Act.put, List.setIfInBounds_toArray, List.set_cons_zero, List.set_cons_succ, i64_w, i32_w]
          rfl
        refine pure_ (i := 2) (N := some 63) (v := ?_) (a' := ?_) (mk_ 24 5) rfl rfl (any_of HT_.out (by kernel_rfl)) (fun _ _ _ h => h) (Or.inl ⟨by rfl, ?_⟩) ?_ ?_
        rotate_left
        · intro w'
          go_simp
          with_reducible rfl
        rotate_left
        · simp only [Act.put, List.setIfInBounds_toArray, List.set_cons_zero, List.set_cons_succ, i64_w, i32_w]
          rfl
        refine take_ (i := 1) (N := some 62) (v := ?_) (a' := ?_) (mk_ 24 7) rfl rfl (take_ofW HT_.out HW_.out (by kernel_rfl)) (fun _ _ _ h => h) (Or.inl ⟨by rfl, ?_⟩) hHeld ?_ ?_
        rotate_left
        · rintro w' ⟨s0, s1, s2, s3, s4, s5, s6, s7, s8, s9, s10, s11, s12, s13, s14, s15⟩
          go_simp
          with_reducible rfl
        rotate_left
        · simp only [Act.put, List.setIfInBounds_toArray, List.set_cons_zero, List.set_cons_succ, i64_w, i32_w]
          rfl
        refine pure_ (i := 3) (N := some 64) (v := ?_) (a' := ?_) (mk_ 24 15) rfl rfl (any_of HT_.out (by kernel_rfl)) (fun _ _ _ h => h) (Or.inl ⟨by rfl, ?_⟩) ?_ ?_
        rotate_left
        · intro w'
          go_simp
          with_reducible rfl
        rotate_left
        · simp only [Act.put, List.setIfInBounds_toArray, List.set_cons_zero, List.set_cons_succ, i64_w, i32_w]
          rfl
        refine pure_ (i := 4) (N := some 65) (v := ?_) (a' := ?_) (mk_ 24 31) rfl rfl (any_of HT_.out (by kernel_rfl)) (fun _ _ _ h => h) (Or.inl ⟨by rfl, ?_⟩) ?_ ?_
        rotate_left
        · intro w'
          go_simp
          with_reducible rfl
        rotate_left
        · simp only [Act.put, List.setIfInBounds_toArray, List.set_cons_zero, List.set_cons_succ, i64_w, i32_w]
          rfl
        refine take_ (i := 5) (N := some 66) (v := ?_) (a' := ?_) (mk_ 24 63) rfl rfl (take_ofW HT_.out HW_.out (by kernel_rfl)) (fun _ _ _ h => h) (Or.inl ⟨by rfl, ?_⟩) hHeld ?_ ?_
        rotate_left
        · rintro w' ⟨s0, s1, s2, s3, s4, s5, s6, s7, s8, s9, s10, s11, s12, s13, s14, s15⟩
          go_simp
          with_reducible rfl
        rotate_left
        · simp only [Act.put, List.setIfInBounds_toArray, List.set_cons_zero, List.set_cons_succ, i64_w, i32_w]
          rfl
        refine pure_ (i := 6) (N := some 67) (v := ?_) (a' := ?_) (mk_ 24 127) rfl rfl (any_of HT_.out (by kernel_rfl)) (fun _ _ _ h => h) (Or.inl ⟨by rfl, ?_⟩) ?_ ?_
        rotate_left
        · intro w'
          go_simp
          with_reducible rfl
        rotate_left
        · simp only [Act.put, List.setIfInBounds_toArray, List.set_cons_zero, List.set_cons_succ, i64_w, i32_w]
          rfl
        refine pure_ (i := 7) (N := some 68) (v := ?_) (a' := ?_) (mk_ 24 255) rfl rfl (any_of HT_.out (by kernel_rfl)) (fun _ _ _ h => h) (Or.inl ⟨by rfl, ?_⟩) ?_ ?_
        rotate_left
        · intro w'
          go_simp
          with_reducible rfl
        rotate_left
        · simp only [Act.put, List.setIfInBounds_toArray, List.set_cons_zero, List.set_cons_succ, i64_w, i32_w]
          rfl
        refine pure_ (i := 8) (N := some 69) (v := ?_) (a' := ?_) (mk_ 24 511) rfl rfl (any_of HT_.out (by kernel_rfl)) (fun _ _ _ h => h) (Or.inl ⟨by rfl, ?_⟩) ?_ ?_
        rotate_left
        · intro w'
          go_simp
          with_reducible rfl
        rotate_left
        · simp only [Act.put, List.setIfInBounds_toArray, List.set_cons_zero, List.set_cons_succ, i64_w, i32_w]
          rfl
        refine pure_ (i := 9) (N := some 70) (v := ?_) (a' := ?_) (mk_ 24 1023) rfl rfl (any_of HT_.out (by kernel_rfl)) (fun _ _ _ h => h) (Or.inl ⟨by rfl, ?_⟩) ?_ ?_
        rotate_left
        · intro w'
          go_simp
          with_reducible rfl
        rotate_left
        · simp only [Act.put, List.setIfInBounds_toArray, List.set_cons_zero, List.set_cons_succ, i64_w, i32_w]
          rfl
        refine pure_ (i := 10) (N := some 71) (v := ?_) (a' := ?_) (mk_ 24 2047) rfl rfl (any_of HT_.out (by kernel_rfl)) (fun _ _ _ h => h) (Or.inl ⟨by rfl, ?_⟩) ?_ ?_
        rotate_left
        · intro w'
          go_simp
          with_reducible rfl
        rotate_left
        · simp only [Act.put, List.setIfInBounds_toArray, List.set_cons_zero, List.set_cons_succ, i64_w, i32_w]
          rfl
        refine pure_ (i := 12) (N := some 73) (v := ?_) (a' := ?_) (mk_ 24 6143) rfl rfl (any_of HT_.out (by kernel_rfl)) (fun _ _ _ h => h) (Or.inl ⟨by rfl, ?_⟩) ?_ ?_
        rotate_left
        · intro w'
          go_simp
          with_reducible rfl
        rotate_left
        · simp only [Act.put, List.setIfInBounds_toArray, List.set_cons_zero, List.set_cons_succ, i64_w, i32_w]
          rfl
        refine pure_ (i := 13) (N := some 74) (v := ?_) (a' := ?_) (mk_ 24 14335) rfl rfl (any_of HT_.out (by kernel_rfl)) (fun _ _ _ h => h) (Or.inl ⟨by rfl, ?_⟩) ?_ ?_
        rotate_left
        · intro w'
          go_simp
          with_reducible rfl
        rotate_left
        · simp only [Act.put, List.setIfInBounds_toArray, List.set_cons_zero, List.set_cons_succ, i64_w, i32_w]
          rfl
        refine pure_ (i := 15) (N := some 76) (v := ?_) (a' := ?_) (mk_ 24 47103) rfl rfl (any_of HT_.out (by kernel_rfl)) (fun _ _ _ h => h) (Or.inl ⟨by rfl, ?_⟩) ?_ ?_
        rotate_left
        · intro w'
          go_simp
          with_reducible rfl
        rotate_left
        · simp only [Act.put, List.setIfInBounds_toArray, List.set_cons_zero, List.set_cons_succ, i64_w, i32_w]
          rfl
        refine take_ (i := 11) (N := some 72) (v := ?_) (a' := ?_) (mk_ 24 49151) rfl rfl (take_ofW HT_.out HW_.out (by kernel_rfl)) (fun _ _ _ h => h) (Or.inl ⟨by rfl, ?_⟩) hHeld ?_ ?_
        rotate_left
        · rintro w' ⟨s0, s1, s2, s3, s4, s5, s6, s7, s8, s9, s10, s11, s12, s13, s14, s15⟩
          go_simp
          with_reducible rfl
        rotate_left
        · simp only [Act.put, List.setIfInBounds_toArray, List.set_cons_zero, List.set_cons_succ, i64_w, i32_w]
          rfl
        refine take_ (i := 14) (N := some 75) (v := ?_) (a' := ?_) (mk_ 24 65535) rfl rfl (take_ofW HT_.out HW_.out (by kernel_rfl)) (fun _ _ _ h => h) (Or.inl ⟨by rfl, ?_⟩) hHeld ?_ ?_
        rotate_left
        · rintro w' ⟨s0, s1, s2, s3, s4, s5, s6, s7, s8, s9, s10, s11, s12, s13, s14, s15⟩
          go_simp
          with_reducible rfl
        rotate_left
        · simp only [Act.put, List.setIfInBounds_toArray, List.set_cons_zero, List.set_cons_succ, i64_w, i32_w]
          rfl
        refine pure_ (i := 16) (N := some 77) (v := ?_) (a' := ?_) (mk_ 24 131071) rfl rfl (any_of HT_.out (by kernel_rfl)) (fun _ _ _ h => h) (Or.inl ⟨by rfl, ?_⟩) ?_ ?_
        rotate_left
        · intro w'
          go_simp
          with_reducible rfl
        rotate_left
        · simp only [Act.put, List.setIfInBounds_toArray, List.set_cons_zero, List.set_cons_succ, i64_w, i32_w]
          rfl
        refine pure_ (i := 17) (N := some 78) (v := ?_) (a' := ?_) (mk_ 24 262143) rfl rfl (any_of HT_.out (by kernel_rfl)) (fun _ _ _ h => h) (Or.inl ⟨by rfl, ?_⟩) ?_ ?_
        rotate_left
        · intro w'
          go_simp
          with_reducible rfl
        rotate_left
        · simp only [Act.put, List.setIfInBounds_toArray, List.set_cons_zero, List.set_cons_succ, i64_w, i32_w]
          rfl
        refine take_ (i := 18) (N := some 79) (v := ?_) (a' := ?_) (mk_ 24 524287) rfl rfl (take_ofW HT_.out HW_.out (by kernel_rfl)) (fun _ _ _ h => h) (Or.inl ⟨by rfl, ?_⟩) hHeld ?_ ?_
        rotate_left
        · rintro w' ⟨s0, s1, s2, s3, s4, s5, s6, s7, s8, s9, s10, s11, s12, s13, s14, s15⟩
          go_simp
          with_reducible rfl
        rotate_left
        · simp only [Act.put, List.setIfInBounds_toArray, List.set_cons_zero, List.set_cons_succ, i64_w, i32_w]
          rfl
        refine pure_ (i := 19) (N := some 80) (v := ?_) (a' := ?_) (mk_ 24 1048575) rfl rfl (any_of HT_.out (by kernel_rfl)) (fun _ _ _ h => h) (Or.inl ⟨by rfl, ?_⟩) ?_ ?_
        rotate_left
        · intro w'
          go_simp
          with_reducible rfl
        rotate_left
        · simp only [Act.put, List.setIfInBounds_toArray, List.set_cons_zero, List.set_cons_succ, i64_w, i32_w]
          rfl
        refine take_ (i := 20) (N := some 81) (v := ?_) (a' := ?_) (mk_ 24 2097151) rfl rfl (take_ofW HT_.out HW_.out (by kernel_rfl)) (fun _ _ _ h => h) (Or.inl ⟨by rfl, ?_⟩) hHeld ?_ ?_
        rotate_left
        · rintro w' ⟨s0, s1, s2, s3, s4, s5, s6, s7, s8, s9, s10, s11, s12, s13, s14, s15⟩
          go_simp
          with_reducible rfl
        rotate_left
        · simp only [Act.put, List.setIfInBounds_toArray, List.set_cons_zero, List.set_cons_succ, i64_w, i32_w]
          rfl
        refine pure_ (i := 21) (N := some 82) (v := ?_) (a' := ?_) (mk_ 24 4194303) rfl rfl (any_of HT_.out (by kernel_rfl)) (fun _ _ _ h => h) (Or.inl ⟨by rfl, ?_⟩) ?_ ?_
        rotate_left
        · intro w'
          go_simp
          with_reducible rfl
        rotate_left
        · simp only [Act.put, List.setIfInBounds_toArray, List.set_cons_zero, List.set_cons_succ, i64_w, i32_w]
          rfl
        refine pure_ (i := 22) (N := some 83) (v := ?_) (a' := ?_) (mk_ 24 8388607) rfl rfl (any_of HT_.out (by kernel_rfl)) (fun _ _ _ h => h) (Or.inl ⟨by rfl, ?_⟩) ?_ ?_
        rotate_left
        · intro w'
          go_simp
          with_reducible rfl
        rotate_left
        · simp only [Act.put, List.setIfInBounds_toArray, List.set_cons_zero, List.set_cons_succ, i64_w, i32_w]
          rfl
        refine pure_ (i := 23) (N := some 4) (v := ?_) (a' := ?_) (mk_ 24 16777215) rfl rfl (any_of HT_.out (by kernel_rfl)) (fun _ _ _ h => h) (Or.inl ⟨by rfl, ?_⟩) ?_ ?_
        rotate_left
        · intro w'
          go_simp
          with_reducible rfl
        rotate_left
        · simp only [Act.put, List.setIfInBounds_toArray, List.set_cons_zero, List.set_cons_succ, i64_w, i32_w]
          rfl
        refine done_ (done_of HT_.out (by kernel_rfl)) ?_
        try go_wp2
        go_ret
        exact ⟨by first | rfl | (simp [errW_none, errW_some] <;> rfl) | (simp only [← hji53]; first | rfl | (simp [errW_none, errW_some] <;> rfl)) | (simp [*, errW_none, errW_some] <;> rfl), hB69⟩
      rw [if_pos c17] at H
      have c17b0 : decide (x27_1 < (l0_3.length : Int)) = true := decide_eq_true c17
      clear c17
      by_cases c18 : 0 ≤ x27_1
      rotate_left
      · rw [if_neg c18] at H
        exact absurd H (by simp)
      rw [if_pos c18] at H
      have c18b0 : decide (0 ≤ x27_1) = true := decide_eq_true c18
      clear c18
      by_cases c19 : x27_1 < (l0_3.length : Int)
      rotate_left
      · rw [if_neg c19] at H
        exact absurd H (by simp)
      rw [if_pos c19] at H
      have c19b0 : decide (x27_1 < (l0_3.length : Int)) = true := decide_eq_true c19
      clear c19
      replace H := Option.bind_eq_some_iff.mp H
      obtain ⟨t113, A200, H⟩ := H
      replace H : ((live_Uses.f k1 ((rd_T36 l0_3 x27_1).f0) ((rd_T36 l0_3 x27_1).f1) ((rd_T36 l0_3 x27_1).f2) ((rd_T36 l0_3 x27_1).f3) ((rd_T36 l0_3 x27_1).f4)).bind fun t114 => (if x27_1 < (t104.length : Int) then (if (Go.bits .and .u8 (rd t104 x27_1) (Go.bits .andNot .u8 t113 t114)) = 0 then ((live_Uses.f k1 ((rd_T36 l0_3 x27_1).f0) ((rd_T36 l0_3 x27_1).f1) ((rd_T36 l0_3 x27_1).f2) ((rd_T36 l0_3 x27_1).f3) ((rd_T36 l0_3 x27_1).f4)).bind fun t116 => (if (Go.bits .andNot .u8 t116 (rd t104 x27_1)) = 0 then (lockstitchlaw08_LiveDead.l0 k1 a1 t104 l0_3 (l0_3.length : Int) (wrap64 (x27_1 + 1)) l0_0 a0_1 a0_2 l0_3) else (some false))) else (some false)) else (none))) = some r := H
      have A20 := Aside0.mk A200
      clear A200
      replace H := Option.bind_eq_some_iff.mp H
      obtain ⟨t114, A210, H⟩ := H
      replace H : (if x27_1 < (t104.length : Int) then (if (Go.bits .and .u8 (rd t104 x27_1) (Go.bits .andNot .u8 t113 t114)) = 0 then ((live_Uses.f k1 ((rd_T36 l0_3 x27_1).f0) ((rd_T36 l0_3 x27_1).f1) ((rd_T36 l0_3 x27_1).f2) ((rd_T36 l0_3 x27_1).f3) ((rd_T36 l0_3 x27_1).f4)).bind fun t116 => (if (Go.bits .andNot .u8 t116 (rd t104 x27_1)) = 0 then (lockstitchlaw08_LiveDead.l0 k1 a1 t104 l0_3 (l0_3.length : Int) (wrap64 (x27_1 + 1)) l0_0 a0_1 a0_2 l0_3) else (some false))) else (some false)) else (none)) = some r := H
      have A21 := Aside0.mk A210
      clear A210
      by_cases c22 : x27_1 < (t104.length : Int)
      rotate_left
      · rw [if_neg c22] at H
        exact absurd H (by simp)
      rw [if_pos c22] at H
      have c22b0 : decide (x27_1 < (t104.length : Int)) = true := decide_eq_true c22
      clear c22
      by_cases c23 : (Go.bits .and .u8 (rd t104 x27_1) (Go.bits .andNot .u8 t113 t114)) = 0
      rotate_left
      · rw [if_neg c23] at H
        have c23b0 : ((Go.bits .and .u8 (rd t104 x27_1) (Go.bits .andNot .u8 t113 t114)) == 0) = false := beq_eq_false_iff_ne.mpr c23
        have c23b1 : ((Go.bits .and .u8 (rd t104 x27_1) (Go.bits .andNot .u8 t113 t114)) != 0) = true := bne_iff_ne.mpr c23
        obtain rfl := Option.some.inj H
        have p111 : 0 ≤ (x27_1 : Int) := of_decide_eq_true hB58
        have q111 : x27_1 < (l0_3.length : Int) := of_decide_eq_true hB58
        obtain ⟨ad111, e111, hx111_0, hx111_1, hx111_2, hx111_3, hx111_4⟩ := at_T36 HR0_3.out x27_1 p111 q111
        cases e111
        replace hx111_0 := (HB.out.cell (World.block_lt_of_cell? w _ hx111_0)).trans hx111_0
        replace hx111_1 := (HB.out.cell (World.block_lt_of_cell? w _ hx111_1)).trans hx111_1
        replace hx111_2 := (HB.out.cell (World.block_lt_of_cell? w _ hx111_2)).trans hx111_2
        replace hx111_3 := (HB.out.cell (World.block_lt_of_cell? w _ hx111_3)).trans hx111_3
        replace hx111_4 := (HB.out.cell (World.block_lt_of_cell? w _ hx111_4)).trans hx111_4
        replace p111 := eq_true p111
        replace q111 := eq_true q111
        try go_wp2_with (first | ((with_reducible refine gate_dst (N := 7) rfl ?_); refine box_event ?hg (N := 7) ?hd (cs := #[.int .u8 0, .int .u8 0, .int .u8 0, .int .u8 0, .int .i64 0]) (t := 36) ?hr ?_; (case hd => rfl); (case hg => rfl); (case hr => first | (go_simp; done) | (go_simp; rfl)); intro gb112 hg w44 hbox hb; have n0_ := Aside0.mk (Kd.R_below hB22 hb); have n1_ := Aside0.mk (blk_below (g := gb101) (o := .cells #[.slice A0_0 l0_0.length c0_0, .string a0_1, .string a0_2, .slice (some ad111) l0_3.length c0_3] 25 (0, 0)) hB26 hb); have n2_ := Aside0.mk (below_step hB69 hb); have n3_ := Aside0.mk (hbox); have n4_ := Aside0.mk ((by rw [hg]; exact (below_size hB69) : w.heap.size ≤ gb112)); have n5_ := Aside0.mk ((by rw [hg]; exact (below_size hB69) : w.heap.size ≤ gb112)); have n6_ := Aside0.mk ((by rw [hg]; exact Nat.ne_of_lt (blk_lt (g := gb101) (o := .cells #[.slice A0_0 l0_0.length c0_0, .string a0_1, .string a0_2, .slice (some ad111) l0_3.length c0_3] 25 (0, 0)) hB26) : gb101 ≠ gb112)); have n7_ := Aside0.mk ((by rw [hg]; exact Nat.ne_of_gt (blk_lt (g := gb101) (o := .cells #[.slice A0_0 l0_0.length c0_0, .string a0_1, .string a0_2, .slice (some ad111) l0_3.length c0_3] 25 (0, 0)) hB26) : gb112 ≠ gb101)); clear HO_5; clear BK101; clear HB; have HO_5 := n0_; have BK101 := n1_; have HB := n2_; have BK112 := n3_; have GW112 := n4_; have GE112 := n5_; have NB101_112 := n6_; have NB112_101 := n7_; clear n0_ n1_ n2_ n3_ n4_ n5_ n6_ n7_; clear hb hbox hg; have hnb45 := NB112_101.out; have hnc45 := NB101_112.out; have hcz46_0 : w44.cell? ⟨gb112, 0, none⟩ = some (.int .u8 0) := (blk_cell BK112.out 0).trans rfl; have hcz46_1 : w44.cell? ⟨gb112, 1, none⟩ = some (.int .u8 0) := (blk_cell BK112.out 1).trans rfl; have hcz46_2 : w44.cell? ⟨gb112, 2, none⟩ = some (.int .u8 0) := (blk_cell BK112.out 2).trans rfl; have hcz46_3 : w44.cell? ⟨gb112, 3, none⟩ = some (.int .u8 0) := (blk_cell BK112.out 3).trans rfl; have hcz46_4 : w44.cell? ⟨gb112, 4, none⟩ = some (.int .i64 0) := (blk_cell BK112.out 4).trans rfl; have hfz46_0 := blk_frozen BK112.out 0; have hfz46_1 := blk_frozen BK112.out 1; have hfz46_2 := blk_frozen BK112.out 2; have hfz46_3 := blk_frozen BK112.out 3; have hfz46_4 := blk_frozen BK112.out 4))
        have n0_ : Aside0 (Kd.R (Kd.int .u8) 5 (((((w44.setCell ⟨gb112, 0, none⟩ (.int .u8 ((rd_T36 l0_3 x27_1).f0))).setCell ⟨gb112, 1, none⟩ (.int .u8 ((rd_T36 l0_3 x27_1).f1))).setCell ⟨gb112, 2, none⟩ (.int .u8 ((rd_T36 l0_3 x27_1).f2))).setCell ⟨gb112, 3, none⟩ (.int .u8 ((rd_T36 l0_3 x27_1).f3))).setCell ⟨gb112, 4, none⟩ (.int .i64 ((rd_T36 l0_3 x27_1).f4))) w.heap.size (fun _ => True) (.slice Ao15 t104.length co15) t104) := ⟨hB25⟩
        have n1_ : Aside0 ((((((w44.setCell ⟨gb112, 0, none⟩ (.int .u8 ((rd_T36 l0_3 x27_1).f0))).setCell ⟨gb112, 1, none⟩ (.int .u8 ((rd_T36 l0_3 x27_1).f1))).setCell ⟨gb112, 2, none⟩ (.int .u8 ((rd_T36 l0_3 x27_1).f2))).setCell ⟨gb112, 3, none⟩ (.int .u8 ((rd_T36 l0_3 x27_1).f3))).setCell ⟨gb112, 4, none⟩ (.int .i64 ((rd_T36 l0_3 x27_1).f4))).heap[gb101]? = some (.cells #[.slice A0_0 l0_0.length c0_0, .string a0_1, .string a0_2, .slice (some ad111) l0_3.length c0_3] 25 (0, 0))) := ⟨hB52⟩
        have n2_ : Aside0 ((((((w44.setCell ⟨gb112, 0, none⟩ (.int .u8 ((rd_T36 l0_3 x27_1).f0))).setCell ⟨gb112, 1, none⟩ (.int .u8 ((rd_T36 l0_3 x27_1).f1))).setCell ⟨gb112, 2, none⟩ (.int .u8 ((rd_T36 l0_3 x27_1).f2))).setCell ⟨gb112, 3, none⟩ (.int .u8 ((rd_T36 l0_3 x27_1).f3))).setCell ⟨gb112, 4, none⟩ (.int .i64 ((rd_T36 l0_3 x27_1).f4))).heap[gb112]? = some (.cells #[.int .u8 ((rd_T36 l0_3 x27_1).f0), .int .u8 ((rd_T36 l0_3 x27_1).f1), .int .u8 ((rd_T36 l0_3 x27_1).f2), .int .u8 ((rd_T36 l0_3 x27_1).f3), .int .i64 ((rd_T36 l0_3 x27_1).f4)] 36 (0, 0))) := ⟨hB56⟩
        have n3_ : Aside0 (Below w.heap.size w (((((w44.setCell ⟨gb112, 0, none⟩ (.int .u8 ((rd_T36 l0_3 x27_1).f0))).setCell ⟨gb112, 1, none⟩ (.int .u8 ((rd_T36 l0_3 x27_1).f1))).setCell ⟨gb112, 2, none⟩ (.int .u8 ((rd_T36 l0_3 x27_1).f2))).setCell ⟨gb112, 3, none⟩ (.int .u8 ((rd_T36 l0_3 x27_1).f3))).setCell ⟨gb112, 4, none⟩ (.int .i64 ((rd_T36 l0_3 x27_1).f4)))) := ⟨hB68⟩
        (try clear HO_5)
        (try clear BK101)
        (try clear BK112)
        (try clear HB)
        generalize (((((w44.setCell ⟨gb112, 0, none⟩ (.int .u8 ((rd_T36 l0_3 x27_1).f0))).setCell ⟨gb112, 1, none⟩ (.int .u8 ((rd_T36 l0_3 x27_1).f1))).setCell ⟨gb112, 2, none⟩ (.int .u8 ((rd_T36 l0_3 x27_1).f2))).setCell ⟨gb112, 3, none⟩ (.int .u8 ((rd_T36 l0_3 x27_1).f3))).setCell ⟨gb112, 4, none⟩ (.int .i64 ((rd_T36 l0_3 x27_1).f4))) = w47 at n0_ n1_ n2_ n3_ ⊢
        have HO_5 := n0_
        have BK101 := n1_
        have BK112 := n2_
        have HB := n3_
        clear n0_ n1_ n2_ n3_
        have n0_ := Aside0.mk (Kd.R_drew HO_5.out)
        have n1_ := Aside0.mk (blk_drew BK101.out)
        have n2_ := Aside0.mk (blk_drew BK112.out)
        have n3_ := Aside0.mk (below_drew1 HB.out)
        clear HO_5
        clear BK101
        clear BK112
        clear HB
        have HO_5 := n0_
        have BK101 := n1_
        have BK112 := n2_
        have HB := n3_
        clear n0_ n1_ n2_ n3_
        refine start_ (n := 6) (S := fun w' => w'.cell? ⟨gb112, 0, none⟩ = some (.int .u8 ((rd_T36 l0_3 x27_1).f0)) ∧ w'.cell? ⟨gb112, 1, none⟩ = some (.int .u8 ((rd_T36 l0_3 x27_1).f1)) ∧ w'.cell? ⟨gb112, 2, none⟩ = some (.int .u8 ((rd_T36 l0_3 x27_1).f2)) ∧ w'.cell? ⟨gb112, 3, none⟩ = some (.int .u8 ((rd_T36 l0_3 x27_1).f3)) ∧ w'.cell? ⟨gb112, 4, none⟩ = some (.int .i64 ((rd_T36 l0_3 x27_1).f4))) (ds := []) #[false, false, false, false, false, false] (by kernel_rfl) rfl rfl ⟨(blk_cell BK112.out 0).trans rfl, (blk_cell BK112.out 1).trans rfl, (blk_cell BK112.out 2).trans rfl, (blk_cell BK112.out 3).trans rfl, (blk_cell BK112.out 4).trans rfl⟩ (fun hHeld => ?_)
        generalize w47.drew = w48 at HO_5 BK101 BK112 HB hHeld ⊢
        refine take_ (i := 0) (N := some 32) (v := ?_) (a' := ?_) (mk_ 6 1) rfl rfl (by kernel_rfl) (fun _ _ _ h => h) (Or.inl ⟨by rfl, ?_⟩) hHeld ?_ ?_
        rotate_left
        · rintro w' ⟨s0, s1, s2, s3, s4⟩
          go_simp
          with_reducible rfl
        rotate_left
        · simp only [Act.put, List.setIfInBounds_toArray, List.set_cons_zero, List.set_cons_succ, i64_w, i32_w]
          rfl
        refine take_ (i := 2) (N := some 34) (v := ?_) (a' := ?_) (mk_ 6 5) rfl rfl (by kernel_rfl) (fun _ _ _ h => h) (Or.inl ⟨by rfl, ?_⟩) hHeld ?_ ?_
        rotate_left
        · rintro w' ⟨s0, s1, s2, s3, s4⟩
          go_simp
          with_reducible rfl
        rotate_left
        · simp only [Act.put, List.setIfInBounds_toArray, List.set_cons_zero, List.set_cons_succ, i64_w, i32_w]
          rfl
        refine one_ (i := 1) (N := some 33) (mk_ 6 7) rfl rfl (by kernel_rfl) (by decide) (fun K hK => ?_)
        refine goes_ Tryd.func32 (by kernel_rfl) rfl #[.agg #[.int .u8 ((rd_T36 l0_3 x27_1).f0), .int .u8 ((rd_T36 l0_3 x27_1).f1), .int .u8 ((rd_T36 l0_3 x27_1).f2), .int .u8 ((rd_T36 l0_3 x27_1).f3), .int .i64 ((rd_T36 l0_3 x27_1).f4)]] (by rfl) rfl rfl hB1 ?_
        with_reducible refine (live_Sets.calls k1 ((rd_T36 l0_3 x27_1).f0) ((rd_T36 l0_3 x27_1).f1) ((rd_T36 l0_3 x27_1).f2) ((rd_T36 l0_3 x27_1).f3) ((rd_T36 l0_3 x27_1).f4) t113 _ A20.out).mono ?_
        rintro e w49 ⟨rfl, hb⟩
        refine ⟨_, rfl, ?_⟩
        have n0_ := Aside0.mk (Kd.R_below hB22 hb)
        have n1_ := Aside0.mk (blk_below (g := gb101) (o := .cells #[.slice A0_0 l0_0.length c0_0, .string a0_1, .string a0_2, .slice (some ad111) l0_3.length c0_3] 25 (0, 0)) hB26 hb)
        have n2_ := Aside0.mk (blk_below (g := gb112) (o := .cells #[.int .u8 ((rd_T36 l0_3 x27_1).f0), .int .u8 ((rd_T36 l0_3 x27_1).f1), .int .u8 ((rd_T36 l0_3 x27_1).f2), .int .u8 ((rd_T36 l0_3 x27_1).f3), .int .i64 ((rd_T36 l0_3 x27_1).f4)] 36 (0, 0)) hB30 hb)
        have n3_ := Aside0.mk (below_step hB68 hb)
        clear HO_5
        clear BK101
        clear BK112
        clear HB
        have HO_5 := n0_
        have BK101 := n1_
        have BK112 := n2_
        have HB := n3_
        clear n0_ n1_ n2_ n3_
        (try clear hb)
        (try clear hb2)
        (try clear hk)
        (try clear hi)
        refine hK.out _ _ ⟨(blk_cell BK112.out 0).trans rfl, (blk_cell BK112.out 1).trans rfl, (blk_cell BK112.out 2).trans rfl, (blk_cell BK112.out 3).trans rfl, (blk_cell BK112.out 4).trans rfl⟩ (fun hHeld => ?_)
        clear hK K
        refine norm_ (a' := ?_) ?_ ?_
        rotate_left
        · show Act.put _ (some 33) _ = _
          simp only [Act.put, List.setIfInBounds_toArray, List.set_cons_zero, List.set_cons_succ, i64_w, i32_w]
          rfl
        refine one_ (i := 3) (N := some 35) (mk_ 6 15) rfl rfl (by kernel_rfl) (by decide) (fun K hK => ?_)
        refine goes_ Tryd.func30 (by kernel_rfl) rfl #[.agg #[.int .u8 ((rd_T36 l0_3 x27_1).f0), .int .u8 ((rd_T36 l0_3 x27_1).f1), .int .u8 ((rd_T36 l0_3 x27_1).f2), .int .u8 ((rd_T36 l0_3 x27_1).f3), .int .i64 ((rd_T36 l0_3 x27_1).f4)]] (by rfl) rfl rfl hB1 ?_
        with_reducible refine (live_Uses.calls k1 ((rd_T36 l0_3 x27_1).f0) ((rd_T36 l0_3 x27_1).f1) ((rd_T36 l0_3 x27_1).f2) ((rd_T36 l0_3 x27_1).f3) ((rd_T36 l0_3 x27_1).f4) t114 _ A21.out).mono ?_
        rintro e w50 ⟨rfl, hb⟩
        refine ⟨_, rfl, ?_⟩
        have n0_ := Aside0.mk (Kd.R_below hB22 hb)
        have n1_ := Aside0.mk (blk_below (g := gb101) (o := .cells #[.slice A0_0 l0_0.length c0_0, .string a0_1, .string a0_2, .slice (some ad111) l0_3.length c0_3] 25 (0, 0)) hB26 hb)
        have n2_ := Aside0.mk (blk_below (g := gb112) (o := .cells #[.int .u8 ((rd_T36 l0_3 x27_1).f0), .int .u8 ((rd_T36 l0_3 x27_1).f1), .int .u8 ((rd_T36 l0_3 x27_1).f2), .int .u8 ((rd_T36 l0_3 x27_1).f3), .int .i64 ((rd_T36 l0_3 x27_1).f4)] 36 (0, 0)) hB30 hb)
        have n3_ := Aside0.mk (below_step hB68 hb)
        clear HO_5
        clear BK101
        clear BK112
        clear HB
        have HO_5 := n0_
        have BK101 := n1_
        have BK112 := n2_
        have HB := n3_
        clear n0_ n1_ n2_ n3_
        (try clear hb)
        (try clear hb2)
        (try clear hk)
        (try clear hi)
        refine hK.out _ _ ⟨(blk_cell BK112.out 0).trans rfl, (blk_cell BK112.out 1).trans rfl, (blk_cell BK112.out 2).trans rfl, (blk_cell BK112.out 3).trans rfl, (blk_cell BK112.out 4).trans rfl⟩ (fun hHeld => ?_)
        clear hK K
        refine norm_ (a' := ?_) ?_ ?_
        rotate_left
        · show Act.put _ (some 35) _ = _
          simp only [Act.put, List.setIfInBounds_toArray, List.set_cons_zero, List.set_cons_succ, i64_w, i32_w]
          rfl
        refine pure_ (i := 4) (N := some 36) (v := ?_) (a' := ?_) (mk_ 6 31) rfl rfl (by kernel_rfl) (fun _ _ _ h => h) (Or.inl ⟨by rfl, ?_⟩) ?_ ?_
        rotate_left
        · intro w'
          go_simp
          with_reducible rfl
        rotate_left
        · simp only [Act.put, List.setIfInBounds_toArray, List.set_cons_zero, List.set_cons_succ, i64_w, i32_w]
          rfl
        refine pure_ (i := 5) (N := some 8) (v := ?_) (a' := ?_) (mk_ 6 63) rfl rfl (by kernel_rfl) (fun _ _ _ h => h) (Or.inl ⟨by rfl, ?_⟩) ?_ ?_
        rotate_left
        · intro w'
          go_simp
          with_reducible rfl
        rotate_left
        · simp only [Act.put, List.setIfInBounds_toArray, List.set_cons_zero, List.set_cons_succ, i64_w, i32_w]
          rfl
        refine done_ (by kernel_rfl) ?_
        try go_wp2
        have n0_ := Aside0.mk (Kd.R_drew HO_5.out)
        have n1_ := Aside0.mk (blk_drew BK101.out)
        have n2_ := Aside0.mk (blk_drew BK112.out)
        have n3_ := Aside0.mk (below_drew1 HB.out)
        clear HO_5
        clear BK101
        clear BK112
        clear HB
        have HO_5 := n0_
        have BK101 := n1_
        have BK112 := n2_
        have HB := n3_
        clear n0_ n1_ n2_ n3_
        have p115 : 0 ≤ (x27_1 : Int) := of_decide_eq_true hB58
        have q115 : x27_1 < (t104.length : Int) := of_decide_eq_true hB58
        obtain ⟨ad115, e115, hx115_0⟩ := Kd.at_int (Kd.R_reads' HO_5.out).2.2 x27_1 p115 q115
        cases e115
        replace p115 := eq_true p115
        replace q115 := eq_true q115
        refine start_ (n := 17) (S := fun w' => w'.cell? (ad115.add (x27_1).toNat) = some (.int .u8 (rd t104 x27_1))) (ds := []) #[false, false, false, false, false, false, false, false, false, false, false, false, false, false, false, false, false] (by kernel_rfl) rfl rfl (hx115_0) (fun hHeld => ?_); refine with_tabW lockstitchlaw08_LiveDead.tab12 lockstitchlaw08_LiveDead.bits12 (fun HT_ HW_ => ?_)
        generalize w50.drew = w51 at HO_5 BK101 BK112 HB hx115_0 hHeld ⊢
        refine pure_ (i := 0) (N := some 37) (v := ?_) (a' := ?_) (mk_ 17 1) rfl rfl (any_of HT_.out (by kernel_rfl)) (fun _ _ _ h => h) (Or.inl ⟨by rfl, ?_⟩) ?_ ?_
        rotate_left
        · intro w'
          go_simp
          with_reducible rfl
        rotate_left
        · simp only [Act.put, List.setIfInBounds_toArray, List.set_cons_zero, List.set_cons_succ, i64_w, i32_w]
          rfl
        refine pure_ (i := 1) (N := some 38) (v := ?_) (a' := ?_) (mk_ 17 3) rfl rfl (any_of HT_.out (by kernel_rfl)) (fun _ _ _ h => h) (Or.inl ⟨by rfl, ?_⟩) ?_ ?_
        rotate_left
        · intro w'
          go_simp
          with_reducible rfl
        rotate_left
        · simp only [Act.put, List.setIfInBounds_toArray, List.set_cons_zero, List.set_cons_succ, i64_w, i32_w]
          rfl
        refine pure_ (i := 2) (N := some 39) (v := ?_) (a' := ?_) (mk_ 17 7) rfl rfl (any_of HT_.out (by kernel_rfl)) (fun _ _ _ h => h) (Or.inl ⟨by rfl, ?_⟩) ?_ ?_
        rotate_left
        · intro w'
          go_simp
          with_reducible rfl
        rotate_left
        · simp only [Act.put, List.setIfInBounds_toArray, List.set_cons_zero, List.set_cons_succ, i64_w, i32_w]
          rfl
        refine pure_ (i := 4) (N := some 41) (v := ?_) (a' := ?_) (mk_ 17 23) rfl rfl (any_of HT_.out (by kernel_rfl)) (fun _ _ _ h => h) (Or.inl ⟨by rfl, ?_⟩) ?_ ?_
        rotate_left
        · intro w'
          go_simp
          with_reducible rfl
        rotate_left
        · simp only [Act.put, List.setIfInBounds_toArray, List.set_cons_zero, List.set_cons_succ, i64_w, i32_w]
          rfl
        refine take_ (i := 3) (N := some 40) (v := ?_) (a' := ?_) (mk_ 17 31) rfl rfl (take_ofW HT_.out HW_.out (by kernel_rfl)) (fun _ _ _ h => h) (Or.inl ⟨by rfl, ?_⟩) hHeld ?_ ?_
        rotate_left
        · intro w' s0
          go_simp
          with_reducible rfl
        rotate_left
        · simp only [Act.put, List.setIfInBounds_toArray, List.set_cons_zero, List.set_cons_succ, i64_w, i32_w]
          rfl
        refine pure_ (i := 5) (N := some 42) (v := ?_) (a' := ?_) (mk_ 17 63) rfl rfl (any_of HT_.out (by kernel_rfl)) (fun _ _ _ h => h) (Or.inl ⟨by rfl, ?_⟩) ?_ ?_
        rotate_left
        · intro w'
          go_simp
          with_reducible rfl
        rotate_left
        · simp only [Act.put, List.setIfInBounds_toArray, List.set_cons_zero, List.set_cons_succ, i64_w, i32_w]
          rfl
        refine pure_ (i := 6) (N := some 43) (v := ?_) (a' := ?_) (mk_ 17 127) rfl rfl (any_of HT_.out (by kernel_rfl)) (fun _ _ _ h => h) (Or.inl ⟨by rfl, ?_⟩) ?_ ?_
        rotate_left
        · intro w'
          go_simp
          with_reducible rfl
        rotate_left
        · simp only [Act.put, List.setIfInBounds_toArray, List.set_cons_zero, List.set_cons_succ, i64_w, i32_w]
          rfl
        refine pure_ (i := 7) (N := some 44) (v := ?_) (a' := ?_) (mk_ 17 255) rfl rfl (any_of HT_.out (by kernel_rfl)) (fun _ _ _ h => h) (Or.inl ⟨by rfl, ?_⟩) ?_ ?_
        rotate_left
        · intro w'
          go_simp
          with_reducible rfl
        rotate_left
        · simp only [Act.put, List.setIfInBounds_toArray, List.set_cons_zero, List.set_cons_succ, i64_w, i32_w]
          rfl
        refine pure_ (i := 8) (N := some 45) (v := undef) (a' := ?_) (mk_ 17 511) rfl rfl (any_of HT_.out (by kernel_rfl)) (fun _ _ _ h => h) (Or.inr ⟨by rfl, rfl⟩) ?_ ?_
        rotate_left
        · simp only [Act.put, List.setIfInBounds_toArray, List.set_cons_zero, List.set_cons_succ, i64_w, i32_w]
          rfl
        refine pure_ (i := 9) (N := some 46) (v := undef) (a' := ?_) (mk_ 17 1023) rfl rfl (any_of HT_.out (by kernel_rfl)) (fun _ _ _ h => h) (Or.inr ⟨by rfl, rfl⟩) ?_ ?_
        rotate_left
        · simp only [Act.put, List.setIfInBounds_toArray, List.set_cons_zero, List.set_cons_succ, i64_w, i32_w]
          rfl
        refine pure_ (i := 10) (N := some 47) (v := undef) (a' := ?_) (mk_ 17 2047) rfl rfl (any_of HT_.out (by kernel_rfl)) (fun _ _ _ h => h) (Or.inr ⟨by rfl, rfl⟩) ?_ ?_
        rotate_left
        · simp only [Act.put, List.setIfInBounds_toArray, List.set_cons_zero, List.set_cons_succ, i64_w, i32_w]
          rfl
        refine pure_ (i := 11) (N := some 48) (v := undef) (a' := ?_) (mk_ 17 4095) rfl rfl (any_of HT_.out (by kernel_rfl)) (fun _ _ _ h => h) (Or.inr ⟨by rfl, rfl⟩) ?_ ?_
        rotate_left
        · simp only [Act.put, List.setIfInBounds_toArray, List.set_cons_zero, List.set_cons_succ, i64_w, i32_w]
          rfl
        refine pure_ (i := 12) (N := some 49) (v := undef) (a' := ?_) (mk_ 17 8191) rfl rfl (any_of HT_.out (by kernel_rfl)) (fun _ _ _ h => h) (Or.inr ⟨by rfl, rfl⟩) ?_ ?_
        rotate_left
        · simp only [Act.put, List.setIfInBounds_toArray, List.set_cons_zero, List.set_cons_succ, i64_w, i32_w]
          rfl
        refine pure_ (i := 13) (N := some 50) (v := undef) (a' := ?_) (mk_ 17 16383) rfl rfl (any_of HT_.out (by kernel_rfl)) (fun _ _ _ h => h) (Or.inr ⟨by rfl, rfl⟩) ?_ ?_
        rotate_left
        · simp only [Act.put, List.setIfInBounds_toArray, List.set_cons_zero, List.set_cons_succ, i64_w, i32_w]
          rfl
        refine pure_ (i := 14) (N := some 51) (v := undef) (a' := ?_) (mk_ 17 32767) rfl rfl (any_of HT_.out (by kernel_rfl)) (fun _ _ _ h => h) (Or.inr ⟨by rfl, rfl⟩) ?_ ?_
        rotate_left
        · simp only [Act.put, List.setIfInBounds_toArray, List.set_cons_zero, List.set_cons_succ, i64_w, i32_w]
          rfl
        refine pure_ (i := 15) (N := some 52) (v := undef) (a' := ?_) (mk_ 17 65535) rfl rfl (any_of HT_.out (by kernel_rfl)) (fun _ _ _ h => h) (Or.inr ⟨by rfl, rfl⟩) ?_ ?_
        rotate_left
        · simp only [Act.put, List.setIfInBounds_toArray, List.set_cons_zero, List.set_cons_succ, i64_w, i32_w]
          rfl
        refine pure_ (i := 16) (N := some 53) (v := ?_) (a' := ?_) (mk_ 17 131071) rfl rfl (any_of HT_.out (by kernel_rfl)) (fun _ _ _ h => h) (Or.inl ⟨by rfl, ?_⟩) ?_ ?_
        rotate_left
        · intro w'
          go_simp
          with_reducible rfl
        rotate_left
        · simp only [Act.put, List.setIfInBounds_toArray, List.set_cons_zero, List.set_cons_succ, i64_w, i32_w]
          rfl
        refine done_ (done_of HT_.out (by kernel_rfl)) ?_
        try go_wp2
        go_ret
        exact ⟨by first | rfl | (simp [errW_none, errW_some] <;> rfl) | (simp [*, errW_none, errW_some] <;> rfl), hB68⟩
      rw [if_pos c23] at H
      have c23b0 : ((Go.bits .and .u8 (rd t104 x27_1) (Go.bits .andNot .u8 t113 t114)) == 0) = true := beq_iff_eq.mpr c23
      have c23b1 : ((Go.bits .and .u8 (rd t104 x27_1) (Go.bits .andNot .u8 t113 t114)) != 0) = false := bne_eq_false_iff_eq.mpr c23
      clear c23
      replace H := Option.bind_eq_some_iff.mp H
      obtain ⟨t116, A240, H⟩ := H
      replace H : (if (Go.bits .andNot .u8 t116 (rd t104 x27_1)) = 0 then (lockstitchlaw08_LiveDead.l0 k1 a1 t104 l0_3 (l0_3.length : Int) (wrap64 (x27_1 + 1)) l0_0 a0_1 a0_2 l0_3) else (some false)) = some r := H
      have A24 := Aside0.mk A240
      clear A240
      by_cases c25 : (Go.bits .andNot .u8 t116 (rd t104 x27_1)) = 0
      rotate_left
      · rw [if_neg c25] at H
        have c25b0 : ((Go.bits .andNot .u8 t116 (rd t104 x27_1)) == 0) = false := beq_eq_false_iff_ne.mpr c25
        have c25b1 : ((Go.bits .andNot .u8 t116 (rd t104 x27_1)) != 0) = true := bne_iff_ne.mpr c25
        obtain rfl := Option.some.inj H
        have p111 : 0 ≤ (x27_1 : Int) := of_decide_eq_true hB58
        have q111 : x27_1 < (l0_3.length : Int) := of_decide_eq_true hB58
        obtain ⟨ad111, e111, hx111_0, hx111_1, hx111_2, hx111_3, hx111_4⟩ := at_T36 HR0_3.out x27_1 p111 q111
        cases e111
        replace hx111_0 := (HB.out.cell (World.block_lt_of_cell? w _ hx111_0)).trans hx111_0
        replace hx111_1 := (HB.out.cell (World.block_lt_of_cell? w _ hx111_1)).trans hx111_1
        replace hx111_2 := (HB.out.cell (World.block_lt_of_cell? w _ hx111_2)).trans hx111_2
        replace hx111_3 := (HB.out.cell (World.block_lt_of_cell? w _ hx111_3)).trans hx111_3
        replace hx111_4 := (HB.out.cell (World.block_lt_of_cell? w _ hx111_4)).trans hx111_4
        replace p111 := eq_true p111
        replace q111 := eq_true q111
        try go_wp2_with (first | ((with_reducible refine gate_dst (N := 7) rfl ?_); refine box_event ?hg (N := 7) ?hd (cs := #[.int .u8 0, .int .u8 0, .int .u8 0, .int .u8 0, .int .i64 0]) (t := 36) ?hr ?_; (case hd => rfl); (case hg => rfl); (case hr => first | (go_simp; done) | (go_simp; rfl)); intro gb112 hg w35 hbox hb; have n0_ := Aside0.mk (Kd.R_below hB22 hb); have n1_ := Aside0.mk (blk_below (g := gb101) (o := .cells #[.slice A0_0 l0_0.length c0_0, .string a0_1, .string a0_2, .slice (some ad111) l0_3.length c0_3] 25 (0, 0)) hB26 hb); have n2_ := Aside0.mk (below_step hB69 hb); have n3_ := Aside0.mk (hbox); have n4_ := Aside0.mk ((by rw [hg]; exact (below_size hB69) : w.heap.size ≤ gb112)); have n5_ := Aside0.mk ((by rw [hg]; exact (below_size hB69) : w.heap.size ≤ gb112)); have n6_ := Aside0.mk ((by rw [hg]; exact Nat.ne_of_lt (blk_lt (g := gb101) (o := .cells #[.slice A0_0 l0_0.length c0_0, .string a0_1, .string a0_2, .slice (some ad111) l0_3.length c0_3] 25 (0, 0)) hB26) : gb101 ≠ gb112)); have n7_ := Aside0.mk ((by rw [hg]; exact Nat.ne_of_gt (blk_lt (g := gb101) (o := .cells #[.slice A0_0 l0_0.length c0_0, .string a0_1, .string a0_2, .slice (some ad111) l0_3.length c0_3] 25 (0, 0)) hB26) : gb112 ≠ gb101)); clear HO_5; clear BK101; clear HB; have HO_5 := n0_; have BK101 := n1_; have HB := n2_; have BK112 := n3_; have GW112 := n4_; have GE112 := n5_; have NB101_112 := n6_; have NB112_101 := n7_; clear n0_ n1_ n2_ n3_ n4_ n5_ n6_ n7_; clear hb hbox hg; have hnb36 := NB112_101.out; have hnc36 := NB101_112.out; have hcz37_0 : w35.cell? ⟨gb112, 0, none⟩ = some (.int .u8 0) := (blk_cell BK112.out 0).trans rfl; have hcz37_1 : w35.cell? ⟨gb112, 1, none⟩ = some (.int .u8 0) := (blk_cell BK112.out 1).trans rfl; have hcz37_2 : w35.cell? ⟨gb112, 2, none⟩ = some (.int .u8 0) := (blk_cell BK112.out 2).trans rfl; have hcz37_3 : w35.cell? ⟨gb112, 3, none⟩ = some (.int .u8 0) := (blk_cell BK112.out 3).trans rfl; have hcz37_4 : w35.cell? ⟨gb112, 4, none⟩ = some (.int .i64 0) := (blk_cell BK112.out 4).trans rfl; have hfz37_0 := blk_frozen BK112.out 0; have hfz37_1 := blk_frozen BK112.out 1; have hfz37_2 := blk_frozen BK112.out 2; have hfz37_3 := blk_frozen BK112.out 3; have hfz37_4 := blk_frozen BK112.out 4))
        have n0_ : Aside0 (Kd.R (Kd.int .u8) 5 (((((w35.setCell ⟨gb112, 0, none⟩ (.int .u8 ((rd_T36 l0_3 x27_1).f0))).setCell ⟨gb112, 1, none⟩ (.int .u8 ((rd_T36 l0_3 x27_1).f1))).setCell ⟨gb112, 2, none⟩ (.int .u8 ((rd_T36 l0_3 x27_1).f2))).setCell ⟨gb112, 3, none⟩ (.int .u8 ((rd_T36 l0_3 x27_1).f3))).setCell ⟨gb112, 4, none⟩ (.int .i64 ((rd_T36 l0_3 x27_1).f4))) w.heap.size (fun _ => True) (.slice Ao15 t104.length co15) t104) := ⟨hB25⟩
        have n1_ : Aside0 ((((((w35.setCell ⟨gb112, 0, none⟩ (.int .u8 ((rd_T36 l0_3 x27_1).f0))).setCell ⟨gb112, 1, none⟩ (.int .u8 ((rd_T36 l0_3 x27_1).f1))).setCell ⟨gb112, 2, none⟩ (.int .u8 ((rd_T36 l0_3 x27_1).f2))).setCell ⟨gb112, 3, none⟩ (.int .u8 ((rd_T36 l0_3 x27_1).f3))).setCell ⟨gb112, 4, none⟩ (.int .i64 ((rd_T36 l0_3 x27_1).f4))).heap[gb101]? = some (.cells #[.slice A0_0 l0_0.length c0_0, .string a0_1, .string a0_2, .slice (some ad111) l0_3.length c0_3] 25 (0, 0))) := ⟨hB52⟩
        have n2_ : Aside0 ((((((w35.setCell ⟨gb112, 0, none⟩ (.int .u8 ((rd_T36 l0_3 x27_1).f0))).setCell ⟨gb112, 1, none⟩ (.int .u8 ((rd_T36 l0_3 x27_1).f1))).setCell ⟨gb112, 2, none⟩ (.int .u8 ((rd_T36 l0_3 x27_1).f2))).setCell ⟨gb112, 3, none⟩ (.int .u8 ((rd_T36 l0_3 x27_1).f3))).setCell ⟨gb112, 4, none⟩ (.int .i64 ((rd_T36 l0_3 x27_1).f4))).heap[gb112]? = some (.cells #[.int .u8 ((rd_T36 l0_3 x27_1).f0), .int .u8 ((rd_T36 l0_3 x27_1).f1), .int .u8 ((rd_T36 l0_3 x27_1).f2), .int .u8 ((rd_T36 l0_3 x27_1).f3), .int .i64 ((rd_T36 l0_3 x27_1).f4)] 36 (0, 0))) := ⟨hB56⟩
        have n3_ : Aside0 (Below w.heap.size w (((((w35.setCell ⟨gb112, 0, none⟩ (.int .u8 ((rd_T36 l0_3 x27_1).f0))).setCell ⟨gb112, 1, none⟩ (.int .u8 ((rd_T36 l0_3 x27_1).f1))).setCell ⟨gb112, 2, none⟩ (.int .u8 ((rd_T36 l0_3 x27_1).f2))).setCell ⟨gb112, 3, none⟩ (.int .u8 ((rd_T36 l0_3 x27_1).f3))).setCell ⟨gb112, 4, none⟩ (.int .i64 ((rd_T36 l0_3 x27_1).f4)))) := ⟨hB68⟩
        (try clear HO_5)
        (try clear BK101)
        (try clear BK112)
        (try clear HB)
        generalize (((((w35.setCell ⟨gb112, 0, none⟩ (.int .u8 ((rd_T36 l0_3 x27_1).f0))).setCell ⟨gb112, 1, none⟩ (.int .u8 ((rd_T36 l0_3 x27_1).f1))).setCell ⟨gb112, 2, none⟩ (.int .u8 ((rd_T36 l0_3 x27_1).f2))).setCell ⟨gb112, 3, none⟩ (.int .u8 ((rd_T36 l0_3 x27_1).f3))).setCell ⟨gb112, 4, none⟩ (.int .i64 ((rd_T36 l0_3 x27_1).f4))) = w38 at n0_ n1_ n2_ n3_ ⊢
        have HO_5 := n0_
        have BK101 := n1_
        have BK112 := n2_
        have HB := n3_
        clear n0_ n1_ n2_ n3_
        have n0_ := Aside0.mk (Kd.R_drew HO_5.out)
        have n1_ := Aside0.mk (blk_drew BK101.out)
        have n2_ := Aside0.mk (blk_drew BK112.out)
        have n3_ := Aside0.mk (below_drew1 HB.out)
        clear HO_5
        clear BK101
        clear BK112
        clear HB
        have HO_5 := n0_
        have BK101 := n1_
        have BK112 := n2_
        have HB := n3_
        clear n0_ n1_ n2_ n3_
        refine start_ (n := 6) (S := fun w' => w'.cell? ⟨gb112, 0, none⟩ = some (.int .u8 ((rd_T36 l0_3 x27_1).f0)) ∧ w'.cell? ⟨gb112, 1, none⟩ = some (.int .u8 ((rd_T36 l0_3 x27_1).f1)) ∧ w'.cell? ⟨gb112, 2, none⟩ = some (.int .u8 ((rd_T36 l0_3 x27_1).f2)) ∧ w'.cell? ⟨gb112, 3, none⟩ = some (.int .u8 ((rd_T36 l0_3 x27_1).f3)) ∧ w'.cell? ⟨gb112, 4, none⟩ = some (.int .i64 ((rd_T36 l0_3 x27_1).f4))) (ds := []) #[false, false, false, false, false, false] (by kernel_rfl) rfl rfl ⟨(blk_cell BK112.out 0).trans rfl, (blk_cell BK112.out 1).trans rfl, (blk_cell BK112.out 2).trans rfl, (blk_cell BK112.out 3).trans rfl, (blk_cell BK112.out 4).trans rfl⟩ (fun hHeld => ?_)
        generalize w38.drew = w39 at HO_5 BK101 BK112 HB hHeld ⊢
        refine take_ (i := 0) (N := some 32) (v := ?_) (a' := ?_) (mk_ 6 1) rfl rfl (by kernel_rfl) (fun _ _ _ h => h) (Or.inl ⟨by rfl, ?_⟩) hHeld ?_ ?_
        rotate_left
        · rintro w' ⟨s0, s1, s2, s3, s4⟩
          go_simp
          with_reducible rfl
        rotate_left
        · simp only [Act.put, List.setIfInBounds_toArray, List.set_cons_zero, List.set_cons_succ, i64_w, i32_w]
          rfl
        refine take_ (i := 2) (N := some 34) (v := ?_) (a' := ?_) (mk_ 6 5) rfl rfl (by kernel_rfl) (fun _ _ _ h => h) (Or.inl ⟨by rfl, ?_⟩) hHeld ?_ ?_
        rotate_left
        · rintro w' ⟨s0, s1, s2, s3, s4⟩
          go_simp
          with_reducible rfl
        rotate_left
        · simp only [Act.put, List.setIfInBounds_toArray, List.set_cons_zero, List.set_cons_succ, i64_w, i32_w]
          rfl
        refine one_ (i := 1) (N := some 33) (mk_ 6 7) rfl rfl (by kernel_rfl) (by decide) (fun K hK => ?_)
        refine goes_ Tryd.func32 (by kernel_rfl) rfl #[.agg #[.int .u8 ((rd_T36 l0_3 x27_1).f0), .int .u8 ((rd_T36 l0_3 x27_1).f1), .int .u8 ((rd_T36 l0_3 x27_1).f2), .int .u8 ((rd_T36 l0_3 x27_1).f3), .int .i64 ((rd_T36 l0_3 x27_1).f4)]] (by rfl) rfl rfl hB1 ?_
        with_reducible refine (live_Sets.calls k1 ((rd_T36 l0_3 x27_1).f0) ((rd_T36 l0_3 x27_1).f1) ((rd_T36 l0_3 x27_1).f2) ((rd_T36 l0_3 x27_1).f3) ((rd_T36 l0_3 x27_1).f4) t113 _ A20.out).mono ?_
        rintro e w40 ⟨rfl, hb⟩
        refine ⟨_, rfl, ?_⟩
        have n0_ := Aside0.mk (Kd.R_below hB22 hb)
        have n1_ := Aside0.mk (blk_below (g := gb101) (o := .cells #[.slice A0_0 l0_0.length c0_0, .string a0_1, .string a0_2, .slice (some ad111) l0_3.length c0_3] 25 (0, 0)) hB26 hb)
        have n2_ := Aside0.mk (blk_below (g := gb112) (o := .cells #[.int .u8 ((rd_T36 l0_3 x27_1).f0), .int .u8 ((rd_T36 l0_3 x27_1).f1), .int .u8 ((rd_T36 l0_3 x27_1).f2), .int .u8 ((rd_T36 l0_3 x27_1).f3), .int .i64 ((rd_T36 l0_3 x27_1).f4)] 36 (0, 0)) hB30 hb)
        have n3_ := Aside0.mk (below_step hB68 hb)
        clear HO_5
        clear BK101
        clear BK112
        clear HB
        have HO_5 := n0_
        have BK101 := n1_
        have BK112 := n2_
        have HB := n3_
        clear n0_ n1_ n2_ n3_
        (try clear hb)
        (try clear hb2)
        (try clear hk)
        (try clear hi)
        refine hK.out _ _ ⟨(blk_cell BK112.out 0).trans rfl, (blk_cell BK112.out 1).trans rfl, (blk_cell BK112.out 2).trans rfl, (blk_cell BK112.out 3).trans rfl, (blk_cell BK112.out 4).trans rfl⟩ (fun hHeld => ?_)
        clear hK K
        refine norm_ (a' := ?_) ?_ ?_
        rotate_left
        · show Act.put _ (some 33) _ = _
          simp only [Act.put, List.setIfInBounds_toArray, List.set_cons_zero, List.set_cons_succ, i64_w, i32_w]
          rfl
        refine one_ (i := 3) (N := some 35) (mk_ 6 15) rfl rfl (by kernel_rfl) (by decide) (fun K hK => ?_)
        refine goes_ Tryd.func30 (by kernel_rfl) rfl #[.agg #[.int .u8 ((rd_T36 l0_3 x27_1).f0), .int .u8 ((rd_T36 l0_3 x27_1).f1), .int .u8 ((rd_T36 l0_3 x27_1).f2), .int .u8 ((rd_T36 l0_3 x27_1).f3), .int .i64 ((rd_T36 l0_3 x27_1).f4)]] (by rfl) rfl rfl hB1 ?_
        with_reducible refine (live_Uses.calls k1 ((rd_T36 l0_3 x27_1).f0) ((rd_T36 l0_3 x27_1).f1) ((rd_T36 l0_3 x27_1).f2) ((rd_T36 l0_3 x27_1).f3) ((rd_T36 l0_3 x27_1).f4) t114 _ A21.out).mono ?_
        rintro e w41 ⟨rfl, hb⟩
        refine ⟨_, rfl, ?_⟩
        have n0_ := Aside0.mk (Kd.R_below hB22 hb)
        have n1_ := Aside0.mk (blk_below (g := gb101) (o := .cells #[.slice A0_0 l0_0.length c0_0, .string a0_1, .string a0_2, .slice (some ad111) l0_3.length c0_3] 25 (0, 0)) hB26 hb)
        have n2_ := Aside0.mk (blk_below (g := gb112) (o := .cells #[.int .u8 ((rd_T36 l0_3 x27_1).f0), .int .u8 ((rd_T36 l0_3 x27_1).f1), .int .u8 ((rd_T36 l0_3 x27_1).f2), .int .u8 ((rd_T36 l0_3 x27_1).f3), .int .i64 ((rd_T36 l0_3 x27_1).f4)] 36 (0, 0)) hB30 hb)
        have n3_ := Aside0.mk (below_step hB68 hb)
        clear HO_5
        clear BK101
        clear BK112
        clear HB
        have HO_5 := n0_
        have BK101 := n1_
        have BK112 := n2_
        have HB := n3_
        clear n0_ n1_ n2_ n3_
        (try clear hb)
        (try clear hb2)
        (try clear hk)
        (try clear hi)
        refine hK.out _ _ ⟨(blk_cell BK112.out 0).trans rfl, (blk_cell BK112.out 1).trans rfl, (blk_cell BK112.out 2).trans rfl, (blk_cell BK112.out 3).trans rfl, (blk_cell BK112.out 4).trans rfl⟩ (fun hHeld => ?_)
        clear hK K
        refine norm_ (a' := ?_) ?_ ?_
        rotate_left
        · show Act.put _ (some 35) _ = _
          simp only [Act.put, List.setIfInBounds_toArray, List.set_cons_zero, List.set_cons_succ, i64_w, i32_w]
          rfl
        refine pure_ (i := 4) (N := some 36) (v := ?_) (a' := ?_) (mk_ 6 31) rfl rfl (by kernel_rfl) (fun _ _ _ h => h) (Or.inl ⟨by rfl, ?_⟩) ?_ ?_
        rotate_left
        · intro w'
          go_simp
          with_reducible rfl
        rotate_left
        · simp only [Act.put, List.setIfInBounds_toArray, List.set_cons_zero, List.set_cons_succ, i64_w, i32_w]
          rfl
        refine pure_ (i := 5) (N := some 8) (v := ?_) (a' := ?_) (mk_ 6 63) rfl rfl (by kernel_rfl) (fun _ _ _ h => h) (Or.inl ⟨by rfl, ?_⟩) ?_ ?_
        rotate_left
        · intro w'
          go_simp
          with_reducible rfl
        rotate_left
        · simp only [Act.put, List.setIfInBounds_toArray, List.set_cons_zero, List.set_cons_succ, i64_w, i32_w]
          rfl
        refine done_ (by kernel_rfl) ?_
        try go_wp2
        have n0_ := Aside0.mk (Kd.R_drew HO_5.out)
        have n1_ := Aside0.mk (blk_drew BK101.out)
        have n2_ := Aside0.mk (blk_drew BK112.out)
        have n3_ := Aside0.mk (below_drew1 HB.out)
        clear HO_5
        clear BK101
        clear BK112
        clear HB
        have HO_5 := n0_
        have BK101 := n1_
        have BK112 := n2_
        have HB := n3_
        clear n0_ n1_ n2_ n3_
        have p115 : 0 ≤ (x27_1 : Int) := of_decide_eq_true hB58
        have q115 : x27_1 < (t104.length : Int) := of_decide_eq_true hB58
        obtain ⟨ad115, e115, hx115_0⟩ := Kd.at_int (Kd.R_reads' HO_5.out).2.2 x27_1 p115 q115
        cases e115
        replace p115 := eq_true p115
        replace q115 := eq_true q115
        have p117 : 0 ≤ (x27_1 : Int) := of_decide_eq_true hB58
        have q117 : x27_1 < (t104.length : Int) := of_decide_eq_true hB58
        obtain ⟨ad117, e117, hx117_0⟩ := Kd.at_int (Kd.R_reads' HO_5.out).2.2 x27_1 p117 q117
        obtain rfl : ad115 = ad117 := (by injection e117)
        replace p117 := eq_true p117
        replace q117 := eq_true q117
        refine start_ (n := 17) (S := fun w' => w'.cell? ⟨gb112, 0, none⟩ = some (.int .u8 ((rd_T36 l0_3 x27_1).f0)) ∧ w'.cell? ⟨gb112, 1, none⟩ = some (.int .u8 ((rd_T36 l0_3 x27_1).f1)) ∧ w'.cell? ⟨gb112, 2, none⟩ = some (.int .u8 ((rd_T36 l0_3 x27_1).f2)) ∧ w'.cell? ⟨gb112, 3, none⟩ = some (.int .u8 ((rd_T36 l0_3 x27_1).f3)) ∧ w'.cell? ⟨gb112, 4, none⟩ = some (.int .i64 ((rd_T36 l0_3 x27_1).f4)) ∧ w'.cell? (ad115.add (x27_1).toNat) = some (.int .u8 (rd t104 x27_1)) ∧ w'.cell? (ad115.add (x27_1).toNat) = some (.int .u8 (rd t104 x27_1))) (ds := []) #[false, false, false, false, false, false, false, false, false, false, false, false, false, false, false, false, false] (by kernel_rfl) rfl rfl ⟨(blk_cell BK112.out 0).trans rfl, (blk_cell BK112.out 1).trans rfl, (blk_cell BK112.out 2).trans rfl, (blk_cell BK112.out 3).trans rfl, (blk_cell BK112.out 4).trans rfl, hx115_0, hx117_0⟩ (fun hHeld => ?_); refine with_tabW lockstitchlaw08_LiveDead.tab12 lockstitchlaw08_LiveDead.bits12 (fun HT_ HW_ => ?_)
        generalize w41.drew = w42 at HO_5 BK101 BK112 HB hx115_0 hx117_0 hHeld ⊢
        refine pure_ (i := 0) (N := some 37) (v := ?_) (a' := ?_) (mk_ 17 1) rfl rfl (any_of HT_.out (by kernel_rfl)) (fun _ _ _ h => h) (Or.inl ⟨by rfl, ?_⟩) ?_ ?_
        rotate_left
        · intro w'
          go_simp
          with_reducible rfl
        rotate_left
        · simp only [Act.put, List.setIfInBounds_toArray, List.set_cons_zero, List.set_cons_succ, i64_w, i32_w]
          rfl
        refine pure_ (i := 1) (N := some 38) (v := ?_) (a' := ?_) (mk_ 17 3) rfl rfl (any_of HT_.out (by kernel_rfl)) (fun _ _ _ h => h) (Or.inl ⟨by rfl, ?_⟩) ?_ ?_
        rotate_left
        · intro w'
          go_simp
          with_reducible rfl
        rotate_left
        · simp only [Act.put, List.setIfInBounds_toArray, List.set_cons_zero, List.set_cons_succ, i64_w, i32_w]
          rfl
        refine pure_ (i := 2) (N := some 39) (v := ?_) (a' := ?_) (mk_ 17 7) rfl rfl (any_of HT_.out (by kernel_rfl)) (fun _ _ _ h => h) (Or.inl ⟨by rfl, ?_⟩) ?_ ?_
        rotate_left
        · intro w'
          go_simp
          with_reducible rfl
        rotate_left
        · simp only [Act.put, List.setIfInBounds_toArray, List.set_cons_zero, List.set_cons_succ, i64_w, i32_w]
          rfl
        refine pure_ (i := 4) (N := some 41) (v := ?_) (a' := ?_) (mk_ 17 23) rfl rfl (any_of HT_.out (by kernel_rfl)) (fun _ _ _ h => h) (Or.inl ⟨by rfl, ?_⟩) ?_ ?_
        rotate_left
        · intro w'
          go_simp
          with_reducible rfl
        rotate_left
        · simp only [Act.put, List.setIfInBounds_toArray, List.set_cons_zero, List.set_cons_succ, i64_w, i32_w]
          rfl
        refine take_ (i := 3) (N := some 40) (v := ?_) (a' := ?_) (mk_ 17 31) rfl rfl (take_ofW HT_.out HW_.out (by kernel_rfl)) (fun _ _ _ h => h) (Or.inl ⟨by rfl, ?_⟩) hHeld ?_ ?_
        rotate_left
        · rintro w' ⟨s0, s1, s2, s3, s4, s5, s6⟩
          go_simp
          with_reducible rfl
        rotate_left
        · simp only [Act.put, List.setIfInBounds_toArray, List.set_cons_zero, List.set_cons_succ, i64_w, i32_w]
          rfl
        refine pure_ (i := 5) (N := some 42) (v := ?_) (a' := ?_) (mk_ 17 63) rfl rfl (any_of HT_.out (by kernel_rfl)) (fun _ _ _ h => h) (Or.inl ⟨by rfl, ?_⟩) ?_ ?_
        rotate_left
        · intro w'
          go_simp
          with_reducible rfl
        rotate_left
        · simp only [Act.put, List.setIfInBounds_toArray, List.set_cons_zero, List.set_cons_succ, i64_w, i32_w]
          rfl
        refine pure_ (i := 6) (N := some 43) (v := ?_) (a' := ?_) (mk_ 17 127) rfl rfl (any_of HT_.out (by kernel_rfl)) (fun _ _ _ h => h) (Or.inl ⟨by rfl, ?_⟩) ?_ ?_
        rotate_left
        · intro w'
          go_simp
          with_reducible rfl
        rotate_left
        · simp only [Act.put, List.setIfInBounds_toArray, List.set_cons_zero, List.set_cons_succ, i64_w, i32_w]
          rfl
        refine pure_ (i := 7) (N := some 44) (v := ?_) (a' := ?_) (mk_ 17 255) rfl rfl (any_of HT_.out (by kernel_rfl)) (fun _ _ _ h => h) (Or.inl ⟨by rfl, ?_⟩) ?_ ?_
        rotate_left
        · intro w'
          go_simp
          with_reducible rfl
        rotate_left
        · simp only [Act.put, List.setIfInBounds_toArray, List.set_cons_zero, List.set_cons_succ, i64_w, i32_w]
          rfl
        refine pure_ (i := 10) (N := some 47) (v := ?_) (a' := ?_) (mk_ 17 1279) rfl rfl (any_of HT_.out (by kernel_rfl)) (fun _ _ _ h => h) (Or.inl ⟨by rfl, ?_⟩) ?_ ?_
        rotate_left
        · intro w'
          go_simp
          with_reducible rfl
        rotate_left
        · simp only [Act.put, List.setIfInBounds_toArray, List.set_cons_zero, List.set_cons_succ, i64_w, i32_w]
          rfl
        refine pure_ (i := 11) (N := some 48) (v := ?_) (a' := ?_) (mk_ 17 3327) rfl rfl (any_of HT_.out (by kernel_rfl)) (fun _ _ _ h => h) (Or.inl ⟨by rfl, ?_⟩) ?_ ?_
        rotate_left
        · intro w'
          go_simp
          with_reducible rfl
        rotate_left
        · simp only [Act.put, List.setIfInBounds_toArray, List.set_cons_zero, List.set_cons_succ, i64_w, i32_w]
          rfl
        refine pure_ (i := 12) (N := some 49) (v := ?_) (a' := ?_) (mk_ 17 7423) rfl rfl (any_of HT_.out (by kernel_rfl)) (fun _ _ _ h => h) (Or.inl ⟨by rfl, ?_⟩) ?_ ?_
        rotate_left
        · intro w'
          go_simp
          with_reducible rfl
        rotate_left
        · simp only [Act.put, List.setIfInBounds_toArray, List.set_cons_zero, List.set_cons_succ, i64_w, i32_w]
          rfl
        refine take_ (i := 8) (N := some 45) (v := ?_) (a' := ?_) (mk_ 17 7679) rfl rfl (take_ofW HT_.out HW_.out (by kernel_rfl)) (fun _ _ _ h => h) (Or.inl ⟨by rfl, ?_⟩) hHeld ?_ ?_
        rotate_left
        · rintro w' ⟨s0, s1, s2, s3, s4, s5, s6⟩
          go_simp
          with_reducible rfl
        rotate_left
        · simp only [Act.put, List.setIfInBounds_toArray, List.set_cons_zero, List.set_cons_succ, i64_w, i32_w]
          rfl
        refine take_ (i := 13) (N := some 50) (v := ?_) (a' := ?_) (mk_ 17 15871) rfl rfl (take_ofW HT_.out HW_.out (by kernel_rfl)) (fun _ _ _ h => h) (Or.inl ⟨by rfl, ?_⟩) hHeld ?_ ?_
        rotate_left
        · rintro w' ⟨s0, s1, s2, s3, s4, s5, s6⟩
          go_simp
          with_reducible rfl
        rotate_left
        · simp only [Act.put, List.setIfInBounds_toArray, List.set_cons_zero, List.set_cons_succ, i64_w, i32_w]
          rfl
        refine one_ (i := 9) (N := some 46) (mk_ 17 16383) rfl rfl (one_of HT_.out (by kernel_rfl)) (by decide) (fun K hK => ?_)
        refine goes_ Tryd.func30 (by kernel_rfl) rfl #[.agg #[.int .u8 ((rd_T36 l0_3 x27_1).f0), .int .u8 ((rd_T36 l0_3 x27_1).f1), .int .u8 ((rd_T36 l0_3 x27_1).f2), .int .u8 ((rd_T36 l0_3 x27_1).f3), .int .i64 ((rd_T36 l0_3 x27_1).f4)]] (by rfl) rfl rfl hB1 ?_
        with_reducible refine (live_Uses.calls k1 ((rd_T36 l0_3 x27_1).f0) ((rd_T36 l0_3 x27_1).f1) ((rd_T36 l0_3 x27_1).f2) ((rd_T36 l0_3 x27_1).f3) ((rd_T36 l0_3 x27_1).f4) t116 _ A24.out).mono ?_
        rintro e w43 ⟨rfl, hb⟩
        have HS5_ := (hb.cell (World.block_lt_of_cell? _ _ (hHeld.2.2.2.2.2.1))).trans (hHeld.2.2.2.2.2.1)
        have HS6_ := (hb.cell (World.block_lt_of_cell? _ _ (hHeld.2.2.2.2.2.2))).trans (hHeld.2.2.2.2.2.2)
        refine ⟨_, rfl, ?_⟩
        have n0_ := Aside0.mk (Kd.R_below hB22 hb)
        have n1_ := Aside0.mk (blk_below (g := gb101) (o := .cells #[.slice A0_0 l0_0.length c0_0, .string a0_1, .string a0_2, .slice (some ad111) l0_3.length c0_3] 25 (0, 0)) hB26 hb)
        have n2_ := Aside0.mk (blk_below (g := gb112) (o := .cells #[.int .u8 ((rd_T36 l0_3 x27_1).f0), .int .u8 ((rd_T36 l0_3 x27_1).f1), .int .u8 ((rd_T36 l0_3 x27_1).f2), .int .u8 ((rd_T36 l0_3 x27_1).f3), .int .i64 ((rd_T36 l0_3 x27_1).f4)] 36 (0, 0)) hB30 hb)
        have n3_ := Aside0.mk (below_step hB68 hb)
        clear HO_5
        clear BK101
        clear BK112
        clear HB
        have HO_5 := n0_
        have BK101 := n1_
        have BK112 := n2_
        have HB := n3_
        clear n0_ n1_ n2_ n3_
        (try clear hb)
        (try clear hb2)
        (try clear hk)
        (try clear hi)
        refine hK.out _ _ ⟨(blk_cell BK112.out 0).trans rfl, (blk_cell BK112.out 1).trans rfl, (blk_cell BK112.out 2).trans rfl, (blk_cell BK112.out 3).trans rfl, (blk_cell BK112.out 4).trans rfl, HS5_, HS6_⟩ (fun hHeld => ?_)
        clear hK K
        refine norm_ (a' := ?_) ?_ ?_
        rotate_left
        · show Act.put _ (some 46) _ = _
          simp only [Act.put, List.setIfInBounds_toArray, List.set_cons_zero, List.set_cons_succ, i64_w, i32_w]
          rfl
        refine pure_ (i := 14) (N := some 51) (v := ?_) (a' := ?_) (mk_ 17 32767) rfl rfl (any_of HT_.out (by kernel_rfl)) (fun _ _ _ h => h) (Or.inl ⟨by rfl, ?_⟩) ?_ ?_
        rotate_left
        · intro w'
          go_simp
          with_reducible rfl
        rotate_left
        · simp only [Act.put, List.setIfInBounds_toArray, List.set_cons_zero, List.set_cons_succ, i64_w, i32_w]
          rfl
        refine pure_ (i := 15) (N := some 52) (v := ?_) (a' := ?_) (mk_ 17 65535) rfl rfl (any_of HT_.out (by kernel_rfl)) (fun _ _ _ h => h) (Or.inl ⟨by rfl, ?_⟩) ?_ ?_
        rotate_left
        · intro w'
          go_simp
          with_reducible rfl
        rotate_left
        · simp only [Act.put, List.setIfInBounds_toArray, List.set_cons_zero, List.set_cons_succ, i64_w, i32_w]
          rfl
        refine pure_ (i := 16) (N := some 53) (v := ?_) (a' := ?_) (mk_ 17 131071) rfl rfl (any_of HT_.out (by kernel_rfl)) (fun _ _ _ h => h) (Or.inl ⟨by rfl, ?_⟩) ?_ ?_
        rotate_left
        · intro w'
          go_simp
          with_reducible rfl
        rotate_left
        · simp only [Act.put, List.setIfInBounds_toArray, List.set_cons_zero, List.set_cons_succ, i64_w, i32_w]
          rfl
        refine done_ (done_of HT_.out (by kernel_rfl)) ?_
        try go_wp2
        go_ret
        exact ⟨by first | rfl | (simp [errW_none, errW_some] <;> rfl) | (simp [*, errW_none, errW_some] <;> rfl), hB68⟩
      rw [if_pos c25] at H
      have c25b0 : ((Go.bits .andNot .u8 t116 (rd t104 x27_1)) == 0) = true := beq_iff_eq.mpr c25
      have c25b1 : ((Go.bits .andNot .u8 t116 (rd t104 x27_1)) != 0) = false := bne_eq_false_iff_eq.mpr c25
      clear c25
      have H' := Aside0.mk H
      clear H
      have p111 : 0 ≤ (x27_1 : Int) := of_decide_eq_true hB58
      have q111 : x27_1 < (l0_3.length : Int) := of_decide_eq_true hB58
      obtain ⟨ad111, e111, hx111_0, hx111_1, hx111_2, hx111_3, hx111_4⟩ := at_T36 HR0_3.out x27_1 p111 q111
      cases e111
      replace hx111_0 := (HB.out.cell (World.block_lt_of_cell? w _ hx111_0)).trans hx111_0
      replace hx111_1 := (HB.out.cell (World.block_lt_of_cell? w _ hx111_1)).trans hx111_1
      replace hx111_2 := (HB.out.cell (World.block_lt_of_cell? w _ hx111_2)).trans hx111_2
      replace hx111_3 := (HB.out.cell (World.block_lt_of_cell? w _ hx111_3)).trans hx111_3
      replace hx111_4 := (HB.out.cell (World.block_lt_of_cell? w _ hx111_4)).trans hx111_4
      replace p111 := eq_true p111
      replace q111 := eq_true q111
      try go_wp2_with (first | ((with_reducible refine gate_dst (N := 7) rfl ?_); refine box_event ?hg (N := 7) ?hd (cs := #[.int .u8 0, .int .u8 0, .int .u8 0, .int .u8 0, .int .i64 0]) (t := 36) ?hr ?_; (case hd => rfl); (case hg => rfl); (case hr => first | (go_simp; done) | (go_simp; rfl)); intro gb112 hg w26 hbox hb; have n0_ := Aside0.mk (Kd.R_below hB22 hb); have n1_ := Aside0.mk (blk_below (g := gb101) (o := .cells #[.slice A0_0 l0_0.length c0_0, .string a0_1, .string a0_2, .slice (some ad111) l0_3.length c0_3] 25 (0, 0)) hB26 hb); have n2_ := Aside0.mk (below_step hB69 hb); have n3_ := Aside0.mk (hbox); have n4_ := Aside0.mk ((by rw [hg]; exact (below_size hB69) : w.heap.size ≤ gb112)); have n5_ := Aside0.mk ((by rw [hg]; exact (below_size hB69) : w.heap.size ≤ gb112)); have n6_ := Aside0.mk ((by rw [hg]; exact Nat.ne_of_lt (blk_lt (g := gb101) (o := .cells #[.slice A0_0 l0_0.length c0_0, .string a0_1, .string a0_2, .slice (some ad111) l0_3.length c0_3] 25 (0, 0)) hB26) : gb101 ≠ gb112)); have n7_ := Aside0.mk ((by rw [hg]; exact Nat.ne_of_gt (blk_lt (g := gb101) (o := .cells #[.slice A0_0 l0_0.length c0_0, .string a0_1, .string a0_2, .slice (some ad111) l0_3.length c0_3] 25 (0, 0)) hB26) : gb112 ≠ gb101)); clear HO_5; clear BK101; clear HB; have HO_5 := n0_; have BK101 := n1_; have HB := n2_; have BK112 := n3_; have GW112 := n4_; have GE112 := n5_; have NB101_112 := n6_; have NB112_101 := n7_; clear n0_ n1_ n2_ n3_ n4_ n5_ n6_ n7_; clear hb hbox hg; have hnb27 := NB112_101.out; have hnc27 := NB101_112.out; have hcz28_0 : w26.cell? ⟨gb112, 0, none⟩ = some (.int .u8 0) := (blk_cell BK112.out 0).trans rfl; have hcz28_1 : w26.cell? ⟨gb112, 1, none⟩ = some (.int .u8 0) := (blk_cell BK112.out 1).trans rfl; have hcz28_2 : w26.cell? ⟨gb112, 2, none⟩ = some (.int .u8 0) := (blk_cell BK112.out 2).trans rfl; have hcz28_3 : w26.cell? ⟨gb112, 3, none⟩ = some (.int .u8 0) := (blk_cell BK112.out 3).trans rfl; have hcz28_4 : w26.cell? ⟨gb112, 4, none⟩ = some (.int .i64 0) := (blk_cell BK112.out 4).trans rfl; have hfz28_0 := blk_frozen BK112.out 0; have hfz28_1 := blk_frozen BK112.out 1; have hfz28_2 := blk_frozen BK112.out 2; have hfz28_3 := blk_frozen BK112.out 3; have hfz28_4 := blk_frozen BK112.out 4))
      have n0_ : Aside0 (Kd.R (Kd.int .u8) 5 (((((w26.setCell ⟨gb112, 0, none⟩ (.int .u8 ((rd_T36 l0_3 x27_1).f0))).setCell ⟨gb112, 1, none⟩ (.int .u8 ((rd_T36 l0_3 x27_1).f1))).setCell ⟨gb112, 2, none⟩ (.int .u8 ((rd_T36 l0_3 x27_1).f2))).setCell ⟨gb112, 3, none⟩ (.int .u8 ((rd_T36 l0_3 x27_1).f3))).setCell ⟨gb112, 4, none⟩ (.int .i64 ((rd_T36 l0_3 x27_1).f4))) w.heap.size (fun _ => True) (.slice Ao15 t104.length co15) t104) := ⟨hB25⟩
      have n1_ : Aside0 ((((((w26.setCell ⟨gb112, 0, none⟩ (.int .u8 ((rd_T36 l0_3 x27_1).f0))).setCell ⟨gb112, 1, none⟩ (.int .u8 ((rd_T36 l0_3 x27_1).f1))).setCell ⟨gb112, 2, none⟩ (.int .u8 ((rd_T36 l0_3 x27_1).f2))).setCell ⟨gb112, 3, none⟩ (.int .u8 ((rd_T36 l0_3 x27_1).f3))).setCell ⟨gb112, 4, none⟩ (.int .i64 ((rd_T36 l0_3 x27_1).f4))).heap[gb101]? = some (.cells #[.slice A0_0 l0_0.length c0_0, .string a0_1, .string a0_2, .slice (some ad111) l0_3.length c0_3] 25 (0, 0))) := ⟨hB52⟩
      have n2_ : Aside0 ((((((w26.setCell ⟨gb112, 0, none⟩ (.int .u8 ((rd_T36 l0_3 x27_1).f0))).setCell ⟨gb112, 1, none⟩ (.int .u8 ((rd_T36 l0_3 x27_1).f1))).setCell ⟨gb112, 2, none⟩ (.int .u8 ((rd_T36 l0_3 x27_1).f2))).setCell ⟨gb112, 3, none⟩ (.int .u8 ((rd_T36 l0_3 x27_1).f3))).setCell ⟨gb112, 4, none⟩ (.int .i64 ((rd_T36 l0_3 x27_1).f4))).heap[gb112]? = some (.cells #[.int .u8 ((rd_T36 l0_3 x27_1).f0), .int .u8 ((rd_T36 l0_3 x27_1).f1), .int .u8 ((rd_T36 l0_3 x27_1).f2), .int .u8 ((rd_T36 l0_3 x27_1).f3), .int .i64 ((rd_T36 l0_3 x27_1).f4)] 36 (0, 0))) := ⟨hB56⟩
      have n3_ : Aside0 (Below w.heap.size w (((((w26.setCell ⟨gb112, 0, none⟩ (.int .u8 ((rd_T36 l0_3 x27_1).f0))).setCell ⟨gb112, 1, none⟩ (.int .u8 ((rd_T36 l0_3 x27_1).f1))).setCell ⟨gb112, 2, none⟩ (.int .u8 ((rd_T36 l0_3 x27_1).f2))).setCell ⟨gb112, 3, none⟩ (.int .u8 ((rd_T36 l0_3 x27_1).f3))).setCell ⟨gb112, 4, none⟩ (.int .i64 ((rd_T36 l0_3 x27_1).f4)))) := ⟨hB68⟩
      (try clear HO_5)
      (try clear BK101)
      (try clear BK112)
      (try clear HB)
      generalize (((((w26.setCell ⟨gb112, 0, none⟩ (.int .u8 ((rd_T36 l0_3 x27_1).f0))).setCell ⟨gb112, 1, none⟩ (.int .u8 ((rd_T36 l0_3 x27_1).f1))).setCell ⟨gb112, 2, none⟩ (.int .u8 ((rd_T36 l0_3 x27_1).f2))).setCell ⟨gb112, 3, none⟩ (.int .u8 ((rd_T36 l0_3 x27_1).f3))).setCell ⟨gb112, 4, none⟩ (.int .i64 ((rd_T36 l0_3 x27_1).f4))) = w29 at n0_ n1_ n2_ n3_ ⊢
      have HO_5 := n0_
      have BK101 := n1_
      have BK112 := n2_
      have HB := n3_
      clear n0_ n1_ n2_ n3_
      have n0_ := Aside0.mk (Kd.R_drew HO_5.out)
      have n1_ := Aside0.mk (blk_drew BK101.out)
      have n2_ := Aside0.mk (blk_drew BK112.out)
      have n3_ := Aside0.mk (below_drew1 HB.out)
      clear HO_5
      clear BK101
      clear BK112
      clear HB
      have HO_5 := n0_
      have BK101 := n1_
      have BK112 := n2_
      have HB := n3_
      clear n0_ n1_ n2_ n3_
      refine start_ (n := 6) (S := fun w' => w'.cell? ⟨gb112, 0, none⟩ = some (.int .u8 ((rd_T36 l0_3 x27_1).f0)) ∧ w'.cell? ⟨gb112, 1, none⟩ = some (.int .u8 ((rd_T36 l0_3 x27_1).f1)) ∧ w'.cell? ⟨gb112, 2, none⟩ = some (.int .u8 ((rd_T36 l0_3 x27_1).f2)) ∧ w'.cell? ⟨gb112, 3, none⟩ = some (.int .u8 ((rd_T36 l0_3 x27_1).f3)) ∧ w'.cell? ⟨gb112, 4, none⟩ = some (.int .i64 ((rd_T36 l0_3 x27_1).f4))) (ds := []) #[false, false, false, false, false, false] (by kernel_rfl) rfl rfl ⟨(blk_cell BK112.out 0).trans rfl, (blk_cell BK112.out 1).trans rfl, (blk_cell BK112.out 2).trans rfl, (blk_cell BK112.out 3).trans rfl, (blk_cell BK112.out 4).trans rfl⟩ (fun hHeld => ?_)
      generalize w29.drew = w30 at HO_5 BK101 BK112 HB hHeld ⊢
      refine take_ (i := 0) (N := some 32) (v := ?_) (a' := ?_) (mk_ 6 1) rfl rfl (by kernel_rfl) (fun _ _ _ h => h) (Or.inl ⟨by rfl, ?_⟩) hHeld ?_ ?_
      rotate_left
      · rintro w' ⟨s0, s1, s2, s3, s4⟩
        go_simp
        with_reducible rfl
      rotate_left
      · simp only [Act.put, List.setIfInBounds_toArray, List.set_cons_zero, List.set_cons_succ, i64_w, i32_w]
        rfl
      refine take_ (i := 2) (N := some 34) (v := ?_) (a' := ?_) (mk_ 6 5) rfl rfl (by kernel_rfl) (fun _ _ _ h => h) (Or.inl ⟨by rfl, ?_⟩) hHeld ?_ ?_
      rotate_left
      · rintro w' ⟨s0, s1, s2, s3, s4⟩
        go_simp
        with_reducible rfl
      rotate_left
      · simp only [Act.put, List.setIfInBounds_toArray, List.set_cons_zero, List.set_cons_succ, i64_w, i32_w]
        rfl
      refine one_ (i := 1) (N := some 33) (mk_ 6 7) rfl rfl (by kernel_rfl) (by decide) (fun K hK => ?_)
      refine goes_ Tryd.func32 (by kernel_rfl) rfl #[.agg #[.int .u8 ((rd_T36 l0_3 x27_1).f0), .int .u8 ((rd_T36 l0_3 x27_1).f1), .int .u8 ((rd_T36 l0_3 x27_1).f2), .int .u8 ((rd_T36 l0_3 x27_1).f3), .int .i64 ((rd_T36 l0_3 x27_1).f4)]] (by rfl) rfl rfl hB1 ?_
      with_reducible refine (live_Sets.calls k1 ((rd_T36 l0_3 x27_1).f0) ((rd_T36 l0_3 x27_1).f1) ((rd_T36 l0_3 x27_1).f2) ((rd_T36 l0_3 x27_1).f3) ((rd_T36 l0_3 x27_1).f4) t113 _ A20.out).mono ?_
      rintro e w31 ⟨rfl, hb⟩
      refine ⟨_, rfl, ?_⟩
      have n0_ := Aside0.mk (Kd.R_below hB22 hb)
      have n1_ := Aside0.mk (blk_below (g := gb101) (o := .cells #[.slice A0_0 l0_0.length c0_0, .string a0_1, .string a0_2, .slice (some ad111) l0_3.length c0_3] 25 (0, 0)) hB26 hb)
      have n2_ := Aside0.mk (blk_below (g := gb112) (o := .cells #[.int .u8 ((rd_T36 l0_3 x27_1).f0), .int .u8 ((rd_T36 l0_3 x27_1).f1), .int .u8 ((rd_T36 l0_3 x27_1).f2), .int .u8 ((rd_T36 l0_3 x27_1).f3), .int .i64 ((rd_T36 l0_3 x27_1).f4)] 36 (0, 0)) hB30 hb)
      have n3_ := Aside0.mk (below_step hB68 hb)
      clear HO_5
      clear BK101
      clear BK112
      clear HB
      have HO_5 := n0_
      have BK101 := n1_
      have BK112 := n2_
      have HB := n3_
      clear n0_ n1_ n2_ n3_
      (try clear hb)
      (try clear hb2)
      (try clear hk)
      (try clear hi)
      refine hK.out _ _ ⟨(blk_cell BK112.out 0).trans rfl, (blk_cell BK112.out 1).trans rfl, (blk_cell BK112.out 2).trans rfl, (blk_cell BK112.out 3).trans rfl, (blk_cell BK112.out 4).trans rfl⟩ (fun hHeld => ?_)
      clear hK K
      refine norm_ (a' := ?_) ?_ ?_
      rotate_left
      · show Act.put _ (some 33) _ = _
        simp only [Act.put, List.setIfInBounds_toArray, List.set_cons_zero, List.set_cons_succ, i64_w, i32_w]
        rfl
      refine one_ (i := 3) (N := some 35) (mk_ 6 15) rfl rfl (by kernel_rfl) (by decide) (fun K hK => ?_)
      refine goes_ Tryd.func30 (by kernel_rfl) rfl #[.agg #[.int .u8 ((rd_T36 l0_3 x27_1).f0), .int .u8 ((rd_T36 l0_3 x27_1).f1), .int .u8 ((rd_T36 l0_3 x27_1).f2), .int .u8 ((rd_T36 l0_3 x27_1).f3), .int .i64 ((rd_T36 l0_3 x27_1).f4)]] (by rfl) rfl rfl hB1 ?_
      with_reducible refine (live_Uses.calls k1 ((rd_T36 l0_3 x27_1).f0) ((rd_T36 l0_3 x27_1).f1) ((rd_T36 l0_3 x27_1).f2) ((rd_T36 l0_3 x27_1).f3) ((rd_T36 l0_3 x27_1).f4) t114 _ A21.out).mono ?_
      rintro e w32 ⟨rfl, hb⟩
      refine ⟨_, rfl, ?_⟩
      have n0_ := Aside0.mk (Kd.R_below hB22 hb)
      have n1_ := Aside0.mk (blk_below (g := gb101) (o := .cells #[.slice A0_0 l0_0.length c0_0, .string a0_1, .string a0_2, .slice (some ad111) l0_3.length c0_3] 25 (0, 0)) hB26 hb)
      have n2_ := Aside0.mk (blk_below (g := gb112) (o := .cells #[.int .u8 ((rd_T36 l0_3 x27_1).f0), .int .u8 ((rd_T36 l0_3 x27_1).f1), .int .u8 ((rd_T36 l0_3 x27_1).f2), .int .u8 ((rd_T36 l0_3 x27_1).f3), .int .i64 ((rd_T36 l0_3 x27_1).f4)] 36 (0, 0)) hB30 hb)
      have n3_ := Aside0.mk (below_step hB68 hb)
      clear HO_5
      clear BK101
      clear BK112
      clear HB
      have HO_5 := n0_
      have BK101 := n1_
      have BK112 := n2_
      have HB := n3_
      clear n0_ n1_ n2_ n3_
      (try clear hb)
      (try clear hb2)
      (try clear hk)
      (try clear hi)
      refine hK.out _ _ ⟨(blk_cell BK112.out 0).trans rfl, (blk_cell BK112.out 1).trans rfl, (blk_cell BK112.out 2).trans rfl, (blk_cell BK112.out 3).trans rfl, (blk_cell BK112.out 4).trans rfl⟩ (fun hHeld => ?_)
      clear hK K
      refine norm_ (a' := ?_) ?_ ?_
      rotate_left
      · show Act.put _ (some 35) _ = _
        simp only [Act.put, List.setIfInBounds_toArray, List.set_cons_zero, List.set_cons_succ, i64_w, i32_w]
        rfl
      refine pure_ (i := 4) (N := some 36) (v := ?_) (a' := ?_) (mk_ 6 31) rfl rfl (by kernel_rfl) (fun _ _ _ h => h) (Or.inl ⟨by rfl, ?_⟩) ?_ ?_
      rotate_left
      · intro w'
        go_simp
        with_reducible rfl
      rotate_left
      · simp only [Act.put, List.setIfInBounds_toArray, List.set_cons_zero, List.set_cons_succ, i64_w, i32_w]
        rfl
      refine pure_ (i := 5) (N := some 8) (v := ?_) (a' := ?_) (mk_ 6 63) rfl rfl (by kernel_rfl) (fun _ _ _ h => h) (Or.inl ⟨by rfl, ?_⟩) ?_ ?_
      rotate_left
      · intro w'
        go_simp
        with_reducible rfl
      rotate_left
      · simp only [Act.put, List.setIfInBounds_toArray, List.set_cons_zero, List.set_cons_succ, i64_w, i32_w]
        rfl
      refine done_ (by kernel_rfl) ?_
      try go_wp2
      have n0_ := Aside0.mk (Kd.R_drew HO_5.out)
      have n1_ := Aside0.mk (blk_drew BK101.out)
      have n2_ := Aside0.mk (blk_drew BK112.out)
      have n3_ := Aside0.mk (below_drew1 HB.out)
      clear HO_5
      clear BK101
      clear BK112
      clear HB
      have HO_5 := n0_
      have BK101 := n1_
      have BK112 := n2_
      have HB := n3_
      clear n0_ n1_ n2_ n3_
      have p115 : 0 ≤ (x27_1 : Int) := of_decide_eq_true hB58
      have q115 : x27_1 < (t104.length : Int) := of_decide_eq_true hB58
      obtain ⟨ad115, e115, hx115_0⟩ := Kd.at_int (Kd.R_reads' HO_5.out).2.2 x27_1 p115 q115
      cases e115
      replace p115 := eq_true p115
      replace q115 := eq_true q115
      have p117 : 0 ≤ (x27_1 : Int) := of_decide_eq_true hB58
      have q117 : x27_1 < (t104.length : Int) := of_decide_eq_true hB58
      obtain ⟨ad117, e117, hx117_0⟩ := Kd.at_int (Kd.R_reads' HO_5.out).2.2 x27_1 p117 q117
      obtain rfl : ad115 = ad117 := (by injection e117)
      replace p117 := eq_true p117
      replace q117 := eq_true q117
      refine start_ (n := 17) (S := fun w' => w'.cell? ⟨gb112, 0, none⟩ = some (.int .u8 ((rd_T36 l0_3 x27_1).f0)) ∧ w'.cell? ⟨gb112, 1, none⟩ = some (.int .u8 ((rd_T36 l0_3 x27_1).f1)) ∧ w'.cell? ⟨gb112, 2, none⟩ = some (.int .u8 ((rd_T36 l0_3 x27_1).f2)) ∧ w'.cell? ⟨gb112, 3, none⟩ = some (.int .u8 ((rd_T36 l0_3 x27_1).f3)) ∧ w'.cell? ⟨gb112, 4, none⟩ = some (.int .i64 ((rd_T36 l0_3 x27_1).f4)) ∧ w'.cell? (ad115.add (x27_1).toNat) = some (.int .u8 (rd t104 x27_1)) ∧ w'.cell? (ad115.add (x27_1).toNat) = some (.int .u8 (rd t104 x27_1))) (ds := []) #[false, false, false, false, false, false, false, false, false, false, false, false, false, false, false, false, false] (by kernel_rfl) rfl rfl ⟨(blk_cell BK112.out 0).trans rfl, (blk_cell BK112.out 1).trans rfl, (blk_cell BK112.out 2).trans rfl, (blk_cell BK112.out 3).trans rfl, (blk_cell BK112.out 4).trans rfl, hx115_0, hx117_0⟩ (fun hHeld => ?_); refine with_tabW lockstitchlaw08_LiveDead.tab12 lockstitchlaw08_LiveDead.bits12 (fun HT_ HW_ => ?_)
      generalize w32.drew = w33 at HO_5 BK101 BK112 HB hx115_0 hx117_0 hHeld ⊢
      refine pure_ (i := 0) (N := some 37) (v := ?_) (a' := ?_) (mk_ 17 1) rfl rfl (any_of HT_.out (by kernel_rfl)) (fun _ _ _ h => h) (Or.inl ⟨by rfl, ?_⟩) ?_ ?_
      rotate_left
      · intro w'
        go_simp
        with_reducible rfl
      rotate_left
      · simp only [Act.put, List.setIfInBounds_toArray, List.set_cons_zero, List.set_cons_succ, i64_w, i32_w]
        rfl
      refine pure_ (i := 1) (N := some 38) (v := ?_) (a' := ?_) (mk_ 17 3) rfl rfl (any_of HT_.out (by kernel_rfl)) (fun _ _ _ h => h) (Or.inl ⟨by rfl, ?_⟩) ?_ ?_
      rotate_left
      · intro w'
        go_simp
        with_reducible rfl
      rotate_left
      · simp only [Act.put, List.setIfInBounds_toArray, List.set_cons_zero, List.set_cons_succ, i64_w, i32_w]
        rfl
      refine pure_ (i := 2) (N := some 39) (v := ?_) (a' := ?_) (mk_ 17 7) rfl rfl (any_of HT_.out (by kernel_rfl)) (fun _ _ _ h => h) (Or.inl ⟨by rfl, ?_⟩) ?_ ?_
      rotate_left
      · intro w'
        go_simp
        with_reducible rfl
      rotate_left
      · simp only [Act.put, List.setIfInBounds_toArray, List.set_cons_zero, List.set_cons_succ, i64_w, i32_w]
        rfl
      refine pure_ (i := 4) (N := some 41) (v := ?_) (a' := ?_) (mk_ 17 23) rfl rfl (any_of HT_.out (by kernel_rfl)) (fun _ _ _ h => h) (Or.inl ⟨by rfl, ?_⟩) ?_ ?_
      rotate_left
      · intro w'
        go_simp
        with_reducible rfl
      rotate_left
      · simp only [Act.put, List.setIfInBounds_toArray, List.set_cons_zero, List.set_cons_succ, i64_w, i32_w]
        rfl
      refine take_ (i := 3) (N := some 40) (v := ?_) (a' := ?_) (mk_ 17 31) rfl rfl (take_ofW HT_.out HW_.out (by kernel_rfl)) (fun _ _ _ h => h) (Or.inl ⟨by rfl, ?_⟩) hHeld ?_ ?_
      rotate_left
      · rintro w' ⟨s0, s1, s2, s3, s4, s5, s6⟩
        go_simp
        with_reducible rfl
      rotate_left
      · simp only [Act.put, List.setIfInBounds_toArray, List.set_cons_zero, List.set_cons_succ, i64_w, i32_w]
        rfl
      refine pure_ (i := 5) (N := some 42) (v := ?_) (a' := ?_) (mk_ 17 63) rfl rfl (any_of HT_.out (by kernel_rfl)) (fun _ _ _ h => h) (Or.inl ⟨by rfl, ?_⟩) ?_ ?_
      rotate_left
      · intro w'
        go_simp
        with_reducible rfl
      rotate_left
      · simp only [Act.put, List.setIfInBounds_toArray, List.set_cons_zero, List.set_cons_succ, i64_w, i32_w]
        rfl
      refine pure_ (i := 6) (N := some 43) (v := ?_) (a' := ?_) (mk_ 17 127) rfl rfl (any_of HT_.out (by kernel_rfl)) (fun _ _ _ h => h) (Or.inl ⟨by rfl, ?_⟩) ?_ ?_
      rotate_left
      · intro w'
        go_simp
        with_reducible rfl
      rotate_left
      · simp only [Act.put, List.setIfInBounds_toArray, List.set_cons_zero, List.set_cons_succ, i64_w, i32_w]
        rfl
      refine pure_ (i := 7) (N := some 44) (v := ?_) (a' := ?_) (mk_ 17 255) rfl rfl (any_of HT_.out (by kernel_rfl)) (fun _ _ _ h => h) (Or.inl ⟨by rfl, ?_⟩) ?_ ?_
      rotate_left
      · intro w'
        go_simp
        with_reducible rfl
      rotate_left
      · simp only [Act.put, List.setIfInBounds_toArray, List.set_cons_zero, List.set_cons_succ, i64_w, i32_w]
        rfl
      refine pure_ (i := 10) (N := some 47) (v := ?_) (a' := ?_) (mk_ 17 1279) rfl rfl (any_of HT_.out (by kernel_rfl)) (fun _ _ _ h => h) (Or.inl ⟨by rfl, ?_⟩) ?_ ?_
      rotate_left
      · intro w'
        go_simp
        with_reducible rfl
      rotate_left
      · simp only [Act.put, List.setIfInBounds_toArray, List.set_cons_zero, List.set_cons_succ, i64_w, i32_w]
        rfl
      refine pure_ (i := 11) (N := some 48) (v := ?_) (a' := ?_) (mk_ 17 3327) rfl rfl (any_of HT_.out (by kernel_rfl)) (fun _ _ _ h => h) (Or.inl ⟨by rfl, ?_⟩) ?_ ?_
      rotate_left
      · intro w'
        go_simp
        with_reducible rfl
      rotate_left
      · simp only [Act.put, List.setIfInBounds_toArray, List.set_cons_zero, List.set_cons_succ, i64_w, i32_w]
        rfl
      refine pure_ (i := 12) (N := some 49) (v := ?_) (a' := ?_) (mk_ 17 7423) rfl rfl (any_of HT_.out (by kernel_rfl)) (fun _ _ _ h => h) (Or.inl ⟨by rfl, ?_⟩) ?_ ?_
      rotate_left
      · intro w'
        go_simp
        with_reducible rfl
      rotate_left
      · simp only [Act.put, List.setIfInBounds_toArray, List.set_cons_zero, List.set_cons_succ, i64_w, i32_w]
        rfl
      refine take_ (i := 8) (N := some 45) (v := ?_) (a' := ?_) (mk_ 17 7679) rfl rfl (take_ofW HT_.out HW_.out (by kernel_rfl)) (fun _ _ _ h => h) (Or.inl ⟨by rfl, ?_⟩) hHeld ?_ ?_
      rotate_left
      · rintro w' ⟨s0, s1, s2, s3, s4, s5, s6⟩
        go_simp
        with_reducible rfl
      rotate_left
      · simp only [Act.put, List.setIfInBounds_toArray, List.set_cons_zero, List.set_cons_succ, i64_w, i32_w]
        rfl
      refine take_ (i := 13) (N := some 50) (v := ?_) (a' := ?_) (mk_ 17 15871) rfl rfl (take_ofW HT_.out HW_.out (by kernel_rfl)) (fun _ _ _ h => h) (Or.inl ⟨by rfl, ?_⟩) hHeld ?_ ?_
      rotate_left
      · rintro w' ⟨s0, s1, s2, s3, s4, s5, s6⟩
        go_simp
        with_reducible rfl
      rotate_left
      · simp only [Act.put, List.setIfInBounds_toArray, List.set_cons_zero, List.set_cons_succ, i64_w, i32_w]
        rfl
      refine one_ (i := 9) (N := some 46) (mk_ 17 16383) rfl rfl (one_of HT_.out (by kernel_rfl)) (by decide) (fun K hK => ?_)
      refine goes_ Tryd.func30 (by kernel_rfl) rfl #[.agg #[.int .u8 ((rd_T36 l0_3 x27_1).f0), .int .u8 ((rd_T36 l0_3 x27_1).f1), .int .u8 ((rd_T36 l0_3 x27_1).f2), .int .u8 ((rd_T36 l0_3 x27_1).f3), .int .i64 ((rd_T36 l0_3 x27_1).f4)]] (by rfl) rfl rfl hB1 ?_
      with_reducible refine (live_Uses.calls k1 ((rd_T36 l0_3 x27_1).f0) ((rd_T36 l0_3 x27_1).f1) ((rd_T36 l0_3 x27_1).f2) ((rd_T36 l0_3 x27_1).f3) ((rd_T36 l0_3 x27_1).f4) t116 _ A24.out).mono ?_
      rintro e w34 ⟨rfl, hb⟩
      have HS5_ := (hb.cell (World.block_lt_of_cell? _ _ (hHeld.2.2.2.2.2.1))).trans (hHeld.2.2.2.2.2.1)
      have HS6_ := (hb.cell (World.block_lt_of_cell? _ _ (hHeld.2.2.2.2.2.2))).trans (hHeld.2.2.2.2.2.2)
      refine ⟨_, rfl, ?_⟩
      have n0_ := Aside0.mk (Kd.R_below hB22 hb)
      have n1_ := Aside0.mk (blk_below (g := gb101) (o := .cells #[.slice A0_0 l0_0.length c0_0, .string a0_1, .string a0_2, .slice (some ad111) l0_3.length c0_3] 25 (0, 0)) hB26 hb)
      have n2_ := Aside0.mk (blk_below (g := gb112) (o := .cells #[.int .u8 ((rd_T36 l0_3 x27_1).f0), .int .u8 ((rd_T36 l0_3 x27_1).f1), .int .u8 ((rd_T36 l0_3 x27_1).f2), .int .u8 ((rd_T36 l0_3 x27_1).f3), .int .i64 ((rd_T36 l0_3 x27_1).f4)] 36 (0, 0)) hB30 hb)
      have n3_ := Aside0.mk (below_step hB68 hb)
      clear HO_5
      clear BK101
      clear BK112
      clear HB
      have HO_5 := n0_
      have BK101 := n1_
      have BK112 := n2_
      have HB := n3_
      clear n0_ n1_ n2_ n3_
      (try clear hb)
      (try clear hb2)
      (try clear hk)
      (try clear hi)
      refine hK.out _ _ ⟨(blk_cell BK112.out 0).trans rfl, (blk_cell BK112.out 1).trans rfl, (blk_cell BK112.out 2).trans rfl, (blk_cell BK112.out 3).trans rfl, (blk_cell BK112.out 4).trans rfl, HS5_, HS6_⟩ (fun hHeld => ?_)
      clear hK K
      refine norm_ (a' := ?_) ?_ ?_
      rotate_left
      · show Act.put _ (some 46) _ = _
        simp only [Act.put, List.setIfInBounds_toArray, List.set_cons_zero, List.set_cons_succ, i64_w, i32_w]
        rfl
      refine pure_ (i := 14) (N := some 51) (v := ?_) (a' := ?_) (mk_ 17 32767) rfl rfl (any_of HT_.out (by kernel_rfl)) (fun _ _ _ h => h) (Or.inl ⟨by rfl, ?_⟩) ?_ ?_
      rotate_left
      · intro w'
        go_simp
        with_reducible rfl
      rotate_left
      · simp only [Act.put, List.setIfInBounds_toArray, List.set_cons_zero, List.set_cons_succ, i64_w, i32_w]
        rfl
      refine pure_ (i := 15) (N := some 52) (v := ?_) (a' := ?_) (mk_ 17 65535) rfl rfl (any_of HT_.out (by kernel_rfl)) (fun _ _ _ h => h) (Or.inl ⟨by rfl, ?_⟩) ?_ ?_
      rotate_left
      · intro w'
        go_simp
        with_reducible rfl
      rotate_left
      · simp only [Act.put, List.setIfInBounds_toArray, List.set_cons_zero, List.set_cons_succ, i64_w, i32_w]
        rfl
      refine pure_ (i := 16) (N := some 53) (v := ?_) (a' := ?_) (mk_ 17 131071) rfl rfl (any_of HT_.out (by kernel_rfl)) (fun _ _ _ h => h) (Or.inl ⟨by rfl, ?_⟩) ?_ ?_
      rotate_left
      · intro w'
        go_simp
        with_reducible rfl
      rotate_left
      · simp only [Act.put, List.setIfInBounds_toArray, List.set_cons_zero, List.set_cons_succ, i64_w, i32_w]
        rfl
      refine done_ (done_of HT_.out (by kernel_rfl)) ?_
      try go_wp2
      go_roundg k1
      case measure => have := HK1.out; omega
      case rel => exact ⟨(wrap64 (x27_1 + 1)), hB59, H', ⟨by have := HK1.out; omega⟩, ⟨hB22⟩, ⟨hB26⟩, ⟨hB68⟩⟩
end Go.Proofs.YtkmkfiidlbhcgaaDoor.L8Dead

namespace Go.Proofs.YtkmkfiidlbhcgaaDoor.L8Dead
open Go.RowKit Go.Proofs.YtkmkfiidlbhcgaaDoorW.PrintWords Go.Proofs.YtkmkfiidlbhcgaaDoorW.PrintLast Go.Proofs.YtkmkfiidlbhcgaaDoorW.PrintMore
attribute [local go_sem] max2_int min2_int max_two min_two max_three min_three max_four min_four
set_option linter.unusedVariables false
set_option linter.unusedSimpArgs false
open Go.Proofs.YtkmkfiidlbhcgaaDoor.F
open Go.Proofs.YtkmkfiidlbhcgaaDoor.FM
open Go.Proofs.YtkmkfiidlbhcgaaDoor.H
open Go.Proofs.YtkmkfiidlbhcgaaDoor.V
open Go.Proofs.YtkmkfiidlbhcgaaDoor.LG
open Go.Proofs.YtkmkfiidlbhcgaaDoor.GL
end Go.Proofs.YtkmkfiidlbhcgaaDoor.L8Dead

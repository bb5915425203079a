/- Texts of this claim, pruned to what it needs and laid together by prune.py. -/
import Derived.Test.YtocechpmgfhenaaGreatDoorPB26
import Derived.Test.YtocechpmgfhenaaGreatDoorPB23
import Derived.Test.YtocechpmgfhenaaGreatDoorPB27
import Derived.Test.YtocechpmgfhenaaGreatDoorPB15
import Derived.Test.YtocechpmgfhenaaGreatDoorPB25
import Derived.Test.YtocechpmgfhenaaGreatDoorPB9
import Derived.OneCell
import Derived.RegionTactic
import Derived.BigRegion
import Derived.OwnWalk
import Derived.StillTailTactics
import Derived.BigQuiet
import Derived.Deep.QuietTactic
import Derived.Deep.DeepCutAuto
import Derived.Deep.CutBlock
import Derived.Outline
import Derived.Deep.RegionHeld3
namespace Go.Proofs.YtocechpmgfhenaaGreatDoor.SH
open Go.RowKit Go.Proofs.YtocechpmgfhenaaGreatDoorW.PrintWords Go.Proofs.YtocechpmgfhenaaGreatDoor.FM Go.Proofs.YtocechpmgfhenaaGreatDoor.CR Go.Proofs.YtocechpmgfhenaaGreatDoor.ST0 Go.Proofs.YtocechpmgfhenaaGreatDoor.F Go.Proofs.YtocechpmgfhenaaGreatDoor.H Go.Proofs.YtocechpmgfhenaaGreatDoor.Scan
set_option linter.unusedVariables false
set_option linter.unusedSectionVars false
set_option linter.unusedSimpArgs false
section
variable {o : Nat} {f1 f2 f3 f4 : Int} (h1 : 1 ≤ o) (h15 : o ≤ 15) (b1 : 0 ≤ f1 ∧ f1 ≤ 255) (b2 : 0 ≤ f2 ∧ f2 ≤ 255) (b3 : 0 ≤ f3 ∧ f3 ≤ 255) (b4 : -9223372036854775808 ≤ f4 ∧ f4 ≤ 9223372036854775807)
include h1 h15 b1 b2 b3 b4
omit b1 b2 b3 b4 in
theorem shape_val : lockstitchref04_shape.f (o : Int) = some (nmB o, haB o) := by
  obtain rfl | rfl | rfl | rfl | rfl | rfl | rfl | rfl | rfl | rfl | rfl | rfl | rfl | rfl | rfl : o = 1 ∨ o = 2 ∨ o = 3 ∨ o = 4 ∨ o = 5 ∨ o = 6 ∨ o = 7 ∨ o = 8 ∨ o = 9 ∨ o = 10 ∨ o = 11 ∨ o = 12 ∨ o = 13 ∨ o = 14 ∨ o = 15 := by omega
  all_goals rfl
theorem part_val (x : UInt8) (hx : x = 97 ∨ x = 98 ∨ x = 99 ∨ x = 110) : lockstitchref04_part.f o f1 f2 f3 f4 (x.toNat : Int) = some (partV f1 f2 f3 f4 x.toNat) ∧ -9223372036854775808 ≤ partV f1 f2 f3 f4 x.toNat ∧ partV f1 f2 f3 f4 x.toNat ≤ 9223372036854775807 := by
  have e1 : wrap64 f1 = f1 := by unfold wrap64; omega
  have e2 : wrap64 f2 = f2 := by unfold wrap64; omega
  have e3 : wrap64 f3 = f3 := by unfold wrap64; omega
  rcases hx with rfl | rfl | rfl | rfl
  · exact ⟨congrArg some e1, by show _ ≤ f1 ∧ f1 ≤ _; omega⟩
  · exact ⟨congrArg some e2, by show _ ≤ f2 ∧ f2 ≤ _; omega⟩
  · exact ⟨congrArg some e3, by show _ ≤ f3 ∧ f3 ≤ _; omega⟩
  · exact ⟨rfl, b4⟩
theorem line_ev : Ev (fun k => lockstitchref04_line.f k o f1 f2 f3 f4) (lV o f1 f2 f3 f4) := by
  have hl3 := ha_len ⟨o, by omega⟩
  simp only at hl3
  have hsz : (haB o).size = (hasOf o).length := rfl
  have L : ∀ d i : Nat, i + d = (hasOf o).length → Ev (fun k => lockstitchref04_line.l0 k (haB o) ((lV o f1 f2 f3 f4).take (i + 1)) (i : Int) o f1 f2 f3 f4) (lV o f1 f2 f3 f4) := by
    intro d
    induction d with
    | zero =>
      intro i hi
      have e : (lV o f1 f2 f3 f4).take (i + 1) = lV o f1 f2 f3 f4 := List.take_of_length_le (by rw [lV_len, hsz]; omega)
      rw [e]
      exact ev_step (fun k => lockstitchref04_line.l0.eq_2 ..) (Ev.congr (fun k => if_neg (by rw [hsz]; omega)) ev_const)
    | succ d ih =>
      intro i hi
      have hi2 : i < (hasOf o).length := by omega
      obtain ⟨x, hx⟩ : ∃ x, (hasOf o)[i]? = some x := ⟨_, List.getElem?_eq_getElem hi2⟩
      have hx4 := ha_mem ⟨o, by omega⟩ x (List.mem_of_getElem? hx)
      obtain ⟨p1, p2, p3⟩ := part_val h1 h15 b1 b2 b3 b4 x hx4
      have hb : bt (haB o) i = x.toNat := NU.bt_mk (hasOf o) i x hx
      have et : (lV o f1 f2 f3 f4).take (i + 1) ++ [num (partV f1 f2 f3 f4 x.toNat)] = (lV o f1 f2 f3 f4).take (i + 1 + 1) := by
        have : (lV o f1 f2 f3 f4)[i + 1]? = some (num (partV f1 f2 f3 f4 x.toNat)) := by
          unfold lV
          rw [List.getElem?_cons_succ, List.getElem?_map, hx]
          rfl
        rw [List.take_add_one (i := i + 1), this]
        rfl
      have hlen : ((lV o f1 f2 f3 f4).take (i + 1)).length < 8796093022208 := by
        rw [List.length_take, lV_len, hsz]
        omega
      have ih := ih (i + 1) (by omega)
      refine ev_step (fun k => lockstitchref04_line.l0.eq_2 ..) (Ev.congr (fun k => if_pos (by rw [hsz]; omega)) (Ev.congr (fun k => if_pos (by omega)) (ev_bind (ev_all fun _ => by rw [hb]; exact p1) (ev_bind (ev_all fun _ => if_pos ⟨rfl, p2, p3⟩) (Ev.congr (fun k => if_pos hlen) ?_)))))
      rw [et, show wrap64 ((i : Int) + 1) = ((i + 1 : Nat) : Int) by unfold wrap64; omega]
      exact ih
  have := L (hasOf o).length 0 (Nat.zero_add _)
  refine ev_bind (ev_all fun _ => shape_val h1 h15) ?_
  exact this
end
theorem gk_hs : ∀ o : Fin 16, ∀ c ∈ ([97, 98, 99, 110] : List UInt8), hs o c = decide (c ∈ (hasOf o).take 3) := by decide +kernel
theorem gk_eq {o : Nat} (h15 : o ≤ 15) (c : UInt8) (hc : c ∈ ([97, 98, 99, 110] : List UInt8)) (f : Int) : (gk o 3 c f == f) = (hs o c || f == 0) := by
  have := gk_hs ⟨o, by omega⟩ c hc
  simp only at this
  rw [this]
  unfold gk
  by_cases h : c ∈ (hasOf o).take 3
  · simp [h]
  · simp only [h, if_false, decide_false, Bool.false_or]
    rw [Bool.beq_comm]
section
variable (w : World) (o : Nat) (f1 f2 f3 f4 : Int) (b1 : 0 ≤ f1 ∧ f1 ≤ 255) (b2 : 0 ≤ f2 ∧ f2 ≤ 255) (b3 : 0 ≤ f3 ∧ f3 ≤ 255) (b4 : -9223372036854775808 ≤ f4 ∧ f4 ≤ 9223372036854775807) (htab : TB w)
include b1 b2 b3 b4 htab
set_option maxRecDepth 100000 in
theorem Right04_out (h : o = 0 ∨ 16 ≤ o) : Calls Tryz.prog 31 #[.agg #[.int .u8 o, .int .u8 f1, .int .u8 f2, .int .u8 f3, .int .i64 f4]] w fun e w' => e = .returned (.bool false) ∧ Below w.heap.size w w' := by
  have SH := Aside0.mk (fun W => shape_c W o)
  rw [(out_B h).1] at SH
  clear h htab
  go_enter Tryz.func31, Tryz.ntmps31
  go_wp2_with (go_at_call 49; (with_reducible refine (SH.out _).mono ?_); rintro e w' ⟨rfl, rfl⟩)
  go_ret
  exact ⟨rfl, below_alloc (Below.refl _ _) _⟩
set_option maxHeartbeats 2000000 in
set_option maxRecDepth 100000 in
theorem Right04_in (h1 : 1 ≤ o) (h15 : o ≤ 15) : Calls Tryz.prog 31 #[.agg #[.int .u8 o, .int .u8 f1, .int .u8 f2, .int .u8 f3, .int .i64 f4]] w fun e w' => e = .returned (.bool (rightB o f1 f2 f3 f4)) ∧ Below w.heap.size w w' := by
  have hne : (nmB o).toList.isEmpty = false := NU.isE (by
    have : ∀ o : Fin 16, 1 ≤ o.1 → 1 ≤ (nmB o).size := by decide +kernel
    exact this ⟨o, by omega⟩ h1)
  have er : rightB o f1 f2 f3 f4 = ((o : Int) == o && (gk o 3 97 f1 == f1 && (gk o 3 98 f2 == f2 && (gk o 3 99 f3 == f3 && (gk o 3 110 f4 == f4))))) := by
    rw [gk_eq h15 97 (by simp), gk_eq h15 98 (by simp), gk_eq h15 99 (by simp), gk_eq h15 110 (by simp)]
    unfold rightB
    cases hs o 97 <;> cases hs o 98 <;> cases hs o 99 <;> cases hs o 110 <;> simp <;> (cases f1 == 0 <;> cases f2 == 0 <;> cases f3 == 0 <;> cases f4 == 0 <;> rfl)
  obtain ⟨kl, hkl⟩ := ev_at (line_ev h1 h15 b1 b2 b3 b4)
  have LN := Aside0.mk hkl
  have HTB := Aside0.mk htab
  have H15 := Aside0.mk (And.intro h1 h15)
  have B := Aside0.mk (And.intro b1 (And.intro b2 (And.intro b3 b4)))
  rw [er]
  clear hkl htab h1 h15 b1 b2 b3 b4 er
  go_enter Tryz.func31, Tryz.ntmps31
  go_wp2_with (first
    | (go_at_call 49; (with_reducible refine (shape_c _ o).mono ?_); rintro e w' ⟨rfl, rfl⟩)
    | (go_at_call 51; (with_reducible refine (lockstitchref04_line.calls kl o f1 f2 f3 f4 _ _ LN.out (TB_below HTB.out (below_alloc (Below.refl _ _) _))).mono ?_); rintro e w1 ⟨v, rfl, hv, hb1⟩; obtain ⟨Al, cl, ev, hcl, hrl⟩ := Kd.R_reads hv; subst ev; have HRL := Aside0.mk hrl; have HCL := Aside0.mk hcl; have rx1 := (hb1.block w.heap.size (by simp)).trans (heap_alloc_new w _); have HB1 := Aside0.mk (below_step (below_alloc (Below.refl _ _) _) hb1); clear hv hb1 hrl)
    | (go_at_call 50; (with_reducible refine (read_c _ o f1 f2 f3 f4 H15.out.1 H15.out.2 B.out.1 B.out.2.1 B.out.2.2.1 B.out.2.2.2 Al cl HRL.out HCL.out).mono ?_); rintro e w2 ⟨rfl, hb2⟩; have rx2 := (hb2.block w.heap.size (blk_lt rx1)).trans rx1; have z2 := blk_lt rx2; have kp2 := fun j => cell_of_row (w2.alloc (.cells #[.int .u8 o, .int .u8 (gk o 3 97 f1), .int .u8 (gk o 3 98 f2), .int .u8 (gk o 3 99 f3), .int .i64 (gk o 3 110 f4)] 46)) w.heap.size j _ _ _ (row_old _ _ _ z2 rx2); have HB2 := Aside0.mk hb2; clear hb2)
    | (apply ldI; (with_reducible rfl); rfl; rfl; exact rowT; rfl)
    | (apply srI; (with_reducible rfl); rfl; rfl; rfl; exact rowT; rfl; rfl; rfl; exact setT))
  all_goals
    go_ret
    refine ⟨?_, below_alloc (below_step HB1.out HB2.out) _⟩
    simp [*]
end
end Go.Proofs.YtocechpmgfhenaaGreatDoor.SH

namespace Go.Proofs.YtocechpmgfhenaaGreatDoor.SH
open Go.RowKit Go.Proofs.YtocechpmgfhenaaGreatDoorW.PrintWords Go.Proofs.YtocechpmgfhenaaGreatDoor.CR Go.Proofs.YtocechpmgfhenaaGreatDoor.ST0
set_option linter.unusedVariables false
set_option linter.unusedSimpArgs false
set_option maxHeartbeats 2000000 in
set_option maxRecDepth 100000 in
theorem ints_c (w : World) (o : Nat) (f1 f2 f3 f4 : Int) (h1 : 1 ≤ o) (h15 : o ≤ 15) :
    Calls Tryz.prog 32 #[.agg #[.int .u8 o, .int .u8 f1, .int .u8 f2, .int .u8 f3, .int .i64 f4]] w fun e w' => e = .returned (.bool (intsB o f1 f2 f3)) ∧ Below w.heap.size w w' := by
  obtain rfl | rfl | rfl | rfl | rfl | rfl | rfl | rfl | rfl | rfl | rfl | rfl | rfl | rfl | rfl : o = 1 ∨ o = 2 ∨ o = 3 ∨ o = 4 ∨ o = 5 ∨ o = 6 ∨ o = 7 ∨ o = 8 ∨ o = 9 ∨ o = 10 ∨ o = 11 ∨ o = 12 ∨ o = 13 ∨ o = 14 ∨ o = 15 := by omega
  all_goals
    simp only [intsB, Nat.reduceEqDiff, reduceIte, or_true, true_or, or_false, false_or]
    go_enter Tryz.func32, Tryz.ntmps32
    go_wp2
  all_goals
    go_ret
    refine ⟨?_, below_alloc (Below.refl _ _) _⟩
    first | rfl | (simp [*]; done) | (simp; omega)
end Go.Proofs.YtocechpmgfhenaaGreatDoor.SH

namespace Go.Proofs.YtocechpmgfhenaaGreatDoor.PL
open Go.RowKit Go.Proofs.YtocechpmgfhenaaGreatDoorW.PrintWords Go.Proofs.YtocechpmgfhenaaGreatDoor.F Go.Proofs.YtocechpmgfhenaaGreatDoor.KP Go.Proofs.YtocechpmgfhenaaGreatDoor.CR Go.Proofs.YtocechpmgfhenaaGreatDoor.SH Go.Proofs.YtocechpmgfhenaaGreatDoor.FM Go.Proofs.YtocechpmgfhenaaGreatDoor.ST0 Go.Proofs.YtocechpmgfhenaaGreatDoor.Scan
set_option linter.unusedVariables false
set_option linter.unusedSectionVars false
set_option linter.unusedSimpArgs false
theorem Refs_c (p : Pg) (w : World) (h : p.In w) (s : ByteArray) (hz : Fit s) : Calls Tryz.prog 30 #[.slice p.A0 p.ts.length p.c0, .string s] w fun e w' => e = .returned (.bool (refs p.ts s)) ∧ Below w.heap.size w w' := by
  obtain ⟨k, hk⟩ := ev_at (ref_Refs_ev p.ts s h.hl h.hs hz)
  exact (lockstitchref03_Refs.calls k p.A0 p.c0 p.ts s _ w h.hT h.hc0 hk).mono fun e w' h => ⟨h.1, h.2.below⟩
theorem Right04_c (w : World) (o : Nat) (f1 f2 f3 f4 : Int) (hx : WfI o f1 f2 f3 f4) (htab : TB w) :
    Calls Tryz.prog 31 #[.agg #[.int .u8 o, .int .u8 f1, .int .u8 f2, .int .u8 f3, .int .i64 f4]] w fun e w' => e = .returned (.bool (if o = 0 ∨ 16 ≤ o then false else rightB o f1 f2 f3 f4)) ∧ Below w.heap.size w w' := by
  obtain ⟨_, h1, h2, h3, h4⟩ := hx
  by_cases h : o = 0 ∨ 16 ≤ o
  · rw [if_pos h]
    exact Right04_out w o f1 f2 f3 f4 h1 h2 h3 h4 htab h
  · rw [if_neg h]
    exact Right04_in w o f1 f2 f3 f4 h1 h2 h3 h4 htab (by omega) (by omega)
end Go.Proofs.YtocechpmgfhenaaGreatDoor.PL

namespace Go.Proofs.YtocechpmgfhenaaGreatDoor.PL
open Go.RowKit Go.Proofs.YtocechpmgfhenaaGreatDoorW.PrintWords Go.Proofs.YtocechpmgfhenaaGreatDoor.F Go.Proofs.YtocechpmgfhenaaGreatDoor.KP Go.Proofs.YtocechpmgfhenaaGreatDoor.CR Go.Proofs.YtocechpmgfhenaaGreatDoor.SH Go.Proofs.YtocechpmgfhenaaGreatDoor.FM Go.Proofs.YtocechpmgfhenaaGreatDoor.ST0 Go.Proofs.YtocechpmgfhenaaGreatDoor.Scan
set_option linter.unusedVariables false
set_option linter.unusedSectionVars false
set_option linter.unusedSimpArgs false
def rgR (o : Nat) (f1 f2 f3 f4 : Int) : Bool := if o = 0 ∨ 16 ≤ o then false else rightB o f1 f2 f3 f4
theorem rgR_op {o : Nat} {f1 f2 f3 f4 : Int} (h : rgR o f1 f2 f3 f4 = true) : (1 ≤ o ∧ o ≤ 15) ∧ rightB o f1 f2 f3 f4 = true := by
  unfold rgR at h
  split at h
  · cases h
  · exact ⟨by omega, h⟩
def IsR (r : Bool) : Prop := r = true
theorem IsR.mk : IsR true := rfl
def OkR (r ib kd : Bool) (o : Nat) (f4 : Int) (n : Nat) : Prop := r = true ∧ ib = true ∧ kd = true ∧ (o = 3 ∨ o = 4 → 0 ≤ f4 ∧ f4 ≤ n)
section
variable (p : Pg) (w : World) (hp : p.In w)
include hp
set_option maxHeartbeats 8000000 in
set_option maxRecDepth 100000 in
theorem Check_c : Calls Tryz.prog 15 #[p.v] w fun e w' => ∃ r er : Int, e = .returned (.tuple #[.int .i64 r, .int .i64 er]) ∧ (er = 0 ↔ SpP p) ∧ (er = 0 → r = -1) ∧ Below w.heap.size w w' := by
  have HP := Aside0.mk hp
  have hlc := hp.hc
  have hla := hp.hla
  have hgl := hp.hgl
  obtain ⟨A0, c0, ts, la, gl, A3, c3, code⟩ := p
  simp only at hlc hla hgl
  obtain ⟨b1, hb1⟩ : ∃ b1, refs ts la = b1 := ⟨_, rfl⟩
  obtain ⟨b2, hb2⟩ : ∃ b2, refs ts gl = b2 := ⟨_, rfl⟩
  have REF1 : Aside0 (∀ W, Below w.heap.size w W → Calls Tryz.prog 30 #[.slice A0 ts.length c0, .string la] W fun e w' => e = .returned (.bool b1) ∧ Below W.heap.size W w') := ⟨fun W hW => by
    rw [← hb1]
    exact Refs_c ⟨A0, c0, ts, la, gl, A3, c3, code⟩ W (HP.out.below hW) la hla⟩
  have REF2 : Aside0 (∀ W, Below w.heap.size w W → Calls Tryz.prog 30 #[.slice A0 ts.length c0, .string gl] W fun e w' => e = .returned (.bool b2) ∧ Below W.heap.size W w') := ⟨fun W hW => by
    rw [← hb2]
    exact Refs_c ⟨A0, c0, ts, la, gl, A3, c3, code⟩ W (HP.out.below hW) gl hgl⟩
  have HSP := Aside0.mk (show SpP ⟨A0, c0, ts, la, gl, A3, c3, code⟩ → b1 = true ∧ b2 = true ∧ ¬ (la.size : Int) > 8 ∧ ¬ (gl.size : Int) > 4 ∧ ¬ (code.length : Int) < 1 ∧ ¬ (code.length : Int) > 200 from fun h => ⟨by rw [← hb1]; exact h.refs.1, by rw [← hb2]; exact h.refs.2, by have := h.locals; simp only at this; omega, by have := h.globals; simp only at this; omega, by have := h.len; simp only at this; omega, by have := h.len; simp only at this; omega⟩)
  have HB0 := Aside0.mk (And.intro hb1 hb2)
  clear hp hb1 hb2
  have HLA := Aside0.mk hla
  have HGL := Aside0.mk hgl
  clear hla hgl
  have HW := Aside0.mk (Below.refl w.heap.size w)
  show Calls Tryz.prog 15 #[.agg #[.slice A0 ts.length c0, .string la, .string gl, .slice A3 code.length c3]] w fun e w' => ∃ r er : Int, e = .returned (.tuple #[.int .i64 r, .int .i64 er]) ∧ (er = 0 ↔ SpP ⟨A0, c0, ts, la, gl, A3, c3, code⟩) ∧ (er = 0 → r = -1) ∧ Below w.heap.size w w'
  by_cases hall : b1 = true ∧ b2 = true ∧ ¬ (la.size : Int) > 8 ∧ ¬ (gl.size : Int) > 4 ∧ ¬ (code.length : Int) < 1 ∧ ¬ (code.length : Int) > 200
  · obtain ⟨rfl, rfl, h3, h4, h5, h6⟩ := hall
    have HRL := Aside0.mk (show (refs ts la = true ∧ refs ts gl = true) ∧ la.size ≤ 8 ∧ gl.size ≤ 4 ∧ 1 ≤ code.length ∧ code.length ≤ 200 from ⟨HB0.out, by omega, by omega, by omega, by omega⟩)
    go_enter Tryz.func15, Tryz.ntmps15
    go_wp2_with (first
      | (go_at_call 30; (with_reducible refine (REF1.out _ ?side1).mono ?_); (case side1 => exact below_alloc HW.out _); rintro e w1 ⟨rfl, hb1⟩; have R0 := (hb1.block w.heap.size (by simp)).trans (heap_alloc_new w _); have kR := fun j => cell_of_row w1 w.heap.size j _ _ _ R0; have HW := Aside0.mk (below_step (below_alloc HW.out _) hb1); clear hb1)
      | (go_at_call 30; (with_reducible refine (REF2.out _ HW.out).mono ?_); rintro e w1 ⟨rfl, hb1⟩; have R0 := (hb1.block w.heap.size (blk_lt R0)).trans R0; have kR := fun j => cell_of_row w1 w.heap.size j _ _ _ R0; have HW := Aside0.mk (below_step HW.out hb1); clear hb1))
    have HR0 := Aside0.mk R0
    clear kR R0 REF1 REF2
    go_loopw [4] (fun c wr => ∃ i : Nat, i ≤ code.length ∧ c = .int .i64 i ∧ Aside0 (∀ j, j < i → InsAt ts la gl code j) ∧ Aside0 (wr.heap[w.heap.size]? = some (.cells #[.slice A0 ts.length c0, .string la, .string gl, .slice A3 code.length c3] 25 (0, 0))) ∧ Aside0 (Below w.heap.size w wr)) (fun c _ => code.length - (intOf c).toNat)
    case atStart => exact ⟨0, Nat.zero_le _, rfl, ⟨fun j hj => absurd hj (Nat.not_lt_zero _)⟩, HR0, HW⟩
    case round =>
      clear HR0 HW
      obtain ⟨i, hi, rfl, HI, HR, HB⟩ := hrel
      have kP := fun j => cell_of_row wr w.heap.size j _ _ _ HR.out
      by_cases hlt : (i : Int) < (code.length : Int)
      · have p0 : (0 : Int) ≤ i := by omega
        obtain ⟨ad, rfl, x0, x1, x2, x3, x4⟩ := at_T46 HP.out.hC (i : Int) p0 hlt
        rw [Int.toNat_natCast] at x0 x1 x2 x3 x4
        replace x0 := (HB.out.cell (World.block_lt_of_cell? w _ x0)).trans x0
        replace x1 := (HB.out.cell (World.block_lt_of_cell? w _ x1)).trans x1
        replace x2 := (HB.out.cell (World.block_lt_of_cell? w _ x2)).trans x2
        replace x3 := (HB.out.cell (World.block_lt_of_cell? w _ x3)).trans x3
        replace x4 := (HB.out.cell (World.block_lt_of_cell? w _ x4)).trans x4
        have hwf := HP.out.hw.rd i (show i < code.length by omega)
        obtain ⟨o, ho⟩ := Int.eq_ofNat_of_zero_le hwf.1.1
        rw [ho] at x0 hwf
        have HIA := Aside0.mk (show InsP ts la gl code.length o (rd_T46 code i).f1 (rd_T46 code i).f2 (rd_T46 code i).f3 (rd_T46 code i).f4 → InsAt ts la gl code i from fun h => ⟨o, ho, h⟩)
        have HIB := Aside0.mk (show InsAt ts la gl code i → InsP ts la gl code.length o (rd_T46 code i).f1 (rd_T46 code i).f2 (rd_T46 code i).f3 (rd_T46 code i).f4 from fun ⟨o', ho', h⟩ => by
          have h2 : (o' : Int) = o := ho'.symm.trans ho
          have : o' = o := by omega
          rwa [this] at h)
        obtain ⟨f1, e1⟩ : ∃ f1, (rd_T46 code i).f1 = f1 := ⟨_, rfl⟩
        obtain ⟨f2, e2⟩ : ∃ f2, (rd_T46 code i).f2 = f2 := ⟨_, rfl⟩
        obtain ⟨f3, e3⟩ : ∃ f3, (rd_T46 code i).f3 = f3 := ⟨_, rfl⟩
        obtain ⟨f4, e4⟩ : ∃ f4, (rd_T46 code i).f4 = f4 := ⟨_, rfl⟩
        rw [e1] at x1
        rw [e2] at x2
        rw [e3] at x3
        rw [e4] at x4
        rw [e1, e2, e3, e4] at HIA HIB hwf
        clear e1 e2 e3 e4 ho
        have HWF := Aside0.mk hwf
        clear hwf
        obtain ⟨r, hr⟩ : ∃ r, rgR o f1 f2 f3 f4 = r := ⟨_, rfl⟩
        obtain ⟨ib, hib⟩ : ∃ ib, intsB o f1 f2 f3 = ib := ⟨_, rfl⟩
        obtain ⟨kd, hk⟩ : ∃ kd, kindsB ts la gl o f1 f2 f3 f4 = kd := ⟨_, rfl⟩
        have RGT := Aside0.mk (show ∀ W, Below w.heap.size w W → Calls Tryz.prog 31 #[.agg #[.int .u8 o, .int .u8 f1, .int .u8 f2, .int .u8 f3, .int .i64 f4]] W fun e w' => e = .returned (.bool r) ∧ Below W.heap.size W w' from fun W hW => by rw [← hr]; exact Right04_c W o f1 f2 f3 f4 HWF.out (TB_below HP.out.tb hW))
        have INT := Aside0.mk (show IsR r → ∀ W, Calls Tryz.prog 32 #[.agg #[.int .u8 o, .int .u8 f1, .int .u8 f2, .int .u8 f3, .int .i64 f4]] W fun e w' => e = .returned (.bool ib) ∧ Below W.heap.size W w' from fun ht W => by
          rw [← hib]
          have := rgR_op (hr.trans ht)
          exact ints_c W o f1 f2 f3 f4 this.1.1 this.1.2)
        have KND := Aside0.mk (show IsR r → ∀ W, Below w.heap.size w W → Calls Tryz.prog 33 #[.agg #[.slice A0 ts.length c0, .string la, .string gl, .slice (some ad) code.length c3], .agg #[.int .u8 o, .int .u8 f1, .int .u8 f2, .int .u8 f3, .int .i64 f4]] W fun e w' => e = .returned (.bool kd) ∧ Below W.heap.size W w' from fun ht W hW => by
          rw [← hk]
          have := rgR_op (hr.trans ht)
          exact kinds_c ⟨A0, c0, ts, la, gl, some ad, c3, code⟩ W o f1 f2 f3 f4 this.1.1 this.1.2 HWF.out (HP.out.below hW))
        have HIP := Aside0.mk (show InsP ts la gl code.length o f1 f2 f3 f4 ↔ OkR r ib kd o f4 code.length from ⟨fun h => ⟨by
            rw [← hr]
            unfold rgR
            rw [if_neg (by have := h.op; omega)]
            exact h.right, by rw [← hib]; exact h.ints, by rw [← hk]; exact (kindsB_iff h.op.1 h.op.2).2 h.kinds, h.jump⟩, fun ⟨h1, h0, h2, h3⟩ => by
            have a := rgR_op (hr.trans h1)
            exact ⟨a.1, a.2, h3, hib.trans h0, (kindsB_iff a.1.1 a.1.2).1 (hk.trans h2)⟩⟩)
        clear hr hk hib
        have HSI := Aside0.mk (show SpP ⟨A0, c0, ts, la, gl, some ad, c3, code⟩ → OkR r ib kd o f4 code.length from fun h => HIP.out.1 (HIB.out (h.all i (by simp only; omega))))
        obtain ⟨wo, rfl⟩ : ∃ wo : World, wo = wr := ⟨_, rfl⟩
        by_cases hgood : OkR r ib kd o f4 code.length
        · have HOK := Aside0.mk (HIA.out (HIP.out.2 hgood))
          unfold OkR at hgood
          obtain ⟨rfl, rfl, rfl, hj⟩ := hgood
          have hq : (((o : Int) == 3) = true ∧ ¬ f4 < 0 ∧ ¬ f4 > (code.length : Int)) ∨ (((o : Int) == 3) = false ∧ ((o : Int) == 4) = true ∧ ¬ f4 < 0 ∧ ¬ f4 > (code.length : Int)) ∨ (((o : Int) == 3) = false ∧ ((o : Int) == 4) = false) := by
            simp only [beq_eq_false_iff_ne, beq_iff_eq]
            omega
          clear hj HSI HIP HIB HIA
          obtain ⟨q3, j1, j2⟩ | ⟨q3, q4, j1, j2⟩ | ⟨q3, q4⟩ := hq
          all_goals
            go_wp2_with (first
              | (go_at_call 31; (with_reducible refine (RGT.out _ ?side1).mono ?_); (case side1 => exact below_alloc HB.out _); rintro e w1 ⟨rfl, hb1⟩; have R1 := (hb1.block wo.heap.size (by simp)).trans (heap_alloc_new wo _); have kR1 := fun j => cell_of_row w1 wo.heap.size j _ _ _ R1; have HR1 := Aside0.mk R1; have R0 := (hb1.block w.heap.size (by have := blk_lt HR.out; simp; omega)).trans (row_old _ _ _ (blk_lt HR.out) HR.out); have kR0 := fun j => cell_of_row w1 w.heap.size j _ _ _ R0; have HR := Aside0.mk R0; clear R0; have HB := Aside0.mk (below_step (below_alloc HB.out _) hb1); clear hb1 R1)
              | (go_at_call 32; (with_reducible refine (INT.out IsR.mk _).mono ?_); rintro e w1 ⟨rfl, hb1⟩; have R1 := (hb1.block wo.heap.size (blk_lt HR1.out)).trans HR1.out; have kR1 := fun j => cell_of_row w1 wo.heap.size j _ _ _ R1; have R0 := (hb1.block w.heap.size (blk_lt HR.out)).trans HR.out; have kR0 := fun j => cell_of_row w1 w.heap.size j _ _ _ R0; have HR := Aside0.mk R0; clear R0 R1; have HB := Aside0.mk (below_step HB.out hb1); clear hb1)
              | (go_at_call 33; (with_reducible refine (KND.out IsR.mk _ HB.out).mono ?_); rintro e w2 ⟨rfl, hb2⟩; have HR := Aside0.mk ((hb2.block w.heap.size (blk_lt HR.out)).trans HR.out); have HB := Aside0.mk (below_step HB.out hb2); clear hb2))
            go_roundw
            case rel => exact ⟨i + 1, by omega, by go_num, ⟨fun j hj => by
              rcases Nat.lt_succ_iff_lt_or_eq.1 hj with hj | rfl
              · exact HI.out j hj
              · exact HOK.out⟩, HR, HB⟩
            case measure => simp [intOf]; omega
        · have HNO := Aside0.mk (show ¬ SpP ⟨A0, c0, ts, la, gl, some ad, c3, code⟩ from fun h => hgood (HSI.out h))
          have hq : (r = false ∧ ((o : Int) == 3) = true) ∨ (r = false ∧ ((o : Int) == 3) = false ∧ ((o : Int) == 4) = true) ∨ (r = false ∧ ((o : Int) == 3) = false ∧ ((o : Int) == 4) = false) ∨ (r = true ∧ ((o : Int) == 3) = true ∧ f4 < 0) ∨ (r = true ∧ ((o : Int) == 3) = true ∧ ¬ f4 < 0 ∧ f4 > (code.length : Int)) ∨ (r = true ∧ ((o : Int) == 3) = false ∧ ((o : Int) == 4) = true ∧ f4 < 0) ∨ (r = true ∧ ((o : Int) == 3) = false ∧ ((o : Int) == 4) = true ∧ ¬ f4 < 0 ∧ f4 > (code.length : Int)) ∨ (r = true ∧ ib = false ∧ ((o : Int) == 3) = true ∧ ¬ f4 < 0 ∧ ¬ f4 > (code.length : Int)) ∨ (r = true ∧ ib = false ∧ ((o : Int) == 3) = false ∧ ((o : Int) == 4) = true ∧ ¬ f4 < 0 ∧ ¬ f4 > (code.length : Int)) ∨ (r = true ∧ ib = false ∧ ((o : Int) == 3) = false ∧ ((o : Int) == 4) = false) ∨ (r = true ∧ ib = true ∧ kd = false ∧ ((o : Int) == 3) = true ∧ ¬ f4 < 0 ∧ ¬ f4 > (code.length : Int)) ∨ (r = true ∧ ib = true ∧ kd = false ∧ ((o : Int) == 3) = false ∧ ((o : Int) == 4) = true ∧ ¬ f4 < 0 ∧ ¬ f4 > (code.length : Int)) ∨ (r = true ∧ ib = true ∧ kd = false ∧ ((o : Int) == 3) = false ∧ ((o : Int) == 4) = false) := by
            unfold OkR at hgood
            simp only [beq_eq_false_iff_ne, beq_iff_eq]
            cases r <;> cases ib <;> cases kd <;> simp at hgood ⊢ <;> omega
          clear hgood HSI HIP HIB HIA
          obtain ⟨rfl, q3⟩ | ⟨rfl, q3, q4⟩ | ⟨rfl, q3, q4⟩ | ⟨rfl, q3, j1⟩ | ⟨rfl, q3, j1, j2⟩ | ⟨rfl, q3, q4, j1⟩ | ⟨rfl, q3, q4, j1, j2⟩ | ⟨rfl, rfl, q3, j1, j2⟩ | ⟨rfl, rfl, q3, q4, j1, j2⟩ | ⟨rfl, rfl, q3, q4⟩ | ⟨rfl, rfl, rfl, q3, j1, j2⟩ | ⟨rfl, rfl, rfl, q3, q4, j1, j2⟩ | ⟨rfl, rfl, rfl, q3, q4⟩ := hq
          all_goals
            go_wp2_with (first
              | (go_at_call 31; (with_reducible refine (RGT.out _ ?side1).mono ?_); (case side1 => exact below_alloc HB.out _); rintro e w1 ⟨rfl, hb1⟩; have R1 := (hb1.block wo.heap.size (by simp)).trans (heap_alloc_new wo _); have kR1 := fun j => cell_of_row w1 wo.heap.size j _ _ _ R1; have HR1 := Aside0.mk R1; have R0 := (hb1.block w.heap.size (by have := blk_lt HR.out; simp; omega)).trans (row_old _ _ _ (blk_lt HR.out) HR.out); have kR0 := fun j => cell_of_row w1 w.heap.size j _ _ _ R0; have HR := Aside0.mk R0; clear R0; have HB := Aside0.mk (below_step (below_alloc HB.out _) hb1); clear hb1 R1)
              | (go_at_call 32; (with_reducible refine (INT.out IsR.mk _).mono ?_); rintro e w1 ⟨rfl, hb1⟩; have R1 := (hb1.block wo.heap.size (blk_lt HR1.out)).trans HR1.out; have kR1 := fun j => cell_of_row w1 wo.heap.size j _ _ _ R1; have R0 := (hb1.block w.heap.size (blk_lt HR.out)).trans HR.out; have kR0 := fun j => cell_of_row w1 w.heap.size j _ _ _ R0; have HR := Aside0.mk R0; clear R0 R1; have HB := Aside0.mk (below_step HB.out hb1); clear hb1)
              | (go_at_call 33; (with_reducible refine (KND.out IsR.mk _ HB.out).mono ?_); rintro e w2 ⟨rfl, hb2⟩; have HR := Aside0.mk ((hb2.block w.heap.size (blk_lt HR.out)).trans HR.out); have HB := Aside0.mk (below_step HB.out hb2); clear hb2))
            go_ret2
            exact ⟨_, _, rfl, ⟨fun e => absurd e (by decide), fun h => absurd h HNO.out⟩, fun e => absurd e (by decide), HB.out⟩
      · obtain rfl : i = code.length := by omega
        go_wp2
        go_ret2
        exact ⟨_, _, rfl, ⟨fun _ => ⟨HRL.out.1, HRL.out.2.1, HRL.out.2.2.1, HRL.out.2.2.2, HI.out⟩, fun _ => rfl⟩, fun _ => rfl, HB.out⟩
  · have HN := Aside0.mk (fun h => hall (HSP.out h))
    obtain rfl | ⟨rfl, rfl⟩ | ⟨rfl, rfl, h3⟩ | ⟨rfl, rfl, h3, h4⟩ | ⟨rfl, rfl, h3, h4, h5⟩ | ⟨rfl, rfl, h3, h4, h5, h6⟩ : b1 = false ∨ (b1 = true ∧ b2 = false) ∨ (b1 = true ∧ b2 = true ∧ (la.size : Int) > 8) ∨ (b1 = true ∧ b2 = true ∧ ¬ (la.size : Int) > 8 ∧ (gl.size : Int) > 4) ∨ (b1 = true ∧ b2 = true ∧ ¬ (la.size : Int) > 8 ∧ ¬ (gl.size : Int) > 4 ∧ (code.length : Int) < 1) ∨ (b1 = true ∧ b2 = true ∧ ¬ (la.size : Int) > 8 ∧ ¬ (gl.size : Int) > 4 ∧ ¬ (code.length : Int) < 1 ∧ (code.length : Int) > 200) := by
      cases b1
      · exact .inl rfl
      · cases b2
        · exact .inr (.inl ⟨rfl, rfl⟩)
        · refine .inr (.inr ?_)
          simp only [true_and] at hall ⊢
          omega
    all_goals
      clear hall
      go_enter Tryz.func15, Tryz.ntmps15
      go_wp2_with (first
        | (go_at_call 30; (with_reducible refine (REF1.out _ ?side1).mono ?_); (case side1 => exact below_alloc HW.out _); rintro e w1 ⟨rfl, hb1⟩; have R0 := (hb1.block w.heap.size (by simp)).trans (heap_alloc_new w _); have kR := fun j => cell_of_row w1 w.heap.size j _ _ _ R0; have HW := Aside0.mk (below_step (below_alloc HW.out _) hb1); clear hb1)
        | (go_at_call 30; (with_reducible refine (REF2.out _ HW.out).mono ?_); rintro e w1 ⟨rfl, hb1⟩; have R0 := (hb1.block w.heap.size (blk_lt R0)).trans R0; have kR := fun j => cell_of_row w1 w.heap.size j _ _ _ R0; have HW := Aside0.mk (below_step HW.out hb1); clear hb1))
      go_ret2
      exact ⟨_, _, rfl, ⟨fun e => absurd e (by decide), fun h => absurd h HN.out⟩, fun e => absurd e (by decide), HW.out⟩
end
end Go.Proofs.YtocechpmgfhenaaGreatDoor.PL

namespace Go.Proofs.YtocechpmgfhenaaGreatDoor.PL
open Go.RowKit Go.Proofs.YtocechpmgfhenaaGreatDoorW.PrintWords Go.Proofs.YtocechpmgfhenaaGreatDoor.Scan Go.Proofs.YtocechpmgfhenaaGreatDoor.F Go.Proofs.YtocechpmgfhenaaGreatDoor.KP
set_option linter.unusedVariables false
set_option linter.unusedSimpArgs false
theorem t_ite {α : Type} {c : Prop} [Decidable c] {f g : Nat → Option α} (hf : c → ∃ r, Ev f r) (hg : ¬ c → ∃ r, Ev g r) : ∃ r, Ev (fun k => if c then f k else g k) r := by
  by_cases h : c
  · obtain ⟨r, hr⟩ := hf h
    exact ⟨r, Ev.congr (fun k => if_pos h) hr⟩
  · obtain ⟨r, hr⟩ := hg h
    exact ⟨r, Ev.congr (fun k => if_neg h) hr⟩
theorem t_step {α : Type} {g f : Nat → Option α} (h : ∀ k, g (k + 1) = f k) (k : ∃ r, Ev f r) : ∃ r, Ev g r := k.elim fun r hr => ⟨r, ev_step h hr⟩
theorem few_l0 (ts : List ByteArray) (hl : (ts.length : Int) ≤ 9223372036854775807) (la gl : ByteArray) (code : List S46) : ∀ (d i : Nat) (a : Int), i + d = ts.length → ∃ r, Ev (fun k => lockstitchlaw04_Few.l0 k a ts (ts.length : Int) (i : Int) ts la gl code) r := by
  intro d
  induction d with
  | zero =>
    intro i a hi
    exact t_step (fun k => lockstitchlaw04_Few.l0.eq_2 ..) (t_ite (fun h => absurd h (by omega)) fun _ => t_ite (fun _ => ⟨_, ev_const⟩) fun _ => ⟨_, ev_const⟩)
  | succ d ih =>
    intro i a hi
    refine t_step (fun k => lockstitchlaw04_Few.l0.eq_2 ..) (t_ite (fun _ => t_ite (fun _ => t_ite (fun _ => ?_) fun h => absurd (by omega) h) fun h => absurd (by omega) h) fun h => absurd (by omega) h)
    rw [show wrap64 ((i : Int) + 1) = ((i + 1 : Nat) : Int) by unfold wrap64; omega]
    exact ih (i + 1) _ (by omega)
theorem few_A (p : Pg) (w : World) (h : p.In w) : ∃ b, ∀ W, Below w.heap.size w W → Calls Tryz.prog 21 #[p.v] W fun e w' => e = .returned (.bool b) ∧ Below W.heap.size W w' := by
  have ht : ∃ b, Ev (fun k => lockstitchlaw04_Few.f k p.ts p.la p.gl p.code) b := few_l0 p.ts h.hl p.la p.gl p.code p.ts.length 0 _ (Nat.zero_add _)
  obtain ⟨b, hb⟩ := ht
  obtain ⟨k, hk⟩ := ev_at hb
  exact ⟨b, fun W hW => lockstitchlaw04_Few.calls k p.A0 p.c0 p.ts p.la p.gl p.A3 p.c3 p.code b W (h.below hW).hT h.hc0 (h.below hW).hC h.hc3 hk⟩
open Classical in
set_option maxHeartbeats 4000000 in
set_option maxRecDepth 100000 in
theorem Sound_c (p : Pg) (w : World) (h : p.In w) : ∃ b : Bool, (b = true → SpP p ∧ p.code.length ≤ 60) ∧ ∀ W, Below w.heap.size w W → Calls Tryz.prog 10 #[p.v] W fun e w' => e = .returned (.bool b) ∧ Below W.heap.size W w' := by
  obtain ⟨bf, hbf⟩ := few_A p w h
  have CK := Aside0.mk (fun W (hW : Below w.heap.size w W) => Check_c p W (h.below hW))
  have hmax := Kd.C_max h.hC
  have FE := Aside0.mk hbf
  clear h hbf
  refine ⟨decide (bf = true ∧ p.code.length ≤ 60 ∧ SpP p), fun h => by have := of_decide_eq_true h; exact ⟨this.2.2, this.2.1⟩, fun W hW => ?_⟩
  generalize SpP p = SP at CK ⊢
  obtain ⟨A0, c0, ts, la, gl, A3, c3, code⟩ := p
  simp only at hmax CK FE ⊢
  show Calls _ _ #[.agg #[.slice A0 ts.length c0, .string la, .string gl, .slice A3 code.length c3]] _ _
  have HW := Aside0.mk hW
  have HN := Aside0.mk (Below.refl W.heap.size W)
  clear hW
  cases bf with
  | false =>
    rw [show decide (false = true ∧ code.length ≤ 60 ∧ SP) = false from decide_eq_false fun h => by cases h.1]
    go_enter Tryz.func10, Tryz.ntmps10
    go_wp2_with (go_at_call 21; (with_reducible refine (FE.out _ (below_step HW.out (below_alloc (Below.refl _ _) _))).mono ?_); rintro e w1 ⟨rfl, hb⟩; have HN := Aside0.mk (below_step (below_alloc (Below.refl _ _) _) hb); clear hb)
    go_ret
    exact ⟨rfl, HN.out⟩
  | true =>
    by_cases h60 : (code.length : Int) > 60
    · rw [show decide (true = true ∧ code.length ≤ 60 ∧ SP) = false from decide_eq_false fun h => by have := h.2.1; omega]
      go_enter Tryz.func10, Tryz.ntmps10
      go_wp2_with (go_at_call 21; (with_reducible refine (FE.out _ (below_step HW.out (below_alloc (Below.refl _ _) _))).mono ?_); rintro e w1 ⟨rfl, hb⟩; have HN := Aside0.mk (below_step (below_alloc (Below.refl _ _) _) hb); have HR := Aside0.mk ((hb.block W.heap.size (by simp)).trans (heap_alloc_new W _)); have y3 := (blk_cell HR.out 3).trans (rfl : _ = some (Value.slice A3 code.length c3)); clear hb)
      go_ret
      exact ⟨rfl, HN.out⟩
    · by_cases hsp : SP
      · rw [show decide (true = true ∧ code.length ≤ 60 ∧ SP) = true from decide_eq_true ⟨rfl, by omega, hsp⟩]
        go_enter Tryz.func10, Tryz.ntmps10
        go_wp2_with (first
          | (go_at_call 21; (with_reducible refine (FE.out _ (below_step HW.out (below_alloc (Below.refl _ _) _))).mono ?_); rintro e w1 ⟨rfl, hb⟩; have HN := Aside0.mk (below_step (below_alloc (Below.refl _ _) _) hb); have HR := Aside0.mk ((hb.block W.heap.size (by simp)).trans (heap_alloc_new W _)); have y0 := (blk_cell HR.out 0).trans (rfl : _ = some (Value.slice A0 ts.length c0)); have y1 := (blk_cell HR.out 1).trans (rfl : _ = some (Value.string la)); have y2 := (blk_cell HR.out 2).trans (rfl : _ = some (Value.string gl)); have y3 := (blk_cell HR.out 3).trans (rfl : _ = some (Value.slice A3 code.length c3)); clear hb)
          | (go_at_call 15; (with_reducible refine (CK.out _ (below_step HW.out HN.out)).mono ?_); rintro e w2 ⟨r, er, rfl, h1, h2, hb⟩; obtain rfl : er = 0 := h1.2 hsp; have HN := Aside0.mk (below_step HN.out hb); clear h1 h2 hb))
        go_ret
        exact ⟨rfl, HN.out⟩
      · rw [show decide (true = true ∧ code.length ≤ 60 ∧ SP) = false from decide_eq_false fun h => hsp h.2.2]
        go_enter Tryz.func10, Tryz.ntmps10
        go_wp2_with (first
          | (go_at_call 21; (with_reducible refine (FE.out _ (below_step HW.out (below_alloc (Below.refl _ _) _))).mono ?_); rintro e w1 ⟨rfl, hb⟩; have HN := Aside0.mk (below_step (below_alloc (Below.refl _ _) _) hb); have HR := Aside0.mk ((hb.block W.heap.size (by simp)).trans (heap_alloc_new W _)); have y0 := (blk_cell HR.out 0).trans (rfl : _ = some (Value.slice A0 ts.length c0)); have y1 := (blk_cell HR.out 1).trans (rfl : _ = some (Value.string la)); have y2 := (blk_cell HR.out 2).trans (rfl : _ = some (Value.string gl)); have y3 := (blk_cell HR.out 3).trans (rfl : _ = some (Value.slice A3 code.length c3)); clear hb)
          | (go_at_call 15; (with_reducible refine (CK.out _ (below_step HW.out HN.out)).mono ?_); rintro e w2 ⟨r, er, rfl, h1, h2, hb⟩; have hz : (er == 0) = false := beq_false_of_ne fun h => hsp (h1.1 h); have HN := Aside0.mk (below_step HN.out hb); clear h1 h2 hb))
        go_ret
        exact ⟨by simp [hz], HN.out⟩
end Go.Proofs.YtocechpmgfhenaaGreatDoor.PL

namespace Go.Proofs.YtocechpmgfhenaaGreatDoor.PF
open Go.RowKit Go.Proofs.YtocechpmgfhenaaGreatDoorW.PrintWords Go.Proofs.YtocechpmgfhenaaGreatDoor.F Go.Proofs.YtocechpmgfhenaaGreatDoor.KP Go.Proofs.YtocechpmgfhenaaGreatDoor.CR Go.Proofs.YtocechpmgfhenaaGreatDoor.PL Go.Proofs.YtocechpmgfhenaaGreatDoor.FP Go.Proofs.YtocechpmgfhenaaGreatDoor.FSF Go.Proofs.YtocechpmgfhenaaGreatDoor.PK Go.Proofs.YtocechpmgfhenaaGreatDoor.NX Go.Proofs.YtocechpmgfhenaaGreatDoor.FG Go.Proofs.YtocechpmgfhenaaGreatDoor.ZP Go.Proofs.YtocechpmgfhenaaGreatDoor.LK Go.Proofs.YtocechpmgfhenaaGreatDoor.RFL Go.Proofs.YtocechpmgfhenaaGreatDoor.FUL Go.Proofs.YtocechpmgfhenaaGreatDoor.B8 Go.Proofs.YtocechpmgfhenaaGreatDoor.ST0
set_option linter.unusedVariables false
set_option linter.unusedSimpArgs false
theorem best_is (p : Pg) (k : Nat) : ((rd_T46 p.code k).f0 = 5 ∧ ∃ a b, bestF p k = ⟨a, b, false⟩ ∧ (a = true → loopB p.code k = false)) ∨ ((rd_T46 p.code k).f0 = 11 ∧ ∃ c, bestF p k = ⟨false, false, c⟩) ∨ bestF p k = ⟨false, false, false⟩ := by
  unfold bestF
  split
  · rename_i h
    exact .inl ⟨h, _, _, rfl, fun e => by cases hl : loopB p.code k <;> simp_all⟩
  · split
    · rename_i h
      exact .inr (.inl ⟨h, _, rfl⟩)
    · exact .inr (.inr rfl)
end Go.Proofs.YtocechpmgfhenaaGreatDoor.PF

namespace Go.Proofs.YtocechpmgfhenaaGreatDoor.ST
open Go.RowKit Go.Proofs.YtocechpmgfhenaaGreatDoorW.PrintWords Go.Proofs.YtocechpmgfhenaaGreatDoor.F
set_option linter.unusedVariables false
structure PS where
  n : Nat → Int
  objs : List (List Int)
  out : List Int
  pc : Int
  steps : Int
def upd (n : Nat → Int) (k : Nat) (v : Int) : Nat → Int := fun j => if j = k then v else n j
theorem upd_same (n : Nat → Int) (k : Nat) (v : Int) : upd n k v k = v := if_pos rfl
theorem upd_ne (n : Nat → Int) {k j : Nat} (v : Int) (h : j ≠ k) : upd n k v j = n j := if_neg h
def fld (l : List (List Int)) (o f : Int) : Int := (l.getD (o - 1).toNat []).getD f.toNat 0
def putF (l : List (List Int)) (o f v : Int) : List (List Int) := l.set (o - 1).toNat ((l.getD (o - 1).toNat []).set f.toNat v)
def stepN (sz loc : Int → Int) (x : S46) (s : PS) : Option PS :=
  if x.f0 = 1 then some { s with n := upd s.n x.f1.toNat x.f4 }
  else if x.f0 = 2 then some { s with n := upd s.n x.f1.toNat (wrap64 (s.n x.f2.toNat + s.n x.f3.toNat)) }
  else if x.f0 = 15 then some { s with n := upd s.n x.f1.toNat (if s.n (8 + x.f2.toNat) = s.n (8 + x.f3.toNat) then 1 else 0) }
  else if x.f0 = 14 then some { s with out := s.out ++ [s.n x.f1.toNat] }
  else if x.f0 = 5 then some { s with objs := s.objs ++ [List.replicate (sz (loc x.f1)).toNat 0], n := upd s.n (8 + x.f1.toNat) ((s.objs.length + 1 : Nat) : Int) }
  else if x.f0 = 6 then some { s with n := upd s.n (8 + x.f1.toNat) 0 }
  else if x.f0 = 7 then some { s with n := upd s.n (8 + x.f1.toNat) (s.n (8 + x.f2.toNat)) }
  else if x.f0 = 12 then some { s with n := upd s.n (8 + x.f1.toNat) (s.n (16 + x.f2.toNat)) }
  else if x.f0 = 13 then some { s with n := upd s.n (16 + x.f1.toNat) (s.n (8 + x.f2.toNat)) }
  else if x.f0 = 8 then (if s.n (8 + x.f2.toNat) = 0 then none else some { s with n := upd s.n x.f1.toNat (fld s.objs (s.n (8 + x.f2.toNat)) x.f4) })
  else if x.f0 = 10 then (if s.n (8 + x.f2.toNat) = 0 then none else some { s with n := upd s.n (8 + x.f1.toNat) (fld s.objs (s.n (8 + x.f2.toNat)) x.f4) })
  else if x.f0 = 9 then (if s.n (8 + x.f1.toNat) = 0 then none else some { s with objs := putF s.objs (s.n (8 + x.f1.toNat)) x.f4 (s.n x.f2.toNat) })
  else (if s.n (8 + x.f1.toNat) = 0 then none else some { s with objs := putF s.objs (s.n (8 + x.f1.toNat)) x.f4 (s.n (8 + x.f2.toNat)) })
def stepP (sz loc : Int → Int) (code : List S46) (s : PS) : PS × Bool × Int :=
  if s.pc = code.length then (s, true, 0)
  else
    if (rd_T46 code s.pc).f0 = 3 ∨ ((rd_T46 code s.pc).f0 = 4 ∧ s.n (rd_T46 code s.pc).f1.toNat = 0) then ({ s with pc := (rd_T46 code s.pc).f4, steps := wrap64 (s.steps + 1) }, false, 0)
    else if (rd_T46 code s.pc).f0 = 4 then ({ s with pc := s.pc + 1, steps := wrap64 (s.steps + 1) }, false, 0)
    else match stepN sz loc (rd_T46 code s.pc) { s with pc := s.pc + 1, steps := wrap64 (s.steps + 1) } with
      | some u => (u, false, 0)
      | none => (s, false, 9)
def Pt (ty : List Int) (t v : Int) : Prop := v = 0 ∨ (1 ≤ v ∧ v ≤ ty.length ∧ ty.getD (v - 1).toNat (-1) = t)
theorem Pt.more {ty : List Int} {t v u : Int} (h : Pt ty t v) : Pt (ty ++ [u]) t v := by
  rcases h with h | ⟨h1, h2, h3⟩
  · exact .inl h
  · refine .inr ⟨h1, by rw [List.length_append]; omega, ?_⟩
    rw [List.getD_eq_getElem?_getD, List.getElem?_append_left (by omega), ← List.getD_eq_getElem?_getD, h3]
theorem Pt.cast {ty : List Int} {t u v : Int} (e : u = v) (h : Pt ty t v) : Pt ty t u := by
  rw [e]
  exact h
structure KK (loc glb sz : Int → Int) (tof : Int → Int → Int) (x : S46) : Prop where
  new : x.f0 = 5 → 0 ≤ loc x.f1
  move : x.f0 = 7 → loc x.f1 = loc x.f2
  loadI : x.f0 = 8 → 0 ≤ loc x.f2 ∧ 0 ≤ x.f4 ∧ x.f4 < sz (loc x.f2)
  loadP : x.f0 = 10 → 0 ≤ x.f4 ∧ x.f4 < sz (loc x.f2) ∧ 0 ≤ tof (loc x.f2) x.f4 ∧ loc x.f1 = tof (loc x.f2) x.f4
  storeI : x.f0 = 9 → 0 ≤ x.f4 ∧ x.f4 < sz (loc x.f1) ∧ tof (loc x.f1) x.f4 < 0
  storeP : x.f0 = 11 → 0 ≤ x.f4 ∧ x.f4 < sz (loc x.f1) ∧ 0 ≤ tof (loc x.f1) x.f4 ∧ loc x.f2 = tof (loc x.f1) x.f4
  loadG : x.f0 = 12 → loc x.f1 = glb x.f2
  storeG : x.f0 = 13 → loc x.f2 = glb x.f1
  ia : x.f0 = 1 ∨ x.f0 = 2 ∨ x.f0 = 4 ∨ x.f0 = 8 ∨ x.f0 = 14 ∨ x.f0 = 15 → x.f1 < 8
  ib : x.f0 = 2 ∨ x.f0 = 9 → x.f2 < 8
  ic : x.f0 = 2 → x.f3 < 8
  pa : x.f0 = 5 ∨ x.f0 = 6 ∨ x.f0 = 7 ∨ x.f0 = 9 ∨ x.f0 = 10 ∨ x.f0 = 11 ∨ x.f0 = 12 → x.f1 < 8
  pb : x.f0 = 7 ∨ x.f0 = 8 ∨ x.f0 = 10 ∨ x.f0 = 11 ∨ x.f0 = 13 ∨ x.f0 = 15 → x.f2 < 8
  pc : x.f0 = 15 → x.f3 < 8
  ga : x.f0 = 13 → x.f1 < 4
  gb : x.f0 = 12 → x.f2 < 4
structure WT (loc glb sz : Int → Int) (tof : Int → Int → Int) (ty : List Int) (s : PS) : Prop where
  len : ty.length = s.objs.length
  ps : ∀ a : Nat, a < 8 → Pt ty (loc a) (s.n (8 + a))
  gs : ∀ a : Nat, a < 4 → Pt ty (glb a) (s.n (16 + a))
  os : ∀ o : Nat, o < s.objs.length → (s.objs.getD o []).length = (sz (ty.getD o (-1))).toNat
  fs : ∀ o : Nat, o < s.objs.length → ∀ f : Nat, 0 ≤ tof (ty.getD o (-1)) f → Pt ty (tof (ty.getD o (-1)) f) ((s.objs.getD o []).getD f 0)
theorem WT.start (loc glb sz : Int → Int) (tof : Int → Int → Int) : WT loc glb sz tof [] ⟨fun _ => 0, [], [], 0, 0⟩ :=
  ⟨rfl, fun _ _ => .inl rfl, fun _ _ => .inl rfl, fun o h => absurd h (by simp), fun o h => absurd h (by simp)⟩
section
variable {loc glb sz : Int → Int} {tof : Int → Int → Int} {ty : List Int} {s : PS}
theorem WT.setX (h : WT loc glb sz tof ty s) {k : Nat} (hk : k < 8) (v : Int) : WT loc glb sz tof ty { s with n := upd s.n k v } :=
  ⟨h.len, fun a ha => Pt.cast (upd_ne s.n v (by omega)) (h.ps a ha), fun a ha => Pt.cast (upd_ne s.n v (by omega)) (h.gs a ha), h.os, h.fs⟩
theorem WT.setP (h : WT loc glb sz tof ty s) {k : Nat} (hk : k < 8) {v : Int} (hv : Pt ty (loc k) v) : WT loc glb sz tof ty { s with n := upd s.n (8 + k) v } := by
  refine ⟨h.len, fun a ha => ?_, fun a ha => Pt.cast (upd_ne s.n v (by omega)) (h.gs a ha), h.os, h.fs⟩
  by_cases e : a = k
  · subst e
    exact Pt.cast (upd_same s.n _ v) hv
  · exact Pt.cast (upd_ne s.n v (by omega)) (h.ps a ha)
theorem WT.setG (h : WT loc glb sz tof ty s) {k : Nat} (hk : k < 4) {v : Int} (hv : Pt ty (glb k) v) : WT loc glb sz tof ty { s with n := upd s.n (16 + k) v } := by
  refine ⟨h.len, fun a ha => Pt.cast (upd_ne s.n v (by omega)) (h.ps a ha), fun a ha => ?_, h.os, h.fs⟩
  by_cases e : a = k
  · subst e
    exact Pt.cast (upd_same s.n _ v) hv
  · exact Pt.cast (upd_ne s.n v (by omega)) (h.gs a ha)
theorem WT.pc (h : WT loc glb sz tof ty s) (p st : Int) (o : List Int) : WT loc glb sz tof ty { s with pc := p, steps := st, out := o } := ⟨h.len, h.ps, h.gs, h.os, h.fs⟩
theorem getD_app {α : Type} (l : List α) (x d : α) (i : Nat) : (l ++ [x]).getD i d = if i < l.length then l.getD i d else if i = l.length then x else d := by
  rw [List.getD_eq_getElem?_getD]
  by_cases h : i < l.length
  · rw [if_pos h, List.getElem?_append_left h, List.getD_eq_getElem?_getD]
  · rw [if_neg h, List.getElem?_append_right (by omega)]
    by_cases e : i = l.length
    · rw [if_pos e, e, Nat.sub_self]
      rfl
    · rw [if_neg e, List.getElem?_eq_none (by simp; omega)]
      rfl
theorem getD_rep (m f : Nat) : (List.replicate m (0 : Int)).getD f 0 = 0 := by
  rw [List.getD_eq_getElem?_getD, List.getElem?_replicate]
  split <;> rfl
theorem WT.more (h : WT loc glb sz tof ty s) (t : Int) : WT loc glb sz tof (ty ++ [t]) { s with objs := s.objs ++ [List.replicate (sz t).toNat 0] } := by
  have hl := h.len
  refine ⟨by rw [List.length_append, List.length_append, hl]; rfl, fun a ha => (h.ps a ha).more, fun a ha => (h.gs a ha).more, fun o ho => ?_, fun o ho f hf => ?_⟩
  · simp only [List.length_append, List.length_singleton] at ho
    show ((s.objs ++ [List.replicate (sz t).toNat 0]).getD o []).length = _
    rw [getD_app, getD_app, hl]
    by_cases e : o < s.objs.length
    · rw [if_pos e, if_pos e]
      exact h.os o e
    · rw [if_neg e, if_neg e, if_pos (by omega), if_pos (by omega), List.length_replicate]
  · simp only [List.length_append, List.length_singleton] at ho
    show Pt _ _ (((s.objs ++ [List.replicate (sz t).toNat 0]).getD o []).getD f 0)
    rw [getD_app, hl] at hf
    rw [getD_app, getD_app, hl]
    by_cases e : o < s.objs.length
    · rw [if_pos e] at hf
      rw [if_pos e, if_pos e]
      exact (h.fs o e f hf).more
    · rw [if_neg e, if_neg e, if_pos (by omega), if_pos (by omega), getD_rep]
      exact .inl rfl
theorem WT.put (h : WT loc glb sz tof ty s) {o f : Int} {t v : Int} (ho : Pt ty t o) (h0 : o ≠ 0) (hf : 0 ≤ f ∧ f < sz t) (hv : 0 ≤ tof t f → Pt ty (tof t f) v) : WT loc glb sz tof ty { s with objs := putF s.objs o f v } := by
  obtain ⟨h1, h2, h3⟩ := ho.resolve_left h0
  have hl := h.len
  have hon : (o - 1).toNat < s.objs.length := by omega
  have hg : ∀ i : Nat, (putF s.objs o f v).getD i [] = if i = (o - 1).toNat then (s.objs.getD (o - 1).toNat []).set f.toNat v else s.objs.getD i [] := by
    intro i
    unfold putF
    rw [List.getD_eq_getElem?_getD, List.getElem?_set]
    by_cases e : (o - 1).toNat = i
    · rw [if_pos e, if_pos (by omega), if_pos e.symm]
      rfl
    · rw [if_neg e, if_neg (fun e' => e e'.symm), List.getD_eq_getElem?_getD]
  have hlen : (putF s.objs o f v).length = s.objs.length := by unfold putF; rw [List.length_set]
  refine ⟨by rw [hl]; exact hlen.symm, h.ps, h.gs, fun i hi => ?_, fun i hi k hk => ?_⟩
  · show ((putF s.objs o f v).getD i []).length = _
    rw [hg]
    have hi' : i < s.objs.length := by rw [← hlen]; exact hi
    split
    · rename_i e
      rw [List.length_set, ← e]
      exact h.os i hi'
    · exact h.os i hi'
  · show Pt _ _ (((putF s.objs o f v).getD i []).getD k 0)
    have hi' : i < s.objs.length := by rw [← hlen]; exact hi
    rw [hg]
    split
    · rename_i e
      rw [e, h3] at hk ⊢
      rw [List.getD_eq_getElem?_getD, List.getElem?_set]
      by_cases ek : f.toNat = k
      · have ef : f = (k : Int) := by omega
        rw [ef] at hv
        rw [if_pos ek]
        split
        · exact hv hk
        · exact .inl rfl
      · rw [if_neg ek, ← List.getD_eq_getElem?_getD]
        have := h.fs (o - 1).toNat hon k
        rw [h3] at this
        exact this hk
    · exact h.fs i hi' k hk
theorem WT.fld (h : WT loc glb sz tof ty s) {o f t : Int} (ho : Pt ty t o) (h0 : o ≠ 0) (hf : 0 ≤ f) (hto : 0 ≤ tof t f) : Pt ty (tof t f) (fld s.objs o f) := by
  obtain ⟨h1, h2, h3⟩ := ho.resolve_left h0
  have hl := h.len
  have := h.fs (o - 1).toNat (by omega) f.toNat
  rw [h3, show ((f.toNat : Nat) : Int) = f by omega] at this
  exact this hto
end
section
variable {loc glb sz : Int → Int} {tof : Int → Int → Int} {x : S46} (hx : KK loc glb sz tof x) (h1 : 0 ≤ x.f1) (h2 : 0 ≤ x.f2) (hop : 1 ≤ x.f0 ∧ x.f0 ≤ 15) (hj : x.f0 ≠ 3 ∧ x.f0 ≠ 4)
include hx h1 h2 hop hj
theorem stepN_wt {ty : List Int} {s u : PS} (h : WT loc glb sz tof ty s) (e : stepN sz loc x s = some u) : ∃ ty', WT loc glb sz tof ty' u := by
  have e1 : ((x.f1.toNat : Nat) : Int) = x.f1 := by omega
  have e2 : ((x.f2.toNat : Nat) : Int) = x.f2 := by omega
  have P1 : x.f1 < 8 → Pt ty (loc x.f1) (s.n (8 + x.f1.toNat)) := fun hl => by have := h.ps x.f1.toNat (by omega); rwa [e1] at this
  have P2 : x.f2 < 8 → Pt ty (loc x.f2) (s.n (8 + x.f2.toNat)) := fun hl => by have := h.ps x.f2.toNat (by omega); rwa [e2] at this
  unfold stepN at e
  by_cases o1 : x.f0 = 1
  · rw [if_pos o1] at e
    obtain rfl := Option.some.inj e
    have := hx.ia (by omega)
    exact ⟨ty, h.setX (by omega) _⟩
  rw [if_neg o1] at e
  by_cases o2 : x.f0 = 2
  · rw [if_pos o2] at e
    obtain rfl := Option.some.inj e
    have := hx.ia (by omega)
    exact ⟨ty, h.setX (by omega) _⟩
  rw [if_neg o2] at e
  by_cases o15 : x.f0 = 15
  · rw [if_pos o15] at e
    obtain rfl := Option.some.inj e
    have := hx.ia (by omega)
    exact ⟨ty, h.setX (by omega) _⟩
  rw [if_neg o15] at e
  by_cases o14 : x.f0 = 14
  · rw [if_pos o14] at e
    obtain rfl := Option.some.inj e
    exact ⟨ty, h.pc _ _ _⟩
  rw [if_neg o14] at e
  by_cases o5 : x.f0 = 5
  · rw [if_pos o5] at e
    obtain rfl := Option.some.inj e
    have ha := hx.pa (by omega)
    refine ⟨ty ++ [loc x.f1], (h.more (loc x.f1)).setP (k := x.f1.toNat) (by omega) (.inr ⟨by omega, by rw [List.length_append, h.len]; simp, ?_⟩)⟩
    rw [getD_app, h.len, if_neg (by omega), if_pos (by omega), e1]
  rw [if_neg o5] at e
  by_cases o6 : x.f0 = 6
  · rw [if_pos o6] at e
    obtain rfl := Option.some.inj e
    have ha := hx.pa (by omega)
    exact ⟨ty, h.setP (by omega) (.inl rfl)⟩
  rw [if_neg o6] at e
  by_cases o7 : x.f0 = 7
  · rw [if_pos o7] at e
    obtain rfl := Option.some.inj e
    have ha := hx.pa (by omega)
    have hb := hx.pb (by omega)
    exact ⟨ty, h.setP (by omega) (by rw [e1, hx.move o7]; exact P2 hb)⟩
  rw [if_neg o7] at e
  by_cases o12 : x.f0 = 12
  · rw [if_pos o12] at e
    obtain rfl := Option.some.inj e
    have ha := hx.pa (by omega)
    have hb := hx.gb o12
    exact ⟨ty, h.setP (by omega) (by rw [e1, hx.loadG o12, ← e2]; exact h.gs _ (by omega))⟩
  rw [if_neg o12] at e
  by_cases o13 : x.f0 = 13
  · rw [if_pos o13] at e
    obtain rfl := Option.some.inj e
    have ha := hx.ga o13
    have hb := hx.pb (by omega)
    exact ⟨ty, h.setG (by omega) (by rw [e1, ← hx.storeG o13]; exact P2 hb)⟩
  rw [if_neg o13] at e
  by_cases o8 : x.f0 = 8
  · rw [if_pos o8] at e
    split at e
    · cases e
    · obtain rfl := Option.some.inj e
      have := hx.ia (by omega)
      exact ⟨ty, h.setX (by omega) _⟩
  rw [if_neg o8] at e
  by_cases o10 : x.f0 = 10
  · rw [if_pos o10] at e
    split at e
    · cases e
    · rename_i hz
      obtain rfl := Option.some.inj e
      have ha := hx.pa (by omega)
      have hb := hx.pb (by omega)
      obtain ⟨k1, k2, k3, k4⟩ := hx.loadP o10
      exact ⟨ty, h.setP (by omega) (by rw [e1, k4]; exact h.fld (P2 hb) hz k1 k3)⟩
  rw [if_neg o10] at e
  by_cases o9 : x.f0 = 9
  · rw [if_pos o9] at e
    split at e
    · cases e
    · rename_i hz
      obtain rfl := Option.some.inj e
      have ha := hx.pa (by omega)
      obtain ⟨k1, k2, k3⟩ := hx.storeI o9
      exact ⟨ty, h.put (P1 ha) hz ⟨k1, k2⟩ fun h0 => by omega⟩
  rw [if_neg o9] at e
  have o11 : x.f0 = 11 := by omega
  split at e
  · cases e
  · rename_i hz
    obtain rfl := Option.some.inj e
    have ha := hx.pa (by omega)
    have hb := hx.pb (by omega)
    obtain ⟨k1, k2, k3, k4⟩ := hx.storeP o11
    exact ⟨ty, h.put (P1 ha) hz ⟨k1, k2⟩ fun _ => by rw [← k4]; exact P2 hb⟩
end
end Go.Proofs.YtocechpmgfhenaaGreatDoor.ST

namespace Go.Proofs.YtocechpmgfhenaaGreatDoor.ST
open Go.RowKit Go.Proofs.YtocechpmgfhenaaGreatDoorW.PrintWords Go.Proofs.YtocechpmgfhenaaGreatDoor.ST0
set_option linter.unusedVariables false
def OutF (w : World) (P : Nat → Prop) (A : Option Addr) (out : List Int) : Prop := ∀ W' : World, (∀ k, P k → k < w.heap.size → W'.heap[k]? = w.heap[k]?) → (Kd.int .i64).C W' A out.length out
theorem OutF.now {w : World} {P : Nat → Prop} {A : Option Addr} {out : List Int} (h : OutF w P A out) : (Kd.int .i64).C w A out.length out := h w fun _ _ _ => rfl
theorem OutF.mono {w : World} {P Q : Nat → Prop} {A : Option Addr} {out : List Int} (h : OutF w P A out) (hp : ∀ k, P k → Q k) : OutF w Q A out := fun W' hW => h W' fun k hk hl => hW k (hp k hk) hl
theorem OutF.bound {w : World} {P : Nat → Prop} {A : Option Addr} {out : List Int} (h : OutF w P A out) : OutF w (fun k => P k ∧ k < w.heap.size) A out := fun W' hW => h W' fun k hp hk => hW k ⟨hp, hk⟩ hk
theorem OutF.step {w w' : World} {P : Nat → Prop} {A : Option Addr} {out : List Int} (h : OutF w P A out) (hb : ∀ k, P k → k < w.heap.size → w'.heap[k]? = w.heap[k]? ∧ k < w'.heap.size) : OutF w' P A out :=
  fun W' hW => h W' fun k hp hk => (hW k hp (hb k hp hk).2).trans (hb k hp hk).1
theorem OutF.below {w w' : World} {P : Nat → Prop} {A : Option Addr} {out : List Int} (h : OutF w P A out) (hb : Below w.heap.size w w') : OutF w' P A out := h.step fun k _ hk => ⟨hb.block k hk, Nat.lt_of_lt_of_le hk hb.size⟩
theorem cell_more2 {w : World} {b j : Nat} {v : Value} (hb : b < w.heap.size) (h : w.cell? ⟨b, j, none⟩ = some v) (q r : Obj) : ((w.alloc q).alloc r).cell? ⟨b, j, none⟩ = some v :=
  ((below_alloc (below_alloc (Below.refl _ _) q) r).cell (p := ⟨b, j, none⟩) hb).trans h
theorem heap_old2 (w : World) (o : Obj) {i : Nat} (h : i < w.heap.size) : (w.alloc o).heap[i]? = w.heap[i]? := by
  show (w.heap.push o)[i]? = w.heap[i]?
  rw [Array.getElem?_push, if_neg (Nat.ne_of_lt h)]
theorem sizeS : (Tryz.prog.info? 44).map (·.size) = some 24 := by kernel_rfl
section
variable {ops : Array Oper} {rest : List Oper} {o : Oper} {a : Act} {w w' : World} {Q : Exit → Act → World → Prop} {x y : Operand} {g : Nat} {cs old : Array Value}
theorem ldS (ho : o.op = .load 44 x) (hgd : o.guard = none) (hx : a.eval x = .pointer (some ⟨g, 0, none⟩)) (hg : w.heap[g]? = some (.cells cs 44 (0, 0))) (hs : cs.size = 24)
    (h : wpList Tryz.prog ops Q rest (a.put o.dst (.agg cs)) w) : wpList Tryz.prog ops Q (o :: rest) a w :=
  wpList_load_row hgd 44 x ho g hx 44 cs (0, 0) _ hg Tryz.underlying44 rfl (by rw [sizeS, hs]) h
theorem srS (ho : o.op = .store 44 x y) (hgd : o.guard = none) (hx : a.eval x = .pointer (some ⟨g, 0, none⟩)) (hy : a.eval y = .agg cs) (hg : w.heap[g]? = some (.cells old 44 (0, 0)))
    (hs : cs.size = 24) (hs' : old.size = 24) (h1 : cs.toList.all (·.oneCell') = true) (hw : w.setRow g cs = w')
    (h : wpList Tryz.prog ops Q rest (a.put o.dst undef) w') : wpList Tryz.prog ops Q (o :: rest) a w := by
  subst hw
  exact wpList_store_row hgd 44 x y ho g cs hx hy 44 old hg (by rw [sizeS, hs]) (by rw [hs, hs']) (by rw [← Array.all_toList]; exact h1) h
end
theorem ldS_run {w : World} {g : Nat} {cs : Array Value} (hg : w.heap[g]? = some (.cells cs 44 (0, 0))) (hs : cs.size = 24) :
    (loadVar 44 ⟨g, 0, none⟩).run Tryz.prog w = .ok (.agg cs) w :=
  run_loadVar_row (P := Tryz.prog) w g 44 44 cs (0, 0) _ hg Tryz.underlying44 rfl (by rw [sizeS, hs])
theorem ret2S {fn : Func} {R : Ending → World → Prop} {a : Act} {w : World} {p q : Tmp} {g : Nat} {cs : Array Value} {v : Value} (h : fn.results = #[.cell p 44, .tmp q]) (hd : a.defers = []) (hp : a.tmps.getD p undef = .pointer (some ⟨g, 0, none⟩))
    (hq : a.tmps.getD q undef = v) (hg : w.heap[g]? = some (.cells cs 44 (0, 0))) (hs : cs.size = 24) (hR : R (.returned (.tuple #[.agg cs, v])) w) : bodyPost Tryz.prog fn R .ret a w := by
  refine bodyPost_ret ?_ hd hR
  have hp' : a.tmps[p]?.getD undef = .pointer (some ⟨g, 0, none⟩) := by simpa using hp
  have hq' : a.tmps[q]?.getD undef = v := by simpa using hq
  simp [results, h, hp', hq', asAddr, ldS_run hg hs]
theorem ret3S {fn : Func} {R : Ending → World → Prop} {a : Act} {w : World} {p q r : Tmp} {g : Nat} {cs : Array Value} {v u : Value} (h : fn.results = #[.cell p 44, .tmp q, .tmp r]) (hd : a.defers = []) (hp : a.tmps.getD p undef = .pointer (some ⟨g, 0, none⟩))
    (hq : a.tmps.getD q undef = v) (hr : a.tmps.getD r undef = u) (hg : w.heap[g]? = some (.cells cs 44 (0, 0))) (hs : cs.size = 24) (hR : R (.returned (.tuple #[.agg cs, v, u])) w) : bodyPost Tryz.prog fn R .ret a w := by
  refine bodyPost_ret ?_ hd hR
  have hp' : a.tmps[p]?.getD undef = .pointer (some ⟨g, 0, none⟩) := by simpa using hp
  have hq' : a.tmps[q]?.getD undef = v := by simpa using hq
  have hr' : a.tmps[r]?.getD undef = u := by simpa using hr
  simp [results, h, hp', hq', hr', asAddr, ldS_run hg hs]
theorem row8 (n : Nat → Int) (b k : Nat) (h : k < 8) : ([.int .i64 (n (b + 0)), .int .i64 (n (b + 1)), .int .i64 (n (b + 2)), .int .i64 (n (b + 3)), .int .i64 (n (b + 4)), .int .i64 (n (b + 5)), .int .i64 (n (b + 6)), .int .i64 (n (b + 7))] : List Value)[k]? = some (.int .i64 (n (b + k))) := by
  match k, h with
  | 0, _ => rfl
  | 1, _ => rfl
  | 2, _ => rfl
  | 3, _ => rfl
  | 4, _ => rfl
  | 5, _ => rfl
  | 6, _ => rfl
  | 7, _ => rfl
theorem rowS (n : Nat → Int) (O T U V : Value) (k : Nat) (h : k < 20) : ([.int .i64 (n 0), .int .i64 (n 1), .int .i64 (n 2), .int .i64 (n 3), .int .i64 (n 4), .int .i64 (n 5), .int .i64 (n 6), .int .i64 (n 7), .int .i64 (n 8), .int .i64 (n 9), .int .i64 (n 10), .int .i64 (n 11), .int .i64 (n 12), .int .i64 (n 13), .int .i64 (n 14), .int .i64 (n 15), .int .i64 (n 16), .int .i64 (n 17), .int .i64 (n 18), .int .i64 (n 19), O, T, U, V] : List Value)[k]? = some (.int .i64 (n k)) := by
  match k, h with
  | 0, _ => rfl
  | 1, _ => rfl
  | 2, _ => rfl
  | 3, _ => rfl
  | 4, _ => rfl
  | 5, _ => rfl
  | 6, _ => rfl
  | 7, _ => rfl
  | 8, _ => rfl
  | 9, _ => rfl
  | 10, _ => rfl
  | 11, _ => rfl
  | 12, _ => rfl
  | 13, _ => rfl
  | 14, _ => rfl
  | 15, _ => rfl
  | 16, _ => rfl
  | 17, _ => rfl
  | 18, _ => rfl
  | 19, _ => rfl
  | m + 20, h => exact absurd h (by omega)
theorem rowSA (n : Nat → Int) (O T U V : Value) (k : Nat) (h : (k : Int) < 8) : (#[.int .i64 (n 0), .int .i64 (n 1), .int .i64 (n 2), .int .i64 (n 3), .int .i64 (n 4), .int .i64 (n 5), .int .i64 (n 6), .int .i64 (n 7), .int .i64 (n 8), .int .i64 (n 9), .int .i64 (n 10), .int .i64 (n 11), .int .i64 (n 12), .int .i64 (n 13), .int .i64 (n 14), .int .i64 (n 15), .int .i64 (n 16), .int .i64 (n 17), .int .i64 (n 18), .int .i64 (n 19), O, T, U, V] : Array Value)[k]? = some (.int .i64 (n k)) :=
  (List.getElem?_toArray ..).trans (rowS n O T U V k (by omega))
theorem upd_upd (n : Nat → Int) (k : Nat) (u v : Int) : upd (upd n k u) k v = upd n k v := by
  funext j
  unfold upd
  split <;> rfl
theorem row4 (n : Nat → Int) (b k : Nat) (h : k < 4) : ([.int .i64 (n (b + 0)), .int .i64 (n (b + 1)), .int .i64 (n (b + 2)), .int .i64 (n (b + 3))] : List Value)[k]? = some (.int .i64 (n (b + k))) := by
  match k, h with
  | 0, _ => rfl
  | 1, _ => rfl
  | 2, _ => rfl
  | 3, _ => rfl
theorem upd_at (n : Nat → Int) (b k j : Nat) (v : Int) : upd n (b + k) v (b + j) = if j = k then v else n (b + j) := by
  unfold upd
  by_cases e : j = k
  · rw [if_pos e, if_pos (by omega)]
  · rw [if_neg e, if_neg (by omega)]
theorem set8 (n : Nat → Int) (b k : Nat) (h : k < 8) (v : Int) : ([.int .i64 (n (b + 0)), .int .i64 (n (b + 1)), .int .i64 (n (b + 2)), .int .i64 (n (b + 3)), .int .i64 (n (b + 4)), .int .i64 (n (b + 5)), .int .i64 (n (b + 6)), .int .i64 (n (b + 7))] : List Value).set k (.int .i64 v) =
   [.int .i64 (upd n (b + k) v (b + 0)), .int .i64 (upd n (b + k) v (b + 1)), .int .i64 (upd n (b + k) v (b + 2)), .int .i64 (upd n (b + k) v (b + 3)), .int .i64 (upd n (b + k) v (b + 4)), .int .i64 (upd n (b + k) v (b + 5)), .int .i64 (upd n (b + k) v (b + 6)), .int .i64 (upd n (b + k) v (b + 7))] := by
  simp only [upd_at]
  match k, h with
  | 0, _ => rfl
  | 1, _ => rfl
  | 2, _ => rfl
  | 3, _ => rfl
  | 4, _ => rfl
  | 5, _ => rfl
  | 6, _ => rfl
  | 7, _ => rfl
theorem set4 (n : Nat → Int) (b k : Nat) (h : k < 4) (v : Int) : ([.int .i64 (n (b + 0)), .int .i64 (n (b + 1)), .int .i64 (n (b + 2)), .int .i64 (n (b + 3))] : List Value).set k (.int .i64 v) =
   [.int .i64 (upd n (b + k) v (b + 0)), .int .i64 (upd n (b + k) v (b + 1)), .int .i64 (upd n (b + k) v (b + 2)), .int .i64 (upd n (b + k) v (b + 3))] := by
  simp only [upd_at]
  match k, h with
  | 0, _ => rfl
  | 1, _ => rfl
  | 2, _ => rfl
  | 3, _ => rfl
end Go.Proofs.YtocechpmgfhenaaGreatDoor.ST

namespace Go.Proofs.YtocechpmgfhenaaGreatDoor.ST
open Go.RowKit Go.Proofs.YtocechpmgfhenaaGreatDoorW.PrintWords Go.Proofs.YtocechpmgfhenaaGreatDoor.ST0
set_option linter.unusedVariables false
structure Hd where
  A : Option Addr
  n : Nat
  c : Nat
instance : Inhabited Hd := ⟨⟨none, 0, 0⟩⟩
def Hd.v (h : Hd) : Value := .slice h.A h.n h.c
theorem Hd.one (h : Hd) : h.v.oneCell' = true := rfl
abbrev KH : Kd Hd := Kd.scalar Hd.v Hd.one
abbrev KI : Kd Int := Kd.int .i64
def Hd.Is (w : World) (h : Hd) (xs : List Int) : Prop := h.n = xs.length ∧ h.n ≤ h.c ∧ KI.C w h.A xs.length xs
structure Objs (w : World) (A : Option Addr) (hs : List Hd) (os : List (List Int)) : Prop where
  row : KH.C w A hs.length hs
  len : hs.length = os.length
  is : ∀ j : Nat, j < hs.length → (hs.getD j default).Is w (os.getD j [])
theorem Objs.none (w : World) : Objs w none [] [] := ⟨Kd.C_nil _ _, rfl, fun j hj => absurd hj (by simp)⟩
def ObF (w : World) (P : Nat → Prop) (A : Option Addr) (hs : List Hd) (os : List (List Int)) : Prop := ∀ W' : World, (∀ k, P k → k < w.heap.size → W'.heap[k]? = w.heap[k]?) → Objs W' A hs os
theorem ObF.now {w : World} {P : Nat → Prop} {A : Option Addr} {hs : List Hd} {os : List (List Int)} (h : ObF w P A hs os) : Objs w A hs os := h w fun _ _ _ => rfl
theorem ObF.step {w w' : World} {P : Nat → Prop} {A : Option Addr} {hs : List Hd} {os : List (List Int)} (h : ObF w P A hs os) (hb : ∀ k, P k → k < w.heap.size → w'.heap[k]? = w.heap[k]? ∧ k < w'.heap.size) : ObF w' P A hs os :=
  fun W' hW => h W' fun k hp hk => (hW k hp (hb k hp hk).2).trans (hb k hp hk).1
theorem ObF.bound {w : World} {P : Nat → Prop} {A : Option Addr} {hs : List Hd} {os : List (List Int)} (h : ObF w P A hs os) : ObF w (fun k => P k ∧ k < w.heap.size) A hs os := fun W' hW => h W' fun k hp hk => hW k ⟨hp, hk⟩ hk
theorem ObF.mono {w : World} {P Q : Nat → Prop} {A : Option Addr} {hs : List Hd} {os : List (List Int)} (h : ObF w P A hs os) (hp : ∀ k, P k → Q k) : ObF w Q A hs os := fun W' hW => h W' fun k hk hl => hW k (hp k hk) hl
theorem ObF.below {w w' : World} {P : Nat → Prop} {A : Option Addr} {hs : List Hd} {os : List (List Int)} (h : ObF w P A hs os) (hb : Below w.heap.size w w') : ObF w' P A hs os := h.step fun k _ hk => ⟨hb.block k hk, Nat.lt_of_lt_of_le hk hb.size⟩
theorem own_other_world {α : Type} {enc : α → Value} {h1 : ∀ x, (enc x).oneCell' = true} {e base g n cap : Nat} {W W' : World} {ok : Nat → Prop} {xs : List α} (h : (Kd.scalar enc h1).R e W base ok (.slice (some ⟨g, 0, none⟩) n cap) xs) (hg : W'.heap[g]? = W.heap[g]?) : (Kd.scalar enc h1).C W' (some ⟨g, 0, none⟩) xs.length xs := by
  have e1 : n = xs.length := (Kd.R_reads' h).1
  subst e1
  have h2 := own_move (Kd.own_of_R h) (w1 := W') fun k hk => by
    injection hk with hk
    subst hk
    exact hg
  exact (Kd.R_reads' (Kd.R_of_own (h1 := h1) (ok := fun _ => True) h2 fun _ _ => trivial)).2.2
theorem info_h : (Tryz.prog.info? 42).map (fun i => (i.zero, i.size, i.bytes)) = some (some (.slice none 0 0), 1, 24) := by kernel_rfl
theorem info_i : (Tryz.prog.info? 2).map (fun i => (i.zero, i.size, i.bytes)) = some (some (.int .i64 0), 1, 8) := by kernel_rfl
theorem own_empty {α : Type} {enc : α → Value} {h1 : ∀ x, (enc x).oneCell' = true} (W : World) (B e g : Nat) (hg : g = W.heap.size) (hB : B ≤ W.heap.size) : (Kd.scalar enc h1).R e (W.alloc (.cells #[] e)) B (fun _ => True) (.slice (some ⟨g, 0, none⟩) 0 0) [] := by
  subst hg
  exact Kd.R_of_own (own_lit_of (enc := enc) W B e [] hB (by simp)) fun _ _ => trivial
theorem put_get {α : Type} (l : List α) (i j : Nat) (x d : α) (h : i < l.length) : (l.set i x).getD j d = if j = i then x else l.getD j d := by
  rw [List.getD_eq_getElem?_getD, List.getElem?_set]
  by_cases e : i = j
  · rw [if_pos e, if_pos (by omega), if_pos e.symm]
    rfl
  · rw [if_neg e, if_neg (fun e' => e e'.symm), List.getD_eq_getElem?_getD]
theorem Kd.R_tightg {α : Type} {enc : α → Value} {h1 : ∀ x, (enc x).oneCell' = true} {e base g n cap : Nat} {W : World} {ok : Nat → Prop} {xs : List α} (h : (Kd.scalar enc h1).R e W base ok (.slice (some ⟨g, 0, none⟩) n cap) xs) : (Kd.scalar enc h1).R e W base (fun k => k = g) (.slice (some ⟨g, 0, none⟩) n cap) xs := by
  have e1 : n = xs.length := (Kd.R_reads' h).1
  subst e1
  exact Kd.R_of_own (Kd.own_of_R h) fun k hk => by injection hk with hk; exact hk.symm
theorem region_tail {P : Program} {id : Nat} {Q : Exit → Act → World → Prop} {a : Act} {w : World} {l : List Oper} (n : Nat) (hm : P.follows .mixedOrders = true) (hB : Region.lexTailB .any l.toArray n = true)
    (h : wpStill P l.toArray w.drew (fun a' => wpList P l.toArray Q (l.drop n) a' w.drew) (l.take n) a) : (Code.region id l.toArray true).wp P Q a w := wp_region_still_tail n hm hB h
theorem cell_more {w : World} {a : Addr} {v : Value} (h : w.cell? a = some v) (p q r s : Obj) : ((((w.alloc p).alloc q).alloc r).alloc s).cell? a = some v :=
  ((below_alloc (below_alloc (below_alloc (below_alloc (Below.refl _ _) p) q) r) s).cell (World.block_lt_of_cell? w _ h)).trans h
theorem Objs.reads {w : World} {A : Option Addr} {hs : List Hd} {os : List (List Int)} (h : Objs w A hs os) {o f : Nat} (ho : o < hs.length) (hf : f < (os.getD o []).length) :
    ∃ ad had, A = some ad ∧ (hs.getD o default).A = some had ∧ w.cell? (ad.add o) = some (.slice (some had) (os.getD o []).length (hs.getD o default).c) ∧ w.cell? (had.add f) = some (.int .i64 ((os.getD o []).getD f 0)) := by
  obtain ⟨_, _, h3⟩ := Kd.reads_of_C (d := default) h.row
  obtain ⟨ad, e, h4⟩ := h3 (by omega)
  obtain ⟨i1, i2, i3⟩ := h.is o ho
  obtain ⟨_, _, j3⟩ := Kd.reads_of_C (d := (0 : Int)) i3
  obtain ⟨had, e2, j4⟩ := j3 (by omega)
  refine ⟨ad, had, e, e2, ?_, j4 f hf⟩
  have := h4 o ho
  rw [this]
  show some (Value.slice (hs.getD o default).A (hs.getD o default).n (hs.getD o default).c) = _
  rw [e2, i1]
theorem objs_append {w w3 : World} {P : Nat → Prop} {oA An : Option Addr} {hs : List Hd} {os : List (List Int)} {e B g m n cn : Nat} {t : TypeId} {ok : Nat → Prop} (hF : ObF w P oA hs os) (hb : Below w.heap.size w w3)
    (hR : KH.R e w3 B ok (.slice An n cn) (hs ++ [⟨some ⟨g, 0, none⟩, m, m⟩])) (hg : w3.heap[g]? = some (.cells (madeCells #[.int .i64 0] m) t (0, 0))) (hgB : B ≤ g) (hm : m ≤ 1000000) :
    ObF w3 (fun k => (P k ∧ k < w.heap.size) ∨ B ≤ k) An (hs ++ [⟨some ⟨g, 0, none⟩, m, m⟩]) (os ++ [List.replicate m 0]) := by
  intro W' hW'
  have hO : Objs W' oA hs os := hF W' fun k hp hk => (hW' k (.inl ⟨hp, hk⟩) (Nat.lt_of_lt_of_le hk hb.size)).trans (hb.block k hk)
  have hgl : g < w3.heap.size := (Array.getElem?_eq_some_iff.1 hg).1
  have hn : n = (hs ++ [(⟨some ⟨g, 0, none⟩, m, m⟩ : Hd)]).length := (Kd.R_reads' hR).1
  subst hn
  have hown := Kd.own_of_R hR
  have h2 := own_move hown (w1 := W') fun k hk => hW' k (.inr (own_base hown k hk)) (own_lt hown k hk)
  refine ⟨(Kd.R_reads' (Kd.R_of_own (h1 := Hd.one) (ok := fun _ => True) h2 fun _ _ => trivial)).2.2, by simp [hO.len], fun j hj => ?_⟩
  rw [List.length_append, List.length_singleton] at hj
  rw [getD_app, getD_app, ← hO.len]
  by_cases e1 : j < hs.length
  · rw [if_pos e1, if_pos e1]
    exact hO.is j e1
  · rw [if_neg e1, if_neg e1, if_pos (by omega), if_pos (by omega)]
    refine ⟨by simp, Nat.le_refl _, Kd.C_of_reads (d := (0 : Int)) ⟨rfl, by simp; omega, fun hp => ⟨⟨g, 0, none⟩, rfl, fun i hi => ?_⟩⟩⟩
    have ha : (⟨g, 0, none⟩ : Addr).add i = ⟨g, i, none⟩ := by unfold Addr.add; split <;> simp_all
    rw [ha, cell_of_row W' g i _ t (0, 0) ((hW' g (.inr hgB) hgl).trans hg)]
    have hi' : i < m := by simpa using hi
    rw [getD_rep]
    simp [madeCells, hi', Nat.mod_one]
section
variable (w : World) (A : Option Addr) (c : Nat) (hs : List Hd) (os : List (List Int)) (o f : Nat) (v : Int)
set_option maxHeartbeats 1000000 in
set_option maxRecDepth 100000 in
theorem put_calls (P : Nat → Prop) (hF : ObF w P A hs os) (hc : hs.length ≤ c) (ho : o < hs.length) (hf : f < (os.getD o []).length) (hl1 : hs.length ≤ 1000000) (hl2 : (os.getD o []).length ≤ 1000000) :
    Calls Tryz.prog 46 #[.slice A hs.length c, .int .i64 ((o : Int) + 1), .int .i64 f, .int .i64 v] w fun e w' => ∃ A' c' hs', e = .returned (.slice A' hs'.length c') ∧ hs'.length ≤ c' ∧ ObF w' (fun k => P k ∨ w.heap.size ≤ k) A' hs' (os.set o ((os.getD o []).set f v)) ∧ Below w.heap.size w w' := by
  have hO := hF.now
  have HF := Aside0.mk hF
  clear hF
  have hH := Aside0.mk hO
  have HB := Aside0.mk (Below.refl w.heap.size w)
  have hm1 := hO.row.2.1
  obtain ⟨hd, ehd⟩ : ∃ hd, hd = hs.getD o default := ⟨_, rfl⟩
  have hI := Aside0.mk (show hd.Is w (os.getD o []) by rw [ehd]; exact hO.is o ho)
  have hcell : ∃ ad, A = some ad ∧ w.cell? (ad.add o) = some (.slice hd.A hd.n hd.c) := by
    obtain ⟨_, _, h3⟩ := Kd.reads_of_C (d := default) hO.row
    obtain ⟨ad, e, h4⟩ := h3 (by omega)
    exact ⟨ad, e, by rw [ehd]; exact h4 o ho⟩
  obtain ⟨ad, rfl, hcell⟩ := hcell
  have hcell' := Aside0.mk hcell
  clear hcell hO
  obtain ⟨xs, exs⟩ : ∃ xs, xs = os.getD o [] := ⟨_, rfl⟩
  rw [← exs] at hI hf hl2 ⊢
  have hn : hd.n = xs.length := hI.out.1
  obtain ⟨hA, hnn, hcc⟩ := hd
  obtain rfl : hnn = xs.length := hn
  have EX := Aside0.mk exs
  have ED := Aside0.mk ehd
  clear exs ehd
  have i0 : (0 : Int) ≤ o := by omega
  have i1 : (o : Int) < hs.length := by omega
  have f0 : (0 : Int) ≤ f := by omega
  have f1 : (f : Int) < xs.length := by omega
  go_enter Tryz.func46, Tryz.ntmps46
  go_wp2_with (first
    | (at_builtin; refine Kd.R_append_row (w0 := w) Hd.v default w.heap.size rfl (.tmp 11) (.tmp 12) 41 42 _ 24 rfl Tryz.underlying41 info_h rfl (by decide) (.slice (some ⟨w.heap.size, 0, none⟩) 0 0) [] hs (some ad) hs.length c (fun _ => True) rfl rfl (fun _ _ => trivial) (own_empty w _ _ _ rfl (Nat.le_refl _)) (Kd.C_alloc hH.out.row _) (below_alloc HB.out _) (by simp) (by simp; omega) ?_; intro v1 w1 hr1 hb1 hg1 _; obtain ⟨g1, c1, e1, hg1a, hg1b, _⟩ := Kd.R_form hr1 (by simp; omega); subst e1; have HR1 := Aside0.mk hr1; have HB1 := Aside0.mk hb1; have HG1 := Aside0.mk (And.intro hg1a hg1b); have hx1 : (w1.alloc (Obj.cells #[] 2)).cell? (ad.add o) = some (.slice hA xs.length hcc) := ((below_alloc HB1.out (Obj.cells #[] 2)).cell (World.block_lt_of_cell? w _ hcell'.out)).trans hcell'.out; clear hr1 hb1 hg1 hg1a hg1b)
    | (at_builtin; refine Kd.R_append_row (w0 := w1) (Value.int .i64) 0 w1.heap.size rfl (.tmp 14) (.tmp 19) 42 2 _ 8 rfl Tryz.underlying42 info_i rfl (by decide) (.slice (some ⟨w1.heap.size, 0, none⟩) 0 0) [] xs hA xs.length hcc (fun _ => True) rfl rfl (fun _ _ => trivial) (own_empty w1 _ _ _ rfl (Nat.le_refl _)) (Kd.C_below hI.out.2.2 (below_alloc HB1.out _)) (below_alloc (Below.refl _ _) _) (by simp) (by simp; omega) ?_; intro v2 w2 hr2 hb2 hg2 _; obtain ⟨g2, c2, e2, hg2a, hg2b, _⟩ := Kd.R_form hr2 (by simp; omega); subst e2; obtain ⟨y1, y2⟩ := Kd.R_cell 0 hr2 f f0 f1; obtain ⟨z1, z2⟩ := Kd.R_cell default (Kd.R_far (ok := fun k => k = g1) (Kd.R_tightg (Kd.R_below HR1.out hb2)) (p := ⟨g2, f, none⟩) (fun k hk => show k ≠ g2 by have := HG1.out.2; omega) (.int .i64 v)) o i0 i1; rw [Int.toNat_natCast] at y1 y2 z1 z2; have HR2 := Aside0.mk hr2; have HB2 := Aside0.mk hb2; have HG2 := Aside0.mk (And.intro hg2a hg2b); clear hr2 hb2 hg2 hg2a hg2b))
  go_ret
  refine ⟨some ⟨g1, 0, none⟩, c1, hs.set o ⟨some ⟨g2, 0, none⟩, xs.length, c2⟩, by rw [List.length_set]; rfl, ?_, ?_, ?_⟩
  · rw [List.length_set]
    exact (Kd.R_reads' HR1.out).2.1
  · have hb3 : Below w1.heap.size w1 (w2.setCell ⟨g2, f, none⟩ (.int .i64 v)) := below_set HB2.out HG2.out.1
    have hR3 : KH.R 42 (w2.setCell ⟨g2, f, none⟩ (.int .i64 v)) w.heap.size (fun k => k = g1) (.slice (some ⟨g1, 0, none⟩) hs.length c1) hs := Kd.R_far (Kd.R_tightg (Kd.R_below HR1.out HB2.out)) (fun k hk => show k ≠ g2 by have := HG1.out.2; have := HG2.out.1; omega) _
    have hR4 := Kd.R_put hR3 o ⟨some ⟨g2, 0, none⟩, xs.length, c2⟩
    have hr2' := Kd.R_put HR2.out f v
    have hI4 : KI.R 2 ((w2.setCell ⟨g2, f, none⟩ (.int .i64 v)).setCell ⟨g1, o, none⟩ (.slice (some ⟨g2, 0, none⟩) xs.length c2)) w1.heap.size (fun k => k = g2) (.slice (some ⟨g2, 0, none⟩) xs.length c2) (xs.set f v) :=
      Kd.R_far (Kd.R_tightg hr2'.1) (fun k hk => show k ≠ g1 by have := HG1.out.2; have := HG2.out.1; omega) _
    have hb4 : Below w.heap.size w ((w2.setCell ⟨g2, f, none⟩ (.int .i64 v)).setCell ⟨g1, o, none⟩ (.slice (some ⟨g2, 0, none⟩) xs.length c2)) := below_set (below_step HB1.out hb3) HG1.out.1
    have hsz : w2.heap.size ≤ ((w2.setCell ⟨g2, f, none⟩ (.int .i64 v)).setCell ⟨g1, o, none⟩ (.slice (some ⟨g2, 0, none⟩) xs.length c2)).heap.size := by simp [World.setCell]
    have q1 := HG1.out
    have q2 := HG2.out
    have q3 := HB1.out.size
    intro W' hW'
    have hO' : Objs W' (some ad) hs os := HF.out W' fun k hp hk => (hW' k (.inl hp) (Nat.lt_of_lt_of_le hk hb4.size)).trans (hb4.block k hk)
    refine ⟨?_, by rw [List.length_set, List.length_set]; exact hH.out.len, fun j hj => ?_⟩
    · exact own_other_world hR4.1 (hW' g1 (.inr q1.1) (by have := HB2.out.size; omega))
    · rw [List.length_set] at hj
      rw [put_get _ _ _ _ _ ho, put_get _ _ _ _ _ (by rw [← hH.out.len]; exact ho)]
      by_cases e : j = o
      · rw [if_pos e, if_pos e]
        exact ⟨by rw [List.length_set], (Kd.R_reads' HR2.out).2.1, own_other_world hI4 (hW' g2 (.inr (by omega)) (by omega))⟩
      · rw [if_neg e, if_neg e]
        exact hO'.is j hj
  · exact below_set (below_set (below_step HB1.out HB2.out) (Nat.le_trans (Nat.le_trans HG1.out.1 (Nat.le_of_lt HG1.out.2)) HG2.out.1)) HG1.out.1
end
end Go.Proofs.YtocechpmgfhenaaGreatDoor.ST

namespace Go.Proofs.YtocechpmgfhenaaGreatDoor.ST
open Go.RowKit Go.Proofs.YtocechpmgfhenaaGreatDoorW.PrintWords Go.Proofs.YtocechpmgfhenaaGreatDoor.ST0
set_option linter.unusedVariables false
set_option linter.unusedSimpArgs false
section
variable (w : World) (n : Nat → Int) (oA tA : Option Addr) (ol oc tl tc : Nat) (pc st : Int) (a b c : Nat) (o N : Int)
set_option maxHeartbeats 1000000 in
set_option maxRecDepth 100000 in
theorem num_set (ha : (a : Int) < 8) :
    Calls Tryz.prog 27 #[.agg #[.int .i64 (n 0), .int .i64 (n 1), .int .i64 (n 2), .int .i64 (n 3), .int .i64 (n 4), .int .i64 (n 5), .int .i64 (n 6), .int .i64 (n 7), .int .i64 (n 8), .int .i64 (n 9), .int .i64 (n 10), .int .i64 (n 11), .int .i64 (n 12), .int .i64 (n 13), .int .i64 (n 14), .int .i64 (n 15), .int .i64 (n 16), .int .i64 (n 17), .int .i64 (n 18), .int .i64 (n 19), .slice oA ol oc, .slice tA tl tc, .int .i64 pc, .int .i64 st], .agg #[.int .u8 1, .int .u8 a, .int .u8 b, .int .u8 c, .int .i64 N]] w fun e w' => e = .returned (.tuple #[.agg #[.int .i64 (upd n a (N) 0), .int .i64 (upd n a (N) 1), .int .i64 (upd n a (N) 2), .int .i64 (upd n a (N) 3), .int .i64 (upd n a (N) 4), .int .i64 (upd n a (N) 5), .int .i64 (upd n a (N) 6), .int .i64 (upd n a (N) 7), .int .i64 (n 8), .int .i64 (n 9), .int .i64 (n 10), .int .i64 (n 11), .int .i64 (n 12), .int .i64 (n 13), .int .i64 (n 14), .int .i64 (n 15), .int .i64 (n 16), .int .i64 (n 17), .int .i64 (n 18), .int .i64 (n 19), .slice oA ol oc, .slice tA tl tc, .int .i64 pc, .int .i64 st], .bool true]) ∧ Below w.heap.size w w' := by
  have ra := row8 n 0 a (by omega)
  simp only [Nat.zero_add, Nat.reduceAdd] at ra
  have s8 := set8 n 0 a (by omega) (N)
  simp only [Nat.zero_add, Nat.reduceAdd] at s8
  have a0 : (0 : Int) ≤ a := by omega
  go_enter Tryz.func27, Tryz.ntmps27
  go_wp2_with (first
    | (apply ldS; (with_reducible rfl); rfl; rfl; exact rowT; rfl)
    | (apply srS; (with_reducible rfl); rfl; rfl; rfl; exact rowT; rfl; rfl; rfl; exact setT))
  refine ret2S rfl rfl rfl rfl rowT rfl ⟨rfl, ?_⟩
  repeat (first | exact Below.refl _ _ | refine below_alloc ?_ _ | refine below_drew1 ?_ | refine pw_below_drewN ?_ _)
set_option maxHeartbeats 1000000 in
set_option maxRecDepth 100000 in
theorem num_add (ha : (a : Int) < 8) (hb : (b : Int) < 8) (hc : (c : Int) < 8) :
    Calls Tryz.prog 27 #[.agg #[.int .i64 (n 0), .int .i64 (n 1), .int .i64 (n 2), .int .i64 (n 3), .int .i64 (n 4), .int .i64 (n 5), .int .i64 (n 6), .int .i64 (n 7), .int .i64 (n 8), .int .i64 (n 9), .int .i64 (n 10), .int .i64 (n 11), .int .i64 (n 12), .int .i64 (n 13), .int .i64 (n 14), .int .i64 (n 15), .int .i64 (n 16), .int .i64 (n 17), .int .i64 (n 18), .int .i64 (n 19), .slice oA ol oc, .slice tA tl tc, .int .i64 pc, .int .i64 st], .agg #[.int .u8 2, .int .u8 a, .int .u8 b, .int .u8 c, .int .i64 N]] w fun e w' => e = .returned (.tuple #[.agg #[.int .i64 (upd n a (wrap64 (n b + n c)) 0), .int .i64 (upd n a (wrap64 (n b + n c)) 1), .int .i64 (upd n a (wrap64 (n b + n c)) 2), .int .i64 (upd n a (wrap64 (n b + n c)) 3), .int .i64 (upd n a (wrap64 (n b + n c)) 4), .int .i64 (upd n a (wrap64 (n b + n c)) 5), .int .i64 (upd n a (wrap64 (n b + n c)) 6), .int .i64 (upd n a (wrap64 (n b + n c)) 7), .int .i64 (n 8), .int .i64 (n 9), .int .i64 (n 10), .int .i64 (n 11), .int .i64 (n 12), .int .i64 (n 13), .int .i64 (n 14), .int .i64 (n 15), .int .i64 (n 16), .int .i64 (n 17), .int .i64 (n 18), .int .i64 (n 19), .slice oA ol oc, .slice tA tl tc, .int .i64 pc, .int .i64 st], .bool true]) ∧ Below w.heap.size w w' := by
  have ra := row8 n 0 a (by omega)
  simp only [Nat.zero_add, Nat.reduceAdd] at ra
  have rb := row8 n 0 b (by omega)
  simp only [Nat.zero_add, Nat.reduceAdd] at rb
  have rc := row8 n 0 c (by omega)
  simp only [Nat.zero_add, Nat.reduceAdd] at rc
  have s8 := set8 n 0 a (by omega) (wrap64 (n b + n c))
  simp only [Nat.zero_add, Nat.reduceAdd] at s8
  have a0 : (0 : Int) ≤ a := by omega
  have b0 : (0 : Int) ≤ b := by omega
  have c0 : (0 : Int) ≤ c := by omega
  go_enter Tryz.func27, Tryz.ntmps27
  go_upto_region 7 with (fail)
  go_region
  go_wp2_with (first
    | (apply ldS; (with_reducible rfl); rfl; rfl; exact rowT; rfl)
    | (apply srS; (with_reducible rfl); rfl; rfl; rfl; exact rowT; rfl; rfl; rfl; exact setT))
  refine ret2S rfl rfl rfl rfl rowT rfl ⟨rfl, ?_⟩
  repeat (first | exact Below.refl _ _ | refine below_alloc ?_ _ | refine below_drew1 ?_ | refine pw_below_drewN ?_ _)
set_option maxHeartbeats 1000000 in
set_option maxRecDepth 100000 in
theorem num_same_eq (ha : (a : Int) < 8) (hb : (b : Int) < 8) (hc : (c : Int) < 8) (hh : n (8 + b) = n (8 + c)) :
    Calls Tryz.prog 27 #[.agg #[.int .i64 (n 0), .int .i64 (n 1), .int .i64 (n 2), .int .i64 (n 3), .int .i64 (n 4), .int .i64 (n 5), .int .i64 (n 6), .int .i64 (n 7), .int .i64 (n 8), .int .i64 (n 9), .int .i64 (n 10), .int .i64 (n 11), .int .i64 (n 12), .int .i64 (n 13), .int .i64 (n 14), .int .i64 (n 15), .int .i64 (n 16), .int .i64 (n 17), .int .i64 (n 18), .int .i64 (n 19), .slice oA ol oc, .slice tA tl tc, .int .i64 pc, .int .i64 st], .agg #[.int .u8 15, .int .u8 a, .int .u8 b, .int .u8 c, .int .i64 N]] w fun e w' => e = .returned (.tuple #[.agg #[.int .i64 (upd n a (1) 0), .int .i64 (upd n a (1) 1), .int .i64 (upd n a (1) 2), .int .i64 (upd n a (1) 3), .int .i64 (upd n a (1) 4), .int .i64 (upd n a (1) 5), .int .i64 (upd n a (1) 6), .int .i64 (upd n a (1) 7), .int .i64 (n 8), .int .i64 (n 9), .int .i64 (n 10), .int .i64 (n 11), .int .i64 (n 12), .int .i64 (n 13), .int .i64 (n 14), .int .i64 (n 15), .int .i64 (n 16), .int .i64 (n 17), .int .i64 (n 18), .int .i64 (n 19), .slice oA ol oc, .slice tA tl tc, .int .i64 pc, .int .i64 st], .bool true]) ∧ Below w.heap.size w w' := by
  have ra := row8 n 0 a (by omega)
  simp only [Nat.zero_add, Nat.reduceAdd] at ra
  have rb := rowS n (.slice oA ol oc) (.slice tA tl tc) (.int .i64 pc) (.int .i64 st) (8 + b) (by omega)
  have rc := rowS n (.slice oA ol oc) (.slice tA tl tc) (.int .i64 pc) (.int .i64 st) (8 + c) (by omega)
  have s8 := set8 n 0 a (by omega) (0)
  simp only [Nat.zero_add, Nat.reduceAdd] at s8
  have s9 := set8 (upd n a 0) 0 a (by omega) 1
  simp only [Nat.zero_add, upd_upd] at s9
  have ra2 := row8 (upd n a 0) 0 a (by omega)
  simp only [Nat.zero_add] at ra2
  have a0 : (0 : Int) ≤ a := by omega
  have b0 : (0 : Int) ≤ b := by omega
  have c0 : (0 : Int) ≤ c := by omega
  have hd : (n (8 + b) == n (8 + c)) = true := by simpa using hh
  clear hh
  go_enter Tryz.func27, Tryz.ntmps27
  go_upto_region 10 with (fail)
  go_region
  go_wp2_with (first
    | (apply ldS; (with_reducible rfl); rfl; rfl; exact rowT; rfl)
    | (apply srS; (with_reducible rfl); rfl; rfl; rfl; exact rowT; rfl; rfl; rfl; exact setT))
  refine ret2S rfl rfl rfl rfl rowT rfl ⟨rfl, ?_⟩
  repeat (first | exact Below.refl _ _ | refine below_alloc ?_ _ | refine below_drew1 ?_ | refine pw_below_drewN ?_ _)
set_option maxHeartbeats 1000000 in
set_option maxRecDepth 100000 in
theorem num_same_ne (ha : (a : Int) < 8) (hb : (b : Int) < 8) (hc : (c : Int) < 8) (hh : ¬ n (8 + b) = n (8 + c)) :
    Calls Tryz.prog 27 #[.agg #[.int .i64 (n 0), .int .i64 (n 1), .int .i64 (n 2), .int .i64 (n 3), .int .i64 (n 4), .int .i64 (n 5), .int .i64 (n 6), .int .i64 (n 7), .int .i64 (n 8), .int .i64 (n 9), .int .i64 (n 10), .int .i64 (n 11), .int .i64 (n 12), .int .i64 (n 13), .int .i64 (n 14), .int .i64 (n 15), .int .i64 (n 16), .int .i64 (n 17), .int .i64 (n 18), .int .i64 (n 19), .slice oA ol oc, .slice tA tl tc, .int .i64 pc, .int .i64 st], .agg #[.int .u8 15, .int .u8 a, .int .u8 b, .int .u8 c, .int .i64 N]] w fun e w' => e = .returned (.tuple #[.agg #[.int .i64 (upd n a (0) 0), .int .i64 (upd n a (0) 1), .int .i64 (upd n a (0) 2), .int .i64 (upd n a (0) 3), .int .i64 (upd n a (0) 4), .int .i64 (upd n a (0) 5), .int .i64 (upd n a (0) 6), .int .i64 (upd n a (0) 7), .int .i64 (n 8), .int .i64 (n 9), .int .i64 (n 10), .int .i64 (n 11), .int .i64 (n 12), .int .i64 (n 13), .int .i64 (n 14), .int .i64 (n 15), .int .i64 (n 16), .int .i64 (n 17), .int .i64 (n 18), .int .i64 (n 19), .slice oA ol oc, .slice tA tl tc, .int .i64 pc, .int .i64 st], .bool true]) ∧ Below w.heap.size w w' := by
  have ra := row8 n 0 a (by omega)
  simp only [Nat.zero_add, Nat.reduceAdd] at ra
  have rb := rowS n (.slice oA ol oc) (.slice tA tl tc) (.int .i64 pc) (.int .i64 st) (8 + b) (by omega)
  have rc := rowS n (.slice oA ol oc) (.slice tA tl tc) (.int .i64 pc) (.int .i64 st) (8 + c) (by omega)
  have s8 := set8 n 0 a (by omega) (0)
  simp only [Nat.zero_add, Nat.reduceAdd] at s8
  have a0 : (0 : Int) ≤ a := by omega
  have b0 : (0 : Int) ≤ b := by omega
  have c0 : (0 : Int) ≤ c := by omega
  have hd : (n (8 + b) == n (8 + c)) = false := by simpa using hh
  clear hh
  go_enter Tryz.func27, Tryz.ntmps27
  go_upto_region 10 with (fail)
  go_region
  go_wp2_with (first
    | (apply ldS; (with_reducible rfl); rfl; rfl; exact rowT; rfl)
    | (apply srS; (with_reducible rfl); rfl; rfl; rfl; exact rowT; rfl; rfl; rfl; exact setT))
  refine ret2S rfl rfl rfl rfl rowT rfl ⟨rfl, ?_⟩
  repeat (first | exact Below.refl _ _ | refine below_alloc ?_ _ | refine below_drew1 ?_ | refine pw_below_drewN ?_ _)
set_option maxHeartbeats 1000000 in
set_option maxRecDepth 100000 in
theorem num_other (h1 : ¬ o = 1) (h2 : ¬ o = 2) (h14 : ¬ o = 14) (h15 : ¬ o = 15) :
    Calls Tryz.prog 27 #[.agg #[.int .i64 (n 0), .int .i64 (n 1), .int .i64 (n 2), .int .i64 (n 3), .int .i64 (n 4), .int .i64 (n 5), .int .i64 (n 6), .int .i64 (n 7), .int .i64 (n 8), .int .i64 (n 9), .int .i64 (n 10), .int .i64 (n 11), .int .i64 (n 12), .int .i64 (n 13), .int .i64 (n 14), .int .i64 (n 15), .int .i64 (n 16), .int .i64 (n 17), .int .i64 (n 18), .int .i64 (n 19), .slice oA ol oc, .slice tA tl tc, .int .i64 pc, .int .i64 st], .agg #[.int .u8 o, .int .u8 a, .int .u8 b, .int .u8 c, .int .i64 N]] w fun e w' => e = .returned (.tuple #[.agg #[.int .i64 (n 0), .int .i64 (n 1), .int .i64 (n 2), .int .i64 (n 3), .int .i64 (n 4), .int .i64 (n 5), .int .i64 (n 6), .int .i64 (n 7), .int .i64 (n 8), .int .i64 (n 9), .int .i64 (n 10), .int .i64 (n 11), .int .i64 (n 12), .int .i64 (n 13), .int .i64 (n 14), .int .i64 (n 15), .int .i64 (n 16), .int .i64 (n 17), .int .i64 (n 18), .int .i64 (n 19), .slice oA ol oc, .slice tA tl tc, .int .i64 pc, .int .i64 st], .bool false]) ∧ Below w.heap.size w w' := by
  go_enter Tryz.func27, Tryz.ntmps27
  go_wp2_with (first
    | (apply ldS; (with_reducible rfl); rfl; rfl; exact rowT; rfl)
    | (apply srS; (with_reducible rfl); rfl; rfl; rfl; exact rowT; rfl; rfl; rfl; exact setT))
  refine ret2S rfl rfl rfl rfl rowT rfl ⟨rfl, ?_⟩
  repeat (first | exact Below.refl _ _ | refine below_alloc ?_ _ | refine below_drew1 ?_ | refine pw_below_drewN ?_ _)
set_option maxHeartbeats 1000000 in
set_option maxRecDepth 100000 in
theorem num_print (out : List Int) (etl : tl = out.length) (htc : out.length ≤ tc) (hT : KI.C w tA out.length out) (hl : out.length ≤ 1000000) (ha : (a : Int) < 8) :
    Calls Tryz.prog 27 #[.agg #[.int .i64 (n 0), .int .i64 (n 1), .int .i64 (n 2), .int .i64 (n 3), .int .i64 (n 4), .int .i64 (n 5), .int .i64 (n 6), .int .i64 (n 7), .int .i64 (n 8), .int .i64 (n 9), .int .i64 (n 10), .int .i64 (n 11), .int .i64 (n 12), .int .i64 (n 13), .int .i64 (n 14), .int .i64 (n 15), .int .i64 (n 16), .int .i64 (n 17), .int .i64 (n 18), .int .i64 (n 19), .slice oA ol oc, .slice tA tl tc, .int .i64 pc, .int .i64 st], .agg #[.int .u8 14, .int .u8 a, .int .u8 b, .int .u8 c, .int .i64 N]] w fun e w' => ∃ A' c', e = .returned (.tuple #[.agg #[.int .i64 (n 0), .int .i64 (n 1), .int .i64 (n 2), .int .i64 (n 3), .int .i64 (n 4), .int .i64 (n 5), .int .i64 (n 6), .int .i64 (n 7), .int .i64 (n 8), .int .i64 (n 9), .int .i64 (n 10), .int .i64 (n 11), .int .i64 (n 12), .int .i64 (n 13), .int .i64 (n 14), .int .i64 (n 15), .int .i64 (n 16), .int .i64 (n 17), .int .i64 (n 18), .int .i64 (n 19), .slice oA ol oc, .slice A' (out.length + 1) c', .int .i64 pc, .int .i64 st], .bool true]) ∧ out.length + 1 ≤ c' ∧ OutF w' (fun k => w.heap.size ≤ k) A' (out ++ [n a]) ∧ Below w.heap.size w w' := by
  subst etl
  have HT := Aside0.mk hT
  clear hT
  have ra := row8 n 0 a (by omega)
  simp only [Nat.zero_add] at ra
  have a0 : (0 : Int) ≤ a := by omega
  go_enter Tryz.func27, Tryz.ntmps27
  go_upto_region 16 with (first
    | (apply ldS; (with_reducible rfl); rfl; rfl; exact rowT; rfl)
    | (apply srS; (with_reducible rfl); rfl; rfl; rfl; exact rowT; rfl; rfl; rfl; exact setT)
    | (at_builtin; refine Kd.R_append_row (w0 := _) (Value.int .i64) 0 (w.heap.size + 1 + 1 + 1 + 1) rfl (.tmp 55) (.tmp 57) 42 2 _ 8 rfl Tryz.underlying42 info_i rfl (by decide) (.slice (some ⟨w.heap.size + 1 + 1 + 1 + 1, 0, none⟩) 0 0) [] out tA out.length tc (fun _ => True) rfl rfl (fun _ _ => trivial) (own_empty _ _ _ _ (by simp) (by simp)) (Kd.C_below HT.out (by repeat (first | exact Below.refl _ _ | refine below_alloc ?_ _))) (Below.alloc (Below.refl _ _) (by simp) _) (by simp) (by simp; omega) ?_; intro v1 w1 hr1 hb1 hg1 _; obtain ⟨hc1, hf1⟩ := bcell hb1; have hz1 : w.heap.size + 1 + 1 + 1 + 1 ≤ w1.heap.size := Nat.le_trans (by simp) hb1.size; have HR1 := Aside0.mk hr1; clear hr1 hg1)
    | (at_builtin; refine print_append_num (w0 := w1) (w.heap.size + 1 + 1 + 1 + 1) rfl (.tmp 59) (.tmp 64) 42 2 .i64 8 rfl Tryz.underlying42 info_i (by decide) v1 ([] ++ out) (n a) rfl rfl (Kd.own_of_R HR1.out) (Below.refl _ _) hz1 (by simp; omega) ?_; intro v2 w2 hr2 hb2 hg2 _; obtain ⟨hc2, hf2⟩ := bcell hb2; have b0 := (hb2.block w.heap.size (by omega)).trans ((hb1.block w.heap.size (by omega)).trans (rowT (p := _ = some (.cells _ 44 (0, 0))))); have b2 := (hb2.block (w.heap.size + 1 + 1) (by omega)).trans ((hb1.block (w.heap.size + 1 + 1) (by omega)).trans (rowT (p := _ = some (.cells _ 44 (0, 0))))); obtain ⟨A2, c2, e2, hc2'⟩ := own_reads hr2; subst e2; have HR2 := Aside0.mk hr2; have HB2 := Aside0.mk hb2; clear hr2 hg2))
  have HC2 := Aside0.mk hc2'
  have LC2 := Aside0.mk (ST0.own_le HR2.out)
  generalize hW : World.setCell _ _ _ = W
  have r0 : W.heap[w.heap.size]? = some (.cells #[.int .i64 (n 0), .int .i64 (n 1), .int .i64 (n 2), .int .i64 (n 3), .int .i64 (n 4), .int .i64 (n 5), .int .i64 (n 6), .int .i64 (n 7), .int .i64 (n 8), .int .i64 (n 9), .int .i64 (n 10), .int .i64 (n 11), .int .i64 (n 12), .int .i64 (n 13), .int .i64 (n 14), .int .i64 (n 15), .int .i64 (n 16), .int .i64 (n 17), .int .i64 (n 18), .int .i64 (n 19), .slice oA ol oc, .slice A2 (out.length + 1) c2, .int .i64 pc, .int .i64 st] 44 (0, 0)) := by
    rw [← hW]
    refine Eq.trans (rowT (p := _ = some (.cells _ 44 (0, 0)))) ?_
    simp
  have r2 : W.heap[w.heap.size + 1 + 1]? = some (.cells #[.int .i64 0, .int .i64 0, .int .i64 0, .int .i64 0, .int .i64 0, .int .i64 0, .int .i64 0, .int .i64 0, .int .i64 0, .int .i64 0, .int .i64 0, .int .i64 0, .int .i64 0, .int .i64 0, .int .i64 0, .int .i64 0, .int .i64 0, .int .i64 0, .int .i64 0, .int .i64 0, .slice none 0 0, .slice none 0 0, .int .i64 0, .int .i64 0] 44 (0, 0)) := by
    rw [← hW]
    exact rowT
  have hRW : W.ownsRow (w.heap.size + 1 + 1 + 1 + 1) 2 1 (.slice A2 ([] ++ out ++ [n a]).length c2) ([] ++ out ++ [n a]).length (nums .i64 ([] ++ out ++ [n a])) := by
    have hne : (Value.slice A2 ([] ++ out ++ [n a]).length c2).ownBlock ≠ some w.heap.size := fun e => by
      have := own_base HR2.out _ e
      omega
    rw [← hW]
    repeat (first | (with_reducible refine ownsRow_setCell_other ?_ hne _) | exact HR2.out)
  have hBW : Below w.heap.size w W := by
    rw [← hW]
    repeat (first | (with_reducible refine below_set ?_ (Nat.le_refl _)) | exact ((Below.refl w.heap.size w).alloc (Nat.le_refl _) _ |>.alloc (by simp) _ |>.alloc (by simp; omega) _ |>.alloc (by simp; omega) _).trans ((hb1.mono (by omega)).trans (hb2.mono (by omega))))
  have HBW := Aside0.mk hBW
  have HRW := Aside0.mk hRW
  clear hW hBW b0 b2 hb1 hc1 hf1 hb2 hc2 hf2 hc2' hRW
  go_wp2_with (first
    | (apply ldS; (with_reducible rfl); rfl; rfl; exact rowT; rfl)
    | (apply srS; (with_reducible rfl); rfl; rfl; rfl; exact rowT; rfl; rfl; rfl; rfl))
  have H3 : ∀ cs, OutF (W.setRow (w.heap.size + 1 + 1) cs) (fun k => w.heap.size ≤ k) A2 (out ++ [n a]) := fun cs W' hW' => by
    have hne : (Value.slice A2 ([] ++ out ++ [n a]).length c2).ownBlock ≠ some (w.heap.size + 1 + 1) := fun e => by
      have := own_base HRW.out _ e
      omega
    have h1 := Kd.R_of_own (h1 := fun _ => rfl) (ok := fun _ => True) (own_move HRW.out (w1 := W') fun k hk => (hW' k (by have := own_base HRW.out k hk; omega) (by have := own_lt HRW.out k hk; simpa using this)).trans (setRow_other W (w.heap.size + 1 + 1) k cs (fun e => hne (by rw [← e]; exact hk)))) fun _ _ => trivial
    exact (Kd.R_reads' h1).2.2
  refine ret2S rfl rfl rfl rfl (setRow_heap _ _ _ _ _ _ r2) rfl ⟨A2, c2, rfl, ?_, H3 _, below_row HBW.out (by omega)⟩
  have := ST0.own_le HRW.out
  simpa using this
end
end Go.Proofs.YtocechpmgfhenaaGreatDoor.ST

namespace Go.Proofs.YtocechpmgfhenaaGreatDoor.ST
open Go.RowKit Go.Proofs.YtocechpmgfhenaaGreatDoorW.PrintWords Go.Proofs.YtocechpmgfhenaaGreatDoor.ST0
set_option linter.unusedVariables false
set_option linter.unusedSimpArgs false
section
variable (w : World) (n : Nat → Int) (oA tA : Option Addr) (ol oc tl tc : Nat) (pc st : Int) (a b c : Nat) (N : Int)
set_option maxHeartbeats 1000000 in
set_option maxRecDepth 100000 in
theorem mem_loadI (hs : List Hd) (os : List (List Int)) (eol : ol = hs.length) (hO : Objs w oA hs os) (o f : Nat) (ho : o < hs.length) (hf : f < (os.getD o []).length) (hp : n (8 + b) = (o : Int) + 1) (ha : (a : Int) < 8) (hb : (b : Int) < 8) :
    Calls Tryz.prog 29 #[.agg #[.int .i64 (n 0), .int .i64 (n 1), .int .i64 (n 2), .int .i64 (n 3), .int .i64 (n 4), .int .i64 (n 5), .int .i64 (n 6), .int .i64 (n 7), .int .i64 (n 8), .int .i64 (n 9), .int .i64 (n 10), .int .i64 (n 11), .int .i64 (n 12), .int .i64 (n 13), .int .i64 (n 14), .int .i64 (n 15), .int .i64 (n 16), .int .i64 (n 17), .int .i64 (n 18), .int .i64 (n 19), .slice oA ol oc, .slice tA tl tc, .int .i64 pc, .int .i64 st], .agg #[.int .u8 8, .int .u8 a, .int .u8 b, .int .u8 c, .int .i64 (f : Int)]] w fun e w' => e = .returned (.tuple #[.agg #[.int .i64 (upd n a ((os.getD o []).getD f 0) 0), .int .i64 (upd n a ((os.getD o []).getD f 0) 1), .int .i64 (upd n a ((os.getD o []).getD f 0) 2), .int .i64 (upd n a ((os.getD o []).getD f 0) 3), .int .i64 (upd n a ((os.getD o []).getD f 0) 4), .int .i64 (upd n a ((os.getD o []).getD f 0) 5), .int .i64 (upd n a ((os.getD o []).getD f 0) 6), .int .i64 (upd n a ((os.getD o []).getD f 0) 7), .int .i64 (n 8), .int .i64 (n 9), .int .i64 (n 10), .int .i64 (n 11), .int .i64 (n 12), .int .i64 (n 13), .int .i64 (n 14), .int .i64 (n 15), .int .i64 (n 16), .int .i64 (n 17), .int .i64 (n 18), .int .i64 (n 19), .slice oA ol oc, .slice tA tl tc, .int .i64 pc, .int .i64 st], .int .i64 0]) ∧ Below w.heap.size w w' := by
  subst eol
  obtain ⟨ad, had, eA, eH, h1, h2⟩ := hO.reads ho hf
  subst eA
  have hm1 := hO.row.2.1
  have hm2 := (hO.is o ho).2.2.2.1
  have hw1 : wrap64 (o : Int) = o := by unfold wrap64; omega
  have hx1 : ∀ p q r s : Obj, ((((w.alloc p).alloc q).alloc r).alloc s).cell? (ad.add o) = some (.slice (some had) (os.getD o []).length (hs.getD o default).c) := fun p q r s => cell_more h1 p q r s
  have hx2 : ∀ p q r s : Obj, ((((w.alloc p).alloc q).alloc r).alloc s).cell? (had.add f) = some (.int .i64 ((os.getD o []).getD f 0)) := fun p q r s => cell_more h2 p q r s
  obtain ⟨v, ev⟩ : ∃ v, v = (os.getD o []).getD f 0 := ⟨_, rfl⟩
  obtain ⟨m, em⟩ : ∃ m, m = (os.getD o []).length := ⟨_, rfl⟩
  rw [← ev] at hx2 ⊢
  rw [← em] at hf hx1
  have i0 : (0 : Int) ≤ o := by omega
  have i1 : (o : Int) < hs.length := by omega
  have f0 : (0 : Int) ≤ f := by omega
  have f1 : (f : Int) < m := by omega
  have hne : (((o : Int) + 1) == 0) = false := by
    rw [beq_eq_false_iff_ne]
    omega
  clear h1 h2 ev em eH hO
  have rb := rowS n (.slice (some ad) hs.length oc) (.slice tA tl tc) (.int .i64 pc) (.int .i64 st) (8 + b) (by omega)
  rw [hp] at rb
  clear hp
  have ra := row8 n 0 a (by omega)
  simp only [Nat.zero_add, Nat.reduceAdd] at ra
  have s8 := set8 n 0 a (by omega) (v)
  simp only [Nat.zero_add, Nat.reduceAdd] at s8
  have a0 : (0 : Int) ≤ a := by omega
  have b0 : (0 : Int) ≤ b := by omega
  go_enter Tryz.func29, Tryz.ntmps29
  go_upto_region 11 with (fail)
  go_region
  go_wp2_with (first
    | (apply ldS; (with_reducible rfl); rfl; rfl; exact rowT; rfl)
    | (apply srS; (with_reducible rfl); rfl; rfl; rfl; exact rowT; rfl; rfl; rfl; exact setT))
  refine ret2S rfl rfl rfl rfl rowT rfl ⟨rfl, ?_⟩
  repeat (first | exact Below.refl _ _ | refine below_alloc ?_ _ | refine below_drew1 ?_ | refine pw_below_drewN ?_ _)
set_option maxHeartbeats 1000000 in
set_option maxRecDepth 100000 in
theorem mem_loadP (hs : List Hd) (os : List (List Int)) (eol : ol = hs.length) (hO : Objs w oA hs os) (o f : Nat) (ho : o < hs.length) (hf : f < (os.getD o []).length) (hp : n (8 + b) = (o : Int) + 1) (ha : (a : Int) < 8) (hb : (b : Int) < 8) :
    Calls Tryz.prog 29 #[.agg #[.int .i64 (n 0), .int .i64 (n 1), .int .i64 (n 2), .int .i64 (n 3), .int .i64 (n 4), .int .i64 (n 5), .int .i64 (n 6), .int .i64 (n 7), .int .i64 (n 8), .int .i64 (n 9), .int .i64 (n 10), .int .i64 (n 11), .int .i64 (n 12), .int .i64 (n 13), .int .i64 (n 14), .int .i64 (n 15), .int .i64 (n 16), .int .i64 (n 17), .int .i64 (n 18), .int .i64 (n 19), .slice oA ol oc, .slice tA tl tc, .int .i64 pc, .int .i64 st], .agg #[.int .u8 10, .int .u8 a, .int .u8 b, .int .u8 c, .int .i64 (f : Int)]] w fun e w' => e = .returned (.tuple #[.agg #[.int .i64 (n 0), .int .i64 (n 1), .int .i64 (n 2), .int .i64 (n 3), .int .i64 (n 4), .int .i64 (n 5), .int .i64 (n 6), .int .i64 (n 7), .int .i64 (upd n (8 + a) ((os.getD o []).getD f 0) 8), .int .i64 (upd n (8 + a) ((os.getD o []).getD f 0) 9), .int .i64 (upd n (8 + a) ((os.getD o []).getD f 0) 10), .int .i64 (upd n (8 + a) ((os.getD o []).getD f 0) 11), .int .i64 (upd n (8 + a) ((os.getD o []).getD f 0) 12), .int .i64 (upd n (8 + a) ((os.getD o []).getD f 0) 13), .int .i64 (upd n (8 + a) ((os.getD o []).getD f 0) 14), .int .i64 (upd n (8 + a) ((os.getD o []).getD f 0) 15), .int .i64 (n 16), .int .i64 (n 17), .int .i64 (n 18), .int .i64 (n 19), .slice oA ol oc, .slice tA tl tc, .int .i64 pc, .int .i64 st], .int .i64 0]) ∧ Below w.heap.size w w' := by
  subst eol
  obtain ⟨ad, had, eA, eH, h1, h2⟩ := hO.reads ho hf
  subst eA
  have hm1 := hO.row.2.1
  have hm2 := (hO.is o ho).2.2.2.1
  have hw1 : wrap64 (o : Int) = o := by unfold wrap64; omega
  have hx1 : ∀ p q r s : Obj, ((((w.alloc p).alloc q).alloc r).alloc s).cell? (ad.add o) = some (.slice (some had) (os.getD o []).length (hs.getD o default).c) := fun p q r s => cell_more h1 p q r s
  have hx2 : ∀ p q r s : Obj, ((((w.alloc p).alloc q).alloc r).alloc s).cell? (had.add f) = some (.int .i64 ((os.getD o []).getD f 0)) := fun p q r s => cell_more h2 p q r s
  obtain ⟨v, ev⟩ : ∃ v, v = (os.getD o []).getD f 0 := ⟨_, rfl⟩
  obtain ⟨m, em⟩ : ∃ m, m = (os.getD o []).length := ⟨_, rfl⟩
  rw [← ev] at hx2 ⊢
  rw [← em] at hf hx1
  have i0 : (0 : Int) ≤ o := by omega
  have i1 : (o : Int) < hs.length := by omega
  have f0 : (0 : Int) ≤ f := by omega
  have f1 : (f : Int) < m := by omega
  have hne : (((o : Int) + 1) == 0) = false := by
    rw [beq_eq_false_iff_ne]
    omega
  clear h1 h2 ev em eH hO
  have rb := rowS n (.slice (some ad) hs.length oc) (.slice tA tl tc) (.int .i64 pc) (.int .i64 st) (8 + b) (by omega)
  rw [hp] at rb
  clear hp
  have ra := row8 n 8 a (by omega)
  simp only [Nat.zero_add, Nat.reduceAdd] at ra
  have s8 := set8 n 8 a (by omega) (v)
  simp only [Nat.zero_add, Nat.reduceAdd] at s8
  have a0 : (0 : Int) ≤ a := by omega
  have b0 : (0 : Int) ≤ b := by omega
  go_enter Tryz.func29, Tryz.ntmps29
  go_upto_region 15 with (fail)
  go_region
  go_wp2_with (first
    | (apply ldS; (with_reducible rfl); rfl; rfl; exact rowT; rfl)
    | (apply srS; (with_reducible rfl); rfl; rfl; rfl; exact rowT; rfl; rfl; rfl; exact setT))
  refine ret2S rfl rfl rfl rfl rowT rfl ⟨rfl, ?_⟩
  repeat (first | exact Below.refl _ _ | refine below_alloc ?_ _ | refine below_drew1 ?_ | refine pw_below_drewN ?_ _)
set_option maxHeartbeats 1000000 in
set_option maxRecDepth 100000 in
theorem mem_none8 (hb : (b : Int) < 8) (hp : n (8 + b) = 0) :
    Calls Tryz.prog 29 #[.agg #[.int .i64 (n 0), .int .i64 (n 1), .int .i64 (n 2), .int .i64 (n 3), .int .i64 (n 4), .int .i64 (n 5), .int .i64 (n 6), .int .i64 (n 7), .int .i64 (n 8), .int .i64 (n 9), .int .i64 (n 10), .int .i64 (n 11), .int .i64 (n 12), .int .i64 (n 13), .int .i64 (n 14), .int .i64 (n 15), .int .i64 (n 16), .int .i64 (n 17), .int .i64 (n 18), .int .i64 (n 19), .slice oA ol oc, .slice tA tl tc, .int .i64 pc, .int .i64 st], .agg #[.int .u8 8, .int .u8 a, .int .u8 b, .int .u8 c, .int .i64 N]] w fun e w' => e = .returned (.tuple #[.agg #[.int .i64 (n 0), .int .i64 (n 1), .int .i64 (n 2), .int .i64 (n 3), .int .i64 (n 4), .int .i64 (n 5), .int .i64 (n 6), .int .i64 (n 7), .int .i64 (n 8), .int .i64 (n 9), .int .i64 (n 10), .int .i64 (n 11), .int .i64 (n 12), .int .i64 (n 13), .int .i64 (n 14), .int .i64 (n 15), .int .i64 (n 16), .int .i64 (n 17), .int .i64 (n 18), .int .i64 (n 19), .slice oA ol oc, .slice tA tl tc, .int .i64 pc, .int .i64 st], .int .i64 9]) ∧ Below w.heap.size w w' := by
  have rb := rowS n (.slice oA ol oc) (.slice tA tl tc) (.int .i64 pc) (.int .i64 st) (8 + b) (by omega)
  rw [hp] at rb
  clear hp
  have b0 : (0 : Int) ≤ b := by omega
  go_enter Tryz.func29, Tryz.ntmps29
  go_wp2_with (first
    | (apply ldS; (with_reducible rfl); rfl; rfl; exact rowT; rfl)
    | (apply srS; (with_reducible rfl); rfl; rfl; rfl; exact rowT; rfl; rfl; rfl; exact setT))
  refine ret2S rfl rfl rfl rfl rowT rfl ⟨rfl, ?_⟩
  repeat (first | exact Below.refl _ _ | refine below_alloc ?_ _ | refine below_drew1 ?_ | refine pw_below_drewN ?_ _)
set_option maxHeartbeats 1000000 in
set_option maxRecDepth 100000 in
theorem mem_none10 (hb : (b : Int) < 8) (hp : n (8 + b) = 0) :
    Calls Tryz.prog 29 #[.agg #[.int .i64 (n 0), .int .i64 (n 1), .int .i64 (n 2), .int .i64 (n 3), .int .i64 (n 4), .int .i64 (n 5), .int .i64 (n 6), .int .i64 (n 7), .int .i64 (n 8), .int .i64 (n 9), .int .i64 (n 10), .int .i64 (n 11), .int .i64 (n 12), .int .i64 (n 13), .int .i64 (n 14), .int .i64 (n 15), .int .i64 (n 16), .int .i64 (n 17), .int .i64 (n 18), .int .i64 (n 19), .slice oA ol oc, .slice tA tl tc, .int .i64 pc, .int .i64 st], .agg #[.int .u8 10, .int .u8 a, .int .u8 b, .int .u8 c, .int .i64 N]] w fun e w' => e = .returned (.tuple #[.agg #[.int .i64 (n 0), .int .i64 (n 1), .int .i64 (n 2), .int .i64 (n 3), .int .i64 (n 4), .int .i64 (n 5), .int .i64 (n 6), .int .i64 (n 7), .int .i64 (n 8), .int .i64 (n 9), .int .i64 (n 10), .int .i64 (n 11), .int .i64 (n 12), .int .i64 (n 13), .int .i64 (n 14), .int .i64 (n 15), .int .i64 (n 16), .int .i64 (n 17), .int .i64 (n 18), .int .i64 (n 19), .slice oA ol oc, .slice tA tl tc, .int .i64 pc, .int .i64 st], .int .i64 9]) ∧ Below w.heap.size w w' := by
  have rb := rowS n (.slice oA ol oc) (.slice tA tl tc) (.int .i64 pc) (.int .i64 st) (8 + b) (by omega)
  rw [hp] at rb
  clear hp
  have b0 : (0 : Int) ≤ b := by omega
  go_enter Tryz.func29, Tryz.ntmps29
  go_wp2_with (first
    | (apply ldS; (with_reducible rfl); rfl; rfl; exact rowT; rfl)
    | (apply srS; (with_reducible rfl); rfl; rfl; rfl; exact rowT; rfl; rfl; rfl; exact setT))
  refine ret2S rfl rfl rfl rfl rowT rfl ⟨rfl, ?_⟩
  repeat (first | exact Below.refl _ _ | refine below_alloc ?_ _ | refine below_drew1 ?_ | refine pw_below_drewN ?_ _)
set_option maxHeartbeats 1000000 in
set_option maxRecDepth 100000 in
theorem mem_none9 (ha : (a : Int) < 8) (hp : n (8 + a) = 0) :
    Calls Tryz.prog 29 #[.agg #[.int .i64 (n 0), .int .i64 (n 1), .int .i64 (n 2), .int .i64 (n 3), .int .i64 (n 4), .int .i64 (n 5), .int .i64 (n 6), .int .i64 (n 7), .int .i64 (n 8), .int .i64 (n 9), .int .i64 (n 10), .int .i64 (n 11), .int .i64 (n 12), .int .i64 (n 13), .int .i64 (n 14), .int .i64 (n 15), .int .i64 (n 16), .int .i64 (n 17), .int .i64 (n 18), .int .i64 (n 19), .slice oA ol oc, .slice tA tl tc, .int .i64 pc, .int .i64 st], .agg #[.int .u8 9, .int .u8 a, .int .u8 b, .int .u8 c, .int .i64 N]] w fun e w' => e = .returned (.tuple #[.agg #[.int .i64 (n 0), .int .i64 (n 1), .int .i64 (n 2), .int .i64 (n 3), .int .i64 (n 4), .int .i64 (n 5), .int .i64 (n 6), .int .i64 (n 7), .int .i64 (n 8), .int .i64 (n 9), .int .i64 (n 10), .int .i64 (n 11), .int .i64 (n 12), .int .i64 (n 13), .int .i64 (n 14), .int .i64 (n 15), .int .i64 (n 16), .int .i64 (n 17), .int .i64 (n 18), .int .i64 (n 19), .slice oA ol oc, .slice tA tl tc, .int .i64 pc, .int .i64 st], .int .i64 9]) ∧ Below w.heap.size w w' := by
  have rb := rowS n (.slice oA ol oc) (.slice tA tl tc) (.int .i64 pc) (.int .i64 st) (8 + a) (by omega)
  rw [hp] at rb
  clear hp
  have a0 : (0 : Int) ≤ a := by omega
  go_enter Tryz.func29, Tryz.ntmps29
  go_wp2_with (first
    | (apply ldS; (with_reducible rfl); rfl; rfl; exact rowT; rfl)
    | (apply srS; (with_reducible rfl); rfl; rfl; rfl; exact rowT; rfl; rfl; rfl; exact setT))
  refine ret2S rfl rfl rfl rfl rowT rfl ⟨rfl, ?_⟩
  repeat (first | exact Below.refl _ _ | refine below_alloc ?_ _ | refine below_drew1 ?_ | refine pw_below_drewN ?_ _)
set_option maxHeartbeats 1000000 in
set_option maxRecDepth 100000 in
theorem mem_none11 (ha : (a : Int) < 8) (hp : n (8 + a) = 0) :
    Calls Tryz.prog 29 #[.agg #[.int .i64 (n 0), .int .i64 (n 1), .int .i64 (n 2), .int .i64 (n 3), .int .i64 (n 4), .int .i64 (n 5), .int .i64 (n 6), .int .i64 (n 7), .int .i64 (n 8), .int .i64 (n 9), .int .i64 (n 10), .int .i64 (n 11), .int .i64 (n 12), .int .i64 (n 13), .int .i64 (n 14), .int .i64 (n 15), .int .i64 (n 16), .int .i64 (n 17), .int .i64 (n 18), .int .i64 (n 19), .slice oA ol oc, .slice tA tl tc, .int .i64 pc, .int .i64 st], .agg #[.int .u8 11, .int .u8 a, .int .u8 b, .int .u8 c, .int .i64 N]] w fun e w' => e = .returned (.tuple #[.agg #[.int .i64 (n 0), .int .i64 (n 1), .int .i64 (n 2), .int .i64 (n 3), .int .i64 (n 4), .int .i64 (n 5), .int .i64 (n 6), .int .i64 (n 7), .int .i64 (n 8), .int .i64 (n 9), .int .i64 (n 10), .int .i64 (n 11), .int .i64 (n 12), .int .i64 (n 13), .int .i64 (n 14), .int .i64 (n 15), .int .i64 (n 16), .int .i64 (n 17), .int .i64 (n 18), .int .i64 (n 19), .slice oA ol oc, .slice tA tl tc, .int .i64 pc, .int .i64 st], .int .i64 9]) ∧ Below w.heap.size w w' := by
  have rb := rowS n (.slice oA ol oc) (.slice tA tl tc) (.int .i64 pc) (.int .i64 st) (8 + a) (by omega)
  rw [hp] at rb
  clear hp
  have a0 : (0 : Int) ≤ a := by omega
  go_enter Tryz.func29, Tryz.ntmps29
  go_wp2_with (first
    | (apply ldS; (with_reducible rfl); rfl; rfl; exact rowT; rfl)
    | (apply srS; (with_reducible rfl); rfl; rfl; rfl; exact rowT; rfl; rfl; rfl; exact setT))
  refine ret2S rfl rfl rfl rfl rowT rfl ⟨rfl, ?_⟩
  repeat (first | exact Below.refl _ _ | refine below_alloc ?_ _ | refine below_drew1 ?_ | refine pw_below_drewN ?_ _)
set_option maxHeartbeats 1000000 in
set_option maxRecDepth 100000 in
theorem mem_storeI (P : Nat → Prop) (hs : List Hd) (os : List (List Int)) (hO : ObF w P oA hs os) (hoc : hs.length ≤ oc) (o f : Nat) (ho : o < hs.length) (hf : f < (os.getD o []).length) (hl1 : hs.length ≤ 1000000) (hl2 : (os.getD o []).length ≤ 1000000) (hp : n (8 + a) = (o : Int) + 1) (ha : (a : Int) < 8) (hb : (b : Int) < 8) :
    Calls Tryz.prog 29 #[.agg #[.int .i64 (n 0), .int .i64 (n 1), .int .i64 (n 2), .int .i64 (n 3), .int .i64 (n 4), .int .i64 (n 5), .int .i64 (n 6), .int .i64 (n 7), .int .i64 (n 8), .int .i64 (n 9), .int .i64 (n 10), .int .i64 (n 11), .int .i64 (n 12), .int .i64 (n 13), .int .i64 (n 14), .int .i64 (n 15), .int .i64 (n 16), .int .i64 (n 17), .int .i64 (n 18), .int .i64 (n 19), .slice oA hs.length oc, .slice tA tl tc, .int .i64 pc, .int .i64 st], .agg #[.int .u8 9, .int .u8 a, .int .u8 b, .int .u8 c, .int .i64 (f : Int)]] w fun e w' => ∃ A' c' hs', e = .returned (.tuple #[.agg #[.int .i64 (n 0), .int .i64 (n 1), .int .i64 (n 2), .int .i64 (n 3), .int .i64 (n 4), .int .i64 (n 5), .int .i64 (n 6), .int .i64 (n 7), .int .i64 (n 8), .int .i64 (n 9), .int .i64 (n 10), .int .i64 (n 11), .int .i64 (n 12), .int .i64 (n 13), .int .i64 (n 14), .int .i64 (n 15), .int .i64 (n 16), .int .i64 (n 17), .int .i64 (n 18), .int .i64 (n 19), .slice A' hs'.length c', .slice tA tl tc, .int .i64 pc, .int .i64 st], .int .i64 0]) ∧ hs'.length ≤ c' ∧ ObF w' (fun k => P k ∨ w.heap.size ≤ k) A' hs' (os.set o ((os.getD o []).set f (n b))) ∧ Below w.heap.size w w' := by
  have HO := Aside0.mk hO
  have i0 : (0 : Int) ≤ o := by omega
  have hne : (((o : Int) + 1) == 0) = false := by
    rw [beq_eq_false_iff_ne]
    omega
  clear hO
  have ra := rowS n (.slice oA hs.length oc) (.slice tA tl tc) (.int .i64 pc) (.int .i64 st) (8 + a) (by omega)
  rw [hp] at ra
  clear hp
  have rb := rowS n (.slice oA hs.length oc) (.slice tA tl tc) (.int .i64 pc) (.int .i64 st) (b) (by omega)
  have a0 : (0 : Int) ≤ a := by omega
  have b0 : (0 : Int) ≤ b := by omega
  go_enter Tryz.func29, Tryz.ntmps29
  go_upto_region 18 with (fail)
  refine region_tail 10 (by kernel_rfl) (by kernel_rfl) ?_
  simp only [List.take_succ_cons, List.take_zero, List.drop_succ_cons, List.drop_zero]
  repeat still_step
  refine wpStill_nil ?_
  go_upto_region 19 with (first
    | (go_at_call 46; (with_reducible refine (put_calls _ oA oc hs os o f (n b) (fun k => P k ∧ k < w.heap.size) (HO.out.bound.below (by repeat (first | exact Below.refl _ _ | refine below_alloc ?_ _ | refine below_drew1 ?_ | refine pw_below_drewN ?_ _))) hoc ho hf hl1 hl2).mono ?_); rintro e w1 ⟨A1, c1, hs1, rfl, hc1, hO1, hb1⟩; obtain ⟨hcc, hff⟩ := bcell (B := w.heap.size + 1 + 1 + 1) (hb1.mono (by simp)); have b0 := (hb1.block w.heap.size (by simp; omega)).trans (rowT (p := _ = some (.cells _ 44 (0, 0)))); have b2 := (hb1.block (w.heap.size + 1 + 1) (by simp)).trans (rowT (p := _ = some (.cells _ 44 (0, 0)))); have HO1 := Aside0.mk hO1; have HB1 := Aside0.mk hb1; have HC1 := Aside0.mk hc1; clear hO1 hb1 hc1))
  generalize hW : World.setCell _ _ _ = W
  have r0 : W.heap[w.heap.size]? = some (.cells #[.int .i64 (n 0), .int .i64 (n 1), .int .i64 (n 2), .int .i64 (n 3), .int .i64 (n 4), .int .i64 (n 5), .int .i64 (n 6), .int .i64 (n 7), .int .i64 (n 8), .int .i64 (n 9), .int .i64 (n 10), .int .i64 (n 11), .int .i64 (n 12), .int .i64 (n 13), .int .i64 (n 14), .int .i64 (n 15), .int .i64 (n 16), .int .i64 (n 17), .int .i64 (n 18), .int .i64 (n 19), .slice A1 hs1.length c1, .slice tA tl tc, .int .i64 pc, .int .i64 st] 44 (0, 0)) := by
    rw [← hW]
    refine Eq.trans (rowT (p := _ = some (.cells _ 44 (0, 0)))) ?_
    simp
  have r2 : W.heap[w.heap.size + 1 + 1]? = some (.cells #[.int .i64 0, .int .i64 0, .int .i64 0, .int .i64 0, .int .i64 0, .int .i64 0, .int .i64 0, .int .i64 0, .int .i64 0, .int .i64 0, .int .i64 0, .int .i64 0, .int .i64 0, .int .i64 0, .int .i64 0, .int .i64 0, .int .i64 0, .int .i64 0, .int .i64 0, .int .i64 0, .slice none 0 0, .slice none 0 0, .int .i64 0, .int .i64 0] 44 (0, 0)) := by
    rw [← hW]
    exact rowT
  have hBW : Below w.heap.size w W := by
    rw [← hW]
    refine below_set ?_ (Nat.le_refl _)
    exact Below.trans (by repeat (first | exact Below.refl _ _ | refine below_alloc ?_ _ | refine below_drew1 ?_ | refine pw_below_drewN ?_ _)) (HB1.out.mono (by simp; try omega))
  have hOW : ∀ cs, ObF (W.setRow (w.heap.size + 1 + 1) cs) (fun k => P k ∨ w.heap.size ≤ k) A1 hs1 (os.set o ((os.getD o []).set f (n b))) := by
    intro cs
    refine ObF.mono (P := fun k => (P k ∧ k < w.heap.size) ∨ w.heap.size + 1 + 1 + 1 ≤ k) (ObF.step (ObF.mono HO1.out fun k hk => hk.imp id fun hk => by simpa using hk) fun k hk hl => ⟨?_, ?_⟩) fun k hk => hk.imp (fun h => h.1) fun h => by omega
    · rw [setRow_other W (w.heap.size + 1 + 1) k cs (by omega), ← hW]
      exact heap_setCell_other _ _ _ _ (show k ≠ w.heap.size by omega)
    · rw [← hW]
      simpa [World.setRow, World.setCell] using hl
  have HBW := Aside0.mk hBW
  have HOW := Aside0.mk hOW
  clear hW hBW hOW b0 b2 hcc hff
  go_wp2_with (first
    | (apply ldS; (with_reducible rfl); rfl; rfl; exact rowT; rfl)
    | (apply srS; (with_reducible rfl); rfl; rfl; rfl; exact rowT; rfl; rfl; rfl; rfl))
  refine ret2S rfl rfl rfl rfl (setRow_heap _ _ _ _ _ _ r2) rfl ⟨A1, c1, hs1, rfl, HC1.out, HOW.out _, below_row HBW.out (by omega)⟩
set_option maxHeartbeats 1000000 in
set_option maxRecDepth 100000 in
theorem mem_storeP (P : Nat → Prop) (hs : List Hd) (os : List (List Int)) (hO : ObF w P oA hs os) (hoc : hs.length ≤ oc) (o f : Nat) (ho : o < hs.length) (hf : f < (os.getD o []).length) (hl1 : hs.length ≤ 1000000) (hl2 : (os.getD o []).length ≤ 1000000) (hp : n (8 + a) = (o : Int) + 1) (ha : (a : Int) < 8) (hb : (b : Int) < 8) :
    Calls Tryz.prog 29 #[.agg #[.int .i64 (n 0), .int .i64 (n 1), .int .i64 (n 2), .int .i64 (n 3), .int .i64 (n 4), .int .i64 (n 5), .int .i64 (n 6), .int .i64 (n 7), .int .i64 (n 8), .int .i64 (n 9), .int .i64 (n 10), .int .i64 (n 11), .int .i64 (n 12), .int .i64 (n 13), .int .i64 (n 14), .int .i64 (n 15), .int .i64 (n 16), .int .i64 (n 17), .int .i64 (n 18), .int .i64 (n 19), .slice oA hs.length oc, .slice tA tl tc, .int .i64 pc, .int .i64 st], .agg #[.int .u8 11, .int .u8 a, .int .u8 b, .int .u8 c, .int .i64 (f : Int)]] w fun e w' => ∃ A' c' hs', e = .returned (.tuple #[.agg #[.int .i64 (n 0), .int .i64 (n 1), .int .i64 (n 2), .int .i64 (n 3), .int .i64 (n 4), .int .i64 (n 5), .int .i64 (n 6), .int .i64 (n 7), .int .i64 (n 8), .int .i64 (n 9), .int .i64 (n 10), .int .i64 (n 11), .int .i64 (n 12), .int .i64 (n 13), .int .i64 (n 14), .int .i64 (n 15), .int .i64 (n 16), .int .i64 (n 17), .int .i64 (n 18), .int .i64 (n 19), .slice A' hs'.length c', .slice tA tl tc, .int .i64 pc, .int .i64 st], .int .i64 0]) ∧ hs'.length ≤ c' ∧ ObF w' (fun k => P k ∨ w.heap.size ≤ k) A' hs' (os.set o ((os.getD o []).set f (n (8 + b)))) ∧ Below w.heap.size w w' := by
  have HO := Aside0.mk hO
  have i0 : (0 : Int) ≤ o := by omega
  have hne : (((o : Int) + 1) == 0) = false := by
    rw [beq_eq_false_iff_ne]
    omega
  clear hO
  have ra := rowS n (.slice oA hs.length oc) (.slice tA tl tc) (.int .i64 pc) (.int .i64 st) (8 + a) (by omega)
  rw [hp] at ra
  clear hp
  have rb := rowS n (.slice oA hs.length oc) (.slice tA tl tc) (.int .i64 pc) (.int .i64 st) (8 + b) (by omega)
  have a0 : (0 : Int) ≤ a := by omega
  have b0 : (0 : Int) ≤ b := by omega
  go_enter Tryz.func29, Tryz.ntmps29
  go_upto_region 8 with (fail)
  refine region_tail 10 (by kernel_rfl) (by kernel_rfl) ?_
  simp only [List.take_succ_cons, List.take_zero, List.drop_succ_cons, List.drop_zero]
  repeat still_step
  refine wpStill_nil ?_
  go_upto_region 19 with (first
    | (go_at_call 46; (with_reducible refine (put_calls _ oA oc hs os o f (n (8 + b)) (fun k => P k ∧ k < w.heap.size) (HO.out.bound.below (by repeat (first | exact Below.refl _ _ | refine below_alloc ?_ _ | refine below_drew1 ?_ | refine pw_below_drewN ?_ _))) hoc ho hf hl1 hl2).mono ?_); rintro e w1 ⟨A1, c1, hs1, rfl, hc1, hO1, hb1⟩; obtain ⟨hcc, hff⟩ := bcell (B := w.heap.size + 1 + 1 + 1) (hb1.mono (by simp)); have b0 := (hb1.block w.heap.size (by simp; omega)).trans (rowT (p := _ = some (.cells _ 44 (0, 0)))); have b2 := (hb1.block (w.heap.size + 1 + 1) (by simp)).trans (rowT (p := _ = some (.cells _ 44 (0, 0)))); have HO1 := Aside0.mk hO1; have HB1 := Aside0.mk hb1; have HC1 := Aside0.mk hc1; clear hO1 hb1 hc1))
  generalize hW : World.setCell _ _ _ = W
  have r0 : W.heap[w.heap.size]? = some (.cells #[.int .i64 (n 0), .int .i64 (n 1), .int .i64 (n 2), .int .i64 (n 3), .int .i64 (n 4), .int .i64 (n 5), .int .i64 (n 6), .int .i64 (n 7), .int .i64 (n 8), .int .i64 (n 9), .int .i64 (n 10), .int .i64 (n 11), .int .i64 (n 12), .int .i64 (n 13), .int .i64 (n 14), .int .i64 (n 15), .int .i64 (n 16), .int .i64 (n 17), .int .i64 (n 18), .int .i64 (n 19), .slice A1 hs1.length c1, .slice tA tl tc, .int .i64 pc, .int .i64 st] 44 (0, 0)) := by
    rw [← hW]
    refine Eq.trans (rowT (p := _ = some (.cells _ 44 (0, 0)))) ?_
    simp
  have r2 : W.heap[w.heap.size + 1 + 1]? = some (.cells #[.int .i64 0, .int .i64 0, .int .i64 0, .int .i64 0, .int .i64 0, .int .i64 0, .int .i64 0, .int .i64 0, .int .i64 0, .int .i64 0, .int .i64 0, .int .i64 0, .int .i64 0, .int .i64 0, .int .i64 0, .int .i64 0, .int .i64 0, .int .i64 0, .int .i64 0, .int .i64 0, .slice none 0 0, .slice none 0 0, .int .i64 0, .int .i64 0] 44 (0, 0)) := by
    rw [← hW]
    exact rowT
  have hBW : Below w.heap.size w W := by
    rw [← hW]
    refine below_set ?_ (Nat.le_refl _)
    exact Below.trans (by repeat (first | exact Below.refl _ _ | refine below_alloc ?_ _ | refine below_drew1 ?_ | refine pw_below_drewN ?_ _)) (HB1.out.mono (by simp; try omega))
  have hOW : ∀ cs, ObF (W.setRow (w.heap.size + 1 + 1) cs) (fun k => P k ∨ w.heap.size ≤ k) A1 hs1 (os.set o ((os.getD o []).set f (n (8 + b)))) := by
    intro cs
    refine ObF.mono (P := fun k => (P k ∧ k < w.heap.size) ∨ w.heap.size + 1 + 1 + 1 ≤ k) (ObF.step (ObF.mono HO1.out fun k hk => hk.imp id fun hk => by simpa using hk) fun k hk hl => ⟨?_, ?_⟩) fun k hk => hk.imp (fun h => h.1) fun h => by omega
    · rw [setRow_other W (w.heap.size + 1 + 1) k cs (by omega), ← hW]
      exact heap_setCell_other _ _ _ _ (show k ≠ w.heap.size by omega)
    · rw [← hW]
      simpa [World.setRow, World.setCell] using hl
  have HBW := Aside0.mk hBW
  have HOW := Aside0.mk hOW
  clear hW hBW hOW b0 b2 hcc hff
  go_wp2_with (first
    | (apply ldS; (with_reducible rfl); rfl; rfl; exact rowT; rfl)
    | (apply srS; (with_reducible rfl); rfl; rfl; rfl; exact rowT; rfl; rfl; rfl; rfl))
  refine ret2S rfl rfl rfl rfl (setRow_heap _ _ _ _ _ _ r2) rfl ⟨A1, c1, hs1, rfl, HC1.out, HOW.out _, below_row HBW.out (by omega)⟩
end
end Go.Proofs.YtocechpmgfhenaaGreatDoor.ST

namespace Go.Proofs.YtocechpmgfhenaaGreatDoor.ST
open Go.RowKit Go.Proofs.YtocechpmgfhenaaGreatDoorW.PrintWords Go.Proofs.YtocechpmgfhenaaGreatDoor.F Go.Proofs.YtocechpmgfhenaaGreatDoor.ST0
set_option linter.unusedVariables false
set_option linter.unusedSimpArgs false
section
variable (w : World) (n : Nat → Int) (oA tA : Option Addr) (ol oc tl tc : Nat) (pc st : Int) (a b c : Nat) (o N : Int) (A0 : Option Addr) (c0 : Nat) (ts : List ByteArray) (la gl : ByteArray) (A3 : Option Addr) (c3 : Nat) (code : List S46)
set_option maxHeartbeats 1000000 in
set_option maxRecDepth 100000 in
theorem ptr_nil (ha : (a : Int) < 8) :
    Calls Tryz.prog 28 #[.agg #[.slice A0 ts.length c0, .string la, .string gl, .slice A3 code.length c3], .agg #[.int .i64 (n 0), .int .i64 (n 1), .int .i64 (n 2), .int .i64 (n 3), .int .i64 (n 4), .int .i64 (n 5), .int .i64 (n 6), .int .i64 (n 7), .int .i64 (n 8), .int .i64 (n 9), .int .i64 (n 10), .int .i64 (n 11), .int .i64 (n 12), .int .i64 (n 13), .int .i64 (n 14), .int .i64 (n 15), .int .i64 (n 16), .int .i64 (n 17), .int .i64 (n 18), .int .i64 (n 19), .slice oA ol oc, .slice tA tl tc, .int .i64 pc, .int .i64 st], .agg #[.int .u8 6, .int .u8 a, .int .u8 b, .int .u8 c, .int .i64 N]] w fun e w' => e = .returned (.tuple #[.agg #[.int .i64 (n 0), .int .i64 (n 1), .int .i64 (n 2), .int .i64 (n 3), .int .i64 (n 4), .int .i64 (n 5), .int .i64 (n 6), .int .i64 (n 7), .int .i64 (upd n (8 + a) (0) 8), .int .i64 (upd n (8 + a) (0) 9), .int .i64 (upd n (8 + a) (0) 10), .int .i64 (upd n (8 + a) (0) 11), .int .i64 (upd n (8 + a) (0) 12), .int .i64 (upd n (8 + a) (0) 13), .int .i64 (upd n (8 + a) (0) 14), .int .i64 (upd n (8 + a) (0) 15), .int .i64 (n 16), .int .i64 (n 17), .int .i64 (n 18), .int .i64 (n 19), .slice oA ol oc, .slice tA tl tc, .int .i64 pc, .int .i64 st], .bool true]) ∧ Below w.heap.size w w' := by
  have ra := row8 n 8 a (by omega)
  simp only [Nat.zero_add, Nat.reduceAdd] at ra
  have s8 := set8 n 8 a (by omega) (0)
  simp only [Nat.zero_add, Nat.reduceAdd] at s8
  have a0 : (0 : Int) ≤ a := by omega
  go_enter Tryz.func28, Tryz.ntmps28
  go_upto_region 1 with (fail)
  go_region
  go_wp2_with (first
    | (apply ldS; (with_reducible rfl); rfl; rfl; exact rowT; rfl)
    | (apply srS; (with_reducible rfl); rfl; rfl; rfl; exact rowT; rfl; rfl; rfl; exact setT))
  all_goals
    refine ret2S rfl rfl rfl rfl rowT rfl ⟨rfl, ?_⟩
    repeat (first | exact Below.refl _ _ | refine below_alloc ?_ _ | refine below_drew1 ?_ | refine pw_below_drewN ?_ _)
set_option maxHeartbeats 1000000 in
set_option maxRecDepth 100000 in
theorem ptr_move (ha : (a : Int) < 8) (hb : (b : Int) < 8) :
    Calls Tryz.prog 28 #[.agg #[.slice A0 ts.length c0, .string la, .string gl, .slice A3 code.length c3], .agg #[.int .i64 (n 0), .int .i64 (n 1), .int .i64 (n 2), .int .i64 (n 3), .int .i64 (n 4), .int .i64 (n 5), .int .i64 (n 6), .int .i64 (n 7), .int .i64 (n 8), .int .i64 (n 9), .int .i64 (n 10), .int .i64 (n 11), .int .i64 (n 12), .int .i64 (n 13), .int .i64 (n 14), .int .i64 (n 15), .int .i64 (n 16), .int .i64 (n 17), .int .i64 (n 18), .int .i64 (n 19), .slice oA ol oc, .slice tA tl tc, .int .i64 pc, .int .i64 st], .agg #[.int .u8 7, .int .u8 a, .int .u8 b, .int .u8 c, .int .i64 N]] w fun e w' => e = .returned (.tuple #[.agg #[.int .i64 (n 0), .int .i64 (n 1), .int .i64 (n 2), .int .i64 (n 3), .int .i64 (n 4), .int .i64 (n 5), .int .i64 (n 6), .int .i64 (n 7), .int .i64 (upd n (8 + a) (n (8 + b)) 8), .int .i64 (upd n (8 + a) (n (8 + b)) 9), .int .i64 (upd n (8 + a) (n (8 + b)) 10), .int .i64 (upd n (8 + a) (n (8 + b)) 11), .int .i64 (upd n (8 + a) (n (8 + b)) 12), .int .i64 (upd n (8 + a) (n (8 + b)) 13), .int .i64 (upd n (8 + a) (n (8 + b)) 14), .int .i64 (upd n (8 + a) (n (8 + b)) 15), .int .i64 (n 16), .int .i64 (n 17), .int .i64 (n 18), .int .i64 (n 19), .slice oA ol oc, .slice tA tl tc, .int .i64 pc, .int .i64 st], .bool true]) ∧ Below w.heap.size w w' := by
  have ra := row8 n 8 a (by omega)
  simp only [Nat.zero_add, Nat.reduceAdd] at ra
  have rb := row8 n 8 b (by omega)
  simp only [Nat.zero_add, Nat.reduceAdd] at rb
  have s8 := set8 n 8 a (by omega) (n (8 + b))
  simp only [Nat.zero_add, Nat.reduceAdd] at s8
  have a0 : (0 : Int) ≤ a := by omega
  have b0 : (0 : Int) ≤ b := by omega
  go_enter Tryz.func28, Tryz.ntmps28
  go_upto_region 1 with (fail)
  go_region
  all_goals
    go_upto_region 12 with (fail)
  all_goals
    go_region
  go_wp2_with (first
    | (apply ldS; (with_reducible rfl); rfl; rfl; exact rowT; rfl)
    | (apply srS; (with_reducible rfl); rfl; rfl; rfl; exact rowT; rfl; rfl; rfl; exact setT))
  all_goals
    refine ret2S rfl rfl rfl rfl rowT rfl ⟨rfl, ?_⟩
    repeat (first | exact Below.refl _ _ | refine below_alloc ?_ _ | refine below_drew1 ?_ | refine pw_below_drewN ?_ _)
set_option maxHeartbeats 1000000 in
set_option maxRecDepth 100000 in
theorem ptr_loadG (ha : (a : Int) < 8) (hb : (b : Int) < 4) :
    Calls Tryz.prog 28 #[.agg #[.slice A0 ts.length c0, .string la, .string gl, .slice A3 code.length c3], .agg #[.int .i64 (n 0), .int .i64 (n 1), .int .i64 (n 2), .int .i64 (n 3), .int .i64 (n 4), .int .i64 (n 5), .int .i64 (n 6), .int .i64 (n 7), .int .i64 (n 8), .int .i64 (n 9), .int .i64 (n 10), .int .i64 (n 11), .int .i64 (n 12), .int .i64 (n 13), .int .i64 (n 14), .int .i64 (n 15), .int .i64 (n 16), .int .i64 (n 17), .int .i64 (n 18), .int .i64 (n 19), .slice oA ol oc, .slice tA tl tc, .int .i64 pc, .int .i64 st], .agg #[.int .u8 12, .int .u8 a, .int .u8 b, .int .u8 c, .int .i64 N]] w fun e w' => e = .returned (.tuple #[.agg #[.int .i64 (n 0), .int .i64 (n 1), .int .i64 (n 2), .int .i64 (n 3), .int .i64 (n 4), .int .i64 (n 5), .int .i64 (n 6), .int .i64 (n 7), .int .i64 (upd n (8 + a) (n (16 + b)) 8), .int .i64 (upd n (8 + a) (n (16 + b)) 9), .int .i64 (upd n (8 + a) (n (16 + b)) 10), .int .i64 (upd n (8 + a) (n (16 + b)) 11), .int .i64 (upd n (8 + a) (n (16 + b)) 12), .int .i64 (upd n (8 + a) (n (16 + b)) 13), .int .i64 (upd n (8 + a) (n (16 + b)) 14), .int .i64 (upd n (8 + a) (n (16 + b)) 15), .int .i64 (n 16), .int .i64 (n 17), .int .i64 (n 18), .int .i64 (n 19), .slice oA ol oc, .slice tA tl tc, .int .i64 pc, .int .i64 st], .bool true]) ∧ Below w.heap.size w w' := by
  have ra := row8 n 8 a (by omega)
  simp only [Nat.zero_add, Nat.reduceAdd] at ra
  have gb := row4 n 16 b (by omega)
  simp only [Nat.reduceAdd, Nat.add_zero] at gb
  have s8 := set8 n 8 a (by omega) (n (16 + b))
  simp only [Nat.zero_add, Nat.reduceAdd] at s8
  have a0 : (0 : Int) ≤ a := by omega
  have b0 : (0 : Int) ≤ b := by omega
  go_enter Tryz.func28, Tryz.ntmps28
  go_upto_region 1 with (fail)
  go_region
  all_goals
    go_upto_region 14 with (fail)
  all_goals
    go_region
  go_wp2_with (first
    | (apply ldS; (with_reducible rfl); rfl; rfl; exact rowT; rfl)
    | (apply srS; (with_reducible rfl); rfl; rfl; rfl; exact rowT; rfl; rfl; rfl; exact setT))
  all_goals
    refine ret2S rfl rfl rfl rfl rowT rfl ⟨rfl, ?_⟩
    repeat (first | exact Below.refl _ _ | refine below_alloc ?_ _ | refine below_drew1 ?_ | refine pw_below_drewN ?_ _)
set_option maxHeartbeats 1000000 in
set_option maxRecDepth 100000 in
theorem ptr_storeG (ha : (a : Int) < 4) (hb : (b : Int) < 8) :
    Calls Tryz.prog 28 #[.agg #[.slice A0 ts.length c0, .string la, .string gl, .slice A3 code.length c3], .agg #[.int .i64 (n 0), .int .i64 (n 1), .int .i64 (n 2), .int .i64 (n 3), .int .i64 (n 4), .int .i64 (n 5), .int .i64 (n 6), .int .i64 (n 7), .int .i64 (n 8), .int .i64 (n 9), .int .i64 (n 10), .int .i64 (n 11), .int .i64 (n 12), .int .i64 (n 13), .int .i64 (n 14), .int .i64 (n 15), .int .i64 (n 16), .int .i64 (n 17), .int .i64 (n 18), .int .i64 (n 19), .slice oA ol oc, .slice tA tl tc, .int .i64 pc, .int .i64 st], .agg #[.int .u8 13, .int .u8 a, .int .u8 b, .int .u8 c, .int .i64 N]] w fun e w' => e = .returned (.tuple #[.agg #[.int .i64 (n 0), .int .i64 (n 1), .int .i64 (n 2), .int .i64 (n 3), .int .i64 (n 4), .int .i64 (n 5), .int .i64 (n 6), .int .i64 (n 7), .int .i64 (n 8), .int .i64 (n 9), .int .i64 (n 10), .int .i64 (n 11), .int .i64 (n 12), .int .i64 (n 13), .int .i64 (n 14), .int .i64 (n 15), .int .i64 (upd n (16 + a) (n (8 + b)) 16), .int .i64 (upd n (16 + a) (n (8 + b)) 17), .int .i64 (upd n (16 + a) (n (8 + b)) 18), .int .i64 (upd n (16 + a) (n (8 + b)) 19), .slice oA ol oc, .slice tA tl tc, .int .i64 pc, .int .i64 st], .bool true]) ∧ Below w.heap.size w w' := by
  have rb := row8 n 8 b (by omega)
  simp only [Nat.zero_add, Nat.reduceAdd] at rb
  have ga := row4 n 16 a (by omega)
  simp only [Nat.reduceAdd, Nat.add_zero] at ga
  have s4 := set4 n 16 a (by omega) (n (8 + b))
  simp only [Nat.reduceAdd, Nat.add_zero] at s4
  have a0 : (0 : Int) ≤ a := by omega
  have b0 : (0 : Int) ≤ b := by omega
  go_enter Tryz.func28, Tryz.ntmps28
  go_upto_region 1 with (fail)
  go_region
  all_goals
    go_upto_region 16 with (fail)
  all_goals
    go_region
  go_wp2_with (first
    | (apply ldS; (with_reducible rfl); rfl; rfl; exact rowT; rfl)
    | (apply srS; (with_reducible rfl); rfl; rfl; rfl; exact rowT; rfl; rfl; rfl; exact setT))
  all_goals
    refine ret2S rfl rfl rfl rfl rowT rfl ⟨rfl, ?_⟩
    repeat (first | exact Below.refl _ _ | refine below_alloc ?_ _ | refine below_drew1 ?_ | refine pw_below_drewN ?_ _)
set_option maxHeartbeats 1000000 in
set_option maxRecDepth 100000 in
theorem ptr_other (h5 : ¬ o = 5) (h6 : ¬ o = 6) (h7 : ¬ o = 7) (h12 : ¬ o = 12) (h13 : ¬ o = 13) :
    Calls Tryz.prog 28 #[.agg #[.slice A0 ts.length c0, .string la, .string gl, .slice A3 code.length c3], .agg #[.int .i64 (n 0), .int .i64 (n 1), .int .i64 (n 2), .int .i64 (n 3), .int .i64 (n 4), .int .i64 (n 5), .int .i64 (n 6), .int .i64 (n 7), .int .i64 (n 8), .int .i64 (n 9), .int .i64 (n 10), .int .i64 (n 11), .int .i64 (n 12), .int .i64 (n 13), .int .i64 (n 14), .int .i64 (n 15), .int .i64 (n 16), .int .i64 (n 17), .int .i64 (n 18), .int .i64 (n 19), .slice oA ol oc, .slice tA tl tc, .int .i64 pc, .int .i64 st], .agg #[.int .u8 o, .int .u8 a, .int .u8 b, .int .u8 c, .int .i64 N]] w fun e w' => e = .returned (.tuple #[.agg #[.int .i64 (n 0), .int .i64 (n 1), .int .i64 (n 2), .int .i64 (n 3), .int .i64 (n 4), .int .i64 (n 5), .int .i64 (n 6), .int .i64 (n 7), .int .i64 (n 8), .int .i64 (n 9), .int .i64 (n 10), .int .i64 (n 11), .int .i64 (n 12), .int .i64 (n 13), .int .i64 (n 14), .int .i64 (n 15), .int .i64 (n 16), .int .i64 (n 17), .int .i64 (n 18), .int .i64 (n 19), .slice oA ol oc, .slice tA tl tc, .int .i64 pc, .int .i64 st], .bool false]) ∧ Below w.heap.size w w' := by
  go_enter Tryz.func28, Tryz.ntmps28
  go_upto_region 1 with (fail)
  go_region
  go_wp2_with (first
    | (apply ldS; (with_reducible rfl); rfl; rfl; exact rowT; rfl)
    | (apply srS; (with_reducible rfl); rfl; rfl; rfl; exact rowT; rfl; rfl; rfl; exact setT))
  all_goals
    refine ret2S rfl rfl rfl rfl rowT rfl ⟨rfl, ?_⟩
    repeat (first | exact Below.refl _ _ | refine below_alloc ?_ _ | refine below_drew1 ?_ | refine pw_below_drewN ?_ _)
end
end Go.Proofs.YtocechpmgfhenaaGreatDoor.ST

namespace Go.Proofs.YtocechpmgfhenaaGreatDoor.ST
open Go.RowKit Go.Proofs.YtocechpmgfhenaaGreatDoorW.PrintWords Go.Proofs.YtocechpmgfhenaaGreatDoor.F Go.Proofs.YtocechpmgfhenaaGreatDoor.ST0
set_option linter.unusedVariables false
set_option linter.unusedSimpArgs false
section
variable (w : World) (n : Nat → Int) (oA tA : Option Addr) (ol oc tl tc : Nat) (pc st : Int) (a b c : Nat) (N : Int) (A0 : Option Addr) (c0 : Nat) (ts : List ByteArray) (la gl : ByteArray) (A3 : Option Addr) (c3 : Nat) (code : List S46)
set_option maxHeartbeats 4000000 in
set_option maxRecDepth 100000 in
theorem ptr_new (P : Nat → Prop) (hs : List Hd) (os : List (List Int)) (hO : ObF w P oA hs os) (hoc : hs.length ≤ oc) (hl1 : hs.length ≤ 1000000) (ha : (a : Int) < 8)
    (hT : Kd.C Kd.string w A0 ts.length ts) (hc0 : ts.length ≤ c0) (hC : Kd.C k46 w A3 code.length code) (hc3 : code.length ≤ c3) (k1 k2 : Nat) (t0 : Int) (m : Nat) (hm : m ≤ 1000000)
    (hL : lockstitchref05_Local.f k1 ts la gl code a = some t0) (hS : lockstitchref03_Size.f k2 ts t0 = some (m : Int)) :
    Calls Tryz.prog 28 #[.agg #[.slice A0 ts.length c0, .string la, .string gl, .slice A3 code.length c3], .agg #[.int .i64 (n 0), .int .i64 (n 1), .int .i64 (n 2), .int .i64 (n 3), .int .i64 (n 4), .int .i64 (n 5), .int .i64 (n 6), .int .i64 (n 7), .int .i64 (n 8), .int .i64 (n 9), .int .i64 (n 10), .int .i64 (n 11), .int .i64 (n 12), .int .i64 (n 13), .int .i64 (n 14), .int .i64 (n 15), .int .i64 (n 16), .int .i64 (n 17), .int .i64 (n 18), .int .i64 (n 19), .slice oA hs.length oc, .slice tA tl tc, .int .i64 pc, .int .i64 st], .agg #[.int .u8 5, .int .u8 a, .int .u8 b, .int .u8 c, .int .i64 N]] w fun e w' => ∃ A' c' hs', e = .returned (.tuple #[.agg #[.int .i64 (n 0), .int .i64 (n 1), .int .i64 (n 2), .int .i64 (n 3), .int .i64 (n 4), .int .i64 (n 5), .int .i64 (n 6), .int .i64 (n 7), .int .i64 (upd n (8 + a) ((hs.length : Int) + 1) 8), .int .i64 (upd n (8 + a) ((hs.length : Int) + 1) 9), .int .i64 (upd n (8 + a) ((hs.length : Int) + 1) 10), .int .i64 (upd n (8 + a) ((hs.length : Int) + 1) 11), .int .i64 (upd n (8 + a) ((hs.length : Int) + 1) 12), .int .i64 (upd n (8 + a) ((hs.length : Int) + 1) 13), .int .i64 (upd n (8 + a) ((hs.length : Int) + 1) 14), .int .i64 (upd n (8 + a) ((hs.length : Int) + 1) 15), .int .i64 (n 16), .int .i64 (n 17), .int .i64 (n 18), .int .i64 (n 19), .slice A' hs'.length c', .slice tA tl tc, .int .i64 pc, .int .i64 st], .bool true]) ∧ hs'.length ≤ c' ∧ ObF w' (fun k => P k ∨ w.heap.size ≤ k) A' hs' (os ++ [List.replicate m 0]) ∧ Below w.heap.size w w' := by
  have HO := Aside0.mk hO
  have HT := Aside0.mk hT
  have HC := Aside0.mk hC
  have HL := Aside0.mk hL
  have HS := Aside0.mk hS
  clear hO hT hC hL hS
  have ra := row8 n 8 a (by omega)
  have s8 := set8 n 8 a (by omega) ((hs.length : Int) + 1)
  simp only [Nat.reduceAdd, Nat.add_zero] at ra s8
  have a0 : (0 : Int) ≤ a := by omega
  go_enter Tryz.func28, Tryz.ntmps28
  go_upto_region 1 with (fail)
  go_region
  ·
    go_upto_region 5 with (fail)
    generalize hW0 : World.drew _ = W0
    have R0 : W0.heap[w.heap.size]? = some (.cells #[.slice A0 ts.length c0, .string la, .string gl, .slice A3 code.length c3] 25 (0, 0)) := by
      rw [← hW0]
      exact rowT
    have R1 : W0.heap[w.heap.size + 1]? = some (.cells #[.int .i64 (n 0), .int .i64 (n 1), .int .i64 (n 2), .int .i64 (n 3), .int .i64 (n 4), .int .i64 (n 5), .int .i64 (n 6), .int .i64 (n 7), .int .i64 (n 8), .int .i64 (n 9), .int .i64 (n 10), .int .i64 (n 11), .int .i64 (n 12), .int .i64 (n 13), .int .i64 (n 14), .int .i64 (n 15), .int .i64 (n 16), .int .i64 (n 17), .int .i64 (n 18), .int .i64 (n 19), .slice oA hs.length oc, .slice tA tl tc, .int .i64 pc, .int .i64 st] 44 (0, 0)) := by
      rw [← hW0]
      exact rowT
    have R2 : W0.heap[w.heap.size + 1 + 1]? = some (.cells #[.int .u8 5, .int .u8 a, .int .u8 b, .int .u8 c, .int .i64 N] 46 (0, 0)) := by
      rw [← hW0]
      exact rowT
    have R3 : W0.heap[w.heap.size + 1 + 1 + 1]? = some (.cells #[.int .i64 0, .int .i64 0, .int .i64 0, .int .i64 0, .int .i64 0, .int .i64 0, .int .i64 0, .int .i64 0, .int .i64 0, .int .i64 0, .int .i64 0, .int .i64 0, .int .i64 0, .int .i64 0, .int .i64 0, .int .i64 0, .int .i64 0, .int .i64 0, .int .i64 0, .int .i64 0, .slice none 0 0, .slice none 0 0, .int .i64 0, .int .i64 0] 44 (0, 0)) := by
      rw [← hW0]
      exact rowT
    have Rq : W0.heap[w.heap.size + 1 + 1 + 1 + 1]? = some (.cells #[.int .i64 (n 8), .int .i64 (n 9), .int .i64 (n 10), .int .i64 (n 11), .int .i64 (n 12), .int .i64 (n 13), .int .i64 (n 14), .int .i64 (n 15)] 39 (0, 0)) := by
      rw [← hW0]
      exact rowT
    have Rg : W0.heap[w.heap.size + 1 + 1 + 1 + 1 + 1]? = some (.cells #[.int .i64 (n 16), .int .i64 (n 17), .int .i64 (n 18), .int .i64 (n 19)] 40 (0, 0)) := by
      rw [← hW0]
      exact rowT
    have hB0 : Below w.heap.size w W0 := by
      rw [← hW0]
      repeat (first | exact Below.refl _ _ | refine below_alloc ?_ _ | refine below_drew1 ?_)
    have hz0 : W0.heap.size = w.heap.size + 1 + 1 + 1 + 1 + 1 + 1 := by
      rw [← hW0]
      simp
    have HB0 := Aside0.mk hB0
    clear hW0 hB0
    have e0 : W0.cell? ⟨w.heap.size, 0, none⟩ = some (.slice A0 ts.length c0) := (cell_of_row _ _ 0 _ _ _ R0).trans rfl
    have e1 : W0.cell? ⟨w.heap.size, 1, none⟩ = some (.string la) := (cell_of_row _ _ 1 _ _ _ R0).trans rfl
    have e2 : W0.cell? ⟨w.heap.size, 2, none⟩ = some (.string gl) := (cell_of_row _ _ 2 _ _ _ R0).trans rfl
    have e3 : W0.cell? ⟨w.heap.size, 3, none⟩ = some (.slice A3 code.length c3) := (cell_of_row _ _ 3 _ _ _ R0).trans rfl
    have e5 : W0.cell? ⟨w.heap.size + 1 + 1, 1, none⟩ = some (.int .u8 a) := (cell_of_row _ _ 1 _ _ _ R2).trans rfl
    go_region_held3 (fun w' => w'.cell? ⟨w.heap.size, 0, none⟩ = some (.slice A0 ts.length c0) ∧ w'.cell? ⟨w.heap.size, 1, none⟩ = some (.string la) ∧ w'.cell? ⟨w.heap.size, 2, none⟩ = some (.string gl) ∧ w'.cell? ⟨w.heap.size, 3, none⟩ = some (.slice A3 code.length c3) ∧ w'.cell? ⟨w.heap.size + 1 + 1, 1, none⟩ = some (.int .u8 a))
      (first
        | (refine ⟨(hq1 _ _ (by omega)).trans e0, (hq1 _ _ (by omega)).trans e1, (hq1 _ _ (by omega)).trans e2, (hq1 _ _ (by omega)).trans e3, (hq1 _ _ (by omega)).trans e5⟩)
        | go_keep)
      ((first
        | (go_at_call 45; (with_reducible refine (lockstitchref05_Local.calls k1 A0 c0 ts la gl A3 c3 code a t0 _ (Kd.C_below HT.out (by repeat (first | exact HB0.out | exact Below.refl _ _ | refine below_alloc ?_ _ | refine below_drew1 ?_ | refine pw_below_drewN ?_ _))) hc0 (Kd.C_below HC.out (by repeat (first | exact HB0.out | exact Below.refl _ _ | refine below_alloc ?_ _ | refine below_drew1 ?_ | refine pw_below_drewN ?_ _))) hc3 HL.out).mono ?_); rintro e w1 ⟨rfl, hb1⟩; obtain ⟨hq1, hf1⟩ := bcell (B := w.heap.size + 1 + 1 + 1 + 1 + 1 + 1) (hb1.mono (show _ ≤ W0.heap.size by omega)); have HB1 := Aside0.mk (show Below w.heap.size w w1 from below_step (show Below w.heap.size w W0.drew from (by repeat (first | exact HB0.out | exact Below.refl _ _ | refine below_alloc ?_ _ | refine below_drew1 ?_ | refine pw_below_drewN ?_ _))) hb1); have HR1 := Aside0.mk (show ∀ k, k < w.heap.size + 1 + 1 + 1 + 1 + 1 + 1 → w1.heap[k]? = W0.heap[k]? from fun k hk => hb1.block k (show k < W0.heap.size by omega)); have hz1 : w.heap.size + 1 + 1 + 1 + 1 + 1 + 1 ≤ w1.heap.size := Nat.le_trans (show _ ≤ W0.heap.size by omega) hb1.size; clear hb1)
        | (go_at_call 44; (with_reducible refine (lockstitchref03_Size.calls k2 A0 c0 ts t0 m _ (Kd.C_below HT.out HB1.out) hc0 HS.out).mono ?_); rintro e w1' ⟨rfl, hd1⟩; obtain ⟨dr, rfl⟩ := hd1)))
    generalize hW1 : World.drewN _ _ = W1
    have R11 : W1.heap[w.heap.size + 1]? = some (.cells #[.int .i64 (n 0), .int .i64 (n 1), .int .i64 (n 2), .int .i64 (n 3), .int .i64 (n 4), .int .i64 (n 5), .int .i64 (n 6), .int .i64 (n 7), .int .i64 (n 8), .int .i64 (n 9), .int .i64 (n 10), .int .i64 (n 11), .int .i64 (n 12), .int .i64 (n 13), .int .i64 (n 14), .int .i64 (n 15), .int .i64 (n 16), .int .i64 (n 17), .int .i64 (n 18), .int .i64 (n 19), .slice oA hs.length oc, .slice tA tl tc, .int .i64 pc, .int .i64 st] 44 (0, 0)) := by rw [← hW1]; exact (HR1.out _ (by omega)).trans R1
    have R21 : W1.heap[w.heap.size + 1 + 1]? = some (.cells #[.int .u8 5, .int .u8 a, .int .u8 b, .int .u8 c, .int .i64 N] 46 (0, 0)) := by rw [← hW1]; exact (HR1.out _ (by omega)).trans R2
    have R31 : W1.heap[w.heap.size + 1 + 1 + 1]? = some (.cells #[.int .i64 0, .int .i64 0, .int .i64 0, .int .i64 0, .int .i64 0, .int .i64 0, .int .i64 0, .int .i64 0, .int .i64 0, .int .i64 0, .int .i64 0, .int .i64 0, .int .i64 0, .int .i64 0, .int .i64 0, .int .i64 0, .int .i64 0, .int .i64 0, .int .i64 0, .int .i64 0, .slice none 0 0, .slice none 0 0, .int .i64 0, .int .i64 0] 44 (0, 0)) := by rw [← hW1]; exact (HR1.out _ (by omega)).trans R3
    have Rq1 : W1.heap[w.heap.size + 1 + 1 + 1 + 1]? = some (.cells #[.int .i64 (n 8), .int .i64 (n 9), .int .i64 (n 10), .int .i64 (n 11), .int .i64 (n 12), .int .i64 (n 13), .int .i64 (n 14), .int .i64 (n 15)] 39 (0, 0)) := by rw [← hW1]; exact (HR1.out _ (by omega)).trans Rq
    have Rg1 : W1.heap[w.heap.size + 1 + 1 + 1 + 1 + 1]? = some (.cells #[.int .i64 (n 16), .int .i64 (n 17), .int .i64 (n 18), .int .i64 (n 19)] 40 (0, 0)) := by rw [← hW1]; exact (HR1.out _ (by omega)).trans Rg
    have HW1 : Aside0 (Below w.heap.size w W1) := by
      constructor
      rw [← hW1]
      exact pw_below_drewN HB1.out _
    have hz2 : w.heap.size + 1 + 1 + 1 + 1 + 1 + 1 ≤ W1.heap.size := by
      rw [← hW1]
      exact hz1
    clear hW1 HR1 hq1 hf1 hz1 hz0 R0 R1 R2 R3 Rq Rg e0 e1 e2 e3 e5
    have c20 : ∀ o, (W1.alloc o).cell? ⟨w.heap.size + 1, 20, none⟩ = some (.slice oA hs.length oc) := fun o => (World.cell?_alloc_lt _ _ _ (show w.heap.size + 1 < W1.heap.size by omega)).trans ((cell_of_row _ _ 20 _ _ _ R11).trans rfl)
    have hmk := print_make_of 42 2 (.int .i64 0) 8 Tryz.underlying42 info_i rfl (by decide) m (by omega)
    go_upto_region 8 with (first
        | (at_builtin; refine Kd.R_append_row (w0 := W1) Hd.v default (w.heap.size + 1 + 1 + 1 + 1 + 1 + 1) rfl (.tmp 28) (.tmp 30) 41 42 _ 24 rfl Tryz.underlying41 info_h rfl (by decide) (.slice (some ⟨W1.heap.size, 0, none⟩) 0 0) [] hs oA hs.length oc (fun _ => True) rfl rfl (fun _ _ => trivial) (own_empty W1 _ _ _ rfl hz2) (Kd.C_below HO.out.now.row (below_alloc HW1.out _)) (Below.alloc (Below.refl _ _) hz2 _) (by simp; omega) (by simp; omega) ?_; intro v2 w2 hr2 hb2 hg2 _; have R12 := (hb2.block (w.heap.size + 1) (by omega)).trans R11; have R22 := (hb2.block (w.heap.size + 1 + 1) (by omega)).trans R21; have R32 := (hb2.block (w.heap.size + 1 + 1 + 1) (by omega)).trans R31; have Rq2 := (hb2.block (w.heap.size + 1 + 1 + 1 + 1) (by omega)).trans Rq1; have Rg2 := (hb2.block (w.heap.size + 1 + 1 + 1 + 1 + 1) (by omega)).trans Rg1; replace R12 := Aside0.mk R12; replace R22 := Aside0.mk R22; replace R32 := Aside0.mk R32; replace Rq2 := Aside0.mk Rq2; replace Rg2 := Aside0.mk Rg2; have hz3 : w.heap.size + 1 + 1 + 1 + 1 + 1 + 1 ≤ w2.heap.size := Nat.le_trans hz2 hb2.size; have HR2 := Aside0.mk hr2; have HB2 := Aside0.mk hb2; clear hr2 hb2 hg2)
        | (at_builtin; refine print_append_of (w0 := w2) Hd.v (w.heap.size + 1 + 1 + 1 + 1 + 1 + 1) rfl (.tmp 32) (.tmp 35) 41 42 _ 24 rfl Tryz.underlying41 info_h rfl (by decide) v2 ([] ++ hs) ⟨some ⟨w2.heap.size, 0, none⟩, m, m⟩ rfl (by first | (go_simp; done) | (simp [go_sem]; done)) rfl (pw_own_below (Kd.own_of_R HR2.out) (below_alloc (Below.refl _ _) _)) (Below.alloc (Below.refl _ _) hz3 _) (by simp; omega) (by simp; omega) ?_; intro v3 w3 hr3 hb3 hg3 _; have R13 := (hb3.block (w.heap.size + 1) (by omega)).trans (R12.out); have R23 := (hb3.block (w.heap.size + 1 + 1) (by omega)).trans (R22.out); have R33 := (hb3.block (w.heap.size + 1 + 1 + 1) (by omega)).trans (R32.out); have Rq3 := (hb3.block (w.heap.size + 1 + 1 + 1 + 1) (by omega)).trans (Rq2.out); have Rg3 := (hb3.block (w.heap.size + 1 + 1 + 1 + 1 + 1) (by omega)).trans (Rg2.out); replace R13 := Aside0.mk R13; replace R23 := Aside0.mk R23; replace R33 := Aside0.mk R33; replace Rq3 := Aside0.mk Rq3; replace Rg3 := Aside0.mk Rg3; have kk := (cell_of_row _ _ 20 _ _ _ R13.out).trans rfl; have kf := frozen_of_row w3 (w.heap.size + 1) 20 _ _ R13.out; have HN3 := Aside0.mk (hg3.block w2.heap.size); have hr3' := Kd.R_of_own (h1 := Hd.one) (ok := fun _ => True) hr3 fun _ _ => trivial; obtain ⟨An, cn, en, hcn, _⟩ := Kd.R_reads hr3'; subst en; have HCn := Aside0.mk hcn; have HR3 := Aside0.mk hr3'; clear hr3' hcn; have HB3 := Aside0.mk hb3; clear hr3 hb3 hg3))
    have HOB3 : Aside0 (ObF w3 (fun k => (P k ∧ k < w.heap.size) ∨ w.heap.size + 1 + 1 + 1 + 1 + 1 + 1 ≤ k) An (hs ++ [(⟨some ⟨w2.heap.size, 0, none⟩, m, m⟩ : Hd)]) (os ++ [List.replicate m 0])) := by
      constructor
      refine objs_append HO.out (Below.trans HW1.out (Below.trans (HB2.out.mono (by omega)) (HB3.out.mono (by omega)))) HR3.out ((HN3.out (by simp) fun e => ?_).trans (heap_alloc_new w2 _)) hz3 hm
      first | (have := Kd.R_lt HR2.out _ e; omega) | (have := Kd.R_lt HR2.out _ e.symm; omega)
    have HBw3 : Aside0 (Below w.heap.size w w3) := ⟨Below.trans HW1.out (Below.trans (HB2.out.mono (by omega)) (HB3.out.mono (by omega)))⟩
    have hz4 : w.heap.size + 1 + 1 + 1 + 1 + 1 + 1 ≤ w3.heap.size := Nat.le_trans hz3 HB3.out.size
    have HCn' : hs.length + 1 ≤ cn := by
      have := HCn.out
      simpa using this
    generalize hW4 : World.setCell _ _ _ = W4
    have R14 : W4.heap[w.heap.size + 1]? = some (.cells #[.int .i64 (n 0), .int .i64 (n 1), .int .i64 (n 2), .int .i64 (n 3), .int .i64 (n 4), .int .i64 (n 5), .int .i64 (n 6), .int .i64 (n 7), .int .i64 (n 8), .int .i64 (n 9), .int .i64 (n 10), .int .i64 (n 11), .int .i64 (n 12), .int .i64 (n 13), .int .i64 (n 14), .int .i64 (n 15), .int .i64 (n 16), .int .i64 (n 17), .int .i64 (n 18), .int .i64 (n 19), .slice An (hs.length + 1) cn, .slice tA tl tc, .int .i64 pc, .int .i64 st] 44 (0, 0)) := by
      rw [← hW4]
      refine Eq.trans (row_cellS _ R13.out) ?_
      simp
    have R24 : W4.heap[w.heap.size + 1 + 1]? = some (.cells #[.int .u8 5, .int .u8 a, .int .u8 b, .int .u8 c, .int .i64 N] 46 (0, 0)) := by rw [← hW4]; exact row_cellO _ _ (show w.heap.size + 1 + 1 ≠ w.heap.size + 1 by omega) R23.out
    have R34 : W4.heap[w.heap.size + 1 + 1 + 1]? = some (.cells #[.int .i64 0, .int .i64 0, .int .i64 0, .int .i64 0, .int .i64 0, .int .i64 0, .int .i64 0, .int .i64 0, .int .i64 0, .int .i64 0, .int .i64 0, .int .i64 0, .int .i64 0, .int .i64 0, .int .i64 0, .int .i64 0, .int .i64 0, .int .i64 0, .int .i64 0, .int .i64 0, .slice none 0 0, .slice none 0 0, .int .i64 0, .int .i64 0] 44 (0, 0)) := by rw [← hW4]; exact row_cellO _ _ (show w.heap.size + 1 + 1 + 1 ≠ w.heap.size + 1 by omega) R33.out
    have Rq4 : W4.heap[w.heap.size + 1 + 1 + 1 + 1]? = some (.cells #[.int .i64 (n 8), .int .i64 (n 9), .int .i64 (n 10), .int .i64 (n 11), .int .i64 (n 12), .int .i64 (n 13), .int .i64 (n 14), .int .i64 (n 15)] 39 (0, 0)) := by rw [← hW4]; exact row_cellO _ _ (show w.heap.size + 1 + 1 + 1 + 1 ≠ w.heap.size + 1 by omega) Rq3.out
    have Rg4 : W4.heap[w.heap.size + 1 + 1 + 1 + 1 + 1]? = some (.cells #[.int .i64 (n 16), .int .i64 (n 17), .int .i64 (n 18), .int .i64 (n 19)] 40 (0, 0)) := by rw [← hW4]; exact row_cellO _ _ (show w.heap.size + 1 + 1 + 1 + 1 + 1 ≠ w.heap.size + 1 by omega) Rg3.out
    have k1 := (cell_of_row W4 _ 1 _ _ _ R24).trans rfl
    have k2 := (cell_of_row W4 _ 20 _ _ _ R14).trans rfl
    have k3 : W4.cell? ⟨w.heap.size + 1 + 1 + 1 + 1, a, none⟩ = some (.int .i64 (n (8 + a))) := (cell_of_row W4 _ a _ _ _ Rq4).trans (by simpa using ra)
    have k4 := frozen_of_row W4 (w.heap.size + 1 + 1 + 1 + 1) a _ _ Rq4
    clear R12 R22 R32 Rq2 Rg2 R13 R23 R33 Rq3 Rg3 R11 R21 R31 Rq1 Rg1 c20 hmk kk kf HN3 HR3 HR2
    go_upto_region 17 with (fail)
    generalize hW5 : World.setCell _ _ _ = W5
    have R15 : W5.heap[w.heap.size + 1]? = some (.cells #[.int .i64 (n 0), .int .i64 (n 1), .int .i64 (n 2), .int .i64 (n 3), .int .i64 (n 4), .int .i64 (n 5), .int .i64 (n 6), .int .i64 (n 7), .int .i64 (n 8), .int .i64 (n 9), .int .i64 (n 10), .int .i64 (n 11), .int .i64 (n 12), .int .i64 (n 13), .int .i64 (n 14), .int .i64 (n 15), .int .i64 (n 16), .int .i64 (n 17), .int .i64 (n 18), .int .i64 (n 19), .slice An (hs.length + 1) cn, .slice tA tl tc, .int .i64 pc, .int .i64 st] 44 (0, 0)) := by rw [← hW5]; exact row_cellO _ _ (show w.heap.size + 1 ≠ w.heap.size + 1 + 1 + 1 + 1 by omega) R14
    have R25 : W5.heap[w.heap.size + 1 + 1]? = some (.cells #[.int .u8 5, .int .u8 a, .int .u8 b, .int .u8 c, .int .i64 N] 46 (0, 0)) := by rw [← hW5]; exact row_cellO _ _ (show w.heap.size + 1 + 1 ≠ w.heap.size + 1 + 1 + 1 + 1 by omega) R24
    have R35 : W5.heap[w.heap.size + 1 + 1 + 1]? = some (.cells #[.int .i64 0, .int .i64 0, .int .i64 0, .int .i64 0, .int .i64 0, .int .i64 0, .int .i64 0, .int .i64 0, .int .i64 0, .int .i64 0, .int .i64 0, .int .i64 0, .int .i64 0, .int .i64 0, .int .i64 0, .int .i64 0, .int .i64 0, .int .i64 0, .int .i64 0, .int .i64 0, .slice none 0 0, .slice none 0 0, .int .i64 0, .int .i64 0] 44 (0, 0)) := by rw [← hW5]; exact row_cellO _ _ (show w.heap.size + 1 + 1 + 1 ≠ w.heap.size + 1 + 1 + 1 + 1 by omega) R34
    have Rq5 : W5.heap[w.heap.size + 1 + 1 + 1 + 1]? = some (.cells #[.int .i64 (upd n (8 + a) ((hs.length : Int) + 1) 8), .int .i64 (upd n (8 + a) ((hs.length : Int) + 1) 9), .int .i64 (upd n (8 + a) ((hs.length : Int) + 1) 10), .int .i64 (upd n (8 + a) ((hs.length : Int) + 1) 11), .int .i64 (upd n (8 + a) ((hs.length : Int) + 1) 12), .int .i64 (upd n (8 + a) ((hs.length : Int) + 1) 13), .int .i64 (upd n (8 + a) ((hs.length : Int) + 1) 14), .int .i64 (upd n (8 + a) ((hs.length : Int) + 1) 15)] 39 (0, 0)) := by
      rw [← hW5]
      refine Eq.trans (row_cellS _ Rq4) ?_
      simp only [List.setIfInBounds_toArray, s8]
    have Rg5 : W5.heap[w.heap.size + 1 + 1 + 1 + 1 + 1]? = some (.cells #[.int .i64 (n 16), .int .i64 (n 17), .int .i64 (n 18), .int .i64 (n 19)] 40 (0, 0)) := by rw [← hW5]; exact row_cellO _ _ (show w.heap.size + 1 + 1 + 1 + 1 + 1 ≠ w.heap.size + 1 + 1 + 1 + 1 by omega) Rg4
    have kq := fun j => cell_of_row W5 (w.heap.size + 1 + 1 + 1 + 1) j _ _ _ Rq5
    have kg := fun j => cell_of_row W5 (w.heap.size + 1 + 1 + 1 + 1 + 1) j _ _ _ Rg5
    have ks := fun j => cell_of_row W5 (w.heap.size + 1) j _ _ _ R15
    have fs := fun j => frozen_of_row W5 (w.heap.size + 1) j _ _ R15
    clear k1 k2 k3 k4 R14 R24 R34 Rq4 Rg4 Rq5 Rg5 R25
    go_upto_region 19 with (fail)
    generalize hW6 : World.setCell _ _ _ = W6
    have R16 : W6.heap[w.heap.size + 1]? = some (.cells #[.int .i64 (n 0), .int .i64 (n 1), .int .i64 (n 2), .int .i64 (n 3), .int .i64 (n 4), .int .i64 (n 5), .int .i64 (n 6), .int .i64 (n 7), .int .i64 (upd n (8 + a) ((hs.length : Int) + 1) 8), .int .i64 (upd n (8 + a) ((hs.length : Int) + 1) 9), .int .i64 (upd n (8 + a) ((hs.length : Int) + 1) 10), .int .i64 (upd n (8 + a) ((hs.length : Int) + 1) 11), .int .i64 (upd n (8 + a) ((hs.length : Int) + 1) 12), .int .i64 (upd n (8 + a) ((hs.length : Int) + 1) 13), .int .i64 (upd n (8 + a) ((hs.length : Int) + 1) 14), .int .i64 (upd n (8 + a) ((hs.length : Int) + 1) 15), .int .i64 (n 16), .int .i64 (n 17), .int .i64 (n 18), .int .i64 (n 19), .slice An (hs.length + 1) cn, .slice tA tl tc, .int .i64 pc, .int .i64 st] 44 (0, 0)) := by
      rw [← hW6]
      refine Eq.trans (rowT (p := _ = some (.cells _ 44 (0, 0)))) ?_
      simp
    have R36 : W6.heap[w.heap.size + 1 + 1 + 1]? = some (.cells #[.int .i64 0, .int .i64 0, .int .i64 0, .int .i64 0, .int .i64 0, .int .i64 0, .int .i64 0, .int .i64 0, .int .i64 0, .int .i64 0, .int .i64 0, .int .i64 0, .int .i64 0, .int .i64 0, .int .i64 0, .int .i64 0, .int .i64 0, .int .i64 0, .int .i64 0, .int .i64 0, .slice none 0 0, .slice none 0 0, .int .i64 0, .int .i64 0] 44 (0, 0)) := by
      rw [← hW6]
      exact rowT
    have HOB : ∀ cs, ObF (W6.setRow (w.heap.size + 1 + 1 + 1) cs) (fun k => P k ∨ w.heap.size ≤ k) An (hs ++ [(⟨some ⟨w2.heap.size, 0, none⟩, m, m⟩ : Hd)]) (os ++ [List.replicate m 0]) := by
      intro cs
      refine ObF.mono (P := (fun k => (P k ∧ k < w.heap.size) ∨ w.heap.size + 1 + 1 + 1 + 1 + 1 + 1 ≤ k)) (ObF.step HOB3.out fun k hk hl => ⟨?_, ?_⟩) fun k hk => hk.imp (fun h => h.1) fun h => by omega
      · rw [setRow_other W6 (w.heap.size + 1 + 1 + 1) k cs (by omega), ← hW6, ← hW5, ← hW4]
        repeat (first | (with_reducible rfl) | (with_reducible refine (heap_setCell_other _ _ _ _ ?_).trans ?_; focus (first | (show k ≠ w.heap.size + 1; omega) | (show k ≠ w.heap.size + 1 + 1 + 1 + 1; omega))))
      · rw [← hW6, ← hW5, ← hW4]
        simpa [World.setRow, World.setCell] using hl
    have HBW : Aside0 (Below w.heap.size w W6) := by
      constructor
      rw [← hW6, ← hW5, ← hW4]
      repeat (first | (with_reducible exact HBw3.out) | (with_reducible refine below_set ?_ ?_; rotate_left; focus omega))
    have HOB' := Aside0.mk HOB
    clear HOB hW6 hW5 hW4 kq kg ks fs R15 R35
    go_wp2_with (first
        | (apply ldS; (with_reducible rfl); rfl; rfl; exact rowT; rfl)
        | (apply srS; (with_reducible rfl); rfl; rfl; rfl; exact rowT; rfl; rfl; rfl; rfl))
    refine ret2S rfl rfl rfl rfl (setRow_heap _ _ _ _ _ _ R36) rfl ⟨An, cn, hs ++ [(⟨some ⟨w2.heap.size, 0, none⟩, m, m⟩ : Hd)], ?_, by simpa using HCn', HOB'.out _, below_row HBW.out (by omega)⟩
    simp
  ·
    go_upto_region 5 with (fail)
    generalize hW0 : World.drew _ = W0
    have R0 : W0.heap[w.heap.size]? = some (.cells #[.slice A0 ts.length c0, .string la, .string gl, .slice A3 code.length c3] 25 (0, 0)) := by
      rw [← hW0]
      exact rowT
    have R1 : W0.heap[w.heap.size + 1]? = some (.cells #[.int .i64 (n 0), .int .i64 (n 1), .int .i64 (n 2), .int .i64 (n 3), .int .i64 (n 4), .int .i64 (n 5), .int .i64 (n 6), .int .i64 (n 7), .int .i64 (n 8), .int .i64 (n 9), .int .i64 (n 10), .int .i64 (n 11), .int .i64 (n 12), .int .i64 (n 13), .int .i64 (n 14), .int .i64 (n 15), .int .i64 (n 16), .int .i64 (n 17), .int .i64 (n 18), .int .i64 (n 19), .slice oA hs.length oc, .slice tA tl tc, .int .i64 pc, .int .i64 st] 44 (0, 0)) := by
      rw [← hW0]
      exact rowT
    have R2 : W0.heap[w.heap.size + 1 + 1]? = some (.cells #[.int .u8 5, .int .u8 a, .int .u8 b, .int .u8 c, .int .i64 N] 46 (0, 0)) := by
      rw [← hW0]
      exact rowT
    have R3 : W0.heap[w.heap.size + 1 + 1 + 1]? = some (.cells #[.int .i64 0, .int .i64 0, .int .i64 0, .int .i64 0, .int .i64 0, .int .i64 0, .int .i64 0, .int .i64 0, .int .i64 0, .int .i64 0, .int .i64 0, .int .i64 0, .int .i64 0, .int .i64 0, .int .i64 0, .int .i64 0, .int .i64 0, .int .i64 0, .int .i64 0, .int .i64 0, .slice none 0 0, .slice none 0 0, .int .i64 0, .int .i64 0] 44 (0, 0)) := by
      rw [← hW0]
      exact rowT
    have Rq : W0.heap[w.heap.size + 1 + 1 + 1 + 1 + 1]? = some (.cells #[.int .i64 (n 8), .int .i64 (n 9), .int .i64 (n 10), .int .i64 (n 11), .int .i64 (n 12), .int .i64 (n 13), .int .i64 (n 14), .int .i64 (n 15)] 39 (0, 0)) := by
      rw [← hW0]
      exact rowT
    have Rg : W0.heap[w.heap.size + 1 + 1 + 1 + 1]? = some (.cells #[.int .i64 (n 16), .int .i64 (n 17), .int .i64 (n 18), .int .i64 (n 19)] 40 (0, 0)) := by
      rw [← hW0]
      exact rowT
    have hB0 : Below w.heap.size w W0 := by
      rw [← hW0]
      repeat (first | exact Below.refl _ _ | refine below_alloc ?_ _ | refine below_drew1 ?_)
    have hz0 : W0.heap.size = w.heap.size + 1 + 1 + 1 + 1 + 1 + 1 := by
      rw [← hW0]
      simp
    have HB0 := Aside0.mk hB0
    clear hW0 hB0
    have e0 : W0.cell? ⟨w.heap.size, 0, none⟩ = some (.slice A0 ts.length c0) := (cell_of_row _ _ 0 _ _ _ R0).trans rfl
    have e1 : W0.cell? ⟨w.heap.size, 1, none⟩ = some (.string la) := (cell_of_row _ _ 1 _ _ _ R0).trans rfl
    have e2 : W0.cell? ⟨w.heap.size, 2, none⟩ = some (.string gl) := (cell_of_row _ _ 2 _ _ _ R0).trans rfl
    have e3 : W0.cell? ⟨w.heap.size, 3, none⟩ = some (.slice A3 code.length c3) := (cell_of_row _ _ 3 _ _ _ R0).trans rfl
    have e5 : W0.cell? ⟨w.heap.size + 1 + 1, 1, none⟩ = some (.int .u8 a) := (cell_of_row _ _ 1 _ _ _ R2).trans rfl
    go_region_held3 (fun w' => w'.cell? ⟨w.heap.size, 0, none⟩ = some (.slice A0 ts.length c0) ∧ w'.cell? ⟨w.heap.size, 1, none⟩ = some (.string la) ∧ w'.cell? ⟨w.heap.size, 2, none⟩ = some (.string gl) ∧ w'.cell? ⟨w.heap.size, 3, none⟩ = some (.slice A3 code.length c3) ∧ w'.cell? ⟨w.heap.size + 1 + 1, 1, none⟩ = some (.int .u8 a))
      (first
        | (refine ⟨(hq1 _ _ (by omega)).trans e0, (hq1 _ _ (by omega)).trans e1, (hq1 _ _ (by omega)).trans e2, (hq1 _ _ (by omega)).trans e3, (hq1 _ _ (by omega)).trans e5⟩)
        | go_keep)
      ((first
        | (go_at_call 45; (with_reducible refine (lockstitchref05_Local.calls k1 A0 c0 ts la gl A3 c3 code a t0 _ (Kd.C_below HT.out (by repeat (first | exact HB0.out | exact Below.refl _ _ | refine below_alloc ?_ _ | refine below_drew1 ?_ | refine pw_below_drewN ?_ _))) hc0 (Kd.C_below HC.out (by repeat (first | exact HB0.out | exact Below.refl _ _ | refine below_alloc ?_ _ | refine below_drew1 ?_ | refine pw_below_drewN ?_ _))) hc3 HL.out).mono ?_); rintro e w1 ⟨rfl, hb1⟩; obtain ⟨hq1, hf1⟩ := bcell (B := w.heap.size + 1 + 1 + 1 + 1 + 1 + 1) (hb1.mono (show _ ≤ W0.heap.size by omega)); have HB1 := Aside0.mk (show Below w.heap.size w w1 from below_step (show Below w.heap.size w W0.drew from (by repeat (first | exact HB0.out | exact Below.refl _ _ | refine below_alloc ?_ _ | refine below_drew1 ?_ | refine pw_below_drewN ?_ _))) hb1); have HR1 := Aside0.mk (show ∀ k, k < w.heap.size + 1 + 1 + 1 + 1 + 1 + 1 → w1.heap[k]? = W0.heap[k]? from fun k hk => hb1.block k (show k < W0.heap.size by omega)); have hz1 : w.heap.size + 1 + 1 + 1 + 1 + 1 + 1 ≤ w1.heap.size := Nat.le_trans (show _ ≤ W0.heap.size by omega) hb1.size; clear hb1)
        | (go_at_call 44; (with_reducible refine (lockstitchref03_Size.calls k2 A0 c0 ts t0 m _ (Kd.C_below HT.out HB1.out) hc0 HS.out).mono ?_); rintro e w1' ⟨rfl, hd1⟩; obtain ⟨dr, rfl⟩ := hd1)))
    generalize hW1 : World.drewN _ _ = W1
    have R11 : W1.heap[w.heap.size + 1]? = some (.cells #[.int .i64 (n 0), .int .i64 (n 1), .int .i64 (n 2), .int .i64 (n 3), .int .i64 (n 4), .int .i64 (n 5), .int .i64 (n 6), .int .i64 (n 7), .int .i64 (n 8), .int .i64 (n 9), .int .i64 (n 10), .int .i64 (n 11), .int .i64 (n 12), .int .i64 (n 13), .int .i64 (n 14), .int .i64 (n 15), .int .i64 (n 16), .int .i64 (n 17), .int .i64 (n 18), .int .i64 (n 19), .slice oA hs.length oc, .slice tA tl tc, .int .i64 pc, .int .i64 st] 44 (0, 0)) := by rw [← hW1]; exact (HR1.out _ (by omega)).trans R1
    have R21 : W1.heap[w.heap.size + 1 + 1]? = some (.cells #[.int .u8 5, .int .u8 a, .int .u8 b, .int .u8 c, .int .i64 N] 46 (0, 0)) := by rw [← hW1]; exact (HR1.out _ (by omega)).trans R2
    have R31 : W1.heap[w.heap.size + 1 + 1 + 1]? = some (.cells #[.int .i64 0, .int .i64 0, .int .i64 0, .int .i64 0, .int .i64 0, .int .i64 0, .int .i64 0, .int .i64 0, .int .i64 0, .int .i64 0, .int .i64 0, .int .i64 0, .int .i64 0, .int .i64 0, .int .i64 0, .int .i64 0, .int .i64 0, .int .i64 0, .int .i64 0, .int .i64 0, .slice none 0 0, .slice none 0 0, .int .i64 0, .int .i64 0] 44 (0, 0)) := by rw [← hW1]; exact (HR1.out _ (by omega)).trans R3
    have Rq1 : W1.heap[w.heap.size + 1 + 1 + 1 + 1 + 1]? = some (.cells #[.int .i64 (n 8), .int .i64 (n 9), .int .i64 (n 10), .int .i64 (n 11), .int .i64 (n 12), .int .i64 (n 13), .int .i64 (n 14), .int .i64 (n 15)] 39 (0, 0)) := by rw [← hW1]; exact (HR1.out _ (by omega)).trans Rq
    have Rg1 : W1.heap[w.heap.size + 1 + 1 + 1 + 1]? = some (.cells #[.int .i64 (n 16), .int .i64 (n 17), .int .i64 (n 18), .int .i64 (n 19)] 40 (0, 0)) := by rw [← hW1]; exact (HR1.out _ (by omega)).trans Rg
    have HW1 : Aside0 (Below w.heap.size w W1) := by
      constructor
      rw [← hW1]
      exact pw_below_drewN HB1.out _
    have hz2 : w.heap.size + 1 + 1 + 1 + 1 + 1 + 1 ≤ W1.heap.size := by
      rw [← hW1]
      exact hz1
    clear hW1 HR1 hq1 hf1 hz1 hz0 R0 R1 R2 R3 Rq Rg e0 e1 e2 e3 e5
    have c20 : ∀ o, (W1.alloc o).cell? ⟨w.heap.size + 1, 20, none⟩ = some (.slice oA hs.length oc) := fun o => (World.cell?_alloc_lt _ _ _ (show w.heap.size + 1 < W1.heap.size by omega)).trans ((cell_of_row _ _ 20 _ _ _ R11).trans rfl)
    have hmk := print_make_of 42 2 (.int .i64 0) 8 Tryz.underlying42 info_i rfl (by decide) m (by omega)
    go_upto_region 8 with (first
        | (at_builtin; refine Kd.R_append_row (w0 := W1) Hd.v default (w.heap.size + 1 + 1 + 1 + 1 + 1 + 1) rfl (.tmp 28) (.tmp 30) 41 42 _ 24 rfl Tryz.underlying41 info_h rfl (by decide) (.slice (some ⟨W1.heap.size, 0, none⟩) 0 0) [] hs oA hs.length oc (fun _ => True) rfl rfl (fun _ _ => trivial) (own_empty W1 _ _ _ rfl hz2) (Kd.C_below HO.out.now.row (below_alloc HW1.out _)) (Below.alloc (Below.refl _ _) hz2 _) (by simp; omega) (by simp; omega) ?_; intro v2 w2 hr2 hb2 hg2 _; have R12 := (hb2.block (w.heap.size + 1) (by omega)).trans R11; have R22 := (hb2.block (w.heap.size + 1 + 1) (by omega)).trans R21; have R32 := (hb2.block (w.heap.size + 1 + 1 + 1) (by omega)).trans R31; have Rq2 := (hb2.block (w.heap.size + 1 + 1 + 1 + 1 + 1) (by omega)).trans Rq1; have Rg2 := (hb2.block (w.heap.size + 1 + 1 + 1 + 1) (by omega)).trans Rg1; replace R12 := Aside0.mk R12; replace R22 := Aside0.mk R22; replace R32 := Aside0.mk R32; replace Rq2 := Aside0.mk Rq2; replace Rg2 := Aside0.mk Rg2; have hz3 : w.heap.size + 1 + 1 + 1 + 1 + 1 + 1 ≤ w2.heap.size := Nat.le_trans hz2 hb2.size; have HR2 := Aside0.mk hr2; have HB2 := Aside0.mk hb2; clear hr2 hb2 hg2)
        | (at_builtin; refine print_append_of (w0 := w2) Hd.v (w.heap.size + 1 + 1 + 1 + 1 + 1 + 1) rfl (.tmp 32) (.tmp 35) 41 42 _ 24 rfl Tryz.underlying41 info_h rfl (by decide) v2 ([] ++ hs) ⟨some ⟨w2.heap.size, 0, none⟩, m, m⟩ rfl (by first | (go_simp; done) | (simp [go_sem]; done)) rfl (pw_own_below (Kd.own_of_R HR2.out) (below_alloc (Below.refl _ _) _)) (Below.alloc (Below.refl _ _) hz3 _) (by simp; omega) (by simp; omega) ?_; intro v3 w3 hr3 hb3 hg3 _; have R13 := (hb3.block (w.heap.size + 1) (by omega)).trans (R12.out); have R23 := (hb3.block (w.heap.size + 1 + 1) (by omega)).trans (R22.out); have R33 := (hb3.block (w.heap.size + 1 + 1 + 1) (by omega)).trans (R32.out); have Rq3 := (hb3.block (w.heap.size + 1 + 1 + 1 + 1 + 1) (by omega)).trans (Rq2.out); have Rg3 := (hb3.block (w.heap.size + 1 + 1 + 1 + 1) (by omega)).trans (Rg2.out); replace R13 := Aside0.mk R13; replace R23 := Aside0.mk R23; replace R33 := Aside0.mk R33; replace Rq3 := Aside0.mk Rq3; replace Rg3 := Aside0.mk Rg3; have kk := (cell_of_row _ _ 20 _ _ _ R13.out).trans rfl; have kf := frozen_of_row w3 (w.heap.size + 1) 20 _ _ R13.out; have HN3 := Aside0.mk (hg3.block w2.heap.size); have hr3' := Kd.R_of_own (h1 := Hd.one) (ok := fun _ => True) hr3 fun _ _ => trivial; obtain ⟨An, cn, en, hcn, _⟩ := Kd.R_reads hr3'; subst en; have HCn := Aside0.mk hcn; have HR3 := Aside0.mk hr3'; clear hr3' hcn; have HB3 := Aside0.mk hb3; clear hr3 hb3 hg3))
    have HOB3 : Aside0 (ObF w3 (fun k => (P k ∧ k < w.heap.size) ∨ w.heap.size + 1 + 1 + 1 + 1 + 1 + 1 ≤ k) An (hs ++ [(⟨some ⟨w2.heap.size, 0, none⟩, m, m⟩ : Hd)]) (os ++ [List.replicate m 0])) := by
      constructor
      refine objs_append HO.out (Below.trans HW1.out (Below.trans (HB2.out.mono (by omega)) (HB3.out.mono (by omega)))) HR3.out ((HN3.out (by simp) fun e => ?_).trans (heap_alloc_new w2 _)) hz3 hm
      first | (have := Kd.R_lt HR2.out _ e; omega) | (have := Kd.R_lt HR2.out _ e.symm; omega)
    have HBw3 : Aside0 (Below w.heap.size w w3) := ⟨Below.trans HW1.out (Below.trans (HB2.out.mono (by omega)) (HB3.out.mono (by omega)))⟩
    have hz4 : w.heap.size + 1 + 1 + 1 + 1 + 1 + 1 ≤ w3.heap.size := Nat.le_trans hz3 HB3.out.size
    have HCn' : hs.length + 1 ≤ cn := by
      have := HCn.out
      simpa using this
    generalize hW4 : World.setCell _ _ _ = W4
    have R14 : W4.heap[w.heap.size + 1]? = some (.cells #[.int .i64 (n 0), .int .i64 (n 1), .int .i64 (n 2), .int .i64 (n 3), .int .i64 (n 4), .int .i64 (n 5), .int .i64 (n 6), .int .i64 (n 7), .int .i64 (n 8), .int .i64 (n 9), .int .i64 (n 10), .int .i64 (n 11), .int .i64 (n 12), .int .i64 (n 13), .int .i64 (n 14), .int .i64 (n 15), .int .i64 (n 16), .int .i64 (n 17), .int .i64 (n 18), .int .i64 (n 19), .slice An (hs.length + 1) cn, .slice tA tl tc, .int .i64 pc, .int .i64 st] 44 (0, 0)) := by
      rw [← hW4]
      refine Eq.trans (row_cellS _ R13.out) ?_
      simp
    have R24 : W4.heap[w.heap.size + 1 + 1]? = some (.cells #[.int .u8 5, .int .u8 a, .int .u8 b, .int .u8 c, .int .i64 N] 46 (0, 0)) := by rw [← hW4]; exact row_cellO _ _ (show w.heap.size + 1 + 1 ≠ w.heap.size + 1 by omega) R23.out
    have R34 : W4.heap[w.heap.size + 1 + 1 + 1]? = some (.cells #[.int .i64 0, .int .i64 0, .int .i64 0, .int .i64 0, .int .i64 0, .int .i64 0, .int .i64 0, .int .i64 0, .int .i64 0, .int .i64 0, .int .i64 0, .int .i64 0, .int .i64 0, .int .i64 0, .int .i64 0, .int .i64 0, .int .i64 0, .int .i64 0, .int .i64 0, .int .i64 0, .slice none 0 0, .slice none 0 0, .int .i64 0, .int .i64 0] 44 (0, 0)) := by rw [← hW4]; exact row_cellO _ _ (show w.heap.size + 1 + 1 + 1 ≠ w.heap.size + 1 by omega) R33.out
    have Rq4 : W4.heap[w.heap.size + 1 + 1 + 1 + 1 + 1]? = some (.cells #[.int .i64 (n 8), .int .i64 (n 9), .int .i64 (n 10), .int .i64 (n 11), .int .i64 (n 12), .int .i64 (n 13), .int .i64 (n 14), .int .i64 (n 15)] 39 (0, 0)) := by rw [← hW4]; exact row_cellO _ _ (show w.heap.size + 1 + 1 + 1 + 1 + 1 ≠ w.heap.size + 1 by omega) Rq3.out
    have Rg4 : W4.heap[w.heap.size + 1 + 1 + 1 + 1]? = some (.cells #[.int .i64 (n 16), .int .i64 (n 17), .int .i64 (n 18), .int .i64 (n 19)] 40 (0, 0)) := by rw [← hW4]; exact row_cellO _ _ (show w.heap.size + 1 + 1 + 1 + 1 ≠ w.heap.size + 1 by omega) Rg3.out
    have k1 := (cell_of_row W4 _ 1 _ _ _ R24).trans rfl
    have k2 := (cell_of_row W4 _ 20 _ _ _ R14).trans rfl
    have k3 : W4.cell? ⟨w.heap.size + 1 + 1 + 1 + 1 + 1, a, none⟩ = some (.int .i64 (n (8 + a))) := (cell_of_row W4 _ a _ _ _ Rq4).trans (by simpa using ra)
    have k4 := frozen_of_row W4 (w.heap.size + 1 + 1 + 1 + 1 + 1) a _ _ Rq4
    clear R12 R22 R32 Rq2 Rg2 R13 R23 R33 Rq3 Rg3 R11 R21 R31 Rq1 Rg1 c20 hmk kk kf HN3 HR3 HR2
    go_upto_region 17 with (fail)
    generalize hW5 : World.setCell _ _ _ = W5
    have R15 : W5.heap[w.heap.size + 1]? = some (.cells #[.int .i64 (n 0), .int .i64 (n 1), .int .i64 (n 2), .int .i64 (n 3), .int .i64 (n 4), .int .i64 (n 5), .int .i64 (n 6), .int .i64 (n 7), .int .i64 (n 8), .int .i64 (n 9), .int .i64 (n 10), .int .i64 (n 11), .int .i64 (n 12), .int .i64 (n 13), .int .i64 (n 14), .int .i64 (n 15), .int .i64 (n 16), .int .i64 (n 17), .int .i64 (n 18), .int .i64 (n 19), .slice An (hs.length + 1) cn, .slice tA tl tc, .int .i64 pc, .int .i64 st] 44 (0, 0)) := by rw [← hW5]; exact row_cellO _ _ (show w.heap.size + 1 ≠ w.heap.size + 1 + 1 + 1 + 1 + 1 by omega) R14
    have R25 : W5.heap[w.heap.size + 1 + 1]? = some (.cells #[.int .u8 5, .int .u8 a, .int .u8 b, .int .u8 c, .int .i64 N] 46 (0, 0)) := by rw [← hW5]; exact row_cellO _ _ (show w.heap.size + 1 + 1 ≠ w.heap.size + 1 + 1 + 1 + 1 + 1 by omega) R24
    have R35 : W5.heap[w.heap.size + 1 + 1 + 1]? = some (.cells #[.int .i64 0, .int .i64 0, .int .i64 0, .int .i64 0, .int .i64 0, .int .i64 0, .int .i64 0, .int .i64 0, .int .i64 0, .int .i64 0, .int .i64 0, .int .i64 0, .int .i64 0, .int .i64 0, .int .i64 0, .int .i64 0, .int .i64 0, .int .i64 0, .int .i64 0, .int .i64 0, .slice none 0 0, .slice none 0 0, .int .i64 0, .int .i64 0] 44 (0, 0)) := by rw [← hW5]; exact row_cellO _ _ (show w.heap.size + 1 + 1 + 1 ≠ w.heap.size + 1 + 1 + 1 + 1 + 1 by omega) R34
    have Rq5 : W5.heap[w.heap.size + 1 + 1 + 1 + 1 + 1]? = some (.cells #[.int .i64 (upd n (8 + a) ((hs.length : Int) + 1) 8), .int .i64 (upd n (8 + a) ((hs.length : Int) + 1) 9), .int .i64 (upd n (8 + a) ((hs.length : Int) + 1) 10), .int .i64 (upd n (8 + a) ((hs.length : Int) + 1) 11), .int .i64 (upd n (8 + a) ((hs.length : Int) + 1) 12), .int .i64 (upd n (8 + a) ((hs.length : Int) + 1) 13), .int .i64 (upd n (8 + a) ((hs.length : Int) + 1) 14), .int .i64 (upd n (8 + a) ((hs.length : Int) + 1) 15)] 39 (0, 0)) := by
      rw [← hW5]
      refine Eq.trans (row_cellS _ Rq4) ?_
      simp only [List.setIfInBounds_toArray, s8]
    have Rg5 : W5.heap[w.heap.size + 1 + 1 + 1 + 1]? = some (.cells #[.int .i64 (n 16), .int .i64 (n 17), .int .i64 (n 18), .int .i64 (n 19)] 40 (0, 0)) := by rw [← hW5]; exact row_cellO _ _ (show w.heap.size + 1 + 1 + 1 + 1 ≠ w.heap.size + 1 + 1 + 1 + 1 + 1 by omega) Rg4
    have kq := fun j => cell_of_row W5 (w.heap.size + 1 + 1 + 1 + 1 + 1) j _ _ _ Rq5
    have kg := fun j => cell_of_row W5 (w.heap.size + 1 + 1 + 1 + 1) j _ _ _ Rg5
    have ks := fun j => cell_of_row W5 (w.heap.size + 1) j _ _ _ R15
    have fs := fun j => frozen_of_row W5 (w.heap.size + 1) j _ _ R15
    clear k1 k2 k3 k4 R14 R24 R34 Rq4 Rg4 Rq5 Rg5 R25
    go_upto_region 19 with (fail)
    generalize hW6 : World.setCell _ _ _ = W6
    have R16 : W6.heap[w.heap.size + 1]? = some (.cells #[.int .i64 (n 0), .int .i64 (n 1), .int .i64 (n 2), .int .i64 (n 3), .int .i64 (n 4), .int .i64 (n 5), .int .i64 (n 6), .int .i64 (n 7), .int .i64 (upd n (8 + a) ((hs.length : Int) + 1) 8), .int .i64 (upd n (8 + a) ((hs.length : Int) + 1) 9), .int .i64 (upd n (8 + a) ((hs.length : Int) + 1) 10), .int .i64 (upd n (8 + a) ((hs.length : Int) + 1) 11), .int .i64 (upd n (8 + a) ((hs.length : Int) + 1) 12), .int .i64 (upd n (8 + a) ((hs.length : Int) + 1) 13), .int .i64 (upd n (8 + a) ((hs.length : Int) + 1) 14), .int .i64 (upd n (8 + a) ((hs.length : Int) + 1) 15), .int .i64 (n 16), .int .i64 (n 17), .int .i64 (n 18), .int .i64 (n 19), .slice An (hs.length + 1) cn, .slice tA tl tc, .int .i64 pc, .int .i64 st] 44 (0, 0)) := by
      rw [← hW6]
      refine Eq.trans (rowT (p := _ = some (.cells _ 44 (0, 0)))) ?_
      simp
    have R36 : W6.heap[w.heap.size + 1 + 1 + 1]? = some (.cells #[.int .i64 0, .int .i64 0, .int .i64 0, .int .i64 0, .int .i64 0, .int .i64 0, .int .i64 0, .int .i64 0, .int .i64 0, .int .i64 0, .int .i64 0, .int .i64 0, .int .i64 0, .int .i64 0, .int .i64 0, .int .i64 0, .int .i64 0, .int .i64 0, .int .i64 0, .int .i64 0, .slice none 0 0, .slice none 0 0, .int .i64 0, .int .i64 0] 44 (0, 0)) := by
      rw [← hW6]
      exact rowT
    have HOB : ∀ cs, ObF (W6.setRow (w.heap.size + 1 + 1 + 1) cs) (fun k => P k ∨ w.heap.size ≤ k) An (hs ++ [(⟨some ⟨w2.heap.size, 0, none⟩, m, m⟩ : Hd)]) (os ++ [List.replicate m 0]) := by
      intro cs
      refine ObF.mono (P := (fun k => (P k ∧ k < w.heap.size) ∨ w.heap.size + 1 + 1 + 1 + 1 + 1 + 1 ≤ k)) (ObF.step HOB3.out fun k hk hl => ⟨?_, ?_⟩) fun k hk => hk.imp (fun h => h.1) fun h => by omega
      · rw [setRow_other W6 (w.heap.size + 1 + 1 + 1) k cs (by omega), ← hW6, ← hW5, ← hW4]
        repeat (first | (with_reducible rfl) | (with_reducible refine (heap_setCell_other _ _ _ _ ?_).trans ?_; focus (first | (show k ≠ w.heap.size + 1; omega) | (show k ≠ w.heap.size + 1 + 1 + 1 + 1 + 1; omega))))
      · rw [← hW6, ← hW5, ← hW4]
        simpa [World.setRow, World.setCell] using hl
    have HBW : Aside0 (Below w.heap.size w W6) := by
      constructor
      rw [← hW6, ← hW5, ← hW4]
      repeat (first | (with_reducible exact HBw3.out) | (with_reducible refine below_set ?_ ?_; rotate_left; focus omega))
    have HOB' := Aside0.mk HOB
    clear HOB hW6 hW5 hW4 kq kg ks fs R15 R35
    go_wp2_with (first
        | (apply ldS; (with_reducible rfl); rfl; rfl; exact rowT; rfl)
        | (apply srS; (with_reducible rfl); rfl; rfl; rfl; exact rowT; rfl; rfl; rfl; rfl))
    refine ret2S rfl rfl rfl rfl (setRow_heap _ _ _ _ _ _ R36) rfl ⟨An, cn, hs ++ [(⟨some ⟨w2.heap.size, 0, none⟩, m, m⟩ : Hd)], ?_, by simpa using HCn', HOB'.out _, below_row HBW.out (by omega)⟩
    simp
end
end Go.Proofs.YtocechpmgfhenaaGreatDoor.ST

namespace Go.Proofs.YtocechpmgfhenaaGreatDoor.ST
open Go.RowKit Go.Proofs.YtocechpmgfhenaaGreatDoorW.PrintWords Go.Proofs.YtocechpmgfhenaaGreatDoor.F Go.Proofs.YtocechpmgfhenaaGreatDoor.ST0
set_option linter.unusedVariables false
set_option linter.unusedSimpArgs false
set_option linter.unusedSectionVars false
abbrev CkO (w : World) (A0 : Option Addr) (c0 : Nat) (ts : List ByteArray) (la gl : ByteArray) (A3 : Option Addr) (c3 : Nat) (code : List S46) : Prop :=
  ∀ W, Below w.heap.size w W → Calls Tryz.prog 15 #[.agg #[.slice A0 ts.length c0, .string la, .string gl, .slice A3 code.length c3]] W fun e w' => (∃ r : Int, e = .returned (.tuple #[.int .i64 r, .int .i64 0])) ∧ Below W.heap.size W w'
theorem CkO.below {w w' : World} {A0 : Option Addr} {c0 : Nat} {ts : List ByteArray} {la gl : ByteArray} {A3 : Option Addr} {c3 : Nat} {code : List S46} (h : CkO w A0 c0 ts la gl A3 c3 code) (hb : Below w.heap.size w w') : CkO w' A0 c0 ts la gl A3 c3 code := fun W hW => h W (Below.trans hb (hW.mono hb.size))
section
variable (w : World) (n : Nat → Int) (oA tA : Option Addr) (ol oc tl tc : Nat) (p : Nat) (st : Int) (A0 : Option Addr) (c0 : Nat) (ts : List ByteArray) (la gl : ByteArray) (A3 : Option Addr) (c3 : Nat) (code : List S46)
  (hT : Kd.C Kd.string w A0 ts.length ts) (hc0 : ts.length ≤ c0) (hC : Kd.C k46 w A3 code.length code) (hc3 : code.length ≤ c3) (hK : CkO w A0 c0 ts la gl A3 c3 code)
include hT hc0 hC hc3 hK
set_option maxHeartbeats 2000000 in
set_option maxRecDepth 100000 in
theorem step_end (hp : p = code.length) :
    Calls Tryz.prog 14 #[.agg #[.slice A0 ts.length c0, .string la, .string gl, .slice A3 code.length c3], .agg #[.int .i64 (n 0), .int .i64 (n 1), .int .i64 (n 2), .int .i64 (n 3), .int .i64 (n 4), .int .i64 (n 5), .int .i64 (n 6), .int .i64 (n 7), .int .i64 (n 8), .int .i64 (n 9), .int .i64 (n 10), .int .i64 (n 11), .int .i64 (n 12), .int .i64 (n 13), .int .i64 (n 14), .int .i64 (n 15), .int .i64 (n 16), .int .i64 (n 17), .int .i64 (n 18), .int .i64 (n 19), .slice oA ol oc, .slice tA tl tc, .int .i64 p, .int .i64 st]] w fun e w' => e = .returned (.tuple #[.agg #[.int .i64 (n 0), .int .i64 (n 1), .int .i64 (n 2), .int .i64 (n 3), .int .i64 (n 4), .int .i64 (n 5), .int .i64 (n 6), .int .i64 (n 7), .int .i64 (n 8), .int .i64 (n 9), .int .i64 (n 10), .int .i64 (n 11), .int .i64 (n 12), .int .i64 (n 13), .int .i64 (n 14), .int .i64 (n 15), .int .i64 (n 16), .int .i64 (n 17), .int .i64 (n 18), .int .i64 (n 19), .slice oA ol oc, .slice tA tl tc, .int .i64 p, .int .i64 st], .bool true, .int .i64 0]) ∧ Below w.heap.size w w' := by
  have HT := Aside0.mk hT
  have HC := Aside0.mk hC
  have HK := Aside0.mk hK
  clear hT hC hK
  have p0 : ¬ (p : Int) < 0 := by omega
  have p1 : ¬ (p : Int) > (code.length : Int) := by omega
  have p2 : ((p : Int) == (code.length : Int)) = true := by rw [hp]; exact beq_self_eq_true _
  clear hp
  go_enter Tryz.func14, Tryz.ntmps14
  go_wp2_with (first
    | (go_at_call 15; (with_reducible refine (HK.out _ (by repeat (first | exact Below.refl _ _ | refine below_alloc ?_ _ | refine below_drew1 ?_ | refine pw_below_drewN ?_ _))).mono ?_); rintro e w1 ⟨⟨r0, rfl⟩, hb1⟩; have R0 := (hb1.block (w.heap.size) (by simp; try omega)).trans (rowT (p := _ = some (.cells _ 25 (0, 0)))); have R1 := (hb1.block (w.heap.size + 1) (by simp; try omega)).trans (rowT (p := _ = some (.cells _ 44 (0, 0)))); have R3 := (hb1.block (w.heap.size + 1 + 1) (by simp; try omega)).trans (rowT (p := _ = some (.cells _ 44 (0, 0)))); have hz1 : w.heap.size + 1 + 1 + 1 ≤ w1.heap.size := Nat.le_trans (by simp) hb1.size; have HB1 := Aside0.mk (show Below w.heap.size w w1 from Below.trans (by repeat (first | exact Below.refl _ _ | refine below_alloc ?_ _ | refine below_drew1 ?_ | refine pw_below_drewN ?_ _)) (hb1.mono (by simp; try omega))); clear hb1; have kp := fun j => cell_of_row w1 (w.heap.size) j _ _ _ R0; have ks := fun j => cell_of_row w1 (w.heap.size + 1) j _ _ _ R1)
    | (apply ldS; (with_reducible rfl); rfl; rfl; exact rowT; rfl)
    | (apply srS; (with_reducible rfl); rfl; rfl; rfl; exact rowT; rfl; rfl; rfl; rfl))
  refine ret3S rfl rfl rfl rfl rfl (setRow_heap _ _ _ _ _ _ R3) rfl ⟨rfl, below_row HB1.out (by omega)⟩
set_option maxHeartbeats 2000000 in
set_option maxRecDepth 100000 in
theorem step_jump (a b c : Nat) (N : Int) (hp : p < code.length) (x0 : (rd_T46 code p).f0 = 3) (x1 : (rd_T46 code p).f1 = a) (x2 : (rd_T46 code p).f2 = b) (x3 : (rd_T46 code p).f3 = c) (x4 : (rd_T46 code p).f4 = N) :
    Calls Tryz.prog 14 #[.agg #[.slice A0 ts.length c0, .string la, .string gl, .slice A3 code.length c3], .agg #[.int .i64 (n 0), .int .i64 (n 1), .int .i64 (n 2), .int .i64 (n 3), .int .i64 (n 4), .int .i64 (n 5), .int .i64 (n 6), .int .i64 (n 7), .int .i64 (n 8), .int .i64 (n 9), .int .i64 (n 10), .int .i64 (n 11), .int .i64 (n 12), .int .i64 (n 13), .int .i64 (n 14), .int .i64 (n 15), .int .i64 (n 16), .int .i64 (n 17), .int .i64 (n 18), .int .i64 (n 19), .slice oA ol oc, .slice tA tl tc, .int .i64 p, .int .i64 st]] w fun e w' => e = .returned (.tuple #[.agg #[.int .i64 (n 0), .int .i64 (n 1), .int .i64 (n 2), .int .i64 (n 3), .int .i64 (n 4), .int .i64 (n 5), .int .i64 (n 6), .int .i64 (n 7), .int .i64 (n 8), .int .i64 (n 9), .int .i64 (n 10), .int .i64 (n 11), .int .i64 (n 12), .int .i64 (n 13), .int .i64 (n 14), .int .i64 (n 15), .int .i64 (n 16), .int .i64 (n 17), .int .i64 (n 18), .int .i64 (n 19), .slice oA ol oc, .slice tA tl tc, .int .i64 N, .int .i64 (wrap64 (st + 1))], .bool false, .int .i64 0]) ∧ Below w.heap.size w w' := by
  have hmax := Kd.C_max hC
  obtain ⟨ad, eA, _⟩ := at_T46 hC (p : Int) (by omega) (by omega)
  subst eA
  have HT := Aside0.mk hT
  have HC := Aside0.mk hC
  have HK := Aside0.mk hK
  clear hT hC hK
  have p0 : ¬ (p : Int) < 0 := by omega
  have q0 : (0 : Int) ≤ p := by omega
  have q1 : (p : Int) < code.length := by omega
  have p1 : ¬ (p : Int) > (code.length : Int) := by omega
  have p2 : ((p : Int) == (code.length : Int)) = false := by
    rw [beq_eq_false_iff_ne]
    omega
  have X0 := Aside0.mk x0
  have X1 := Aside0.mk x1
  have X2 := Aside0.mk x2
  have X3 := Aside0.mk x3
  have X4 := Aside0.mk x4
  clear x0 x1 x2 x3 x4
  go_enter Tryz.func14, Tryz.ntmps14
  go_wp2_with (first
    | (go_at_call 15; (with_reducible refine (HK.out _ (by repeat (first | exact Below.refl _ _ | refine below_alloc ?_ _ | refine below_drew1 ?_ | refine pw_below_drewN ?_ _))).mono ?_); rintro e w1 ⟨⟨r0, rfl⟩, hb1⟩; have R0 := (hb1.block (w.heap.size) (by simp; try omega)).trans (rowT (p := _ = some (.cells _ 25 (0, 0)))); have R1 := (hb1.block (w.heap.size + 1) (by simp; try omega)).trans (rowT (p := _ = some (.cells _ 44 (0, 0)))); have R3 := (hb1.block (w.heap.size + 1 + 1) (by simp; try omega)).trans (rowT (p := _ = some (.cells _ 44 (0, 0)))); have hz1 : w.heap.size + 1 + 1 + 1 ≤ w1.heap.size := Nat.le_trans (by simp) hb1.size; have HB1 := Aside0.mk (show Below w.heap.size w w1 from Below.trans (by repeat (first | exact Below.refl _ _ | refine below_alloc ?_ _ | refine below_drew1 ?_ | refine pw_below_drewN ?_ _)) (hb1.mono (by simp; try omega))); clear hb1; have kp := fun j => cell_of_row w1 (w.heap.size) j _ _ _ R0; have ks := fun j => cell_of_row w1 (w.heap.size + 1) j _ _ _ R1; obtain ⟨_, ea, y0, y1, y2, y3, y4⟩ := at_T46 (Kd.C_below HC.out HB1.out) (p : Int) q0 q1; cases ea; rw [Int.toNat_natCast] at y0 y1 y2 y3 y4; rw [X0.out] at y0; rw [X1.out] at y1; rw [X2.out] at y2; rw [X3.out] at y3; rw [X4.out] at y4; have c22 : ∀ q r : Obj, ((w1.alloc q).alloc r).cell? ⟨w.heap.size + 1, 22, none⟩ = some (.int .i64 p) := fun q r => cell_more2 (by omega) ((ks 22).trans rfl) q r; have c23 : ∀ q r : Obj, ((w1.alloc q).alloc r).cell? ⟨w.heap.size + 1, 23, none⟩ = some (.int .i64 st) := fun q r => cell_more2 (by omega) ((ks 23).trans rfl) q r; have R3X : ∀ q r : Obj, ((w1.alloc q).alloc r).heap[w.heap.size + 1 + 1]? = _ := fun q r => row_old _ _ _ (by simp; omega) (row_old _ _ _ (by omega) R3); skip)
    | (apply ldS; (with_reducible rfl); rfl; rfl; exact rowT; rfl)
    | (apply srS; (with_reducible rfl); rfl; rfl; rfl; exact rowT; rfl; rfl; rfl; exact setT))
  refine ret3S rfl rfl rfl rfl rfl rowT rfl ⟨rfl, ?_⟩
  repeat (first | exact HB1.out | refine below_alloc ?_ _ | refine below_row ?_ (by omega))
set_option maxHeartbeats 2000000 in
set_option maxRecDepth 100000 in
theorem step_zero (a b c : Nat) (N : Int) (hp : p < code.length) (x0 : (rd_T46 code p).f0 = 4) (x1 : (rd_T46 code p).f1 = a) (x2 : (rd_T46 code p).f2 = b) (x3 : (rd_T46 code p).f3 = c) (x4 : (rd_T46 code p).f4 = N) (ha : (a : Int) < 8) (hz : n a = 0) :
    Calls Tryz.prog 14 #[.agg #[.slice A0 ts.length c0, .string la, .string gl, .slice A3 code.length c3], .agg #[.int .i64 (n 0), .int .i64 (n 1), .int .i64 (n 2), .int .i64 (n 3), .int .i64 (n 4), .int .i64 (n 5), .int .i64 (n 6), .int .i64 (n 7), .int .i64 (n 8), .int .i64 (n 9), .int .i64 (n 10), .int .i64 (n 11), .int .i64 (n 12), .int .i64 (n 13), .int .i64 (n 14), .int .i64 (n 15), .int .i64 (n 16), .int .i64 (n 17), .int .i64 (n 18), .int .i64 (n 19), .slice oA ol oc, .slice tA tl tc, .int .i64 p, .int .i64 st]] w fun e w' => e = .returned (.tuple #[.agg #[.int .i64 (n 0), .int .i64 (n 1), .int .i64 (n 2), .int .i64 (n 3), .int .i64 (n 4), .int .i64 (n 5), .int .i64 (n 6), .int .i64 (n 7), .int .i64 (n 8), .int .i64 (n 9), .int .i64 (n 10), .int .i64 (n 11), .int .i64 (n 12), .int .i64 (n 13), .int .i64 (n 14), .int .i64 (n 15), .int .i64 (n 16), .int .i64 (n 17), .int .i64 (n 18), .int .i64 (n 19), .slice oA ol oc, .slice tA tl tc, .int .i64 N, .int .i64 (wrap64 (st + 1))], .bool false, .int .i64 0]) ∧ Below w.heap.size w w' := by
  have hmax := Kd.C_max hC
  obtain ⟨ad, eA, _⟩ := at_T46 hC (p : Int) (by omega) (by omega)
  subst eA
  have HT := Aside0.mk hT
  have HC := Aside0.mk hC
  have HK := Aside0.mk hK
  clear hT hC hK
  have p0 : ¬ (p : Int) < 0 := by omega
  have q0 : (0 : Int) ≤ p := by omega
  have q1 : (p : Int) < code.length := by omega
  have p1 : ¬ (p : Int) > (code.length : Int) := by omega
  have p2 : ((p : Int) == (code.length : Int)) = false := by
    rw [beq_eq_false_iff_ne]
    omega
  have X0 := Aside0.mk x0
  have X1 := Aside0.mk x1
  have X2 := Aside0.mk x2
  have X3 := Aside0.mk x3
  have X4 := Aside0.mk x4
  clear x0 x1 x2 x3 x4
  have HZ := Aside0.mk hz
  clear hz
  have a0 : (0 : Int) ≤ a := by omega
  go_enter Tryz.func14, Tryz.ntmps14
  go_wp2_with (first
    | (go_at_call 15; (with_reducible refine (HK.out _ (by repeat (first | exact Below.refl _ _ | refine below_alloc ?_ _ | refine below_drew1 ?_ | refine pw_below_drewN ?_ _))).mono ?_); rintro e w1 ⟨⟨r0, rfl⟩, hb1⟩; have R0 := (hb1.block (w.heap.size) (by simp; try omega)).trans (rowT (p := _ = some (.cells _ 25 (0, 0)))); have R1 := (hb1.block (w.heap.size + 1) (by simp; try omega)).trans (rowT (p := _ = some (.cells _ 44 (0, 0)))); have R3 := (hb1.block (w.heap.size + 1 + 1) (by simp; try omega)).trans (rowT (p := _ = some (.cells _ 44 (0, 0)))); have hz1 : w.heap.size + 1 + 1 + 1 ≤ w1.heap.size := Nat.le_trans (by simp) hb1.size; have HB1 := Aside0.mk (show Below w.heap.size w w1 from Below.trans (by repeat (first | exact Below.refl _ _ | refine below_alloc ?_ _ | refine below_drew1 ?_ | refine pw_below_drewN ?_ _)) (hb1.mono (by simp; try omega))); clear hb1; have kp := fun j => cell_of_row w1 (w.heap.size) j _ _ _ R0; have ks := fun j => cell_of_row w1 (w.heap.size + 1) j _ _ _ R1; obtain ⟨_, ea, y0, y1, y2, y3, y4⟩ := at_T46 (Kd.C_below HC.out HB1.out) (p : Int) q0 q1; cases ea; rw [Int.toNat_natCast] at y0 y1 y2 y3 y4; rw [X0.out] at y0; rw [X1.out] at y1; rw [X2.out] at y2; rw [X3.out] at y3; rw [X4.out] at y4; have c22 : ∀ q r : Obj, ((w1.alloc q).alloc r).cell? ⟨w.heap.size + 1, 22, none⟩ = some (.int .i64 p) := fun q r => cell_more2 (by omega) ((ks 22).trans rfl) q r; have c23 : ∀ q r : Obj, ((w1.alloc q).alloc r).cell? ⟨w.heap.size + 1, 23, none⟩ = some (.int .i64 st) := fun q r => cell_more2 (by omega) ((ks 23).trans rfl) q r; have R3X : ∀ q r : Obj, ((w1.alloc q).alloc r).heap[w.heap.size + 1 + 1]? = _ := fun q r => row_old _ _ _ (by simp; omega) (row_old _ _ _ (by omega) R3); have cX : ∀ q r : Obj, ((w1.alloc q).alloc r).cell? ⟨w.heap.size + 1, a, none⟩ = some (.int .i64 0) := fun q r => cell_more2 (by omega) ((ks a).trans (by rw [← HZ.out]; exact rowSA _ _ _ _ _ a ha)) q r)
    | (apply ldS; (with_reducible rfl); rfl; rfl; exact rowT; rfl)
    | (apply srS; (with_reducible rfl); rfl; rfl; rfl; exact rowT; rfl; rfl; rfl; exact setT))
  refine ret3S rfl rfl rfl rfl rfl rowT rfl ⟨rfl, ?_⟩
  repeat (first | exact HB1.out | refine below_alloc ?_ _ | refine below_row ?_ (by omega))
set_option maxHeartbeats 2000000 in
set_option maxRecDepth 100000 in
theorem step_pass (a b c : Nat) (N : Int) (hp : p < code.length) (x0 : (rd_T46 code p).f0 = 4) (x1 : (rd_T46 code p).f1 = a) (x2 : (rd_T46 code p).f2 = b) (x3 : (rd_T46 code p).f3 = c) (x4 : (rd_T46 code p).f4 = N) (ha : (a : Int) < 8) (hz : ¬ n a = 0) :
    Calls Tryz.prog 14 #[.agg #[.slice A0 ts.length c0, .string la, .string gl, .slice A3 code.length c3], .agg #[.int .i64 (n 0), .int .i64 (n 1), .int .i64 (n 2), .int .i64 (n 3), .int .i64 (n 4), .int .i64 (n 5), .int .i64 (n 6), .int .i64 (n 7), .int .i64 (n 8), .int .i64 (n 9), .int .i64 (n 10), .int .i64 (n 11), .int .i64 (n 12), .int .i64 (n 13), .int .i64 (n 14), .int .i64 (n 15), .int .i64 (n 16), .int .i64 (n 17), .int .i64 (n 18), .int .i64 (n 19), .slice oA ol oc, .slice tA tl tc, .int .i64 p, .int .i64 st]] w fun e w' => e = .returned (.tuple #[.agg #[.int .i64 (n 0), .int .i64 (n 1), .int .i64 (n 2), .int .i64 (n 3), .int .i64 (n 4), .int .i64 (n 5), .int .i64 (n 6), .int .i64 (n 7), .int .i64 (n 8), .int .i64 (n 9), .int .i64 (n 10), .int .i64 (n 11), .int .i64 (n 12), .int .i64 (n 13), .int .i64 (n 14), .int .i64 (n 15), .int .i64 (n 16), .int .i64 (n 17), .int .i64 (n 18), .int .i64 (n 19), .slice oA ol oc, .slice tA tl tc, .int .i64 ((p : Int) + 1), .int .i64 (wrap64 (st + 1))], .bool false, .int .i64 0]) ∧ Below w.heap.size w w' := by
  have hmax := Kd.C_max hC
  obtain ⟨ad, eA, _⟩ := at_T46 hC (p : Int) (by omega) (by omega)
  subst eA
  have HT := Aside0.mk hT
  have HC := Aside0.mk hC
  have HK := Aside0.mk hK
  clear hT hC hK
  have p0 : ¬ (p : Int) < 0 := by omega
  have q0 : (0 : Int) ≤ p := by omega
  have q1 : (p : Int) < code.length := by omega
  have p1 : ¬ (p : Int) > (code.length : Int) := by omega
  have p2 : ((p : Int) == (code.length : Int)) = false := by
    rw [beq_eq_false_iff_ne]
    omega
  have X0 := Aside0.mk x0
  have X1 := Aside0.mk x1
  have X2 := Aside0.mk x2
  have X3 := Aside0.mk x3
  have X4 := Aside0.mk x4
  clear x0 x1 x2 x3 x4
  have hz' : (n a == 0) = false := by simpa using hz
  clear hz
  have a0 : (0 : Int) ≤ a := by omega
  go_enter Tryz.func14, Tryz.ntmps14
  go_wp2_with (first
    | (go_at_call 15; (with_reducible refine (HK.out _ (by repeat (first | exact Below.refl _ _ | refine below_alloc ?_ _ | refine below_drew1 ?_ | refine pw_below_drewN ?_ _))).mono ?_); rintro e w1 ⟨⟨r0, rfl⟩, hb1⟩; have R0 := (hb1.block (w.heap.size) (by simp; try omega)).trans (rowT (p := _ = some (.cells _ 25 (0, 0)))); have R1 := (hb1.block (w.heap.size + 1) (by simp; try omega)).trans (rowT (p := _ = some (.cells _ 44 (0, 0)))); have R3 := (hb1.block (w.heap.size + 1 + 1) (by simp; try omega)).trans (rowT (p := _ = some (.cells _ 44 (0, 0)))); have hz1 : w.heap.size + 1 + 1 + 1 ≤ w1.heap.size := Nat.le_trans (by simp) hb1.size; have HB1 := Aside0.mk (show Below w.heap.size w w1 from Below.trans (by repeat (first | exact Below.refl _ _ | refine below_alloc ?_ _ | refine below_drew1 ?_ | refine pw_below_drewN ?_ _)) (hb1.mono (by simp; try omega))); clear hb1; have kp := fun j => cell_of_row w1 (w.heap.size) j _ _ _ R0; have ks := fun j => cell_of_row w1 (w.heap.size + 1) j _ _ _ R1; obtain ⟨_, ea, y0, y1, y2, y3, y4⟩ := at_T46 (Kd.C_below HC.out HB1.out) (p : Int) q0 q1; cases ea; rw [Int.toNat_natCast] at y0 y1 y2 y3 y4; rw [X0.out] at y0; rw [X1.out] at y1; rw [X2.out] at y2; rw [X3.out] at y3; rw [X4.out] at y4; have c22 : ∀ q r : Obj, ((w1.alloc q).alloc r).cell? ⟨w.heap.size + 1, 22, none⟩ = some (.int .i64 p) := fun q r => cell_more2 (by omega) ((ks 22).trans rfl) q r; have c23 : ∀ q r : Obj, ((w1.alloc q).alloc r).cell? ⟨w.heap.size + 1, 23, none⟩ = some (.int .i64 st) := fun q r => cell_more2 (by omega) ((ks 23).trans rfl) q r; have R3X : ∀ q r : Obj, ((w1.alloc q).alloc r).heap[w.heap.size + 1 + 1]? = _ := fun q r => row_old _ _ _ (by simp; omega) (row_old _ _ _ (by omega) R3); have cX : ∀ q r : Obj, ((w1.alloc q).alloc r).cell? ⟨w.heap.size + 1, a, none⟩ = some (.int .i64 (n a)) := fun q r => cell_more2 (by omega) ((ks a).trans (rowSA _ _ _ _ _ a ha)) q r)
    | (apply ldS; (with_reducible rfl); rfl; rfl; exact rowT; rfl)
    | (apply srS; (with_reducible rfl); rfl; rfl; rfl; exact rowT; rfl; rfl; rfl; exact setT))
  refine ret3S rfl rfl rfl rfl rfl rowT rfl ⟨rfl, ?_⟩
  repeat (first | exact HB1.out | refine below_alloc ?_ _ | refine below_row ?_ (by omega))
set_option maxHeartbeats 2000000 in
set_option maxRecDepth 100000 in
theorem step_num (o : Int) (a b c : Nat) (N : Int) (hp : p < code.length) (x0 : (rd_T46 code p).f0 = o) (x1 : (rd_T46 code p).f1 = a) (x2 : (rd_T46 code p).f2 = b) (x3 : (rd_T46 code p).f3 = c) (x4 : (rd_T46 code p).f4 = N) (hj3 : ¬ o = 3) (hj4 : ¬ o = 4) (R : World → World → Array Value → Prop) (hN : ∀ W, Below w.heap.size w W → Calls Tryz.prog 27 #[.agg #[.int .i64 (n 0), .int .i64 (n 1), .int .i64 (n 2), .int .i64 (n 3), .int .i64 (n 4), .int .i64 (n 5), .int .i64 (n 6), .int .i64 (n 7), .int .i64 (n 8), .int .i64 (n 9), .int .i64 (n 10), .int .i64 (n 11), .int .i64 (n 12), .int .i64 (n 13), .int .i64 (n 14), .int .i64 (n 15), .int .i64 (n 16), .int .i64 (n 17), .int .i64 (n 18), .int .i64 (n 19), .slice oA ol oc, .slice tA tl tc, .int .i64 ((p : Int) + 1), .int .i64 (wrap64 (st + 1))], .agg #[.int .u8 o, .int .u8 a, .int .u8 b, .int .u8 c, .int .i64 N]] W fun e w' => ∃ U : Array Value, U.size = 24 ∧ U.toList.all (·.oneCell') = true ∧ e = .returned (.tuple #[.agg U, .bool true]) ∧ R W w' U ∧ Below W.heap.size W w') :
    Calls Tryz.prog 14 #[.agg #[.slice A0 ts.length c0, .string la, .string gl, .slice A3 code.length c3], .agg #[.int .i64 (n 0), .int .i64 (n 1), .int .i64 (n 2), .int .i64 (n 3), .int .i64 (n 4), .int .i64 (n 5), .int .i64 (n 6), .int .i64 (n 7), .int .i64 (n 8), .int .i64 (n 9), .int .i64 (n 10), .int .i64 (n 11), .int .i64 (n 12), .int .i64 (n 13), .int .i64 (n 14), .int .i64 (n 15), .int .i64 (n 16), .int .i64 (n 17), .int .i64 (n 18), .int .i64 (n 19), .slice oA ol oc, .slice tA tl tc, .int .i64 p, .int .i64 st]] w fun e w' => ∃ U W w2, e = .returned (.tuple #[.agg U, .bool false, .int .i64 0]) ∧ U.size = 24 ∧ R W w2 U ∧ Below w.heap.size w W ∧ w.heap.size + 1 + 1 + 1 ≤ W.heap.size ∧ (∀ k, (k < w.heap.size ∨ W.heap.size ≤ k) → k < w2.heap.size → w'.heap[k]? = w2.heap[k]? ∧ k < w'.heap.size) ∧ Below w.heap.size w w' := by
  have hmax := Kd.C_max hC
  obtain ⟨ad, eA, _⟩ := at_T46 hC (p : Int) (by omega) (by omega)
  subst eA
  have HT := Aside0.mk hT
  have HC := Aside0.mk hC
  have HK := Aside0.mk hK
  clear hT hC hK
  have p0 : ¬ (p : Int) < 0 := by omega
  have q0 : (0 : Int) ≤ p := by omega
  have q1 : (p : Int) < code.length := by omega
  have p1 : ¬ (p : Int) > (code.length : Int) := by omega
  have p2 : ((p : Int) == (code.length : Int)) = false := by
    rw [beq_eq_false_iff_ne]
    omega
  have X0 := Aside0.mk x0
  have X1 := Aside0.mk x1
  have X2 := Aside0.mk x2
  have X3 := Aside0.mk x3
  have X4 := Aside0.mk x4
  clear x0 x1 x2 x3 x4
  have e3 : (o == 3) = false := by simpa using hj3
  have e4 : (o == 4) = false := by simpa using hj4
  go_enter Tryz.func14, Tryz.ntmps14
  go_wp2_with (first
    | (go_at_call 15; (with_reducible refine (HK.out _ (by repeat (first | exact Below.refl _ _ | refine below_alloc ?_ _ | refine below_drew1 ?_ | refine pw_below_drewN ?_ _))).mono ?_); rintro e w1 ⟨⟨r0, rfl⟩, hb1⟩; have R0 := (hb1.block (w.heap.size) (by simp; try omega)).trans (rowT (p := _ = some (.cells _ 25 (0, 0)))); have R1 := (hb1.block (w.heap.size + 1) (by simp; try omega)).trans (rowT (p := _ = some (.cells _ 44 (0, 0)))); have R3 := (hb1.block (w.heap.size + 1 + 1) (by simp; try omega)).trans (rowT (p := _ = some (.cells _ 44 (0, 0)))); have hz1 : w.heap.size + 1 + 1 + 1 ≤ w1.heap.size := Nat.le_trans (by simp) hb1.size; have HB1 := Aside0.mk (show Below w.heap.size w w1 from Below.trans (by repeat (first | exact Below.refl _ _ | refine below_alloc ?_ _ | refine below_drew1 ?_ | refine pw_below_drewN ?_ _)) (hb1.mono (by simp; try omega))); clear hb1; have kp := fun j => cell_of_row w1 (w.heap.size) j _ _ _ R0; have ks := fun j => cell_of_row w1 (w.heap.size + 1) j _ _ _ R1; obtain ⟨_, ea, y0, y1, y2, y3, y4⟩ := at_T46 (Kd.C_below HC.out HB1.out) (p : Int) q0 q1; cases ea; rw [Int.toNat_natCast] at y0 y1 y2 y3 y4; rw [X0.out] at y0; rw [X1.out] at y1; rw [X2.out] at y2; rw [X3.out] at y3; rw [X4.out] at y4; have c22 : ∀ q r : Obj, ((w1.alloc q).alloc r).cell? ⟨w.heap.size + 1, 22, none⟩ = some (.int .i64 p) := fun q r => cell_more2 (by omega) ((ks 22).trans rfl) q r; have c23 : ∀ q r : Obj, ((w1.alloc q).alloc r).cell? ⟨w.heap.size + 1, 23, none⟩ = some (.int .i64 st) := fun q r => cell_more2 (by omega) ((ks 23).trans rfl) q r; have R3X : ∀ q r : Obj, ((w1.alloc q).alloc r).heap[w.heap.size + 1 + 1]? = _ := fun q r => row_old _ _ _ (by simp; omega) (row_old _ _ _ (by omega) R3); skip)
    | (go_at_call 27; (with_reducible refine (hN _ (by repeat (first | exact HB1.out | refine below_alloc ?_ _))).mono ?_); rintro e w2 ⟨U, hU, hU1, rfl, hRU, hb2⟩; have hz2 : w.heap.size + 1 + 1 + 1 ≤ w2.heap.size := Nat.le_trans (by simp; omega) hb2.size; have b3 := (hb2.block (w.heap.size + 1 + 1) (by simp; omega)).trans (R3X _ _); have HB2 := Aside0.mk (show Below w.heap.size w w2 from Below.trans (by repeat (first | exact HB1.out | refine below_alloc ?_ _)) (hb2.mono (by simp; omega))); have HRU := Aside0.mk hRU; clear hb2 hRU)
    | (apply ldS; (with_reducible rfl); rfl; rfl; exact rowT; (first | rfl | assumption))
    | (apply srS; (with_reducible rfl); rfl; rfl; rfl; exact rowT; (first | rfl | assumption); (first | rfl | assumption); (first | rfl | assumption); exact setT))
  refine ret3S rfl rfl rfl rfl rfl rowT hU ⟨U, _, w2, rfl, hU, HRU.out, (by repeat (first | exact HB1.out | refine below_alloc ?_ _)), by simp; omega, fun k hk hl => ⟨?_, ?_⟩, ?_⟩
  · refine (setRow_other _ _ _ _ fun e => ?_).trans (heap_old2 _ _ hl)
    rcases hk with hk | hk
    · omega
    · simp at hk
      omega
  · simp
    omega
  · repeat (first | exact HB2.out | refine below_alloc ?_ _ | refine below_row ?_ (by omega))
set_option maxHeartbeats 2000000 in
set_option maxRecDepth 100000 in
theorem step_ptr (o : Int) (a b c : Nat) (N : Int) (hp : p < code.length) (x0 : (rd_T46 code p).f0 = o) (x1 : (rd_T46 code p).f1 = a) (x2 : (rd_T46 code p).f2 = b) (x3 : (rd_T46 code p).f3 = c) (x4 : (rd_T46 code p).f4 = N) (hj3 : ¬ o = 3) (hj4 : ¬ o = 4) (R : World → World → Array Value → Prop) (hN : ∀ W, Below w.heap.size w W → Calls Tryz.prog 27 #[.agg #[.int .i64 (n 0), .int .i64 (n 1), .int .i64 (n 2), .int .i64 (n 3), .int .i64 (n 4), .int .i64 (n 5), .int .i64 (n 6), .int .i64 (n 7), .int .i64 (n 8), .int .i64 (n 9), .int .i64 (n 10), .int .i64 (n 11), .int .i64 (n 12), .int .i64 (n 13), .int .i64 (n 14), .int .i64 (n 15), .int .i64 (n 16), .int .i64 (n 17), .int .i64 (n 18), .int .i64 (n 19), .slice oA ol oc, .slice tA tl tc, .int .i64 ((p : Int) + 1), .int .i64 (wrap64 (st + 1))], .agg #[.int .u8 o, .int .u8 a, .int .u8 b, .int .u8 c, .int .i64 N]] W fun e w' => e = .returned (.tuple #[.agg #[.int .i64 (n 0), .int .i64 (n 1), .int .i64 (n 2), .int .i64 (n 3), .int .i64 (n 4), .int .i64 (n 5), .int .i64 (n 6), .int .i64 (n 7), .int .i64 (n 8), .int .i64 (n 9), .int .i64 (n 10), .int .i64 (n 11), .int .i64 (n 12), .int .i64 (n 13), .int .i64 (n 14), .int .i64 (n 15), .int .i64 (n 16), .int .i64 (n 17), .int .i64 (n 18), .int .i64 (n 19), .slice oA ol oc, .slice tA tl tc, .int .i64 ((p : Int) + 1), .int .i64 (wrap64 (st + 1))], .bool false]) ∧ Below W.heap.size W w') (hP : ∀ W, Below w.heap.size w W → Calls Tryz.prog 28 #[.agg #[.slice A0 ts.length c0, .string la, .string gl, .slice A3 code.length c3], .agg #[.int .i64 (n 0), .int .i64 (n 1), .int .i64 (n 2), .int .i64 (n 3), .int .i64 (n 4), .int .i64 (n 5), .int .i64 (n 6), .int .i64 (n 7), .int .i64 (n 8), .int .i64 (n 9), .int .i64 (n 10), .int .i64 (n 11), .int .i64 (n 12), .int .i64 (n 13), .int .i64 (n 14), .int .i64 (n 15), .int .i64 (n 16), .int .i64 (n 17), .int .i64 (n 18), .int .i64 (n 19), .slice oA ol oc, .slice tA tl tc, .int .i64 ((p : Int) + 1), .int .i64 (wrap64 (st + 1))], .agg #[.int .u8 o, .int .u8 a, .int .u8 b, .int .u8 c, .int .i64 N]] W fun e w' => ∃ U : Array Value, U.size = 24 ∧ U.toList.all (·.oneCell') = true ∧ e = .returned (.tuple #[.agg U, .bool true]) ∧ R W w' U ∧ Below W.heap.size W w') :
    Calls Tryz.prog 14 #[.agg #[.slice A0 ts.length c0, .string la, .string gl, .slice A3 code.length c3], .agg #[.int .i64 (n 0), .int .i64 (n 1), .int .i64 (n 2), .int .i64 (n 3), .int .i64 (n 4), .int .i64 (n 5), .int .i64 (n 6), .int .i64 (n 7), .int .i64 (n 8), .int .i64 (n 9), .int .i64 (n 10), .int .i64 (n 11), .int .i64 (n 12), .int .i64 (n 13), .int .i64 (n 14), .int .i64 (n 15), .int .i64 (n 16), .int .i64 (n 17), .int .i64 (n 18), .int .i64 (n 19), .slice oA ol oc, .slice tA tl tc, .int .i64 p, .int .i64 st]] w fun e w' => ∃ U W w2, e = .returned (.tuple #[.agg U, .bool false, .int .i64 0]) ∧ U.size = 24 ∧ R W w2 U ∧ Below w.heap.size w W ∧ w.heap.size + 1 + 1 + 1 ≤ W.heap.size ∧ (∀ k, (k < w.heap.size ∨ W.heap.size ≤ k) → k < w2.heap.size → w'.heap[k]? = w2.heap[k]? ∧ k < w'.heap.size) ∧ Below w.heap.size w w' := by
  have hmax := Kd.C_max hC
  obtain ⟨ad, eA, _⟩ := at_T46 hC (p : Int) (by omega) (by omega)
  subst eA
  have HT := Aside0.mk hT
  have HC := Aside0.mk hC
  have HK := Aside0.mk hK
  clear hT hC hK
  have p0 : ¬ (p : Int) < 0 := by omega
  have q0 : (0 : Int) ≤ p := by omega
  have q1 : (p : Int) < code.length := by omega
  have p1 : ¬ (p : Int) > (code.length : Int) := by omega
  have p2 : ((p : Int) == (code.length : Int)) = false := by
    rw [beq_eq_false_iff_ne]
    omega
  have X0 := Aside0.mk x0
  have X1 := Aside0.mk x1
  have X2 := Aside0.mk x2
  have X3 := Aside0.mk x3
  have X4 := Aside0.mk x4
  clear x0 x1 x2 x3 x4
  have e3 : (o == 3) = false := by simpa using hj3
  have e4 : (o == 4) = false := by simpa using hj4
  go_enter Tryz.func14, Tryz.ntmps14
  go_wp2_with (first
    | (go_at_call 15; (with_reducible refine (HK.out _ (by repeat (first | exact Below.refl _ _ | refine below_alloc ?_ _ | refine below_drew1 ?_ | refine pw_below_drewN ?_ _))).mono ?_); rintro e w1 ⟨⟨r0, rfl⟩, hb1⟩; have R0 := (hb1.block (w.heap.size) (by simp; try omega)).trans (rowT (p := _ = some (.cells _ 25 (0, 0)))); have R1 := (hb1.block (w.heap.size + 1) (by simp; try omega)).trans (rowT (p := _ = some (.cells _ 44 (0, 0)))); have R3 := (hb1.block (w.heap.size + 1 + 1) (by simp; try omega)).trans (rowT (p := _ = some (.cells _ 44 (0, 0)))); have hz1 : w.heap.size + 1 + 1 + 1 ≤ w1.heap.size := Nat.le_trans (by simp) hb1.size; have HB1 := Aside0.mk (show Below w.heap.size w w1 from Below.trans (by repeat (first | exact Below.refl _ _ | refine below_alloc ?_ _ | refine below_drew1 ?_ | refine pw_below_drewN ?_ _)) (hb1.mono (by simp; try omega))); clear hb1; have kp := fun j => cell_of_row w1 (w.heap.size) j _ _ _ R0; have ks := fun j => cell_of_row w1 (w.heap.size + 1) j _ _ _ R1; obtain ⟨_, ea, y0, y1, y2, y3, y4⟩ := at_T46 (Kd.C_below HC.out HB1.out) (p : Int) q0 q1; cases ea; rw [Int.toNat_natCast] at y0 y1 y2 y3 y4; rw [X0.out] at y0; rw [X1.out] at y1; rw [X2.out] at y2; rw [X3.out] at y3; rw [X4.out] at y4; have c22 : ∀ q r : Obj, ((w1.alloc q).alloc r).cell? ⟨w.heap.size + 1, 22, none⟩ = some (.int .i64 p) := fun q r => cell_more2 (by omega) ((ks 22).trans rfl) q r; have c23 : ∀ q r : Obj, ((w1.alloc q).alloc r).cell? ⟨w.heap.size + 1, 23, none⟩ = some (.int .i64 st) := fun q r => cell_more2 (by omega) ((ks 23).trans rfl) q r; have R3X : ∀ q r : Obj, ((w1.alloc q).alloc r).heap[w.heap.size + 1 + 1]? = _ := fun q r => row_old _ _ _ (by simp; omega) (row_old _ _ _ (by omega) R3); skip)
    | (go_at_call 27; (with_reducible refine (hN _ (by repeat (first | exact HB1.out | refine below_alloc ?_ _))).mono ?_); rintro e w2 ⟨rfl, hb2⟩; have hz2 : w1.heap.size + 1 + 1 ≤ w2.heap.size := Nat.le_trans (by simp) hb2.size; have b3 := (hb2.block (w.heap.size + 1 + 1) (by simp; omega)).trans (R3X _ _); have b0 := (hb2.block (w.heap.size) (by simp; omega)).trans (row_old _ _ _ (by simp; omega) (row_old _ _ _ (by omega) R0)); have b1 := (hb2.block (w.heap.size + 1) (by simp; omega)).trans (row_old _ _ _ (by simp; omega) (row_old _ _ _ (by omega) R1)); have bI := (hb2.block (w1.heap.size) (by simp <;> omega)).trans (rowT (p := _ = some (.cells _ 46 (0, 0)))); have bT := (hb2.block (w1.heap.size + 1) (by simp)).trans (rowT (p := _ = some (.cells _ 44 (0, 0)))); have HB2 := Aside0.mk (show Below w.heap.size w w2 from Below.trans (by repeat (first | exact HB1.out | refine below_alloc ?_ _)) (hb2.mono (by simp; omega))); have kp2 := fun q j => cell_of_row (w2.alloc q) _ j _ _ _ (row_old _ q _ (by omega) b0); have kI2 := fun q j => cell_of_row (w2.alloc q) _ j _ _ _ (row_old _ q _ (by omega) bI); clear hb2 R0 R1 R3)
    | (go_at_call 28; (with_reducible refine (hP _ (by repeat (first | exact HB2.out | refine below_alloc ?_ _))).mono ?_); rintro e w3 ⟨U, hU, hU1, rfl, hRU, hb3⟩; have hz3 : w2.heap.size + 1 ≤ w3.heap.size := Nat.le_trans (by simp) hb3.size; have b33 := (hb3.block (w.heap.size + 1 + 1) (by simp; omega)).trans (row_old _ _ _ (by omega) b3); have HB3 := Aside0.mk (show Below w.heap.size w w3 from Below.trans (by repeat (first | exact HB2.out | refine below_alloc ?_ _)) (hb3.mono (by simp; omega))); have HRU := Aside0.mk hRU; clear hb3 hRU)
    | (apply ldS; (with_reducible rfl); rfl; rfl; exact rowT; (first | rfl | assumption))
    | (apply srS; (with_reducible rfl); rfl; rfl; rfl; exact rowT; (first | rfl | assumption); (first | rfl | assumption); (first | rfl | assumption); exact setT))
  refine ret3S rfl rfl rfl rfl rfl rowT hU ⟨U, _, w3, rfl, hU, HRU.out, (by repeat (first | exact HB2.out | refine below_alloc ?_ _)), by simp; omega, fun k hk hl => ⟨?_, ?_⟩, ?_⟩
  · refine (setRow_other _ _ _ _ fun e => ?_).trans (heap_old2 _ _ hl)
    rcases hk with hk | hk
    · omega
    · simp at hk
      omega
  · simp
    omega
  · repeat (first | exact HB3.out | refine below_alloc ?_ _ | refine below_row ?_ (by omega))
set_option maxHeartbeats 2000000 in
set_option maxRecDepth 100000 in
theorem step_mem (o : Int) (a b c : Nat) (N : Int) (hp : p < code.length) (x0 : (rd_T46 code p).f0 = o) (x1 : (rd_T46 code p).f1 = a) (x2 : (rd_T46 code p).f2 = b) (x3 : (rd_T46 code p).f3 = c) (x4 : (rd_T46 code p).f4 = N) (hj3 : ¬ o = 3) (hj4 : ¬ o = 4) (R : World → World → Array Value → Prop) (hN : ∀ W, Below w.heap.size w W → Calls Tryz.prog 27 #[.agg #[.int .i64 (n 0), .int .i64 (n 1), .int .i64 (n 2), .int .i64 (n 3), .int .i64 (n 4), .int .i64 (n 5), .int .i64 (n 6), .int .i64 (n 7), .int .i64 (n 8), .int .i64 (n 9), .int .i64 (n 10), .int .i64 (n 11), .int .i64 (n 12), .int .i64 (n 13), .int .i64 (n 14), .int .i64 (n 15), .int .i64 (n 16), .int .i64 (n 17), .int .i64 (n 18), .int .i64 (n 19), .slice oA ol oc, .slice tA tl tc, .int .i64 ((p : Int) + 1), .int .i64 (wrap64 (st + 1))], .agg #[.int .u8 o, .int .u8 a, .int .u8 b, .int .u8 c, .int .i64 N]] W fun e w' => e = .returned (.tuple #[.agg #[.int .i64 (n 0), .int .i64 (n 1), .int .i64 (n 2), .int .i64 (n 3), .int .i64 (n 4), .int .i64 (n 5), .int .i64 (n 6), .int .i64 (n 7), .int .i64 (n 8), .int .i64 (n 9), .int .i64 (n 10), .int .i64 (n 11), .int .i64 (n 12), .int .i64 (n 13), .int .i64 (n 14), .int .i64 (n 15), .int .i64 (n 16), .int .i64 (n 17), .int .i64 (n 18), .int .i64 (n 19), .slice oA ol oc, .slice tA tl tc, .int .i64 ((p : Int) + 1), .int .i64 (wrap64 (st + 1))], .bool false]) ∧ Below W.heap.size W w') (hP : ∀ W, Below w.heap.size w W → Calls Tryz.prog 28 #[.agg #[.slice A0 ts.length c0, .string la, .string gl, .slice A3 code.length c3], .agg #[.int .i64 (n 0), .int .i64 (n 1), .int .i64 (n 2), .int .i64 (n 3), .int .i64 (n 4), .int .i64 (n 5), .int .i64 (n 6), .int .i64 (n 7), .int .i64 (n 8), .int .i64 (n 9), .int .i64 (n 10), .int .i64 (n 11), .int .i64 (n 12), .int .i64 (n 13), .int .i64 (n 14), .int .i64 (n 15), .int .i64 (n 16), .int .i64 (n 17), .int .i64 (n 18), .int .i64 (n 19), .slice oA ol oc, .slice tA tl tc, .int .i64 ((p : Int) + 1), .int .i64 (wrap64 (st + 1))], .agg #[.int .u8 o, .int .u8 a, .int .u8 b, .int .u8 c, .int .i64 N]] W fun e w' => e = .returned (.tuple #[.agg #[.int .i64 (n 0), .int .i64 (n 1), .int .i64 (n 2), .int .i64 (n 3), .int .i64 (n 4), .int .i64 (n 5), .int .i64 (n 6), .int .i64 (n 7), .int .i64 (n 8), .int .i64 (n 9), .int .i64 (n 10), .int .i64 (n 11), .int .i64 (n 12), .int .i64 (n 13), .int .i64 (n 14), .int .i64 (n 15), .int .i64 (n 16), .int .i64 (n 17), .int .i64 (n 18), .int .i64 (n 19), .slice oA ol oc, .slice tA tl tc, .int .i64 ((p : Int) + 1), .int .i64 (wrap64 (st + 1))], .bool false]) ∧ Below W.heap.size W w') (hM : ∀ W, Below w.heap.size w W → Calls Tryz.prog 29 #[.agg #[.int .i64 (n 0), .int .i64 (n 1), .int .i64 (n 2), .int .i64 (n 3), .int .i64 (n 4), .int .i64 (n 5), .int .i64 (n 6), .int .i64 (n 7), .int .i64 (n 8), .int .i64 (n 9), .int .i64 (n 10), .int .i64 (n 11), .int .i64 (n 12), .int .i64 (n 13), .int .i64 (n 14), .int .i64 (n 15), .int .i64 (n 16), .int .i64 (n 17), .int .i64 (n 18), .int .i64 (n 19), .slice oA ol oc, .slice tA tl tc, .int .i64 ((p : Int) + 1), .int .i64 (wrap64 (st + 1))], .agg #[.int .u8 o, .int .u8 a, .int .u8 b, .int .u8 c, .int .i64 N]] W fun e w' => ∃ U : Array Value, U.size = 24 ∧ U.toList.all (·.oneCell') = true ∧ e = .returned (.tuple #[.agg U, .int .i64 0]) ∧ R W w' U ∧ Below W.heap.size W w') :
    Calls Tryz.prog 14 #[.agg #[.slice A0 ts.length c0, .string la, .string gl, .slice A3 code.length c3], .agg #[.int .i64 (n 0), .int .i64 (n 1), .int .i64 (n 2), .int .i64 (n 3), .int .i64 (n 4), .int .i64 (n 5), .int .i64 (n 6), .int .i64 (n 7), .int .i64 (n 8), .int .i64 (n 9), .int .i64 (n 10), .int .i64 (n 11), .int .i64 (n 12), .int .i64 (n 13), .int .i64 (n 14), .int .i64 (n 15), .int .i64 (n 16), .int .i64 (n 17), .int .i64 (n 18), .int .i64 (n 19), .slice oA ol oc, .slice tA tl tc, .int .i64 p, .int .i64 st]] w fun e w' => ∃ U W w2, e = .returned (.tuple #[.agg U, .bool false, .int .i64 0]) ∧ U.size = 24 ∧ R W w2 U ∧ Below w.heap.size w W ∧ w.heap.size + 1 + 1 + 1 ≤ W.heap.size ∧ (∀ k, (k < w.heap.size ∨ W.heap.size ≤ k) → k < w2.heap.size → w'.heap[k]? = w2.heap[k]? ∧ k < w'.heap.size) ∧ Below w.heap.size w w' := by
  have hmax := Kd.C_max hC
  obtain ⟨ad, eA, _⟩ := at_T46 hC (p : Int) (by omega) (by omega)
  subst eA
  have HT := Aside0.mk hT
  have HC := Aside0.mk hC
  have HK := Aside0.mk hK
  clear hT hC hK
  have p0 : ¬ (p : Int) < 0 := by omega
  have q0 : (0 : Int) ≤ p := by omega
  have q1 : (p : Int) < code.length := by omega
  have p1 : ¬ (p : Int) > (code.length : Int) := by omega
  have p2 : ((p : Int) == (code.length : Int)) = false := by
    rw [beq_eq_false_iff_ne]
    omega
  have X0 := Aside0.mk x0
  have X1 := Aside0.mk x1
  have X2 := Aside0.mk x2
  have X3 := Aside0.mk x3
  have X4 := Aside0.mk x4
  clear x0 x1 x2 x3 x4
  have e3 : (o == 3) = false := by simpa using hj3
  have e4 : (o == 4) = false := by simpa using hj4
  go_enter Tryz.func14, Tryz.ntmps14
  go_wp2_with (first
    | (go_at_call 15; (with_reducible refine (HK.out _ (by repeat (first | exact Below.refl _ _ | refine below_alloc ?_ _ | refine below_drew1 ?_ | refine pw_below_drewN ?_ _))).mono ?_); rintro e w1 ⟨⟨r0, rfl⟩, hb1⟩; have R0 := (hb1.block (w.heap.size) (by simp; try omega)).trans (rowT (p := _ = some (.cells _ 25 (0, 0)))); have R1 := (hb1.block (w.heap.size + 1) (by simp; try omega)).trans (rowT (p := _ = some (.cells _ 44 (0, 0)))); have R3 := (hb1.block (w.heap.size + 1 + 1) (by simp; try omega)).trans (rowT (p := _ = some (.cells _ 44 (0, 0)))); have hz1 : w.heap.size + 1 + 1 + 1 ≤ w1.heap.size := Nat.le_trans (by simp) hb1.size; have HB1 := Aside0.mk (show Below w.heap.size w w1 from Below.trans (by repeat (first | exact Below.refl _ _ | refine below_alloc ?_ _ | refine below_drew1 ?_ | refine pw_below_drewN ?_ _)) (hb1.mono (by simp; try omega))); clear hb1; have kp := fun j => cell_of_row w1 (w.heap.size) j _ _ _ R0; have ks := fun j => cell_of_row w1 (w.heap.size + 1) j _ _ _ R1; obtain ⟨_, ea, y0, y1, y2, y3, y4⟩ := at_T46 (Kd.C_below HC.out HB1.out) (p : Int) q0 q1; cases ea; rw [Int.toNat_natCast] at y0 y1 y2 y3 y4; rw [X0.out] at y0; rw [X1.out] at y1; rw [X2.out] at y2; rw [X3.out] at y3; rw [X4.out] at y4; have c22 : ∀ q r : Obj, ((w1.alloc q).alloc r).cell? ⟨w.heap.size + 1, 22, none⟩ = some (.int .i64 p) := fun q r => cell_more2 (by omega) ((ks 22).trans rfl) q r; have c23 : ∀ q r : Obj, ((w1.alloc q).alloc r).cell? ⟨w.heap.size + 1, 23, none⟩ = some (.int .i64 st) := fun q r => cell_more2 (by omega) ((ks 23).trans rfl) q r; have R3X : ∀ q r : Obj, ((w1.alloc q).alloc r).heap[w.heap.size + 1 + 1]? = _ := fun q r => row_old _ _ _ (by simp; omega) (row_old _ _ _ (by omega) R3); skip)
    | (go_at_call 27; (with_reducible refine (hN _ (by repeat (first | exact HB1.out | refine below_alloc ?_ _))).mono ?_); rintro e w2 ⟨rfl, hb2⟩; have hz2 : w1.heap.size + 1 + 1 ≤ w2.heap.size := Nat.le_trans (by simp) hb2.size; have b3 := (hb2.block (w.heap.size + 1 + 1) (by simp; omega)).trans (R3X _ _); have b0 := (hb2.block (w.heap.size) (by simp; omega)).trans (row_old _ _ _ (by simp; omega) (row_old _ _ _ (by omega) R0)); have b1 := (hb2.block (w.heap.size + 1) (by simp; omega)).trans (row_old _ _ _ (by simp; omega) (row_old _ _ _ (by omega) R1)); have bI := (hb2.block (w1.heap.size) (by simp <;> omega)).trans (rowT (p := _ = some (.cells _ 46 (0, 0)))); have bT := (hb2.block (w1.heap.size + 1) (by simp)).trans (rowT (p := _ = some (.cells _ 44 (0, 0)))); have HB2 := Aside0.mk (show Below w.heap.size w w2 from Below.trans (by repeat (first | exact HB1.out | refine below_alloc ?_ _)) (hb2.mono (by simp; omega))); have kp2 := fun q j => cell_of_row (w2.alloc q) _ j _ _ _ (row_old _ q _ (by omega) b0); have kI2 := fun q j => cell_of_row (w2.alloc q) _ j _ _ _ (row_old _ q _ (by omega) bI); clear hb2 R0 R1 R3)
    | (go_at_call 28; (with_reducible refine (hP _ (by repeat (first | exact HB2.out | refine below_alloc ?_ _))).mono ?_); rintro e w3 ⟨rfl, hb3⟩; have hz3 : w2.heap.size + 1 ≤ w3.heap.size := Nat.le_trans (by simp) hb3.size; have b33 := (hb3.block (w.heap.size + 1 + 1) (by simp; omega)).trans (row_old _ _ _ (by omega) b3); have b31 := (hb3.block (w.heap.size + 1) (by simp; omega)).trans (row_old _ _ _ (by omega) b1); have bI3 := (hb3.block (w1.heap.size) (by simp; omega)).trans (row_old _ _ _ (by omega) bI); have bT3 := (hb3.block (w1.heap.size + 1) (by simp; omega)).trans (row_old _ _ _ (by omega) bT); have HB3 := Aside0.mk (show Below w.heap.size w w3 from Below.trans (by repeat (first | exact HB2.out | refine below_alloc ?_ _)) (hb3.mono (by simp; omega))); have kI3 := fun q j => cell_of_row (w3.alloc q) _ j _ _ _ (row_old _ q _ (by omega) bI3); clear hb3)
    | (go_at_call 29; (with_reducible refine (hM _ (by repeat (first | exact HB3.out | refine below_alloc ?_ _))).mono ?_); rintro e w4 ⟨U, hU, hU1, rfl, hRU, hb4⟩; have hz4 : w3.heap.size + 1 ≤ w4.heap.size := Nat.le_trans (by simp) hb4.size; have b43 := (hb4.block (w.heap.size + 1 + 1) (by simp; omega)).trans (row_old _ _ _ (by omega) b33); have HB4 := Aside0.mk (show Below w.heap.size w w4 from Below.trans (by repeat (first | exact HB3.out | refine below_alloc ?_ _)) (hb4.mono (by simp; omega))); have HRU := Aside0.mk hRU; clear hb4 hRU)
    | (apply ldS; (with_reducible rfl); rfl; rfl; exact rowT; (first | rfl | assumption))
    | (apply srS; (with_reducible rfl); rfl; rfl; rfl; exact rowT; (first | rfl | assumption); (first | rfl | assumption); (first | rfl | assumption); exact setT))
  refine ret3S rfl rfl rfl rfl rfl rowT hU ⟨U, _, w4, rfl, hU, HRU.out, (by repeat (first | exact HB3.out | refine below_alloc ?_ _)), by simp; omega, fun k hk hl => ⟨?_, ?_⟩, ?_⟩
  · refine (setRow_other _ _ _ _ fun e => ?_).trans (heap_old2 _ _ hl)
    rcases hk with hk | hk
    · omega
    · simp at hk
      omega
  · simp
    omega
  · repeat (first | exact HB4.out | refine below_alloc ?_ _ | refine below_row ?_ (by omega))
set_option maxHeartbeats 2000000 in
set_option maxRecDepth 100000 in
theorem step_err (o : Int) (a b c : Nat) (N : Int) (hp : p < code.length) (x0 : (rd_T46 code p).f0 = o) (x1 : (rd_T46 code p).f1 = a) (x2 : (rd_T46 code p).f2 = b) (x3 : (rd_T46 code p).f3 = c) (x4 : (rd_T46 code p).f4 = N) (hj3 : ¬ o = 3) (hj4 : ¬ o = 4) (hN : ∀ W, Below w.heap.size w W → Calls Tryz.prog 27 #[.agg #[.int .i64 (n 0), .int .i64 (n 1), .int .i64 (n 2), .int .i64 (n 3), .int .i64 (n 4), .int .i64 (n 5), .int .i64 (n 6), .int .i64 (n 7), .int .i64 (n 8), .int .i64 (n 9), .int .i64 (n 10), .int .i64 (n 11), .int .i64 (n 12), .int .i64 (n 13), .int .i64 (n 14), .int .i64 (n 15), .int .i64 (n 16), .int .i64 (n 17), .int .i64 (n 18), .int .i64 (n 19), .slice oA ol oc, .slice tA tl tc, .int .i64 ((p : Int) + 1), .int .i64 (wrap64 (st + 1))], .agg #[.int .u8 o, .int .u8 a, .int .u8 b, .int .u8 c, .int .i64 N]] W fun e w' => e = .returned (.tuple #[.agg #[.int .i64 (n 0), .int .i64 (n 1), .int .i64 (n 2), .int .i64 (n 3), .int .i64 (n 4), .int .i64 (n 5), .int .i64 (n 6), .int .i64 (n 7), .int .i64 (n 8), .int .i64 (n 9), .int .i64 (n 10), .int .i64 (n 11), .int .i64 (n 12), .int .i64 (n 13), .int .i64 (n 14), .int .i64 (n 15), .int .i64 (n 16), .int .i64 (n 17), .int .i64 (n 18), .int .i64 (n 19), .slice oA ol oc, .slice tA tl tc, .int .i64 ((p : Int) + 1), .int .i64 (wrap64 (st + 1))], .bool false]) ∧ Below W.heap.size W w') (hP : ∀ W, Below w.heap.size w W → Calls Tryz.prog 28 #[.agg #[.slice A0 ts.length c0, .string la, .string gl, .slice A3 code.length c3], .agg #[.int .i64 (n 0), .int .i64 (n 1), .int .i64 (n 2), .int .i64 (n 3), .int .i64 (n 4), .int .i64 (n 5), .int .i64 (n 6), .int .i64 (n 7), .int .i64 (n 8), .int .i64 (n 9), .int .i64 (n 10), .int .i64 (n 11), .int .i64 (n 12), .int .i64 (n 13), .int .i64 (n 14), .int .i64 (n 15), .int .i64 (n 16), .int .i64 (n 17), .int .i64 (n 18), .int .i64 (n 19), .slice oA ol oc, .slice tA tl tc, .int .i64 ((p : Int) + 1), .int .i64 (wrap64 (st + 1))], .agg #[.int .u8 o, .int .u8 a, .int .u8 b, .int .u8 c, .int .i64 N]] W fun e w' => e = .returned (.tuple #[.agg #[.int .i64 (n 0), .int .i64 (n 1), .int .i64 (n 2), .int .i64 (n 3), .int .i64 (n 4), .int .i64 (n 5), .int .i64 (n 6), .int .i64 (n 7), .int .i64 (n 8), .int .i64 (n 9), .int .i64 (n 10), .int .i64 (n 11), .int .i64 (n 12), .int .i64 (n 13), .int .i64 (n 14), .int .i64 (n 15), .int .i64 (n 16), .int .i64 (n 17), .int .i64 (n 18), .int .i64 (n 19), .slice oA ol oc, .slice tA tl tc, .int .i64 ((p : Int) + 1), .int .i64 (wrap64 (st + 1))], .bool false]) ∧ Below W.heap.size W w') (hM : ∀ W, Below w.heap.size w W → Calls Tryz.prog 29 #[.agg #[.int .i64 (n 0), .int .i64 (n 1), .int .i64 (n 2), .int .i64 (n 3), .int .i64 (n 4), .int .i64 (n 5), .int .i64 (n 6), .int .i64 (n 7), .int .i64 (n 8), .int .i64 (n 9), .int .i64 (n 10), .int .i64 (n 11), .int .i64 (n 12), .int .i64 (n 13), .int .i64 (n 14), .int .i64 (n 15), .int .i64 (n 16), .int .i64 (n 17), .int .i64 (n 18), .int .i64 (n 19), .slice oA ol oc, .slice tA tl tc, .int .i64 ((p : Int) + 1), .int .i64 (wrap64 (st + 1))], .agg #[.int .u8 o, .int .u8 a, .int .u8 b, .int .u8 c, .int .i64 N]] W fun e w' => e = .returned (.tuple #[.agg #[.int .i64 (n 0), .int .i64 (n 1), .int .i64 (n 2), .int .i64 (n 3), .int .i64 (n 4), .int .i64 (n 5), .int .i64 (n 6), .int .i64 (n 7), .int .i64 (n 8), .int .i64 (n 9), .int .i64 (n 10), .int .i64 (n 11), .int .i64 (n 12), .int .i64 (n 13), .int .i64 (n 14), .int .i64 (n 15), .int .i64 (n 16), .int .i64 (n 17), .int .i64 (n 18), .int .i64 (n 19), .slice oA ol oc, .slice tA tl tc, .int .i64 ((p : Int) + 1), .int .i64 (wrap64 (st + 1))], .int .i64 9]) ∧ Below W.heap.size W w') :
    Calls Tryz.prog 14 #[.agg #[.slice A0 ts.length c0, .string la, .string gl, .slice A3 code.length c3], .agg #[.int .i64 (n 0), .int .i64 (n 1), .int .i64 (n 2), .int .i64 (n 3), .int .i64 (n 4), .int .i64 (n 5), .int .i64 (n 6), .int .i64 (n 7), .int .i64 (n 8), .int .i64 (n 9), .int .i64 (n 10), .int .i64 (n 11), .int .i64 (n 12), .int .i64 (n 13), .int .i64 (n 14), .int .i64 (n 15), .int .i64 (n 16), .int .i64 (n 17), .int .i64 (n 18), .int .i64 (n 19), .slice oA ol oc, .slice tA tl tc, .int .i64 p, .int .i64 st]] w fun e w' => e = .returned (.tuple #[.agg #[.int .i64 (n 0), .int .i64 (n 1), .int .i64 (n 2), .int .i64 (n 3), .int .i64 (n 4), .int .i64 (n 5), .int .i64 (n 6), .int .i64 (n 7), .int .i64 (n 8), .int .i64 (n 9), .int .i64 (n 10), .int .i64 (n 11), .int .i64 (n 12), .int .i64 (n 13), .int .i64 (n 14), .int .i64 (n 15), .int .i64 (n 16), .int .i64 (n 17), .int .i64 (n 18), .int .i64 (n 19), .slice oA ol oc, .slice tA tl tc, .int .i64 p, .int .i64 st], .bool false, .int .i64 9]) ∧ Below w.heap.size w w' := by
  have hmax := Kd.C_max hC
  obtain ⟨ad, eA, _⟩ := at_T46 hC (p : Int) (by omega) (by omega)
  subst eA
  have HT := Aside0.mk hT
  have HC := Aside0.mk hC
  have HK := Aside0.mk hK
  clear hT hC hK
  have p0 : ¬ (p : Int) < 0 := by omega
  have q0 : (0 : Int) ≤ p := by omega
  have q1 : (p : Int) < code.length := by omega
  have p1 : ¬ (p : Int) > (code.length : Int) := by omega
  have p2 : ((p : Int) == (code.length : Int)) = false := by
    rw [beq_eq_false_iff_ne]
    omega
  have X0 := Aside0.mk x0
  have X1 := Aside0.mk x1
  have X2 := Aside0.mk x2
  have X3 := Aside0.mk x3
  have X4 := Aside0.mk x4
  clear x0 x1 x2 x3 x4
  have e3 : (o == 3) = false := by simpa using hj3
  have e4 : (o == 4) = false := by simpa using hj4
  go_enter Tryz.func14, Tryz.ntmps14
  go_wp2_with (first
    | (go_at_call 15; (with_reducible refine (HK.out _ (by repeat (first | exact Below.refl _ _ | refine below_alloc ?_ _ | refine below_drew1 ?_ | refine pw_below_drewN ?_ _))).mono ?_); rintro e w1 ⟨⟨r0, rfl⟩, hb1⟩; have R0 := (hb1.block (w.heap.size) (by simp; try omega)).trans (rowT (p := _ = some (.cells _ 25 (0, 0)))); have R1 := (hb1.block (w.heap.size + 1) (by simp; try omega)).trans (rowT (p := _ = some (.cells _ 44 (0, 0)))); have R3 := (hb1.block (w.heap.size + 1 + 1) (by simp; try omega)).trans (rowT (p := _ = some (.cells _ 44 (0, 0)))); have hz1 : w.heap.size + 1 + 1 + 1 ≤ w1.heap.size := Nat.le_trans (by simp) hb1.size; have HB1 := Aside0.mk (show Below w.heap.size w w1 from Below.trans (by repeat (first | exact Below.refl _ _ | refine below_alloc ?_ _ | refine below_drew1 ?_ | refine pw_below_drewN ?_ _)) (hb1.mono (by simp; try omega))); clear hb1; have kp := fun j => cell_of_row w1 (w.heap.size) j _ _ _ R0; have ks := fun j => cell_of_row w1 (w.heap.size + 1) j _ _ _ R1; obtain ⟨_, ea, y0, y1, y2, y3, y4⟩ := at_T46 (Kd.C_below HC.out HB1.out) (p : Int) q0 q1; cases ea; rw [Int.toNat_natCast] at y0 y1 y2 y3 y4; rw [X0.out] at y0; rw [X1.out] at y1; rw [X2.out] at y2; rw [X3.out] at y3; rw [X4.out] at y4; have c22 : ∀ q r : Obj, ((w1.alloc q).alloc r).cell? ⟨w.heap.size + 1, 22, none⟩ = some (.int .i64 p) := fun q r => cell_more2 (by omega) ((ks 22).trans rfl) q r; have c23 : ∀ q r : Obj, ((w1.alloc q).alloc r).cell? ⟨w.heap.size + 1, 23, none⟩ = some (.int .i64 st) := fun q r => cell_more2 (by omega) ((ks 23).trans rfl) q r; have R3X : ∀ q r : Obj, ((w1.alloc q).alloc r).heap[w.heap.size + 1 + 1]? = _ := fun q r => row_old _ _ _ (by simp; omega) (row_old _ _ _ (by omega) R3); skip)
    | (go_at_call 27; (with_reducible refine (hN _ (by repeat (first | exact HB1.out | refine below_alloc ?_ _))).mono ?_); rintro e w2 ⟨rfl, hb2⟩; have hz2 : w1.heap.size + 1 + 1 ≤ w2.heap.size := Nat.le_trans (by simp) hb2.size; have b3 := (hb2.block (w.heap.size + 1 + 1) (by simp; omega)).trans (R3X _ _); have b0 := (hb2.block (w.heap.size) (by simp; omega)).trans (row_old _ _ _ (by simp; omega) (row_old _ _ _ (by omega) R0)); have b1 := (hb2.block (w.heap.size + 1) (by simp; omega)).trans (row_old _ _ _ (by simp; omega) (row_old _ _ _ (by omega) R1)); have bI := (hb2.block (w1.heap.size) (by simp <;> omega)).trans (rowT (p := _ = some (.cells _ 46 (0, 0)))); have bT := (hb2.block (w1.heap.size + 1) (by simp)).trans (rowT (p := _ = some (.cells _ 44 (0, 0)))); have HB2 := Aside0.mk (show Below w.heap.size w w2 from Below.trans (by repeat (first | exact HB1.out | refine below_alloc ?_ _)) (hb2.mono (by simp; omega))); have kp2 := fun q j => cell_of_row (w2.alloc q) _ j _ _ _ (row_old _ q _ (by omega) b0); have kI2 := fun q j => cell_of_row (w2.alloc q) _ j _ _ _ (row_old _ q _ (by omega) bI); clear hb2 R0 R1 R3)
    | (go_at_call 28; (with_reducible refine (hP _ (by repeat (first | exact HB2.out | refine below_alloc ?_ _))).mono ?_); rintro e w3 ⟨rfl, hb3⟩; have hz3 : w2.heap.size + 1 ≤ w3.heap.size := Nat.le_trans (by simp) hb3.size; have b33 := (hb3.block (w.heap.size + 1 + 1) (by simp; omega)).trans (row_old _ _ _ (by omega) b3); have b31 := (hb3.block (w.heap.size + 1) (by simp; omega)).trans (row_old _ _ _ (by omega) b1); have bI3 := (hb3.block (w1.heap.size) (by simp; omega)).trans (row_old _ _ _ (by omega) bI); have bT3 := (hb3.block (w1.heap.size + 1) (by simp; omega)).trans (row_old _ _ _ (by omega) bT); have HB3 := Aside0.mk (show Below w.heap.size w w3 from Below.trans (by repeat (first | exact HB2.out | refine below_alloc ?_ _)) (hb3.mono (by simp; omega))); have kI3 := fun q j => cell_of_row (w3.alloc q) _ j _ _ _ (row_old _ q _ (by omega) bI3); clear hb3)
    | (go_at_call 29; (with_reducible refine (hM _ (by repeat (first | exact HB3.out | refine below_alloc ?_ _))).mono ?_); rintro e w4 ⟨rfl, hb4⟩; have hz4 : w3.heap.size + 1 ≤ w4.heap.size := Nat.le_trans (by simp) hb4.size; have b43 := (hb4.block (w.heap.size + 1 + 1) (by simp; omega)).trans (row_old _ _ _ (by omega) b33); have b41 := (hb4.block (w.heap.size + 1) (by simp; omega)).trans (row_old _ _ _ (by omega) b31); have HB4 := Aside0.mk (show Below w.heap.size w w4 from Below.trans (by repeat (first | exact HB3.out | refine below_alloc ?_ _)) (hb4.mono (by simp; omega))); clear hb4)
    | (apply ldS; (with_reducible rfl); rfl; rfl; exact rowT; (first | rfl | assumption))
    | (apply srS; (with_reducible rfl); rfl; rfl; rfl; exact rowT; (first | rfl | assumption); (first | rfl | assumption); (first | rfl | assumption); exact setT))
  refine ret3S rfl rfl rfl rfl rfl rowT rfl ⟨rfl, ?_⟩
  repeat (first | exact HB4.out | refine below_alloc ?_ _ | refine below_row ?_ (by omega))
end
end Go.Proofs.YtocechpmgfhenaaGreatDoor.ST

namespace Go.Proofs.YtocechpmgfhenaaGreatDoor.ST
open Go.RowKit Go.Proofs.YtocechpmgfhenaaGreatDoorW.PrintWords Go.Proofs.YtocechpmgfhenaaGreatDoor.Scan Go.Proofs.YtocechpmgfhenaaGreatDoor.F Go.Proofs.YtocechpmgfhenaaGreatDoor.KP Go.Proofs.YtocechpmgfhenaaGreatDoor.SH Go.Proofs.YtocechpmgfhenaaGreatDoor.PL
set_option linter.unusedVariables false
theorem to_range (ts : List ByteArray) {t n : Int} (h : 0 ≤ to_ ts t n) : 0 ≤ n ∧ n < size ts t := by
  unfold to_ at h
  split at h
  · assumption
  · omega
theorem ints_kk {o : Nat} {x1 x2 x3 : Int} (h : intsB o x1 x2 x3 = true) : ((o = 1 ∨ o = 2 ∨ o = 4 ∨ o = 8 ∨ o = 14 ∨ o = 15) → x1 < 8) ∧ (o = 2 ∨ o = 9 → x2 < 8) ∧ (o = 2 → x3 < 8) := by
  unfold intsB at h
  refine ⟨fun e => ?_, fun e => ?_, fun e => ?_⟩
  · rcases e with rfl | rfl | rfl | rfl | rfl | rfl <;> (simp at h; omega)
  · rcases e with rfl | rfl <;> (simp at h; omega)
  · subst e
    simp at h
    omega
theorem SpP.kk {p : Pg} (h : SpP p) (j : Nat) (hj : j < p.code.length) :
    KK (atv p.ts p.la) (atv p.ts p.gl) (size p.ts) (to_ p.ts) (rd_T46 p.code j) := by
  obtain ⟨o, eo, q⟩ := h.all j hj
  obtain ⟨k5, k7, k15, k8, k9, k10, k11, k12, k13⟩ := q.kinds
  obtain ⟨ia, ib, ic⟩ := ints_kk q.ints
  have hL := h.locals
  have hG := h.globals
  have L : ∀ {a : Int}, 0 ≤ atv p.ts p.la a → a < 8 := fun h0 => by have := atv_lt h0; omega
  have G : ∀ {a : Int}, 0 ≤ atv p.ts p.gl a → a < 4 := fun h0 => by have := atv_lt h0; omega
  have E : ∀ {m : Nat}, (rd_T46 p.code j).f0 = m → o = m := fun e => by omega
  refine ⟨fun o => k5 (.inl (E o)), fun o => (k7 (E o)).2, fun o => ⟨(k8 (E o)).1, (k8 (E o)).2.1, (k8 (E o)).2.2.1⟩, fun o => ?_, fun o => (k9 (E o)).2, fun o => ?_, fun o => (k12 (E o)).2, fun o => (k13 (E o)).2, fun o => ia (by omega), fun o => ib (by omega), fun o => ic (E o), fun o => ?_, fun o => ?_, fun o => ?_, fun o => ?_, fun o => ?_⟩
  · obtain ⟨a, b, c⟩ := k10 (E o)
    have := to_range p.ts (t := atv p.ts p.la (rd_T46 p.code j).f2) (n := (rd_T46 p.code j).f4) (by rw [← c]; exact b)
    exact ⟨this.1, this.2, by rw [← c]; exact b, c⟩
  · obtain ⟨a, b, c⟩ := k11 (E o)
    have := to_range p.ts (t := atv p.ts p.la (rd_T46 p.code j).f1) (n := (rd_T46 p.code j).f4) (by rw [← c]; exact b)
    exact ⟨this.1, this.2, by rw [← c]; exact b, c⟩
  · rcases o with o | o | o | o | o | o | o
    · exact L (k5 (.inl (E o)))
    · exact L (k5 (.inr (E o)))
    · exact L (k7 (E o)).1
    · exact L (k9 (E o)).1
    · exact L (k10 (E o)).2.1
    · exact L (k11 (E o)).1
    · exact L (k12 (E o)).1
  · rcases o with o | o | o | o | o | o
    · exact L (by rw [← (k7 (E o)).2]; exact (k7 (E o)).1)
    · exact L (k8 (E o)).1
    · exact L (k10 (E o)).1
    · exact L (k11 (E o)).2.1
    · exact L (k13 (E o)).1
    · exact L (k15 (E o)).1
  · exact L (by rw [← (k15 (E o)).2]; exact (k15 (E o)).1)
  · exact G (by rw [← (k13 (E o)).2]; exact (k13 (E o)).1)
  · exact G (by rw [← (k12 (E o)).2]; exact (k12 (E o)).1)
end Go.Proofs.YtocechpmgfhenaaGreatDoor.ST

namespace Go.Proofs.YtocechpmgfhenaaGreatDoor.ST
open Go.RowKit Go.Proofs.YtocechpmgfhenaaGreatDoorW.PrintWords Go.Proofs.YtocechpmgfhenaaGreatDoor.Scan Go.Proofs.YtocechpmgfhenaaGreatDoor.F Go.Proofs.YtocechpmgfhenaaGreatDoor.KP Go.Proofs.YtocechpmgfhenaaGreatDoor.PL Go.Proofs.YtocechpmgfhenaaGreatDoor.ST0
set_option linter.unusedVariables false
set_option linter.unusedSectionVars false
def stA (n : Nat → Int) (O T : Value) (pc st : Int) : Array Value := #[.int .i64 (n 0), .int .i64 (n 1), .int .i64 (n 2), .int .i64 (n 3), .int .i64 (n 4), .int .i64 (n 5), .int .i64 (n 6), .int .i64 (n 7), .int .i64 (n 8), .int .i64 (n 9), .int .i64 (n 10), .int .i64 (n 11), .int .i64 (n 12), .int .i64 (n 13), .int .i64 (n 14), .int .i64 (n 15), .int .i64 (n 16), .int .i64 (n 17), .int .i64 (n 18), .int .i64 (n 19), O, T, .int .i64 pc, .int .i64 st]
theorem stA_X (n : Nat → Int) (k : Nat) (v : Int) (O T : Value) (pc st : Int) (h : k < 8) : #[.int .i64 (upd n k (v) 0), .int .i64 (upd n k (v) 1), .int .i64 (upd n k (v) 2), .int .i64 (upd n k (v) 3), .int .i64 (upd n k (v) 4), .int .i64 (upd n k (v) 5), .int .i64 (upd n k (v) 6), .int .i64 (upd n k (v) 7), .int .i64 (n 8), .int .i64 (n 9), .int .i64 (n 10), .int .i64 (n 11), .int .i64 (n 12), .int .i64 (n 13), .int .i64 (n 14), .int .i64 (n 15), .int .i64 (n 16), .int .i64 (n 17), .int .i64 (n 18), .int .i64 (n 19), O, T, .int .i64 pc, .int .i64 st] = stA (upd n k v) O T pc st := by
  unfold stA
  simp only [upd_ne n (k := k) (j := 8) v (by omega), upd_ne n (k := k) (j := 9) v (by omega), upd_ne n (k := k) (j := 10) v (by omega), upd_ne n (k := k) (j := 11) v (by omega), upd_ne n (k := k) (j := 12) v (by omega), upd_ne n (k := k) (j := 13) v (by omega), upd_ne n (k := k) (j := 14) v (by omega), upd_ne n (k := k) (j := 15) v (by omega), upd_ne n (k := k) (j := 16) v (by omega), upd_ne n (k := k) (j := 17) v (by omega), upd_ne n (k := k) (j := 18) v (by omega), upd_ne n (k := k) (j := 19) v (by omega)]
theorem stA_P (n : Nat → Int) (k : Nat) (v : Int) (O T : Value) (pc st : Int) (h : k < 8) : #[.int .i64 (n 0), .int .i64 (n 1), .int .i64 (n 2), .int .i64 (n 3), .int .i64 (n 4), .int .i64 (n 5), .int .i64 (n 6), .int .i64 (n 7), .int .i64 (upd n (8 + k) (v) 8), .int .i64 (upd n (8 + k) (v) 9), .int .i64 (upd n (8 + k) (v) 10), .int .i64 (upd n (8 + k) (v) 11), .int .i64 (upd n (8 + k) (v) 12), .int .i64 (upd n (8 + k) (v) 13), .int .i64 (upd n (8 + k) (v) 14), .int .i64 (upd n (8 + k) (v) 15), .int .i64 (n 16), .int .i64 (n 17), .int .i64 (n 18), .int .i64 (n 19), O, T, .int .i64 pc, .int .i64 st] = stA (upd n (8 + k) v) O T pc st := by
  unfold stA
  simp only [upd_ne n (k := 8 + k) (j := 0) v (by omega), upd_ne n (k := 8 + k) (j := 1) v (by omega), upd_ne n (k := 8 + k) (j := 2) v (by omega), upd_ne n (k := 8 + k) (j := 3) v (by omega), upd_ne n (k := 8 + k) (j := 4) v (by omega), upd_ne n (k := 8 + k) (j := 5) v (by omega), upd_ne n (k := 8 + k) (j := 6) v (by omega), upd_ne n (k := 8 + k) (j := 7) v (by omega), upd_ne n (k := 8 + k) (j := 16) v (by omega), upd_ne n (k := 8 + k) (j := 17) v (by omega), upd_ne n (k := 8 + k) (j := 18) v (by omega), upd_ne n (k := 8 + k) (j := 19) v (by omega)]
theorem stA_G (n : Nat → Int) (k : Nat) (v : Int) (O T : Value) (pc st : Int) (h : k < 4) : #[.int .i64 (n 0), .int .i64 (n 1), .int .i64 (n 2), .int .i64 (n 3), .int .i64 (n 4), .int .i64 (n 5), .int .i64 (n 6), .int .i64 (n 7), .int .i64 (n 8), .int .i64 (n 9), .int .i64 (n 10), .int .i64 (n 11), .int .i64 (n 12), .int .i64 (n 13), .int .i64 (n 14), .int .i64 (n 15), .int .i64 (upd n (16 + k) (v) 16), .int .i64 (upd n (16 + k) (v) 17), .int .i64 (upd n (16 + k) (v) 18), .int .i64 (upd n (16 + k) (v) 19), O, T, .int .i64 pc, .int .i64 st] = stA (upd n (16 + k) v) O T pc st := by
  unfold stA
  simp only [upd_ne n (k := 16 + k) (j := 0) v (by omega), upd_ne n (k := 16 + k) (j := 1) v (by omega), upd_ne n (k := 16 + k) (j := 2) v (by omega), upd_ne n (k := 16 + k) (j := 3) v (by omega), upd_ne n (k := 16 + k) (j := 4) v (by omega), upd_ne n (k := 16 + k) (j := 5) v (by omega), upd_ne n (k := 16 + k) (j := 6) v (by omega), upd_ne n (k := 16 + k) (j := 7) v (by omega), upd_ne n (k := 16 + k) (j := 8) v (by omega), upd_ne n (k := 16 + k) (j := 9) v (by omega), upd_ne n (k := 16 + k) (j := 10) v (by omega), upd_ne n (k := 16 + k) (j := 11) v (by omega), upd_ne n (k := 16 + k) (j := 12) v (by omega), upd_ne n (k := 16 + k) (j := 13) v (by omega), upd_ne n (k := 16 + k) (j := 14) v (by omega), upd_ne n (k := 16 + k) (j := 15) v (by omega)]
def IsS (w : World) (P : Nat → Prop) (s : PS) (cs : Array Value) : Prop :=
  ∃ oA hs oc tA tc, cs = stA s.n (.slice oA (hs : List Hd).length oc) (.slice tA s.out.length tc) s.pc s.steps ∧ hs.length ≤ oc ∧ s.out.length ≤ tc ∧ ObF w P oA hs s.objs ∧ OutF w P tA s.out
theorem IsS.step {w w' : World} {P : Nat → Prop} {s : PS} {cs : Array Value} (h : IsS w P s cs) (hb : ∀ k, P k → k < w.heap.size → w'.heap[k]? = w.heap[k]? ∧ k < w'.heap.size) : IsS w' P s cs := by
  obtain ⟨oA, hs, oc, tA, tc, e, h1, h2, h3, h4⟩ := h
  exact ⟨oA, hs, oc, tA, tc, e, h1, h2, h3.step hb, h4.step hb⟩
theorem IsS.mono {w : World} {P Q : Nat → Prop} {s : PS} {cs : Array Value} (h : IsS w P s cs) (hp : ∀ k, P k → Q k) : IsS w Q s cs := by
  obtain ⟨oA, hs, oc, tA, tc, e, h1, h2, h3, h4⟩ := h
  exact ⟨oA, hs, oc, tA, tc, e, h1, h2, h3.mono hp, h4.mono hp⟩
theorem IsS.below {w w' : World} {P : Nat → Prop} {s : PS} {cs : Array Value} (h : IsS w P s cs) (hb : Below w.heap.size w w') : IsS w' P s cs := h.step fun k _ hk => ⟨hb.block k hk, Nat.lt_of_lt_of_le hk hb.size⟩
theorem step_fin {w : World} {P : Nat → Prop} {u : PS} {f : Nat} {args : Array Value}
    (h : Calls Tryz.prog f args w fun e w' => ∃ U W w2, e = .returned (.tuple #[.agg U, .bool false, .int .i64 0]) ∧ U.size = 24 ∧ IsS w2 (fun k => (P k ∧ k < w.heap.size) ∨ W.heap.size ≤ k) u U ∧ Below w.heap.size w W ∧ w.heap.size + 1 + 1 + 1 ≤ W.heap.size ∧ (∀ k, (k < w.heap.size ∨ W.heap.size ≤ k) → k < w2.heap.size → w'.heap[k]? = w2.heap[k]? ∧ k < w'.heap.size) ∧ Below w.heap.size w w') :
    Calls Tryz.prog f args w fun e w' => ∃ cs', e = .returned (.tuple #[.agg cs', .bool false, .int .i64 0]) ∧ IsS w' (fun k => P k ∨ w.heap.size ≤ k) u cs' ∧ Below w.heap.size w w' := by
  refine h.mono ?_
  rintro e w' ⟨U, W, w2, rfl, _, hI, hb, hz, hk, hb2⟩
  refine ⟨U, rfl, (hI.step fun k hp hl => hk k (hp.imp (fun h => h.2) id) hl).mono fun k hp => hp.imp (fun h => h.1) fun h => by omega, hb2⟩
section
variable {w : World} {A0 : Option Addr} {c0 : Nat} {ts : List ByteArray} {la gl : ByteArray} {A3 : Option Addr} {c3 : Nat} {code : List S46} {P : Nat → Prop}
  (hT : Kd.C Kd.string w A0 ts.length ts) (hc0 : ts.length ≤ c0) (hC : Kd.C k46 w A3 code.length code) (hc3 : code.length ≤ c3) (hK : CkO w A0 c0 ts la gl A3 c3 code)
  (hLoc : ∀ a : Int, 0 ≤ a → a ≤ 255 → Ev (fun k => lockstitchref05_Local.f k ts la gl code a) (atv ts la a)) (hSz : ∀ x : Int, Ev (fun k => lockstitchref03_Size.f k ts x) (size ts x))
  {n : Nat → Int} {objs : List (List Int)} {out : List Int} {p : Nat} {st : Int} {oA tA : Option Addr} {hs : List Hd} {oc tc : Nat} (hO : ObF w P oA hs objs) (hoc : hs.length ≤ oc) (hTo : OutF w P tA out) (htc : out.length ≤ tc)
include hT hc0 hC hc3 hK hLoc hSz hO hoc hTo htc
set_option maxRecDepth 100000 in
theorem ps_end (hp : p = code.length) : Calls Tryz.prog 14 #[.agg #[.slice A0 ts.length c0, .string la, .string gl, .slice A3 code.length c3], .agg (stA n (.slice oA hs.length oc) (.slice tA out.length tc) p st)] w fun e w' => ∃ cs', e = .returned (.tuple #[.agg cs', .bool true, .int .i64 0]) ∧ IsS w' (fun k => P k ∨ w.heap.size ≤ k) ⟨n, objs, out, p, st⟩ cs' ∧ Below w.heap.size w w' := by
  refine (step_end w n oA tA hs.length oc out.length tc p st A0 c0 ts la gl A3 c3 code hT hc0 hC hc3 hK hp).mono ?_
  rintro e w' ⟨rfl, hb⟩
  exact ⟨_, rfl, ⟨oA, hs, oc, tA, tc, rfl, hoc, htc, (hO.below hb).mono fun k h => .inl h, (hTo.below hb).mono fun k h => .inl h⟩, hb⟩
set_option maxRecDepth 100000 in
theorem ps_jump (a b c : Nat) (N : Int) (hp : p < code.length) (x0 : (rd_T46 code p).f0 = 3) (x1 : (rd_T46 code p).f1 = (a : Nat)) (x2 : (rd_T46 code p).f2 = (b : Nat)) (x3 : (rd_T46 code p).f3 = (c : Nat)) (x4 : (rd_T46 code p).f4 = N) : Calls Tryz.prog 14 #[.agg #[.slice A0 ts.length c0, .string la, .string gl, .slice A3 code.length c3], .agg (stA n (.slice oA hs.length oc) (.slice tA out.length tc) p st)] w fun e w' => ∃ cs', e = .returned (.tuple #[.agg cs', .bool false, .int .i64 0]) ∧ IsS w' (fun k => P k ∨ w.heap.size ≤ k) ⟨n, objs, out, N, wrap64 (st + 1)⟩ cs' ∧ Below w.heap.size w w' := by
  refine (step_jump w n oA tA hs.length oc out.length tc p st A0 c0 ts la gl A3 c3 code hT hc0 hC hc3 hK a b c N hp x0 x1 x2 x3 x4).mono ?_
  rintro e w' ⟨rfl, hb⟩
  exact ⟨_, rfl, ⟨oA, hs, oc, tA, tc, rfl, hoc, htc, (hO.below hb).mono fun k h => .inl h, (hTo.below hb).mono fun k h => .inl h⟩, hb⟩
set_option maxRecDepth 100000 in
theorem ps_zero (a b c : Nat) (N : Int) (hp : p < code.length) (x0 : (rd_T46 code p).f0 = 4) (x1 : (rd_T46 code p).f1 = (a : Nat)) (x2 : (rd_T46 code p).f2 = (b : Nat)) (x3 : (rd_T46 code p).f3 = (c : Nat)) (x4 : (rd_T46 code p).f4 = N) (ha : (a : Int) < 8) (hz : n a = 0) : Calls Tryz.prog 14 #[.agg #[.slice A0 ts.length c0, .string la, .string gl, .slice A3 code.length c3], .agg (stA n (.slice oA hs.length oc) (.slice tA out.length tc) p st)] w fun e w' => ∃ cs', e = .returned (.tuple #[.agg cs', .bool false, .int .i64 0]) ∧ IsS w' (fun k => P k ∨ w.heap.size ≤ k) ⟨n, objs, out, N, wrap64 (st + 1)⟩ cs' ∧ Below w.heap.size w w' := by
  refine (step_zero w n oA tA hs.length oc out.length tc p st A0 c0 ts la gl A3 c3 code hT hc0 hC hc3 hK a b c N hp x0 x1 x2 x3 x4 ha hz).mono ?_
  rintro e w' ⟨rfl, hb⟩
  exact ⟨_, rfl, ⟨oA, hs, oc, tA, tc, rfl, hoc, htc, (hO.below hb).mono fun k h => .inl h, (hTo.below hb).mono fun k h => .inl h⟩, hb⟩
set_option maxRecDepth 100000 in
theorem ps_pass (a b c : Nat) (N : Int) (hp : p < code.length) (x0 : (rd_T46 code p).f0 = 4) (x1 : (rd_T46 code p).f1 = (a : Nat)) (x2 : (rd_T46 code p).f2 = (b : Nat)) (x3 : (rd_T46 code p).f3 = (c : Nat)) (x4 : (rd_T46 code p).f4 = N) (ha : (a : Int) < 8) (hz : ¬ n a = 0) : Calls Tryz.prog 14 #[.agg #[.slice A0 ts.length c0, .string la, .string gl, .slice A3 code.length c3], .agg (stA n (.slice oA hs.length oc) (.slice tA out.length tc) p st)] w fun e w' => ∃ cs', e = .returned (.tuple #[.agg cs', .bool false, .int .i64 0]) ∧ IsS w' (fun k => P k ∨ w.heap.size ≤ k) ⟨n, objs, out, (p : Int) + 1, wrap64 (st + 1)⟩ cs' ∧ Below w.heap.size w w' := by
  refine (step_pass w n oA tA hs.length oc out.length tc p st A0 c0 ts la gl A3 c3 code hT hc0 hC hc3 hK a b c N hp x0 x1 x2 x3 x4 ha hz).mono ?_
  rintro e w' ⟨rfl, hb⟩
  exact ⟨_, rfl, ⟨oA, hs, oc, tA, tc, rfl, hoc, htc, (hO.below hb).mono fun k h => .inl h, (hTo.below hb).mono fun k h => .inl h⟩, hb⟩
set_option maxRecDepth 100000 in
theorem ps_set (a b c : Nat) (N : Int) (hp : p < code.length) (x0 : (rd_T46 code p).f0 = 1) (x1 : (rd_T46 code p).f1 = (a : Nat)) (x2 : (rd_T46 code p).f2 = (b : Nat)) (x3 : (rd_T46 code p).f3 = (c : Nat)) (x4 : (rd_T46 code p).f4 = N) (ha : (a : Int) < 8) : Calls Tryz.prog 14 #[.agg #[.slice A0 ts.length c0, .string la, .string gl, .slice A3 code.length c3], .agg (stA n (.slice oA hs.length oc) (.slice tA out.length tc) p st)] w fun e w' => ∃ cs', e = .returned (.tuple #[.agg cs', .bool false, .int .i64 0]) ∧ IsS w' (fun k => P k ∨ w.heap.size ≤ k) ⟨upd n a N, objs, out, (p : Int) + 1, wrap64 (st + 1)⟩ cs' ∧ Below w.heap.size w w' :=
  step_fin (step_num w n oA tA hs.length oc out.length tc p st A0 c0 ts la gl A3 c3 code hT hc0 hC hc3 hK 1 a b c N hp x0 x1 x2 x3 x4 (by decide) (by decide) (fun W w2 U => IsS w2 (fun k => (P k ∧ k < w.heap.size) ∨ W.heap.size ≤ k) ⟨upd n a N, objs, out, (p : Int) + 1, wrap64 (st + 1)⟩ U) fun W hW => (num_set W n oA tA hs.length oc out.length tc ((p : Int) + 1) (wrap64 (st + 1)) a b c N ha).mono (by rintro e w' ⟨rfl, hb⟩; exact ⟨_, rfl, rfl, rfl, ⟨oA, hs, oc, tA, tc, stA_X n a N _ _ _ _ (by omega), hoc, htc, ((hO.bound.below hW).below hb).mono fun k h => .inl h, ((hTo.bound.below hW).below hb).mono fun k h => .inl h⟩, hb⟩))
set_option maxRecDepth 100000 in
theorem ps_add (a b c : Nat) (N : Int) (hp : p < code.length) (x0 : (rd_T46 code p).f0 = 2) (x1 : (rd_T46 code p).f1 = (a : Nat)) (x2 : (rd_T46 code p).f2 = (b : Nat)) (x3 : (rd_T46 code p).f3 = (c : Nat)) (x4 : (rd_T46 code p).f4 = N) (ha : (a : Int) < 8) (hb : (b : Int) < 8) (hc : (c : Int) < 8) : Calls Tryz.prog 14 #[.agg #[.slice A0 ts.length c0, .string la, .string gl, .slice A3 code.length c3], .agg (stA n (.slice oA hs.length oc) (.slice tA out.length tc) p st)] w fun e w' => ∃ cs', e = .returned (.tuple #[.agg cs', .bool false, .int .i64 0]) ∧ IsS w' (fun k => P k ∨ w.heap.size ≤ k) ⟨upd n a (wrap64 (n b + n c)), objs, out, (p : Int) + 1, wrap64 (st + 1)⟩ cs' ∧ Below w.heap.size w w' :=
  step_fin (step_num w n oA tA hs.length oc out.length tc p st A0 c0 ts la gl A3 c3 code hT hc0 hC hc3 hK 2 a b c N hp x0 x1 x2 x3 x4 (by decide) (by decide) (fun W w2 U => IsS w2 (fun k => (P k ∧ k < w.heap.size) ∨ W.heap.size ≤ k) ⟨upd n a (wrap64 (n b + n c)), objs, out, (p : Int) + 1, wrap64 (st + 1)⟩ U) fun W hW => (num_add W n oA tA hs.length oc out.length tc ((p : Int) + 1) (wrap64 (st + 1)) a b c N ha hb hc).mono (by rintro e w' ⟨rfl, hb⟩; exact ⟨_, rfl, rfl, rfl, ⟨oA, hs, oc, tA, tc, stA_X n a _ _ _ _ _ (by omega), hoc, htc, ((hO.bound.below hW).below hb).mono fun k h => .inl h, ((hTo.bound.below hW).below hb).mono fun k h => .inl h⟩, hb⟩))
set_option maxRecDepth 100000 in
theorem ps_same_eq (a b c : Nat) (N : Int) (hp : p < code.length) (x0 : (rd_T46 code p).f0 = 15) (x1 : (rd_T46 code p).f1 = (a : Nat)) (x2 : (rd_T46 code p).f2 = (b : Nat)) (x3 : (rd_T46 code p).f3 = (c : Nat)) (x4 : (rd_T46 code p).f4 = N) (ha : (a : Int) < 8) (hb : (b : Int) < 8) (hc : (c : Int) < 8) (hh : n (8 + b) = n (8 + c)) : Calls Tryz.prog 14 #[.agg #[.slice A0 ts.length c0, .string la, .string gl, .slice A3 code.length c3], .agg (stA n (.slice oA hs.length oc) (.slice tA out.length tc) p st)] w fun e w' => ∃ cs', e = .returned (.tuple #[.agg cs', .bool false, .int .i64 0]) ∧ IsS w' (fun k => P k ∨ w.heap.size ≤ k) ⟨upd n a 1, objs, out, (p : Int) + 1, wrap64 (st + 1)⟩ cs' ∧ Below w.heap.size w w' :=
  step_fin (step_num w n oA tA hs.length oc out.length tc p st A0 c0 ts la gl A3 c3 code hT hc0 hC hc3 hK 15 a b c N hp x0 x1 x2 x3 x4 (by decide) (by decide) (fun W w2 U => IsS w2 (fun k => (P k ∧ k < w.heap.size) ∨ W.heap.size ≤ k) ⟨upd n a 1, objs, out, (p : Int) + 1, wrap64 (st + 1)⟩ U) fun W hW => (num_same_eq W n oA tA hs.length oc out.length tc ((p : Int) + 1) (wrap64 (st + 1)) a b c N ha hb hc hh).mono (by rintro e w' ⟨rfl, hb⟩; exact ⟨_, rfl, rfl, rfl, ⟨oA, hs, oc, tA, tc, stA_X n a _ _ _ _ _ (by omega), hoc, htc, ((hO.bound.below hW).below hb).mono fun k h => .inl h, ((hTo.bound.below hW).below hb).mono fun k h => .inl h⟩, hb⟩))
set_option maxRecDepth 100000 in
theorem ps_same_ne (a b c : Nat) (N : Int) (hp : p < code.length) (x0 : (rd_T46 code p).f0 = 15) (x1 : (rd_T46 code p).f1 = (a : Nat)) (x2 : (rd_T46 code p).f2 = (b : Nat)) (x3 : (rd_T46 code p).f3 = (c : Nat)) (x4 : (rd_T46 code p).f4 = N) (ha : (a : Int) < 8) (hb : (b : Int) < 8) (hc : (c : Int) < 8) (hh : ¬ n (8 + b) = n (8 + c)) : Calls Tryz.prog 14 #[.agg #[.slice A0 ts.length c0, .string la, .string gl, .slice A3 code.length c3], .agg (stA n (.slice oA hs.length oc) (.slice tA out.length tc) p st)] w fun e w' => ∃ cs', e = .returned (.tuple #[.agg cs', .bool false, .int .i64 0]) ∧ IsS w' (fun k => P k ∨ w.heap.size ≤ k) ⟨upd n a 0, objs, out, (p : Int) + 1, wrap64 (st + 1)⟩ cs' ∧ Below w.heap.size w w' :=
  step_fin (step_num w n oA tA hs.length oc out.length tc p st A0 c0 ts la gl A3 c3 code hT hc0 hC hc3 hK 15 a b c N hp x0 x1 x2 x3 x4 (by decide) (by decide) (fun W w2 U => IsS w2 (fun k => (P k ∧ k < w.heap.size) ∨ W.heap.size ≤ k) ⟨upd n a 0, objs, out, (p : Int) + 1, wrap64 (st + 1)⟩ U) fun W hW => (num_same_ne W n oA tA hs.length oc out.length tc ((p : Int) + 1) (wrap64 (st + 1)) a b c N ha hb hc hh).mono (by rintro e w' ⟨rfl, hb⟩; exact ⟨_, rfl, rfl, rfl, ⟨oA, hs, oc, tA, tc, stA_X n a _ _ _ _ _ (by omega), hoc, htc, ((hO.bound.below hW).below hb).mono fun k h => .inl h, ((hTo.bound.below hW).below hb).mono fun k h => .inl h⟩, hb⟩))
set_option maxRecDepth 100000 in
theorem ps_print (a b c : Nat) (N : Int) (hp : p < code.length) (x0 : (rd_T46 code p).f0 = 14) (x1 : (rd_T46 code p).f1 = (a : Nat)) (x2 : (rd_T46 code p).f2 = (b : Nat)) (x3 : (rd_T46 code p).f3 = (c : Nat)) (x4 : (rd_T46 code p).f4 = N) (ha : (a : Int) < 8) (hl : out.length ≤ 1000000) : Calls Tryz.prog 14 #[.agg #[.slice A0 ts.length c0, .string la, .string gl, .slice A3 code.length c3], .agg (stA n (.slice oA hs.length oc) (.slice tA out.length tc) p st)] w fun e w' => ∃ cs', e = .returned (.tuple #[.agg cs', .bool false, .int .i64 0]) ∧ IsS w' (fun k => P k ∨ w.heap.size ≤ k) ⟨n, objs, (out ++ [n a]), (p : Int) + 1, wrap64 (st + 1)⟩ cs' ∧ Below w.heap.size w w' :=
  step_fin (step_num w n oA tA hs.length oc out.length tc p st A0 c0 ts la gl A3 c3 code hT hc0 hC hc3 hK 14 a b c N hp x0 x1 x2 x3 x4 (by decide) (by decide) (fun W w2 U => IsS w2 (fun k => (P k ∧ k < w.heap.size) ∨ W.heap.size ≤ k) ⟨n, objs, (out ++ [n a]), (p : Int) + 1, wrap64 (st + 1)⟩ U) fun W hW => (num_print W n oA tA hs.length oc out.length tc ((p : Int) + 1) (wrap64 (st + 1)) a b c N out rfl htc (hTo.below hW).now hl ha).mono (by rintro e w' ⟨A', c', rfl, hc', hq, hb⟩; exact ⟨_, rfl, rfl, rfl, ⟨oA, hs, oc, A', c', by simp [stA], hoc, by simpa using hc', ((hO.bound.below hW).below hb).mono fun k h => .inl h, hq.mono fun k h => .inr h⟩, hb⟩))
set_option maxRecDepth 100000 in
theorem ps_nil (a b c : Nat) (N : Int) (hp : p < code.length) (x0 : (rd_T46 code p).f0 = 6) (x1 : (rd_T46 code p).f1 = (a : Nat)) (x2 : (rd_T46 code p).f2 = (b : Nat)) (x3 : (rd_T46 code p).f3 = (c : Nat)) (x4 : (rd_T46 code p).f4 = N) (ha : (a : Int) < 8) : Calls Tryz.prog 14 #[.agg #[.slice A0 ts.length c0, .string la, .string gl, .slice A3 code.length c3], .agg (stA n (.slice oA hs.length oc) (.slice tA out.length tc) p st)] w fun e w' => ∃ cs', e = .returned (.tuple #[.agg cs', .bool false, .int .i64 0]) ∧ IsS w' (fun k => P k ∨ w.heap.size ≤ k) ⟨upd n (8 + a) 0, objs, out, (p : Int) + 1, wrap64 (st + 1)⟩ cs' ∧ Below w.heap.size w w' :=
  step_fin (step_ptr w n oA tA hs.length oc out.length tc p st A0 c0 ts la gl A3 c3 code hT hc0 hC hc3 hK 6 a b c N hp x0 x1 x2 x3 x4 (by decide) (by decide) (fun W w2 U => IsS w2 (fun k => (P k ∧ k < w.heap.size) ∨ W.heap.size ≤ k) ⟨upd n (8 + a) 0, objs, out, (p : Int) + 1, wrap64 (st + 1)⟩ U) (fun W hW => (num_other W n oA tA hs.length oc out.length tc ((p : Int) + 1) (wrap64 (st + 1)) a b c 6 N (by decide) (by decide) (by decide) (by decide)).mono fun e w' h => h) fun W hW => (ptr_nil W n oA tA hs.length oc out.length tc ((p : Int) + 1) (wrap64 (st + 1)) a b c N A0 c0 ts la gl A3 c3 code ha).mono (by rintro e w' ⟨rfl, hb⟩; exact ⟨_, rfl, rfl, rfl, ⟨oA, hs, oc, tA, tc, stA_P n a _ _ _ _ _ (by omega), hoc, htc, ((hO.bound.below hW).below hb).mono fun k h => .inl h, ((hTo.bound.below hW).below hb).mono fun k h => .inl h⟩, hb⟩))
set_option maxRecDepth 100000 in
theorem ps_move (a b c : Nat) (N : Int) (hp : p < code.length) (x0 : (rd_T46 code p).f0 = 7) (x1 : (rd_T46 code p).f1 = (a : Nat)) (x2 : (rd_T46 code p).f2 = (b : Nat)) (x3 : (rd_T46 code p).f3 = (c : Nat)) (x4 : (rd_T46 code p).f4 = N) (ha : (a : Int) < 8) (hb : (b : Int) < 8) : Calls Tryz.prog 14 #[.agg #[.slice A0 ts.length c0, .string la, .string gl, .slice A3 code.length c3], .agg (stA n (.slice oA hs.length oc) (.slice tA out.length tc) p st)] w fun e w' => ∃ cs', e = .returned (.tuple #[.agg cs', .bool false, .int .i64 0]) ∧ IsS w' (fun k => P k ∨ w.heap.size ≤ k) ⟨upd n (8 + a) (n (8 + b)), objs, out, (p : Int) + 1, wrap64 (st + 1)⟩ cs' ∧ Below w.heap.size w w' :=
  step_fin (step_ptr w n oA tA hs.length oc out.length tc p st A0 c0 ts la gl A3 c3 code hT hc0 hC hc3 hK 7 a b c N hp x0 x1 x2 x3 x4 (by decide) (by decide) (fun W w2 U => IsS w2 (fun k => (P k ∧ k < w.heap.size) ∨ W.heap.size ≤ k) ⟨upd n (8 + a) (n (8 + b)), objs, out, (p : Int) + 1, wrap64 (st + 1)⟩ U) (fun W hW => (num_other W n oA tA hs.length oc out.length tc ((p : Int) + 1) (wrap64 (st + 1)) a b c 7 N (by decide) (by decide) (by decide) (by decide)).mono fun e w' h => h) fun W hW => (ptr_move W n oA tA hs.length oc out.length tc ((p : Int) + 1) (wrap64 (st + 1)) a b c N A0 c0 ts la gl A3 c3 code ha hb).mono (by rintro e w' ⟨rfl, hb⟩; exact ⟨_, rfl, rfl, rfl, ⟨oA, hs, oc, tA, tc, stA_P n a _ _ _ _ _ (by omega), hoc, htc, ((hO.bound.below hW).below hb).mono fun k h => .inl h, ((hTo.bound.below hW).below hb).mono fun k h => .inl h⟩, hb⟩))
set_option maxRecDepth 100000 in
theorem ps_loadG (a b c : Nat) (N : Int) (hp : p < code.length) (x0 : (rd_T46 code p).f0 = 12) (x1 : (rd_T46 code p).f1 = (a : Nat)) (x2 : (rd_T46 code p).f2 = (b : Nat)) (x3 : (rd_T46 code p).f3 = (c : Nat)) (x4 : (rd_T46 code p).f4 = N) (ha : (a : Int) < 8) (hb : (b : Int) < 4) : Calls Tryz.prog 14 #[.agg #[.slice A0 ts.length c0, .string la, .string gl, .slice A3 code.length c3], .agg (stA n (.slice oA hs.length oc) (.slice tA out.length tc) p st)] w fun e w' => ∃ cs', e = .returned (.tuple #[.agg cs', .bool false, .int .i64 0]) ∧ IsS w' (fun k => P k ∨ w.heap.size ≤ k) ⟨upd n (8 + a) (n (16 + b)), objs, out, (p : Int) + 1, wrap64 (st + 1)⟩ cs' ∧ Below w.heap.size w w' :=
  step_fin (step_ptr w n oA tA hs.length oc out.length tc p st A0 c0 ts la gl A3 c3 code hT hc0 hC hc3 hK 12 a b c N hp x0 x1 x2 x3 x4 (by decide) (by decide) (fun W w2 U => IsS w2 (fun k => (P k ∧ k < w.heap.size) ∨ W.heap.size ≤ k) ⟨upd n (8 + a) (n (16 + b)), objs, out, (p : Int) + 1, wrap64 (st + 1)⟩ U) (fun W hW => (num_other W n oA tA hs.length oc out.length tc ((p : Int) + 1) (wrap64 (st + 1)) a b c 12 N (by decide) (by decide) (by decide) (by decide)).mono fun e w' h => h) fun W hW => (ptr_loadG W n oA tA hs.length oc out.length tc ((p : Int) + 1) (wrap64 (st + 1)) a b c N A0 c0 ts la gl A3 c3 code ha hb).mono (by rintro e w' ⟨rfl, hb⟩; exact ⟨_, rfl, rfl, rfl, ⟨oA, hs, oc, tA, tc, stA_P n a _ _ _ _ _ (by omega), hoc, htc, ((hO.bound.below hW).below hb).mono fun k h => .inl h, ((hTo.bound.below hW).below hb).mono fun k h => .inl h⟩, hb⟩))
set_option maxRecDepth 100000 in
theorem ps_storeG (a b c : Nat) (N : Int) (hp : p < code.length) (x0 : (rd_T46 code p).f0 = 13) (x1 : (rd_T46 code p).f1 = (a : Nat)) (x2 : (rd_T46 code p).f2 = (b : Nat)) (x3 : (rd_T46 code p).f3 = (c : Nat)) (x4 : (rd_T46 code p).f4 = N) (ha : (a : Int) < 4) (hb : (b : Int) < 8) : Calls Tryz.prog 14 #[.agg #[.slice A0 ts.length c0, .string la, .string gl, .slice A3 code.length c3], .agg (stA n (.slice oA hs.length oc) (.slice tA out.length tc) p st)] w fun e w' => ∃ cs', e = .returned (.tuple #[.agg cs', .bool false, .int .i64 0]) ∧ IsS w' (fun k => P k ∨ w.heap.size ≤ k) ⟨upd n (16 + a) (n (8 + b)), objs, out, (p : Int) + 1, wrap64 (st + 1)⟩ cs' ∧ Below w.heap.size w w' :=
  step_fin (step_ptr w n oA tA hs.length oc out.length tc p st A0 c0 ts la gl A3 c3 code hT hc0 hC hc3 hK 13 a b c N hp x0 x1 x2 x3 x4 (by decide) (by decide) (fun W w2 U => IsS w2 (fun k => (P k ∧ k < w.heap.size) ∨ W.heap.size ≤ k) ⟨upd n (16 + a) (n (8 + b)), objs, out, (p : Int) + 1, wrap64 (st + 1)⟩ U) (fun W hW => (num_other W n oA tA hs.length oc out.length tc ((p : Int) + 1) (wrap64 (st + 1)) a b c 13 N (by decide) (by decide) (by decide) (by decide)).mono fun e w' h => h) fun W hW => (ptr_storeG W n oA tA hs.length oc out.length tc ((p : Int) + 1) (wrap64 (st + 1)) a b c N A0 c0 ts la gl A3 c3 code ha hb).mono (by rintro e w' ⟨rfl, hb⟩; exact ⟨_, rfl, rfl, rfl, ⟨oA, hs, oc, tA, tc, stA_G n a _ _ _ _ _ (by omega), hoc, htc, ((hO.bound.below hW).below hb).mono fun k h => .inl h, ((hTo.bound.below hW).below hb).mono fun k h => .inl h⟩, hb⟩))
set_option maxRecDepth 100000 in
theorem ps_new (a b c : Nat) (N : Int) (hp : p < code.length) (x0 : (rd_T46 code p).f0 = 5) (x1 : (rd_T46 code p).f1 = (a : Nat)) (x2 : (rd_T46 code p).f2 = (b : Nat)) (x3 : (rd_T46 code p).f3 = (c : Nat)) (x4 : (rd_T46 code p).f4 = N) (ha : (a : Int) < 8) (hl : hs.length ≤ 1000000) (m k1 k2 : Nat) (t0 : Int) (hm : m ≤ 1000000) (h1 : lockstitchref05_Local.f k1 ts la gl code a = some t0) (h2 : lockstitchref03_Size.f k2 ts t0 = some (m : Int)) : Calls Tryz.prog 14 #[.agg #[.slice A0 ts.length c0, .string la, .string gl, .slice A3 code.length c3], .agg (stA n (.slice oA hs.length oc) (.slice tA out.length tc) p st)] w fun e w' => ∃ cs', e = .returned (.tuple #[.agg cs', .bool false, .int .i64 0]) ∧ IsS w' (fun k => P k ∨ w.heap.size ≤ k) ⟨upd n (8 + a) ((hs.length : Int) + 1), (objs ++ [List.replicate m 0]), out, (p : Int) + 1, wrap64 (st + 1)⟩ cs' ∧ Below w.heap.size w w' :=
  step_fin (step_ptr w n oA tA hs.length oc out.length tc p st A0 c0 ts la gl A3 c3 code hT hc0 hC hc3 hK 5 a b c N hp x0 x1 x2 x3 x4 (by decide) (by decide) (fun W w2 U => IsS w2 (fun k => (P k ∧ k < w.heap.size) ∨ W.heap.size ≤ k) ⟨upd n (8 + a) ((hs.length : Int) + 1), (objs ++ [List.replicate m 0]), out, (p : Int) + 1, wrap64 (st + 1)⟩ U) (fun W hW => (num_other W n oA tA hs.length oc out.length tc ((p : Int) + 1) (wrap64 (st + 1)) a b c 5 N (by decide) (by decide) (by decide) (by decide)).mono fun e w' h => h) fun W hW => (ptr_new W n oA tA oc out.length tc ((p : Int) + 1) (wrap64 (st + 1)) a b c N A0 c0 ts la gl A3 c3 code (fun k => P k ∧ k < w.heap.size) hs objs (hO.bound.below hW) hoc hl ha (Kd.C_below hT hW) hc0 (Kd.C_below hC hW) hc3 k1 k2 t0 m hm h1 h2).mono (by rintro e w' ⟨A', c', hs', rfl, hc', hq, hb⟩; exact ⟨_, rfl, rfl, rfl, ⟨A', hs', c', tA, tc, stA_P n a _ _ _ _ _ (by omega), hc', htc, hq, ((hTo.bound.below hW).below hb).mono fun k h => .inl h⟩, hb⟩))
set_option maxRecDepth 100000 in
theorem ps_loadI (a b c : Nat) (o f : Nat) (hp : p < code.length) (x0 : (rd_T46 code p).f0 = 8) (x1 : (rd_T46 code p).f1 = (a : Nat)) (x2 : (rd_T46 code p).f2 = (b : Nat)) (x3 : (rd_T46 code p).f3 = (c : Nat)) (x4 : (rd_T46 code p).f4 = (f : Nat)) (ho : o < hs.length) (hf : f < (objs.getD o []).length) (hq : n (8 + b) = (o : Int) + 1) (ha : (a : Int) < 8) (hb : (b : Int) < 8) : Calls Tryz.prog 14 #[.agg #[.slice A0 ts.length c0, .string la, .string gl, .slice A3 code.length c3], .agg (stA n (.slice oA hs.length oc) (.slice tA out.length tc) p st)] w fun e w' => ∃ cs', e = .returned (.tuple #[.agg cs', .bool false, .int .i64 0]) ∧ IsS w' (fun k => P k ∨ w.heap.size ≤ k) ⟨upd n a ((objs.getD o []).getD f 0), objs, out, (p : Int) + 1, wrap64 (st + 1)⟩ cs' ∧ Below w.heap.size w w' :=
  step_fin (step_mem w n oA tA hs.length oc out.length tc p st A0 c0 ts la gl A3 c3 code hT hc0 hC hc3 hK 8 a b c f hp x0 x1 x2 x3 x4 (by decide) (by decide) (fun W w2 U => IsS w2 (fun k => (P k ∧ k < w.heap.size) ∨ W.heap.size ≤ k) ⟨upd n a ((objs.getD o []).getD f 0), objs, out, (p : Int) + 1, wrap64 (st + 1)⟩ U) (fun W hW => (num_other W n oA tA hs.length oc out.length tc ((p : Int) + 1) (wrap64 (st + 1)) a b c 8 (f : Int) (by decide) (by decide) (by decide) (by decide)).mono fun e w' h => h) (fun W hW => (ptr_other W n oA tA hs.length oc out.length tc ((p : Int) + 1) (wrap64 (st + 1)) a b c 8 (f : Int) A0 c0 ts la gl A3 c3 code (by decide) (by decide) (by decide) (by decide) (by decide)).mono fun e w' h => h) fun W hW => (mem_loadI W n oA tA hs.length oc out.length tc ((p : Int) + 1) (wrap64 (st + 1)) a b c hs objs rfl (hO.below hW).now o f ho hf hq ha hb).mono (by rintro e w' ⟨rfl, hb⟩; exact ⟨_, rfl, rfl, rfl, ⟨oA, hs, oc, tA, tc, stA_X n a _ _ _ _ _ (by omega), hoc, htc, ((hO.bound.below hW).below hb).mono fun k h => .inl h, ((hTo.bound.below hW).below hb).mono fun k h => .inl h⟩, hb⟩))
set_option maxRecDepth 100000 in
theorem ps_loadP (a b c : Nat) (o f : Nat) (hp : p < code.length) (x0 : (rd_T46 code p).f0 = 10) (x1 : (rd_T46 code p).f1 = (a : Nat)) (x2 : (rd_T46 code p).f2 = (b : Nat)) (x3 : (rd_T46 code p).f3 = (c : Nat)) (x4 : (rd_T46 code p).f4 = (f : Nat)) (ho : o < hs.length) (hf : f < (objs.getD o []).length) (hq : n (8 + b) = (o : Int) + 1) (ha : (a : Int) < 8) (hb : (b : Int) < 8) : Calls Tryz.prog 14 #[.agg #[.slice A0 ts.length c0, .string la, .string gl, .slice A3 code.length c3], .agg (stA n (.slice oA hs.length oc) (.slice tA out.length tc) p st)] w fun e w' => ∃ cs', e = .returned (.tuple #[.agg cs', .bool false, .int .i64 0]) ∧ IsS w' (fun k => P k ∨ w.heap.size ≤ k) ⟨upd n (8 + a) ((objs.getD o []).getD f 0), objs, out, (p : Int) + 1, wrap64 (st + 1)⟩ cs' ∧ Below w.heap.size w w' :=
  step_fin (step_mem w n oA tA hs.length oc out.length tc p st A0 c0 ts la gl A3 c3 code hT hc0 hC hc3 hK 10 a b c f hp x0 x1 x2 x3 x4 (by decide) (by decide) (fun W w2 U => IsS w2 (fun k => (P k ∧ k < w.heap.size) ∨ W.heap.size ≤ k) ⟨upd n (8 + a) ((objs.getD o []).getD f 0), objs, out, (p : Int) + 1, wrap64 (st + 1)⟩ U) (fun W hW => (num_other W n oA tA hs.length oc out.length tc ((p : Int) + 1) (wrap64 (st + 1)) a b c 10 (f : Int) (by decide) (by decide) (by decide) (by decide)).mono fun e w' h => h) (fun W hW => (ptr_other W n oA tA hs.length oc out.length tc ((p : Int) + 1) (wrap64 (st + 1)) a b c 10 (f : Int) A0 c0 ts la gl A3 c3 code (by decide) (by decide) (by decide) (by decide) (by decide)).mono fun e w' h => h) fun W hW => (mem_loadP W n oA tA hs.length oc out.length tc ((p : Int) + 1) (wrap64 (st + 1)) a b c hs objs rfl (hO.below hW).now o f ho hf hq ha hb).mono (by rintro e w' ⟨rfl, hb⟩; exact ⟨_, rfl, rfl, rfl, ⟨oA, hs, oc, tA, tc, stA_P n a _ _ _ _ _ (by omega), hoc, htc, ((hO.bound.below hW).below hb).mono fun k h => .inl h, ((hTo.bound.below hW).below hb).mono fun k h => .inl h⟩, hb⟩))
set_option maxRecDepth 100000 in
theorem ps_storeI (a b c : Nat) (o f : Nat) (hp : p < code.length) (x0 : (rd_T46 code p).f0 = 9) (x1 : (rd_T46 code p).f1 = (a : Nat)) (x2 : (rd_T46 code p).f2 = (b : Nat)) (x3 : (rd_T46 code p).f3 = (c : Nat)) (x4 : (rd_T46 code p).f4 = (f : Nat)) (ho : o < hs.length) (hf : f < (objs.getD o []).length) (hl1 : hs.length ≤ 1000000) (hl2 : (objs.getD o []).length ≤ 1000000) (hq : n (8 + a) = (o : Int) + 1) (ha : (a : Int) < 8) (hb : (b : Int) < 8) : Calls Tryz.prog 14 #[.agg #[.slice A0 ts.length c0, .string la, .string gl, .slice A3 code.length c3], .agg (stA n (.slice oA hs.length oc) (.slice tA out.length tc) p st)] w fun e w' => ∃ cs', e = .returned (.tuple #[.agg cs', .bool false, .int .i64 0]) ∧ IsS w' (fun k => P k ∨ w.heap.size ≤ k) ⟨n, (objs.set o ((objs.getD o []).set f (n b))), out, (p : Int) + 1, wrap64 (st + 1)⟩ cs' ∧ Below w.heap.size w w' :=
  step_fin (step_mem w n oA tA hs.length oc out.length tc p st A0 c0 ts la gl A3 c3 code hT hc0 hC hc3 hK 9 a b c f hp x0 x1 x2 x3 x4 (by decide) (by decide) (fun W w2 U => IsS w2 (fun k => (P k ∧ k < w.heap.size) ∨ W.heap.size ≤ k) ⟨n, (objs.set o ((objs.getD o []).set f (n b))), out, (p : Int) + 1, wrap64 (st + 1)⟩ U) (fun W hW => (num_other W n oA tA hs.length oc out.length tc ((p : Int) + 1) (wrap64 (st + 1)) a b c 9 (f : Int) (by decide) (by decide) (by decide) (by decide)).mono fun e w' h => h) (fun W hW => (ptr_other W n oA tA hs.length oc out.length tc ((p : Int) + 1) (wrap64 (st + 1)) a b c 9 (f : Int) A0 c0 ts la gl A3 c3 code (by decide) (by decide) (by decide) (by decide) (by decide)).mono fun e w' h => h) fun W hW => (mem_storeI W n oA tA oc out.length tc ((p : Int) + 1) (wrap64 (st + 1)) a b c (fun k => P k ∧ k < w.heap.size) hs objs (hO.bound.below hW) hoc o f ho hf hl1 hl2 hq ha hb).mono (by rintro e w' ⟨A', c', hs', rfl, hc', hq, hb⟩; exact ⟨_, rfl, rfl, rfl, ⟨A', hs', c', tA, tc, rfl, hc', htc, hq, ((hTo.bound.below hW).below hb).mono fun k h => .inl h⟩, hb⟩))
set_option maxRecDepth 100000 in
theorem ps_storeP (a b c : Nat) (o f : Nat) (hp : p < code.length) (x0 : (rd_T46 code p).f0 = 11) (x1 : (rd_T46 code p).f1 = (a : Nat)) (x2 : (rd_T46 code p).f2 = (b : Nat)) (x3 : (rd_T46 code p).f3 = (c : Nat)) (x4 : (rd_T46 code p).f4 = (f : Nat)) (ho : o < hs.length) (hf : f < (objs.getD o []).length) (hl1 : hs.length ≤ 1000000) (hl2 : (objs.getD o []).length ≤ 1000000) (hq : n (8 + a) = (o : Int) + 1) (ha : (a : Int) < 8) (hb : (b : Int) < 8) : Calls Tryz.prog 14 #[.agg #[.slice A0 ts.length c0, .string la, .string gl, .slice A3 code.length c3], .agg (stA n (.slice oA hs.length oc) (.slice tA out.length tc) p st)] w fun e w' => ∃ cs', e = .returned (.tuple #[.agg cs', .bool false, .int .i64 0]) ∧ IsS w' (fun k => P k ∨ w.heap.size ≤ k) ⟨n, (objs.set o ((objs.getD o []).set f (n (8 + b)))), out, (p : Int) + 1, wrap64 (st + 1)⟩ cs' ∧ Below w.heap.size w w' :=
  step_fin (step_mem w n oA tA hs.length oc out.length tc p st A0 c0 ts la gl A3 c3 code hT hc0 hC hc3 hK 11 a b c f hp x0 x1 x2 x3 x4 (by decide) (by decide) (fun W w2 U => IsS w2 (fun k => (P k ∧ k < w.heap.size) ∨ W.heap.size ≤ k) ⟨n, (objs.set o ((objs.getD o []).set f (n (8 + b)))), out, (p : Int) + 1, wrap64 (st + 1)⟩ U) (fun W hW => (num_other W n oA tA hs.length oc out.length tc ((p : Int) + 1) (wrap64 (st + 1)) a b c 11 (f : Int) (by decide) (by decide) (by decide) (by decide)).mono fun e w' h => h) (fun W hW => (ptr_other W n oA tA hs.length oc out.length tc ((p : Int) + 1) (wrap64 (st + 1)) a b c 11 (f : Int) A0 c0 ts la gl A3 c3 code (by decide) (by decide) (by decide) (by decide) (by decide)).mono fun e w' h => h) fun W hW => (mem_storeP W n oA tA oc out.length tc ((p : Int) + 1) (wrap64 (st + 1)) a b c (fun k => P k ∧ k < w.heap.size) hs objs (hO.bound.below hW) hoc o f ho hf hl1 hl2 hq ha hb).mono (by rintro e w' ⟨A', c', hs', rfl, hc', hq, hb⟩; exact ⟨_, rfl, rfl, rfl, ⟨A', hs', c', tA, tc, rfl, hc', htc, hq, ((hTo.bound.below hW).below hb).mono fun k h => .inl h⟩, hb⟩))
set_option maxRecDepth 100000 in
theorem ps_none8 (a b c : Nat) (N : Int) (hp : p < code.length) (x0 : (rd_T46 code p).f0 = 8) (x1 : (rd_T46 code p).f1 = (a : Nat)) (x2 : (rd_T46 code p).f2 = (b : Nat)) (x3 : (rd_T46 code p).f3 = (c : Nat)) (x4 : (rd_T46 code p).f4 = N) (hx : (b : Int) < 8) (hq : n (8 + b) = 0) : Calls Tryz.prog 14 #[.agg #[.slice A0 ts.length c0, .string la, .string gl, .slice A3 code.length c3], .agg (stA n (.slice oA hs.length oc) (.slice tA out.length tc) p st)] w fun e w' => ∃ cs', e = .returned (.tuple #[.agg cs', .bool false, .int .i64 9]) ∧ IsS w' (fun k => P k ∨ w.heap.size ≤ k) ⟨n, objs, out, p, st⟩ cs' ∧ Below w.heap.size w w' := by
  refine (step_err w n oA tA hs.length oc out.length tc p st A0 c0 ts la gl A3 c3 code hT hc0 hC hc3 hK 8 a b c N hp x0 x1 x2 x3 x4 (by decide) (by decide) (fun W hW => (num_other W n oA tA hs.length oc out.length tc ((p : Int) + 1) (wrap64 (st + 1)) a b c 8 N (by decide) (by decide) (by decide) (by decide)).mono fun e w' h => h) (fun W hW => (ptr_other W n oA tA hs.length oc out.length tc ((p : Int) + 1) (wrap64 (st + 1)) a b c 8 N A0 c0 ts la gl A3 c3 code (by decide) (by decide) (by decide) (by decide) (by decide)).mono fun e w' h => h) fun W hW => (mem_none8 W n oA tA hs.length oc out.length tc ((p : Int) + 1) (wrap64 (st + 1)) a b c N hx hq).mono fun e w' h => h).mono ?_
  rintro e w' ⟨rfl, hb⟩
  exact ⟨_, rfl, ⟨oA, hs, oc, tA, tc, rfl, hoc, htc, (hO.below hb).mono fun k h => .inl h, (hTo.below hb).mono fun k h => .inl h⟩, hb⟩
set_option maxRecDepth 100000 in
theorem ps_none10 (a b c : Nat) (N : Int) (hp : p < code.length) (x0 : (rd_T46 code p).f0 = 10) (x1 : (rd_T46 code p).f1 = (a : Nat)) (x2 : (rd_T46 code p).f2 = (b : Nat)) (x3 : (rd_T46 code p).f3 = (c : Nat)) (x4 : (rd_T46 code p).f4 = N) (hx : (b : Int) < 8) (hq : n (8 + b) = 0) : Calls Tryz.prog 14 #[.agg #[.slice A0 ts.length c0, .string la, .string gl, .slice A3 code.length c3], .agg (stA n (.slice oA hs.length oc) (.slice tA out.length tc) p st)] w fun e w' => ∃ cs', e = .returned (.tuple #[.agg cs', .bool false, .int .i64 9]) ∧ IsS w' (fun k => P k ∨ w.heap.size ≤ k) ⟨n, objs, out, p, st⟩ cs' ∧ Below w.heap.size w w' := by
  refine (step_err w n oA tA hs.length oc out.length tc p st A0 c0 ts la gl A3 c3 code hT hc0 hC hc3 hK 10 a b c N hp x0 x1 x2 x3 x4 (by decide) (by decide) (fun W hW => (num_other W n oA tA hs.length oc out.length tc ((p : Int) + 1) (wrap64 (st + 1)) a b c 10 N (by decide) (by decide) (by decide) (by decide)).mono fun e w' h => h) (fun W hW => (ptr_other W n oA tA hs.length oc out.length tc ((p : Int) + 1) (wrap64 (st + 1)) a b c 10 N A0 c0 ts la gl A3 c3 code (by decide) (by decide) (by decide) (by decide) (by decide)).mono fun e w' h => h) fun W hW => (mem_none10 W n oA tA hs.length oc out.length tc ((p : Int) + 1) (wrap64 (st + 1)) a b c N hx hq).mono fun e w' h => h).mono ?_
  rintro e w' ⟨rfl, hb⟩
  exact ⟨_, rfl, ⟨oA, hs, oc, tA, tc, rfl, hoc, htc, (hO.below hb).mono fun k h => .inl h, (hTo.below hb).mono fun k h => .inl h⟩, hb⟩
set_option maxRecDepth 100000 in
theorem ps_none9 (a b c : Nat) (N : Int) (hp : p < code.length) (x0 : (rd_T46 code p).f0 = 9) (x1 : (rd_T46 code p).f1 = (a : Nat)) (x2 : (rd_T46 code p).f2 = (b : Nat)) (x3 : (rd_T46 code p).f3 = (c : Nat)) (x4 : (rd_T46 code p).f4 = N) (hx : (a : Int) < 8) (hq : n (8 + a) = 0) : Calls Tryz.prog 14 #[.agg #[.slice A0 ts.length c0, .string la, .string gl, .slice A3 code.length c3], .agg (stA n (.slice oA hs.length oc) (.slice tA out.length tc) p st)] w fun e w' => ∃ cs', e = .returned (.tuple #[.agg cs', .bool false, .int .i64 9]) ∧ IsS w' (fun k => P k ∨ w.heap.size ≤ k) ⟨n, objs, out, p, st⟩ cs' ∧ Below w.heap.size w w' := by
  refine (step_err w n oA tA hs.length oc out.length tc p st A0 c0 ts la gl A3 c3 code hT hc0 hC hc3 hK 9 a b c N hp x0 x1 x2 x3 x4 (by decide) (by decide) (fun W hW => (num_other W n oA tA hs.length oc out.length tc ((p : Int) + 1) (wrap64 (st + 1)) a b c 9 N (by decide) (by decide) (by decide) (by decide)).mono fun e w' h => h) (fun W hW => (ptr_other W n oA tA hs.length oc out.length tc ((p : Int) + 1) (wrap64 (st + 1)) a b c 9 N A0 c0 ts la gl A3 c3 code (by decide) (by decide) (by decide) (by decide) (by decide)).mono fun e w' h => h) fun W hW => (mem_none9 W n oA tA hs.length oc out.length tc ((p : Int) + 1) (wrap64 (st + 1)) a b c N hx hq).mono fun e w' h => h).mono ?_
  rintro e w' ⟨rfl, hb⟩
  exact ⟨_, rfl, ⟨oA, hs, oc, tA, tc, rfl, hoc, htc, (hO.below hb).mono fun k h => .inl h, (hTo.below hb).mono fun k h => .inl h⟩, hb⟩
set_option maxRecDepth 100000 in
theorem ps_none11 (a b c : Nat) (N : Int) (hp : p < code.length) (x0 : (rd_T46 code p).f0 = 11) (x1 : (rd_T46 code p).f1 = (a : Nat)) (x2 : (rd_T46 code p).f2 = (b : Nat)) (x3 : (rd_T46 code p).f3 = (c : Nat)) (x4 : (rd_T46 code p).f4 = N) (hx : (a : Int) < 8) (hq : n (8 + a) = 0) : Calls Tryz.prog 14 #[.agg #[.slice A0 ts.length c0, .string la, .string gl, .slice A3 code.length c3], .agg (stA n (.slice oA hs.length oc) (.slice tA out.length tc) p st)] w fun e w' => ∃ cs', e = .returned (.tuple #[.agg cs', .bool false, .int .i64 9]) ∧ IsS w' (fun k => P k ∨ w.heap.size ≤ k) ⟨n, objs, out, p, st⟩ cs' ∧ Below w.heap.size w w' := by
  refine (step_err w n oA tA hs.length oc out.length tc p st A0 c0 ts la gl A3 c3 code hT hc0 hC hc3 hK 11 a b c N hp x0 x1 x2 x3 x4 (by decide) (by decide) (fun W hW => (num_other W n oA tA hs.length oc out.length tc ((p : Int) + 1) (wrap64 (st + 1)) a b c 11 N (by decide) (by decide) (by decide) (by decide)).mono fun e w' h => h) (fun W hW => (ptr_other W n oA tA hs.length oc out.length tc ((p : Int) + 1) (wrap64 (st + 1)) a b c 11 N A0 c0 ts la gl A3 c3 code (by decide) (by decide) (by decide) (by decide) (by decide)).mono fun e w' h => h) fun W hW => (mem_none11 W n oA tA hs.length oc out.length tc ((p : Int) + 1) (wrap64 (st + 1)) a b c N hx hq).mono fun e w' h => h).mono ?_
  rintro e w' ⟨rfl, hb⟩
  exact ⟨_, rfl, ⟨oA, hs, oc, tA, tc, rfl, hoc, htc, (hO.below hb).mono fun k h => .inl h, (hTo.below hb).mono fun k h => .inl h⟩, hb⟩
end
end Go.Proofs.YtocechpmgfhenaaGreatDoor.ST

namespace Go.Proofs.YtocechpmgfhenaaGreatDoor.ST
open Go.RowKit Go.Proofs.YtocechpmgfhenaaGreatDoorW.PrintWords Go.Proofs.YtocechpmgfhenaaGreatDoor.Scan Go.Proofs.YtocechpmgfhenaaGreatDoor.F Go.Proofs.YtocechpmgfhenaaGreatDoor.KP Go.Proofs.YtocechpmgfhenaaGreatDoor.PL Go.Proofs.YtocechpmgfhenaaGreatDoor.ST0
set_option linter.unusedVariables false
set_option linter.unusedSectionVars false
section
variable {w : World} {A0 : Option Addr} {c0 : Nat} {ts : List ByteArray} {la gl : ByteArray} {A3 : Option Addr} {c3 : Nat} {code : List S46} {P : Nat → Prop}
  (hT : Kd.C Kd.string w A0 ts.length ts) (hc0 : ts.length ≤ c0) (hC : Kd.C k46 w A3 code.length code) (hc3 : code.length ≤ c3) (hK : CkO w A0 c0 ts la gl A3 c3 code)
  (hsp : SpP ⟨A0, c0, ts, la, gl, A3, c3, code⟩) (hl : (ts.length : Int) ≤ 9223372036854775807) (hsz : ∀ s ∈ ts, (s.size : Int) ≤ 9223372036854775807) (hla : Fit la) (hgl : Fit gl) (hw : WfC code)
  {s : PS} {cs : Array Value} (hS : IsS w P s cs) {ty : List Int} (hW : WT (atv ts la) (atv ts gl) (size ts) (to_ ts) ty s) (h0 : 0 ≤ s.pc) (h1 : s.pc ≤ code.length) (hn1 : s.objs.length ≤ 1000000) (hn2 : s.out.length ≤ 1000000)
include hT hc0 hC hc3 hK hsp hl hsz hla hgl hw hS hW h0 h1 hn1 hn2
theorem Step_ps : Calls Tryz.prog 14 #[.agg #[.slice A0 ts.length c0, .string la, .string gl, .slice A3 code.length c3], .agg cs] w fun e w' =>
    ∃ cs', e = .returned (.tuple #[.agg cs', .bool (stepP (size ts) (atv ts la) code s).2.1, .int .i64 (stepP (size ts) (atv ts la) code s).2.2]) ∧ IsS w' (fun k => P k ∨ w.heap.size ≤ k) (stepP (size ts) (atv ts la) code s).1 cs' ∧ Below w.heap.size w w' := by
  obtain ⟨oA, hs, oc, tA, tc, rfl, hoc, htc, hO, hTo⟩ := hS
  obtain ⟨p, hp⟩ := Int.eq_ofNat_of_zero_le h0
  obtain ⟨n, objs, out, pc, st⟩ := s
  simp only at hp hoc htc hO hTo hn1 hn2 h0 h1 ⊢
  subst hp
  have hLoc : ∀ a : Int, 0 ≤ a → a ≤ 255 → Ev (fun k => lockstitchref05_Local.f k ts la gl code a) (atv ts la a) := fun a ha0 ha1 => ev_bind (at_ev ts hl hsz la hla a ha0 ha1) ev_const
  have hSz : ∀ x : Int, Ev (fun k => lockstitchref03_Size.f k ts x) (size ts x) := fun x => ref_Size_ev ts hl hsz x
  have hlen := hO.now.len
  have hWl : ty.length = objs.length := hW.len
  by_cases he : (p : Int) = code.length
  · have e : stepP (size ts) (atv ts la) code ⟨n, objs, out, p, st⟩ = (⟨n, objs, out, p, st⟩, true, 0) := if_pos he
    rw [e]
    exact ps_end hT hc0 hC hc3 hK hLoc hSz hO hoc hTo htc (by omega)
  have hpl : p < code.length := by omega
  have hx := hw.rd p hpl
  have kk : KK (atv ts la) (atv ts gl) (size ts) (to_ ts) (rd_T46 code p) := SpP.kk hsp p hpl
  have hop : 1 ≤ (rd_T46 code p).f0 ∧ (rd_T46 code p).f0 ≤ 15 := by
    obtain ⟨o, eo, q⟩ := hsp.all p hpl
    have := q.op
    simp only at eo
    omega
  obtain ⟨⟨o0, _⟩, ⟨a0, a9⟩, ⟨b0, b9⟩, ⟨c0', c9⟩, _⟩ := hx
  obtain ⟨a, ha⟩ := Int.eq_ofNat_of_zero_le a0
  obtain ⟨b, hb⟩ := Int.eq_ofNat_of_zero_le b0
  obtain ⟨c, hc⟩ := Int.eq_ofNat_of_zero_le c0'
  obtain ⟨N, hN⟩ : ∃ N, (rd_T46 code p).f4 = N := ⟨_, rfl⟩
  have kia := kk.ia
  have kib := kk.ib
  have kic := kk.ic
  have kpa := kk.pa
  have kpb := kk.pb
  have kpc := kk.pc
  have kga := kk.ga
  have kgb := kk.gb
  rw [ha] at kia kpa kga
  rw [hb] at kib kpb kgb
  rw [hc] at kic kpc
  have FLD : ∀ {q : Nat} {t : Int}, (q : Int) < 8 → atv ts la (q : Int) = t → ¬ n (8 + q) = 0 → 0 ≤ N → N < size ts t → ∃ o f : Nat, n (8 + q) = (o : Int) + 1 ∧ N = (f : Int) ∧ o < hs.length ∧ f < (objs.getD o []).length ∧ (objs.getD o []).length ≤ 1000000 := by
    intro q t hq et hz hN0 hN1
    have : 1 ≤ n (8 + q) ∧ n (8 + q) ≤ ty.length ∧ ty.getD (n (8 + q) - 1).toNat (-1) = atv ts la q := (hW.ps q (by omega)).resolve_left hz
    obtain ⟨g1, g2, g3⟩ := this
    rw [et] at g3
    have hol := hW.os (n (8 + q) - 1).toNat (by show (n (8 + q) - 1).toNat < objs.length; omega)
    simp only at hol
    rw [g3] at hol
    have h6 := typ_le ts t
    have hs6 : size ts t ≤ 6 := by unfold size; omega
    exact ⟨(n (8 + q) - 1).toNat, N.toNat, by omega, by omega, by omega, by omega, by omega⟩
  unfold stepP
  simp only
  rw [if_neg he]
  by_cases o3 : (rd_T46 code p).f0 = 3
  · rw [if_pos (.inl o3)]
    simp only
    rw [hN]
    exact ps_jump hT hc0 hC hc3 hK hLoc hSz hO hoc hTo htc a b c N hpl o3 ha hb hc hN
  by_cases o4 : (rd_T46 code p).f0 = 4
  · have hx8 := kia (by omega)
    by_cases hz : n a = 0
    · rw [if_pos (.inr ⟨o4, by rw [ha]; simpa using hz⟩)]
      simp only
      rw [hN]
      exact ps_zero hT hc0 hC hc3 hK hLoc hSz hO hoc hTo htc a b c N hpl o4 ha hb hc hN hx8 hz
    · rw [if_neg (by rintro (e | e); exact o3 e; exact hz (by have := e.2; rw [ha] at this; simpa using this)), if_pos o4]
      simp only
      exact ps_pass hT hc0 hC hc3 hK hLoc hSz hO hoc hTo htc a b c N hpl o4 ha hb hc hN hx8 hz
  rw [if_neg (by rintro (e | e); exact o3 e; exact o4 e.1), if_neg o4]
  unfold stepN
  simp only
  rw [ha, hb, hc, hN]
  simp only [Int.toNat_natCast]
  by_cases g1 : (rd_T46 code p).f0 = 1
  · rw [if_pos g1]
    exact ps_set hT hc0 hC hc3 hK hLoc hSz hO hoc hTo htc a b c N hpl g1 ha hb hc hN (kia (by omega))
  rw [if_neg g1]
  by_cases g2 : (rd_T46 code p).f0 = 2
  · rw [if_pos g2]
    exact ps_add hT hc0 hC hc3 hK hLoc hSz hO hoc hTo htc a b c N hpl g2 ha hb hc hN (kia (by omega)) (kib (by omega)) (kic (by omega))
  rw [if_neg g2]
  by_cases g15 : (rd_T46 code p).f0 = 15
  · rw [if_pos g15]
    by_cases hh : n (8 + b) = n (8 + c)
    · rw [if_pos hh]
      exact ps_same_eq hT hc0 hC hc3 hK hLoc hSz hO hoc hTo htc a b c N hpl g15 ha hb hc hN (kia (by omega)) (kpb (by omega)) (kpc (by omega)) hh
    · rw [if_neg hh]
      exact ps_same_ne hT hc0 hC hc3 hK hLoc hSz hO hoc hTo htc a b c N hpl g15 ha hb hc hN (kia (by omega)) (kpb (by omega)) (kpc (by omega)) hh
  rw [if_neg g15]
  by_cases g14 : (rd_T46 code p).f0 = 14
  · rw [if_pos g14]
    exact ps_print hT hc0 hC hc3 hK hLoc hSz hO hoc hTo htc a b c N hpl g14 ha hb hc hN (kia (by omega)) hn2
  rw [if_neg g14]
  by_cases g5 : (rd_T46 code p).f0 = 5
  · rw [if_pos g5]
    obtain ⟨k1, e1⟩ := ev_at (hLoc (a : Int) (by omega) (by omega))
    obtain ⟨k2, e2⟩ := ev_at (hSz (atv ts la (a : Int)))
    have h6 := typ_le ts (atv ts la (a : Int))
    have en : size ts (atv ts la (a : Int)) = (((size ts (atv ts la (a : Int))).toNat : Nat) : Int) := by unfold size; omega
    rw [en] at e2
    have e5 : ((objs.length + 1 : Nat) : Int) = (hs.length : Int) + 1 := by omega
    rw [e5]
    exact ps_new hT hc0 hC hc3 hK hLoc hSz hO hoc hTo htc a b c N hpl g5 ha hb hc hN (kpa (by omega)) (by omega) (size ts (atv ts la (a : Int))).toNat k1 k2 _ (by unfold size; omega) e1 e2
  rw [if_neg g5]
  by_cases g6 : (rd_T46 code p).f0 = 6
  · rw [if_pos g6]
    exact ps_nil hT hc0 hC hc3 hK hLoc hSz hO hoc hTo htc a b c N hpl g6 ha hb hc hN (kpa (by omega))
  rw [if_neg g6]
  by_cases g7 : (rd_T46 code p).f0 = 7
  · rw [if_pos g7]
    exact ps_move hT hc0 hC hc3 hK hLoc hSz hO hoc hTo htc a b c N hpl g7 ha hb hc hN (kpa (by omega)) (kpb (by omega))
  rw [if_neg g7]
  by_cases g12 : (rd_T46 code p).f0 = 12
  · rw [if_pos g12]
    exact ps_loadG hT hc0 hC hc3 hK hLoc hSz hO hoc hTo htc a b c N hpl g12 ha hb hc hN (kpa (by omega)) (kgb (by omega))
  rw [if_neg g12]
  by_cases g13 : (rd_T46 code p).f0 = 13
  · rw [if_pos g13]
    exact ps_storeG hT hc0 hC hc3 hK hLoc hSz hO hoc hTo htc a b c N hpl g13 ha hb hc hN (kga (by omega)) (kpb (by omega))
  rw [if_neg g13]
  by_cases g8 : (rd_T46 code p).f0 = 8
  · rw [if_pos g8]
    by_cases hz : n (8 + b) = 0
    · rw [if_pos hz]
      exact ps_none8 hT hc0 hC hc3 hK hLoc hSz hO hoc hTo htc a b c N hpl g8 ha hb hc hN (kpb (by omega)) hz
    · rw [if_neg hz]
      obtain ⟨_, k2, k3⟩ := kk.loadI g8
      rw [hb, hN] at k3
      rw [hN] at k2
      obtain ⟨o, f, q1, q2, q3, q4, _⟩ := FLD (kpb (by omega)) rfl hz k2 k3
      have ef : fld objs (n (8 + b)) N = (objs.getD o []).getD f 0 := by unfold fld; rw [q1, q2]; simp
      rw [ef]
      exact ps_loadI hT hc0 hC hc3 hK hLoc hSz hO hoc hTo htc a b c o f hpl g8 ha hb hc (hN.trans q2) q3 q4 q1 (kia (by omega)) (kpb (by omega))
  rw [if_neg g8]
  by_cases g10 : (rd_T46 code p).f0 = 10
  · rw [if_pos g10]
    by_cases hz : n (8 + b) = 0
    · rw [if_pos hz]
      exact ps_none10 hT hc0 hC hc3 hK hLoc hSz hO hoc hTo htc a b c N hpl g10 ha hb hc hN (kpb (by omega)) hz
    · rw [if_neg hz]
      obtain ⟨k2, k3, _⟩ := kk.loadP g10
      rw [hb, hN] at k3
      rw [hN] at k2
      obtain ⟨o, f, q1, q2, q3, q4, _⟩ := FLD (kpb (by omega)) rfl hz k2 k3
      have ef : fld objs (n (8 + b)) N = (objs.getD o []).getD f 0 := by unfold fld; rw [q1, q2]; simp
      rw [ef]
      exact ps_loadP hT hc0 hC hc3 hK hLoc hSz hO hoc hTo htc a b c o f hpl g10 ha hb hc (hN.trans q2) q3 q4 q1 (kpa (by omega)) (kpb (by omega))
  rw [if_neg g10]
  by_cases g9 : (rd_T46 code p).f0 = 9
  · rw [if_pos g9]
    by_cases hz : n (8 + a) = 0
    · rw [if_pos hz]
      exact ps_none9 hT hc0 hC hc3 hK hLoc hSz hO hoc hTo htc a b c N hpl g9 ha hb hc hN (kpa (by omega)) hz
    · rw [if_neg hz]
      obtain ⟨k2, k3, _⟩ := kk.storeI g9
      rw [ha, hN] at k3
      rw [hN] at k2
      obtain ⟨o, f, q1, q2, q3, q4, q5⟩ := FLD (kpa (by omega)) rfl hz k2 k3
      have ef : ∀ v, putF objs (n (8 + a)) N v = objs.set o ((objs.getD o []).set f v) := fun v => by unfold putF; rw [q1, q2]; simp
      rw [ef]
      exact ps_storeI hT hc0 hC hc3 hK hLoc hSz hO hoc hTo htc a b c o f hpl g9 ha hb hc (hN.trans q2) q3 q4 (by omega) q5 q1 (kpa (by omega)) (kib (by omega))
  rw [if_neg g9]
  have g11 : (rd_T46 code p).f0 = 11 := by omega
  by_cases hz : n (8 + a) = 0
  · rw [if_pos hz]
    exact ps_none11 hT hc0 hC hc3 hK hLoc hSz hO hoc hTo htc a b c N hpl g11 ha hb hc hN (kpa (by omega)) hz
  · rw [if_neg hz]
    obtain ⟨k2, k3, _⟩ := kk.storeP g11
    rw [ha, hN] at k3
    rw [hN] at k2
    obtain ⟨o, f, q1, q2, q3, q4, q5⟩ := FLD (kpa (by omega)) rfl hz k2 k3
    have ef : ∀ v, putF objs (n (8 + a)) N v = objs.set o ((objs.getD o []).set f v) := fun v => by unfold putF; rw [q1, q2]; simp
    rw [ef]
    exact ps_storeP hT hc0 hC hc3 hK hLoc hSz hO hoc hTo htc a b c o f hpl g11 ha hb hc (hN.trans q2) q3 q4 (by omega) q5 q1 (kpa (by omega)) (kpb (by omega))
end
end Go.Proofs.YtocechpmgfhenaaGreatDoor.ST

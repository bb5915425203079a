/- Texts of this claim, pruned to what it needs and laid together by prune.py. -/
import Derived.Test.YtocechpmgfhenaaGreatDoorPA26
import Derived.Test.YtocechpmgfhenaaGreatDoorPA23
import Derived.Test.YtocechpmgfhenaaGreatDoorPA27
import Derived.Test.YtocechpmgfhenaaGreatDoorPA15
import Derived.Test.YtocechpmgfhenaaGreatDoorPA25
namespace Go.Proofs.YtocechpmgfhenaaGreatDoor.SH
open Go.RowKit Go.Proofs.YtocechpmgfhenaaGreatDoorW.PrintWords Go.Proofs.YtocechpmgfhenaaGreatDoor.FM Go.Proofs.YtocechpmgfhenaaGreatDoor.CR Go.Proofs.YtocechpmgfhenaaGreatDoor.ST0 Go.Proofs.YtocechpmgfhenaaGreatDoor.F Go.Proofs.YtocechpmgfhenaaGreatDoor.H Go.Proofs.YtocechpmgfhenaaGreatDoor.Scan
set_option linter.unusedVariables false
set_option linter.unusedSectionVars false
set_option linter.unusedSimpArgs false
section
variable {o : Nat} {f1 f2 f3 f4 : Int} (h1 : 1 ≤ o) (h15 : o ≤ 15) (b1 : 0 ≤ f1 ∧ f1 ≤ 255) (b2 : 0 ≤ f2 ∧ f2 ≤ 255) (b3 : 0 ≤ f3 ∧ f3 ≤ 255) (b4 : -9223372036854775808 ≤ f4 ∧ f4 ≤ 9223372036854775807)
include h1 h15 b1 b2 b3 b4
omit b1 b2 b3 b4 in
theorem shape_val : lockstitchref04_shape.f (o : Int) = some (nmB o, haB o) := by
  obtain rfl | rfl | rfl | rfl | rfl | rfl | rfl | rfl | rfl | rfl | rfl | rfl | rfl | rfl | rfl : o = 1 ∨ o = 2 ∨ o = 3 ∨ o = 4 ∨ o = 5 ∨ o = 6 ∨ o = 7 ∨ o = 8 ∨ o = 9 ∨ o = 10 ∨ o = 11 ∨ o = 12 ∨ o = 13 ∨ o = 14 ∨ o = 15 := by omega
  all_goals rfl
theorem part_val (x : UInt8) (hx : x = 97 ∨ x = 98 ∨ x = 99 ∨ x = 110) : lockstitchref04_part.f o f1 f2 f3 f4 (x.toNat : Int) = some (partV f1 f2 f3 f4 x.toNat) ∧ -9223372036854775808 ≤ partV f1 f2 f3 f4 x.toNat ∧ partV f1 f2 f3 f4 x.toNat ≤ 9223372036854775807 := by
  have e1 : wrap64 f1 = f1 := by unfold wrap64; omega
  have e2 : wrap64 f2 = f2 := by unfold wrap64; omega
  have e3 : wrap64 f3 = f3 := by unfold wrap64; omega
  rcases hx with rfl | rfl | rfl | rfl
  · exact ⟨congrArg some e1, by show _ ≤ f1 ∧ f1 ≤ _; omega⟩
  · exact ⟨congrArg some e2, by show _ ≤ f2 ∧ f2 ≤ _; omega⟩
  · exact ⟨congrArg some e3, by show _ ≤ f3 ∧ f3 ≤ _; omega⟩
  · exact ⟨rfl, b4⟩
theorem line_ev : Ev (fun k => lockstitchref04_line.f k o f1 f2 f3 f4) (lV o f1 f2 f3 f4) := by
  have hl3 := ha_len ⟨o, by omega⟩
  simp only at hl3
  have hsz : (haB o).size = (hasOf o).length := rfl
  have L : ∀ d i : Nat, i + d = (hasOf o).length → Ev (fun k => lockstitchref04_line.l0 k (haB o) ((lV o f1 f2 f3 f4).take (i + 1)) (i : Int) o f1 f2 f3 f4) (lV o f1 f2 f3 f4) := by
    intro d
    induction d with
    | zero =>
      intro i hi
      have e : (lV o f1 f2 f3 f4).take (i + 1) = lV o f1 f2 f3 f4 := List.take_of_length_le (by rw [lV_len, hsz]; omega)
      rw [e]
      exact ev_step (fun k => lockstitchref04_line.l0.eq_2 ..) (Ev.congr (fun k => if_neg (by rw [hsz]; omega)) ev_const)
    | succ d ih =>
      intro i hi
      have hi2 : i < (hasOf o).length := by omega
      obtain ⟨x, hx⟩ : ∃ x, (hasOf o)[i]? = some x := ⟨_, List.getElem?_eq_getElem hi2⟩
      have hx4 := ha_mem ⟨o, by omega⟩ x (List.mem_of_getElem? hx)
      obtain ⟨p1, p2, p3⟩ := part_val h1 h15 b1 b2 b3 b4 x hx4
      have hb : bt (haB o) i = x.toNat := NU.bt_mk (hasOf o) i x hx
      have et : (lV o f1 f2 f3 f4).take (i + 1) ++ [num (partV f1 f2 f3 f4 x.toNat)] = (lV o f1 f2 f3 f4).take (i + 1 + 1) := by
        have : (lV o f1 f2 f3 f4)[i + 1]? = some (num (partV f1 f2 f3 f4 x.toNat)) := by
          unfold lV
          rw [List.getElem?_cons_succ, List.getElem?_map, hx]
          rfl
        rw [List.take_add_one (i := i + 1), this]
        rfl
      have hlen : ((lV o f1 f2 f3 f4).take (i + 1)).length < 8796093022208 := by
        rw [List.length_take, lV_len, hsz]
        omega
      have ih := ih (i + 1) (by omega)
      refine ev_step (fun k => lockstitchref04_line.l0.eq_2 ..) (Ev.congr (fun k => if_pos (by rw [hsz]; omega)) (Ev.congr (fun k => if_pos (by omega)) (ev_bind (ev_all fun _ => by rw [hb]; exact p1) (ev_bind (ev_all fun _ => if_pos ⟨rfl, p2, p3⟩) (Ev.congr (fun k => if_pos hlen) ?_)))))
      rw [et, show wrap64 ((i : Int) + 1) = ((i + 1 : Nat) : Int) by unfold wrap64; omega]
      exact ih
  have := L (hasOf o).length 0 (Nat.zero_add _)
  refine ev_bind (ev_all fun _ => shape_val h1 h15) ?_
  exact this
end
theorem gk_hs : ∀ o : Fin 16, ∀ c ∈ ([97, 98, 99, 110] : List UInt8), hs o c = decide (c ∈ (hasOf o).take 3) := by decide +kernel
theorem gk_eq {o : Nat} (h15 : o ≤ 15) (c : UInt8) (hc : c ∈ ([97, 98, 99, 110] : List UInt8)) (f : Int) : (gk o 3 c f == f) = (hs o c || f == 0) := by
  have := gk_hs ⟨o, by omega⟩ c hc
  simp only at this
  rw [this]
  unfold gk
  by_cases h : c ∈ (hasOf o).take 3
  · simp [h]
  · simp only [h, if_false, decide_false, Bool.false_or]
    rw [Bool.beq_comm]
section
variable (w : World) (o : Nat) (f1 f2 f3 f4 : Int) (b1 : 0 ≤ f1 ∧ f1 ≤ 255) (b2 : 0 ≤ f2 ∧ f2 ≤ 255) (b3 : 0 ≤ f3 ∧ f3 ≤ 255) (b4 : -9223372036854775808 ≤ f4 ∧ f4 ≤ 9223372036854775807) (htab : TB w)
include b1 b2 b3 b4 htab
set_option maxRecDepth 100000 in
theorem Right04_out (h : o = 0 ∨ 16 ≤ o) : Calls Tryz.prog 31 #[.agg #[.int .u8 o, .int .u8 f1, .int .u8 f2, .int .u8 f3, .int .i64 f4]] w fun e w' => e = .returned (.bool false) ∧ Below w.heap.size w w' := by
  have SH := Aside0.mk (fun W => shape_c W o)
  rw [(out_B h).1] at SH
  clear h htab
  go_enter Tryz.func31, Tryz.ntmps31
  go_wp2_with (go_at_call 49; (with_reducible refine (SH.out _).mono ?_); rintro e w' ⟨rfl, rfl⟩)
  go_ret
  exact ⟨rfl, below_alloc (Below.refl _ _) _⟩
set_option maxHeartbeats 2000000 in
set_option maxRecDepth 100000 in
theorem Right04_in (h1 : 1 ≤ o) (h15 : o ≤ 15) : Calls Tryz.prog 31 #[.agg #[.int .u8 o, .int .u8 f1, .int .u8 f2, .int .u8 f3, .int .i64 f4]] w fun e w' => e = .returned (.bool (rightB o f1 f2 f3 f4)) ∧ Below w.heap.size w w' := by
  have hne : (nmB o).toList.isEmpty = false := NU.isE (by
    have : ∀ o : Fin 16, 1 ≤ o.1 → 1 ≤ (nmB o).size := by decide +kernel
    exact this ⟨o, by omega⟩ h1)
  have er : rightB o f1 f2 f3 f4 = ((o : Int) == o && (gk o 3 97 f1 == f1 && (gk o 3 98 f2 == f2 && (gk o 3 99 f3 == f3 && (gk o 3 110 f4 == f4))))) := by
    rw [gk_eq h15 97 (by simp), gk_eq h15 98 (by simp), gk_eq h15 99 (by simp), gk_eq h15 110 (by simp)]
    unfold rightB
    cases hs o 97 <;> cases hs o 98 <;> cases hs o 99 <;> cases hs o 110 <;> simp <;> (cases f1 == 0 <;> cases f2 == 0 <;> cases f3 == 0 <;> cases f4 == 0 <;> rfl)
  obtain ⟨kl, hkl⟩ := ev_at (line_ev h1 h15 b1 b2 b3 b4)
  have LN := Aside0.mk hkl
  have HTB := Aside0.mk htab
  have H15 := Aside0.mk (And.intro h1 h15)
  have B := Aside0.mk (And.intro b1 (And.intro b2 (And.intro b3 b4)))
  rw [er]
  clear hkl htab h1 h15 b1 b2 b3 b4 er
  go_enter Tryz.func31, Tryz.ntmps31
  go_wp2_with (first
    | (go_at_call 49; (with_reducible refine (shape_c _ o).mono ?_); rintro e w' ⟨rfl, rfl⟩)
    | (go_at_call 51; (with_reducible refine (lockstitchref04_line.calls kl o f1 f2 f3 f4 _ _ LN.out (TB_below HTB.out (below_alloc (Below.refl _ _) _))).mono ?_); rintro e w1 ⟨v, rfl, hv, hb1⟩; obtain ⟨Al, cl, ev, hcl, hrl⟩ := Kd.R_reads hv; subst ev; have HRL := Aside0.mk hrl; have HCL := Aside0.mk hcl; have rx1 := (hb1.block w.heap.size (by simp)).trans (heap_alloc_new w _); have HB1 := Aside0.mk (below_step (below_alloc (Below.refl _ _) _) hb1); clear hv hb1 hrl)
    | (go_at_call 50; (with_reducible refine (read_c _ o f1 f2 f3 f4 H15.out.1 H15.out.2 B.out.1 B.out.2.1 B.out.2.2.1 B.out.2.2.2 Al cl HRL.out HCL.out).mono ?_); rintro e w2 ⟨rfl, hb2⟩; have rx2 := (hb2.block w.heap.size (blk_lt rx1)).trans rx1; have z2 := blk_lt rx2; have kp2 := fun j => cell_of_row (w2.alloc (.cells #[.int .u8 o, .int .u8 (gk o 3 97 f1), .int .u8 (gk o 3 98 f2), .int .u8 (gk o 3 99 f3), .int .i64 (gk o 3 110 f4)] 46)) w.heap.size j _ _ _ (row_old _ _ _ z2 rx2); have HB2 := Aside0.mk hb2; clear hb2)
    | (apply ldI; (with_reducible rfl); rfl; rfl; exact rowT; rfl)
    | (apply srI; (with_reducible rfl); rfl; rfl; rfl; exact rowT; rfl; rfl; rfl; exact setT))
  all_goals
    go_ret
    refine ⟨?_, below_alloc (below_step HB1.out HB2.out) _⟩
    simp [*]
end
end Go.Proofs.YtocechpmgfhenaaGreatDoor.SH

namespace Go.Proofs.YtocechpmgfhenaaGreatDoor.SH
open Go.RowKit Go.Proofs.YtocechpmgfhenaaGreatDoorW.PrintWords Go.Proofs.YtocechpmgfhenaaGreatDoor.CR Go.Proofs.YtocechpmgfhenaaGreatDoor.ST0
set_option linter.unusedVariables false
set_option linter.unusedSimpArgs false
set_option maxHeartbeats 2000000 in
set_option maxRecDepth 100000 in
theorem ints_c (w : World) (o : Nat) (f1 f2 f3 f4 : Int) (h1 : 1 ≤ o) (h15 : o ≤ 15) :
    Calls Tryz.prog 32 #[.agg #[.int .u8 o, .int .u8 f1, .int .u8 f2, .int .u8 f3, .int .i64 f4]] w fun e w' => e = .returned (.bool (intsB o f1 f2 f3)) ∧ Below w.heap.size w w' := by
  obtain rfl | rfl | rfl | rfl | rfl | rfl | rfl | rfl | rfl | rfl | rfl | rfl | rfl | rfl | rfl : o = 1 ∨ o = 2 ∨ o = 3 ∨ o = 4 ∨ o = 5 ∨ o = 6 ∨ o = 7 ∨ o = 8 ∨ o = 9 ∨ o = 10 ∨ o = 11 ∨ o = 12 ∨ o = 13 ∨ o = 14 ∨ o = 15 := by omega
  all_goals
    simp only [intsB, Nat.reduceEqDiff, reduceIte, or_true, true_or, or_false, false_or]
    go_enter Tryz.func32, Tryz.ntmps32
    go_wp2
  all_goals
    go_ret
    refine ⟨?_, below_alloc (Below.refl _ _) _⟩
    first | rfl | (simp [*]; done) | (simp; omega)
end Go.Proofs.YtocechpmgfhenaaGreatDoor.SH

namespace Go.Proofs.YtocechpmgfhenaaGreatDoor.PL
open Go.RowKit Go.Proofs.YtocechpmgfhenaaGreatDoorW.PrintWords Go.Proofs.YtocechpmgfhenaaGreatDoor.F Go.Proofs.YtocechpmgfhenaaGreatDoor.KP Go.Proofs.YtocechpmgfhenaaGreatDoor.CR Go.Proofs.YtocechpmgfhenaaGreatDoor.SH Go.Proofs.YtocechpmgfhenaaGreatDoor.FM Go.Proofs.YtocechpmgfhenaaGreatDoor.ST0 Go.Proofs.YtocechpmgfhenaaGreatDoor.Scan
set_option linter.unusedVariables false
set_option linter.unusedSectionVars false
set_option linter.unusedSimpArgs false
theorem Refs_c (p : Pg) (w : World) (h : p.In w) (s : ByteArray) (hz : Fit s) : Calls Tryz.prog 30 #[.slice p.A0 p.ts.length p.c0, .string s] w fun e w' => e = .returned (.bool (refs p.ts s)) ∧ Below w.heap.size w w' := by
  obtain ⟨k, hk⟩ := ev_at (ref_Refs_ev p.ts s h.hl h.hs hz)
  exact (lockstitchref03_Refs.calls k p.A0 p.c0 p.ts s _ w h.hT h.hc0 hk).mono fun e w' h => ⟨h.1, h.2.below⟩
theorem Right04_c (w : World) (o : Nat) (f1 f2 f3 f4 : Int) (hx : WfI o f1 f2 f3 f4) (htab : TB w) :
    Calls Tryz.prog 31 #[.agg #[.int .u8 o, .int .u8 f1, .int .u8 f2, .int .u8 f3, .int .i64 f4]] w fun e w' => e = .returned (.bool (if o = 0 ∨ 16 ≤ o then false else rightB o f1 f2 f3 f4)) ∧ Below w.heap.size w w' := by
  obtain ⟨_, h1, h2, h3, h4⟩ := hx
  by_cases h : o = 0 ∨ 16 ≤ o
  · rw [if_pos h]
    exact Right04_out w o f1 f2 f3 f4 h1 h2 h3 h4 htab h
  · rw [if_neg h]
    exact Right04_in w o f1 f2 f3 f4 h1 h2 h3 h4 htab (by omega) (by omega)
end Go.Proofs.YtocechpmgfhenaaGreatDoor.PL

namespace Go.Proofs.YtocechpmgfhenaaGreatDoor.PL
open Go.RowKit Go.Proofs.YtocechpmgfhenaaGreatDoorW.PrintWords Go.Proofs.YtocechpmgfhenaaGreatDoor.F Go.Proofs.YtocechpmgfhenaaGreatDoor.KP Go.Proofs.YtocechpmgfhenaaGreatDoor.CR Go.Proofs.YtocechpmgfhenaaGreatDoor.SH Go.Proofs.YtocechpmgfhenaaGreatDoor.FM Go.Proofs.YtocechpmgfhenaaGreatDoor.ST0 Go.Proofs.YtocechpmgfhenaaGreatDoor.Scan
set_option linter.unusedVariables false
set_option linter.unusedSectionVars false
set_option linter.unusedSimpArgs false
def rgR (o : Nat) (f1 f2 f3 f4 : Int) : Bool := if o = 0 ∨ 16 ≤ o then false else rightB o f1 f2 f3 f4
theorem rgR_op {o : Nat} {f1 f2 f3 f4 : Int} (h : rgR o f1 f2 f3 f4 = true) : (1 ≤ o ∧ o ≤ 15) ∧ rightB o f1 f2 f3 f4 = true := by
  unfold rgR at h
  split at h
  · cases h
  · exact ⟨by omega, h⟩
def IsR (r : Bool) : Prop := r = true
theorem IsR.mk : IsR true := rfl
def OkR (r ib kd : Bool) (o : Nat) (f4 : Int) (n : Nat) : Prop := r = true ∧ ib = true ∧ kd = true ∧ (o = 3 ∨ o = 4 → 0 ≤ f4 ∧ f4 ≤ n)
section
variable (p : Pg) (w : World) (hp : p.In w)
include hp
set_option maxHeartbeats 8000000 in
set_option maxRecDepth 100000 in
theorem Check_c : Calls Tryz.prog 15 #[p.v] w fun e w' => ∃ r er : Int, e = .returned (.tuple #[.int .i64 r, .int .i64 er]) ∧ (er = 0 ↔ SpP p) ∧ (er = 0 → r = -1) ∧ Below w.heap.size w w' := by
  have HP := Aside0.mk hp
  have hlc := hp.hc
  have hla := hp.hla
  have hgl := hp.hgl
  obtain ⟨A0, c0, ts, la, gl, A3, c3, code⟩ := p
  simp only at hlc hla hgl
  obtain ⟨b1, hb1⟩ : ∃ b1, refs ts la = b1 := ⟨_, rfl⟩
  obtain ⟨b2, hb2⟩ : ∃ b2, refs ts gl = b2 := ⟨_, rfl⟩
  have REF1 : Aside0 (∀ W, Below w.heap.size w W → Calls Tryz.prog 30 #[.slice A0 ts.length c0, .string la] W fun e w' => e = .returned (.bool b1) ∧ Below W.heap.size W w') := ⟨fun W hW => by
    rw [← hb1]
    exact Refs_c ⟨A0, c0, ts, la, gl, A3, c3, code⟩ W (HP.out.below hW) la hla⟩
  have REF2 : Aside0 (∀ W, Below w.heap.size w W → Calls Tryz.prog 30 #[.slice A0 ts.length c0, .string gl] W fun e w' => e = .returned (.bool b2) ∧ Below W.heap.size W w') := ⟨fun W hW => by
    rw [← hb2]
    exact Refs_c ⟨A0, c0, ts, la, gl, A3, c3, code⟩ W (HP.out.below hW) gl hgl⟩
  have HSP := Aside0.mk (show SpP ⟨A0, c0, ts, la, gl, A3, c3, code⟩ → b1 = true ∧ b2 = true ∧ ¬ (la.size : Int) > 8 ∧ ¬ (gl.size : Int) > 4 ∧ ¬ (code.length : Int) < 1 ∧ ¬ (code.length : Int) > 200 from fun h => ⟨by rw [← hb1]; exact h.refs.1, by rw [← hb2]; exact h.refs.2, by have := h.locals; simp only at this; omega, by have := h.globals; simp only at this; omega, by have := h.len; simp only at this; omega, by have := h.len; simp only at this; omega⟩)
  have HB0 := Aside0.mk (And.intro hb1 hb2)
  clear hp hb1 hb2
  have HLA := Aside0.mk hla
  have HGL := Aside0.mk hgl
  clear hla hgl
  have HW := Aside0.mk (Below.refl w.heap.size w)
  show Calls Tryz.prog 15 #[.agg #[.slice A0 ts.length c0, .string la, .string gl, .slice A3 code.length c3]] w fun e w' => ∃ r er : Int, e = .returned (.tuple #[.int .i64 r, .int .i64 er]) ∧ (er = 0 ↔ SpP ⟨A0, c0, ts, la, gl, A3, c3, code⟩) ∧ (er = 0 → r = -1) ∧ Below w.heap.size w w'
  by_cases hall : b1 = true ∧ b2 = true ∧ ¬ (la.size : Int) > 8 ∧ ¬ (gl.size : Int) > 4 ∧ ¬ (code.length : Int) < 1 ∧ ¬ (code.length : Int) > 200
  · obtain ⟨rfl, rfl, h3, h4, h5, h6⟩ := hall
    have HRL := Aside0.mk (show (refs ts la = true ∧ refs ts gl = true) ∧ la.size ≤ 8 ∧ gl.size ≤ 4 ∧ 1 ≤ code.length ∧ code.length ≤ 200 from ⟨HB0.out, by omega, by omega, by omega, by omega⟩)
    go_enter Tryz.func15, Tryz.ntmps15
    go_wp2_with (first
      | (go_at_call 30; (with_reducible refine (REF1.out _ ?side1).mono ?_); (case side1 => exact below_alloc HW.out _); rintro e w1 ⟨rfl, hb1⟩; have R0 := (hb1.block w.heap.size (by simp)).trans (heap_alloc_new w _); have kR := fun j => cell_of_row w1 w.heap.size j _ _ _ R0; have HW := Aside0.mk (below_step (below_alloc HW.out _) hb1); clear hb1)
      | (go_at_call 30; (with_reducible refine (REF2.out _ HW.out).mono ?_); rintro e w1 ⟨rfl, hb1⟩; have R0 := (hb1.block w.heap.size (blk_lt R0)).trans R0; have kR := fun j => cell_of_row w1 w.heap.size j _ _ _ R0; have HW := Aside0.mk (below_step HW.out hb1); clear hb1))
    have HR0 := Aside0.mk R0
    clear kR R0 REF1 REF2
    go_loopw [4] (fun c wr => ∃ i : Nat, i ≤ code.length ∧ c = .int .i64 i ∧ Aside0 (∀ j, j < i → InsAt ts la gl code j) ∧ Aside0 (wr.heap[w.heap.size]? = some (.cells #[.slice A0 ts.length c0, .string la, .string gl, .slice A3 code.length c3] 25 (0, 0))) ∧ Aside0 (Below w.heap.size w wr)) (fun c _ => code.length - (intOf c).toNat)
    case atStart => exact ⟨0, Nat.zero_le _, rfl, ⟨fun j hj => absurd hj (Nat.not_lt_zero _)⟩, HR0, HW⟩
    case round =>
      clear HR0 HW
      obtain ⟨i, hi, rfl, HI, HR, HB⟩ := hrel
      have kP := fun j => cell_of_row wr w.heap.size j _ _ _ HR.out
      by_cases hlt : (i : Int) < (code.length : Int)
      · have p0 : (0 : Int) ≤ i := by omega
        obtain ⟨ad, rfl, x0, x1, x2, x3, x4⟩ := at_T46 HP.out.hC (i : Int) p0 hlt
        rw [Int.toNat_natCast] at x0 x1 x2 x3 x4
        replace x0 := (HB.out.cell (World.block_lt_of_cell? w _ x0)).trans x0
        replace x1 := (HB.out.cell (World.block_lt_of_cell? w _ x1)).trans x1
        replace x2 := (HB.out.cell (World.block_lt_of_cell? w _ x2)).trans x2
        replace x3 := (HB.out.cell (World.block_lt_of_cell? w _ x3)).trans x3
        replace x4 := (HB.out.cell (World.block_lt_of_cell? w _ x4)).trans x4
        have hwf := HP.out.hw.rd i (show i < code.length by omega)
        obtain ⟨o, ho⟩ := Int.eq_ofNat_of_zero_le hwf.1.1
        rw [ho] at x0 hwf
        have HIA := Aside0.mk (show InsP ts la gl code.length o (rd_T46 code i).f1 (rd_T46 code i).f2 (rd_T46 code i).f3 (rd_T46 code i).f4 → InsAt ts la gl code i from fun h => ⟨o, ho, h⟩)
        have HIB := Aside0.mk (show InsAt ts la gl code i → InsP ts la gl code.length o (rd_T46 code i).f1 (rd_T46 code i).f2 (rd_T46 code i).f3 (rd_T46 code i).f4 from fun ⟨o', ho', h⟩ => by
          have h2 : (o' : Int) = o := ho'.symm.trans ho
          have : o' = o := by omega
          rwa [this] at h)
        obtain ⟨f1, e1⟩ : ∃ f1, (rd_T46 code i).f1 = f1 := ⟨_, rfl⟩
        obtain ⟨f2, e2⟩ : ∃ f2, (rd_T46 code i).f2 = f2 := ⟨_, rfl⟩
        obtain ⟨f3, e3⟩ : ∃ f3, (rd_T46 code i).f3 = f3 := ⟨_, rfl⟩
        obtain ⟨f4, e4⟩ : ∃ f4, (rd_T46 code i).f4 = f4 := ⟨_, rfl⟩
        rw [e1] at x1
        rw [e2] at x2
        rw [e3] at x3
        rw [e4] at x4
        rw [e1, e2, e3, e4] at HIA HIB hwf
        clear e1 e2 e3 e4 ho
        have HWF := Aside0.mk hwf
        clear hwf
        obtain ⟨r, hr⟩ : ∃ r, rgR o f1 f2 f3 f4 = r := ⟨_, rfl⟩
        obtain ⟨ib, hib⟩ : ∃ ib, intsB o f1 f2 f3 = ib := ⟨_, rfl⟩
        obtain ⟨kd, hk⟩ : ∃ kd, kindsB ts la gl o f1 f2 f3 f4 = kd := ⟨_, rfl⟩
        have RGT := Aside0.mk (show ∀ W, Below w.heap.size w W → Calls Tryz.prog 31 #[.agg #[.int .u8 o, .int .u8 f1, .int .u8 f2, .int .u8 f3, .int .i64 f4]] W fun e w' => e = .returned (.bool r) ∧ Below W.heap.size W w' from fun W hW => by rw [← hr]; exact Right04_c W o f1 f2 f3 f4 HWF.out (TB_below HP.out.tb hW))
        have INT := Aside0.mk (show IsR r → ∀ W, Calls Tryz.prog 32 #[.agg #[.int .u8 o, .int .u8 f1, .int .u8 f2, .int .u8 f3, .int .i64 f4]] W fun e w' => e = .returned (.bool ib) ∧ Below W.heap.size W w' from fun ht W => by
          rw [← hib]
          have := rgR_op (hr.trans ht)
          exact ints_c W o f1 f2 f3 f4 this.1.1 this.1.2)
        have KND := Aside0.mk (show IsR r → ∀ W, Below w.heap.size w W → Calls Tryz.prog 33 #[.agg #[.slice A0 ts.length c0, .string la, .string gl, .slice (some ad) code.length c3], .agg #[.int .u8 o, .int .u8 f1, .int .u8 f2, .int .u8 f3, .int .i64 f4]] W fun e w' => e = .returned (.bool kd) ∧ Below W.heap.size W w' from fun ht W hW => by
          rw [← hk]
          have := rgR_op (hr.trans ht)
          exact kinds_c ⟨A0, c0, ts, la, gl, some ad, c3, code⟩ W o f1 f2 f3 f4 this.1.1 this.1.2 HWF.out (HP.out.below hW))
        have HIP := Aside0.mk (show InsP ts la gl code.length o f1 f2 f3 f4 ↔ OkR r ib kd o f4 code.length from ⟨fun h => ⟨by
            rw [← hr]
            unfold rgR
            rw [if_neg (by have := h.op; omega)]
            exact h.right, by rw [← hib]; exact h.ints, by rw [← hk]; exact (kindsB_iff h.op.1 h.op.2).2 h.kinds, h.jump⟩, fun ⟨h1, h0, h2, h3⟩ => by
            have a := rgR_op (hr.trans h1)
            exact ⟨a.1, a.2, h3, hib.trans h0, (kindsB_iff a.1.1 a.1.2).1 (hk.trans h2)⟩⟩)
        clear hr hk hib
        have HSI := Aside0.mk (show SpP ⟨A0, c0, ts, la, gl, some ad, c3, code⟩ → OkR r ib kd o f4 code.length from fun h => HIP.out.1 (HIB.out (h.all i (by simp only; omega))))
        obtain ⟨wo, rfl⟩ : ∃ wo : World, wo = wr := ⟨_, rfl⟩
        by_cases hgood : OkR r ib kd o f4 code.length
        · have HOK := Aside0.mk (HIA.out (HIP.out.2 hgood))
          unfold OkR at hgood
          obtain ⟨rfl, rfl, rfl, hj⟩ := hgood
          have hq : (((o : Int) == 3) = true ∧ ¬ f4 < 0 ∧ ¬ f4 > (code.length : Int)) ∨ (((o : Int) == 3) = false ∧ ((o : Int) == 4) = true ∧ ¬ f4 < 0 ∧ ¬ f4 > (code.length : Int)) ∨ (((o : Int) == 3) = false ∧ ((o : Int) == 4) = false) := by
            simp only [beq_eq_false_iff_ne, beq_iff_eq]
            omega
          clear hj HSI HIP HIB HIA
          obtain ⟨q3, j1, j2⟩ | ⟨q3, q4, j1, j2⟩ | ⟨q3, q4⟩ := hq
          all_goals
            go_wp2_with (first
              | (go_at_call 31; (with_reducible refine (RGT.out _ ?side1).mono ?_); (case side1 => exact below_alloc HB.out _); rintro e w1 ⟨rfl, hb1⟩; have R1 := (hb1.block wo.heap.size (by simp)).trans (heap_alloc_new wo _); have kR1 := fun j => cell_of_row w1 wo.heap.size j _ _ _ R1; have HR1 := Aside0.mk R1; have R0 := (hb1.block w.heap.size (by have := blk_lt HR.out; simp; omega)).trans (row_old _ _ _ (blk_lt HR.out) HR.out); have kR0 := fun j => cell_of_row w1 w.heap.size j _ _ _ R0; have HR := Aside0.mk R0; clear R0; have HB := Aside0.mk (below_step (below_alloc HB.out _) hb1); clear hb1 R1)
              | (go_at_call 32; (with_reducible refine (INT.out IsR.mk _).mono ?_); rintro e w1 ⟨rfl, hb1⟩; have R1 := (hb1.block wo.heap.size (blk_lt HR1.out)).trans HR1.out; have kR1 := fun j => cell_of_row w1 wo.heap.size j _ _ _ R1; have R0 := (hb1.block w.heap.size (blk_lt HR.out)).trans HR.out; have kR0 := fun j => cell_of_row w1 w.heap.size j _ _ _ R0; have HR := Aside0.mk R0; clear R0 R1; have HB := Aside0.mk (below_step HB.out hb1); clear hb1)
              | (go_at_call 33; (with_reducible refine (KND.out IsR.mk _ HB.out).mono ?_); rintro e w2 ⟨rfl, hb2⟩; have HR := Aside0.mk ((hb2.block w.heap.size (blk_lt HR.out)).trans HR.out); have HB := Aside0.mk (below_step HB.out hb2); clear hb2))
            go_roundw
            case rel => exact ⟨i + 1, by omega, by go_num, ⟨fun j hj => by
              rcases Nat.lt_succ_iff_lt_or_eq.1 hj with hj | rfl
              · exact HI.out j hj
              · exact HOK.out⟩, HR, HB⟩
            case measure => simp [intOf]; omega
        · have HNO := Aside0.mk (show ¬ SpP ⟨A0, c0, ts, la, gl, some ad, c3, code⟩ from fun h => hgood (HSI.out h))
          have hq : (r = false ∧ ((o : Int) == 3) = true) ∨ (r = false ∧ ((o : Int) == 3) = false ∧ ((o : Int) == 4) = true) ∨ (r = false ∧ ((o : Int) == 3) = false ∧ ((o : Int) == 4) = false) ∨ (r = true ∧ ((o : Int) == 3) = true ∧ f4 < 0) ∨ (r = true ∧ ((o : Int) == 3) = true ∧ ¬ f4 < 0 ∧ f4 > (code.length : Int)) ∨ (r = true ∧ ((o : Int) == 3) = false ∧ ((o : Int) == 4) = true ∧ f4 < 0) ∨ (r = true ∧ ((o : Int) == 3) = false ∧ ((o : Int) == 4) = true ∧ ¬ f4 < 0 ∧ f4 > (code.length : Int)) ∨ (r = true ∧ ib = false ∧ ((o : Int) == 3) = true ∧ ¬ f4 < 0 ∧ ¬ f4 > (code.length : Int)) ∨ (r = true ∧ ib = false ∧ ((o : Int) == 3) = false ∧ ((o : Int) == 4) = true ∧ ¬ f4 < 0 ∧ ¬ f4 > (code.length : Int)) ∨ (r = true ∧ ib = false ∧ ((o : Int) == 3) = false ∧ ((o : Int) == 4) = false) ∨ (r = true ∧ ib = true ∧ kd = false ∧ ((o : Int) == 3) = true ∧ ¬ f4 < 0 ∧ ¬ f4 > (code.length : Int)) ∨ (r = true ∧ ib = true ∧ kd = false ∧ ((o : Int) == 3) = false ∧ ((o : Int) == 4) = true ∧ ¬ f4 < 0 ∧ ¬ f4 > (code.length : Int)) ∨ (r = true ∧ ib = true ∧ kd = false ∧ ((o : Int) == 3) = false ∧ ((o : Int) == 4) = false) := by
            unfold OkR at hgood
            simp only [beq_eq_false_iff_ne, beq_iff_eq]
            cases r <;> cases ib <;> cases kd <;> simp at hgood ⊢ <;> omega
          clear hgood HSI HIP HIB HIA
          obtain ⟨rfl, q3⟩ | ⟨rfl, q3, q4⟩ | ⟨rfl, q3, q4⟩ | ⟨rfl, q3, j1⟩ | ⟨rfl, q3, j1, j2⟩ | ⟨rfl, q3, q4, j1⟩ | ⟨rfl, q3, q4, j1, j2⟩ | ⟨rfl, rfl, q3, j1, j2⟩ | ⟨rfl, rfl, q3, q4, j1, j2⟩ | ⟨rfl, rfl, q3, q4⟩ | ⟨rfl, rfl, rfl, q3, j1, j2⟩ | ⟨rfl, rfl, rfl, q3, q4, j1, j2⟩ | ⟨rfl, rfl, rfl, q3, q4⟩ := hq
          all_goals
            go_wp2_with (first
              | (go_at_call 31; (with_reducible refine (RGT.out _ ?side1).mono ?_); (case side1 => exact below_alloc HB.out _); rintro e w1 ⟨rfl, hb1⟩; have R1 := (hb1.block wo.heap.size (by simp)).trans (heap_alloc_new wo _); have kR1 := fun j => cell_of_row w1 wo.heap.size j _ _ _ R1; have HR1 := Aside0.mk R1; have R0 := (hb1.block w.heap.size (by have := blk_lt HR.out; simp; omega)).trans (row_old _ _ _ (blk_lt HR.out) HR.out); have kR0 := fun j => cell_of_row w1 w.heap.size j _ _ _ R0; have HR := Aside0.mk R0; clear R0; have HB := Aside0.mk (below_step (below_alloc HB.out _) hb1); clear hb1 R1)
              | (go_at_call 32; (with_reducible refine (INT.out IsR.mk _).mono ?_); rintro e w1 ⟨rfl, hb1⟩; have R1 := (hb1.block wo.heap.size (blk_lt HR1.out)).trans HR1.out; have kR1 := fun j => cell_of_row w1 wo.heap.size j _ _ _ R1; have R0 := (hb1.block w.heap.size (blk_lt HR.out)).trans HR.out; have kR0 := fun j => cell_of_row w1 w.heap.size j _ _ _ R0; have HR := Aside0.mk R0; clear R0 R1; have HB := Aside0.mk (below_step HB.out hb1); clear hb1)
              | (go_at_call 33; (with_reducible refine (KND.out IsR.mk _ HB.out).mono ?_); rintro e w2 ⟨rfl, hb2⟩; have HR := Aside0.mk ((hb2.block w.heap.size (blk_lt HR.out)).trans HR.out); have HB := Aside0.mk (below_step HB.out hb2); clear hb2))
            go_ret2
            exact ⟨_, _, rfl, ⟨fun e => absurd e (by decide), fun h => absurd h HNO.out⟩, fun e => absurd e (by decide), HB.out⟩
      · obtain rfl : i = code.length := by omega
        go_wp2
        go_ret2
        exact ⟨_, _, rfl, ⟨fun _ => ⟨HRL.out.1, HRL.out.2.1, HRL.out.2.2.1, HRL.out.2.2.2, HI.out⟩, fun _ => rfl⟩, fun _ => rfl, HB.out⟩
  · have HN := Aside0.mk (fun h => hall (HSP.out h))
    obtain rfl | ⟨rfl, rfl⟩ | ⟨rfl, rfl, h3⟩ | ⟨rfl, rfl, h3, h4⟩ | ⟨rfl, rfl, h3, h4, h5⟩ | ⟨rfl, rfl, h3, h4, h5, h6⟩ : b1 = false ∨ (b1 = true ∧ b2 = false) ∨ (b1 = true ∧ b2 = true ∧ (la.size : Int) > 8) ∨ (b1 = true ∧ b2 = true ∧ ¬ (la.size : Int) > 8 ∧ (gl.size : Int) > 4) ∨ (b1 = true ∧ b2 = true ∧ ¬ (la.size : Int) > 8 ∧ ¬ (gl.size : Int) > 4 ∧ (code.length : Int) < 1) ∨ (b1 = true ∧ b2 = true ∧ ¬ (la.size : Int) > 8 ∧ ¬ (gl.size : Int) > 4 ∧ ¬ (code.length : Int) < 1 ∧ (code.length : Int) > 200) := by
      cases b1
      · exact .inl rfl
      · cases b2
        · exact .inr (.inl ⟨rfl, rfl⟩)
        · refine .inr (.inr ?_)
          simp only [true_and] at hall ⊢
          omega
    all_goals
      clear hall
      go_enter Tryz.func15, Tryz.ntmps15
      go_wp2_with (first
        | (go_at_call 30; (with_reducible refine (REF1.out _ ?side1).mono ?_); (case side1 => exact below_alloc HW.out _); rintro e w1 ⟨rfl, hb1⟩; have R0 := (hb1.block w.heap.size (by simp)).trans (heap_alloc_new w _); have kR := fun j => cell_of_row w1 w.heap.size j _ _ _ R0; have HW := Aside0.mk (below_step (below_alloc HW.out _) hb1); clear hb1)
        | (go_at_call 30; (with_reducible refine (REF2.out _ HW.out).mono ?_); rintro e w1 ⟨rfl, hb1⟩; have R0 := (hb1.block w.heap.size (blk_lt R0)).trans R0; have kR := fun j => cell_of_row w1 w.heap.size j _ _ _ R0; have HW := Aside0.mk (below_step HW.out hb1); clear hb1))
      go_ret2
      exact ⟨_, _, rfl, ⟨fun e => absurd e (by decide), fun h => absurd h HN.out⟩, fun e => absurd e (by decide), HW.out⟩
end
end Go.Proofs.YtocechpmgfhenaaGreatDoor.PL

namespace Go.Proofs.YtocechpmgfhenaaGreatDoor.PL
open Go.RowKit Go.Proofs.YtocechpmgfhenaaGreatDoorW.PrintWords Go.Proofs.YtocechpmgfhenaaGreatDoor.Scan Go.Proofs.YtocechpmgfhenaaGreatDoor.F Go.Proofs.YtocechpmgfhenaaGreatDoor.KP
set_option linter.unusedVariables false
set_option linter.unusedSimpArgs false
theorem t_ite {α : Type} {c : Prop} [Decidable c] {f g : Nat → Option α} (hf : c → ∃ r, Ev f r) (hg : ¬ c → ∃ r, Ev g r) : ∃ r, Ev (fun k => if c then f k else g k) r := by
  by_cases h : c
  · obtain ⟨r, hr⟩ := hf h
    exact ⟨r, Ev.congr (fun k => if_pos h) hr⟩
  · obtain ⟨r, hr⟩ := hg h
    exact ⟨r, Ev.congr (fun k => if_neg h) hr⟩
theorem t_step {α : Type} {g f : Nat → Option α} (h : ∀ k, g (k + 1) = f k) (k : ∃ r, Ev f r) : ∃ r, Ev g r := k.elim fun r hr => ⟨r, ev_step h hr⟩
theorem few_l0 (ts : List ByteArray) (hl : (ts.length : Int) ≤ 9223372036854775807) (la gl : ByteArray) (code : List S46) : ∀ (d i : Nat) (a : Int), i + d = ts.length → ∃ r, Ev (fun k => lockstitchlaw04_Few.l0 k a ts (ts.length : Int) (i : Int) ts la gl code) r := by
  intro d
  induction d with
  | zero =>
    intro i a hi
    exact t_step (fun k => lockstitchlaw04_Few.l0.eq_2 ..) (t_ite (fun h => absurd h (by omega)) fun _ => t_ite (fun _ => ⟨_, ev_const⟩) fun _ => ⟨_, ev_const⟩)
  | succ d ih =>
    intro i a hi
    refine t_step (fun k => lockstitchlaw04_Few.l0.eq_2 ..) (t_ite (fun _ => t_ite (fun _ => t_ite (fun _ => ?_) fun h => absurd (by omega) h) fun h => absurd (by omega) h) fun h => absurd (by omega) h)
    rw [show wrap64 ((i : Int) + 1) = ((i + 1 : Nat) : Int) by unfold wrap64; omega]
    exact ih (i + 1) _ (by omega)
theorem few_A (p : Pg) (w : World) (h : p.In w) : ∃ b, ∀ W, Below w.heap.size w W → Calls Tryz.prog 21 #[p.v] W fun e w' => e = .returned (.bool b) ∧ Below W.heap.size W w' := by
  have ht : ∃ b, Ev (fun k => lockstitchlaw04_Few.f k p.ts p.la p.gl p.code) b := few_l0 p.ts h.hl p.la p.gl p.code p.ts.length 0 _ (Nat.zero_add _)
  obtain ⟨b, hb⟩ := ht
  obtain ⟨k, hk⟩ := ev_at hb
  exact ⟨b, fun W hW => lockstitchlaw04_Few.calls k p.A0 p.c0 p.ts p.la p.gl p.A3 p.c3 p.code b W (h.below hW).hT h.hc0 (h.below hW).hC h.hc3 hk⟩
open Classical in
set_option maxHeartbeats 4000000 in
set_option maxRecDepth 100000 in
theorem Sound_c (p : Pg) (w : World) (h : p.In w) : ∃ b : Bool, (b = true → SpP p ∧ p.code.length ≤ 60) ∧ ∀ W, Below w.heap.size w W → Calls Tryz.prog 10 #[p.v] W fun e w' => e = .returned (.bool b) ∧ Below W.heap.size W w' := by
  obtain ⟨bf, hbf⟩ := few_A p w h
  have CK := Aside0.mk (fun W (hW : Below w.heap.size w W) => Check_c p W (h.below hW))
  have hmax := Kd.C_max h.hC
  have FE := Aside0.mk hbf
  clear h hbf
  refine ⟨decide (bf = true ∧ p.code.length ≤ 60 ∧ SpP p), fun h => by have := of_decide_eq_true h; exact ⟨this.2.2, this.2.1⟩, fun W hW => ?_⟩
  generalize SpP p = SP at CK ⊢
  obtain ⟨A0, c0, ts, la, gl, A3, c3, code⟩ := p
  simp only at hmax CK FE ⊢
  show Calls _ _ #[.agg #[.slice A0 ts.length c0, .string la, .string gl, .slice A3 code.length c3]] _ _
  have HW := Aside0.mk hW
  have HN := Aside0.mk (Below.refl W.heap.size W)
  clear hW
  cases bf with
  | false =>
    rw [show decide (false = true ∧ code.length ≤ 60 ∧ SP) = false from decide_eq_false fun h => by cases h.1]
    go_enter Tryz.func10, Tryz.ntmps10
    go_wp2_with (go_at_call 21; (with_reducible refine (FE.out _ (below_step HW.out (below_alloc (Below.refl _ _) _))).mono ?_); rintro e w1 ⟨rfl, hb⟩; have HN := Aside0.mk (below_step (below_alloc (Below.refl _ _) _) hb); clear hb)
    go_ret
    exact ⟨rfl, HN.out⟩
  | true =>
    by_cases h60 : (code.length : Int) > 60
    · rw [show decide (true = true ∧ code.length ≤ 60 ∧ SP) = false from decide_eq_false fun h => by have := h.2.1; omega]
      go_enter Tryz.func10, Tryz.ntmps10
      go_wp2_with (go_at_call 21; (with_reducible refine (FE.out _ (below_step HW.out (below_alloc (Below.refl _ _) _))).mono ?_); rintro e w1 ⟨rfl, hb⟩; have HN := Aside0.mk (below_step (below_alloc (Below.refl _ _) _) hb); have HR := Aside0.mk ((hb.block W.heap.size (by simp)).trans (heap_alloc_new W _)); have y3 := (blk_cell HR.out 3).trans (rfl : _ = some (Value.slice A3 code.length c3)); clear hb)
      go_ret
      exact ⟨rfl, HN.out⟩
    · by_cases hsp : SP
      · rw [show decide (true = true ∧ code.length ≤ 60 ∧ SP) = true from decide_eq_true ⟨rfl, by omega, hsp⟩]
        go_enter Tryz.func10, Tryz.ntmps10
        go_wp2_with (first
          | (go_at_call 21; (with_reducible refine (FE.out _ (below_step HW.out (below_alloc (Below.refl _ _) _))).mono ?_); rintro e w1 ⟨rfl, hb⟩; have HN := Aside0.mk (below_step (below_alloc (Below.refl _ _) _) hb); have HR := Aside0.mk ((hb.block W.heap.size (by simp)).trans (heap_alloc_new W _)); have y0 := (blk_cell HR.out 0).trans (rfl : _ = some (Value.slice A0 ts.length c0)); have y1 := (blk_cell HR.out 1).trans (rfl : _ = some (Value.string la)); have y2 := (blk_cell HR.out 2).trans (rfl : _ = some (Value.string gl)); have y3 := (blk_cell HR.out 3).trans (rfl : _ = some (Value.slice A3 code.length c3)); clear hb)
          | (go_at_call 15; (with_reducible refine (CK.out _ (below_step HW.out HN.out)).mono ?_); rintro e w2 ⟨r, er, rfl, h1, h2, hb⟩; obtain rfl : er = 0 := h1.2 hsp; have HN := Aside0.mk (below_step HN.out hb); clear h1 h2 hb))
        go_ret
        exact ⟨rfl, HN.out⟩
      · rw [show decide (true = true ∧ code.length ≤ 60 ∧ SP) = false from decide_eq_false fun h => hsp h.2.2]
        go_enter Tryz.func10, Tryz.ntmps10
        go_wp2_with (first
          | (go_at_call 21; (with_reducible refine (FE.out _ (below_step HW.out (below_alloc (Below.refl _ _) _))).mono ?_); rintro e w1 ⟨rfl, hb⟩; have HN := Aside0.mk (below_step (below_alloc (Below.refl _ _) _) hb); have HR := Aside0.mk ((hb.block W.heap.size (by simp)).trans (heap_alloc_new W _)); have y0 := (blk_cell HR.out 0).trans (rfl : _ = some (Value.slice A0 ts.length c0)); have y1 := (blk_cell HR.out 1).trans (rfl : _ = some (Value.string la)); have y2 := (blk_cell HR.out 2).trans (rfl : _ = some (Value.string gl)); have y3 := (blk_cell HR.out 3).trans (rfl : _ = some (Value.slice A3 code.length c3)); clear hb)
          | (go_at_call 15; (with_reducible refine (CK.out _ (below_step HW.out HN.out)).mono ?_); rintro e w2 ⟨r, er, rfl, h1, h2, hb⟩; have hz : (er == 0) = false := beq_false_of_ne fun h => hsp (h1.1 h); have HN := Aside0.mk (below_step HN.out hb); clear h1 h2 hb))
        go_ret
        exact ⟨by simp [hz], HN.out⟩
end Go.Proofs.YtocechpmgfhenaaGreatDoor.PL

namespace Go.Proofs.YtocechpmgfhenaaGreatDoor.PF
open Go.RowKit Go.Proofs.YtocechpmgfhenaaGreatDoorW.PrintWords Go.Proofs.YtocechpmgfhenaaGreatDoor.F Go.Proofs.YtocechpmgfhenaaGreatDoor.KP Go.Proofs.YtocechpmgfhenaaGreatDoor.CR Go.Proofs.YtocechpmgfhenaaGreatDoor.PL Go.Proofs.YtocechpmgfhenaaGreatDoor.FP Go.Proofs.YtocechpmgfhenaaGreatDoor.FSF Go.Proofs.YtocechpmgfhenaaGreatDoor.PK Go.Proofs.YtocechpmgfhenaaGreatDoor.NX Go.Proofs.YtocechpmgfhenaaGreatDoor.FG Go.Proofs.YtocechpmgfhenaaGreatDoor.ZP Go.Proofs.YtocechpmgfhenaaGreatDoor.LK Go.Proofs.YtocechpmgfhenaaGreatDoor.RFL Go.Proofs.YtocechpmgfhenaaGreatDoor.FUL Go.Proofs.YtocechpmgfhenaaGreatDoor.B8 Go.Proofs.YtocechpmgfhenaaGreatDoor.ST0
set_option linter.unusedVariables false
set_option linter.unusedSimpArgs false
theorem best_is (p : Pg) (k : Nat) : ((rd_T46 p.code k).f0 = 5 ∧ ∃ a b, bestF p k = ⟨a, b, false⟩ ∧ (a = true → loopB p.code k = false)) ∨ ((rd_T46 p.code k).f0 = 11 ∧ ∃ c, bestF p k = ⟨false, false, c⟩) ∨ bestF p k = ⟨false, false, false⟩ := by
  unfold bestF
  split
  · rename_i h
    exact .inl ⟨h, _, _, rfl, fun e => by cases hl : loopB p.code k <;> simp_all⟩
  · split
    · rename_i h
      exact .inr (.inl ⟨h, _, rfl⟩)
    · exact .inr (.inr rfl)
theorem cnt3 (f : Nat → Fc) : ∀ n, (∀ k, k < n → (f k).pl = false ∨ ((f k).st = false ∧ (f k).raw = false)) → cnt (fun k => (f k).st) n + cnt (fun k => (f k).raw) n + cnt (fun k => (f k).pl) n ≤ 2 * n
  | 0, _ => Nat.le_refl _
  | n + 1, h => by
    have h1 := cnt3 f n fun k hk => h k (by omega)
    have h2 := h n (by omega)
    simp only [cnt]
    have a := Bool.toNat_le (f n).st
    have b := Bool.toNat_le (f n).raw
    have c := Bool.toNat_le (f n).pl
    rcases h2 with e | ⟨e, e'⟩
    · rw [e]
      simp only [Bool.toNat_false]
      omega
    · rw [e, e']
      simp only [Bool.toNat_false]
      omega
theorem best_two (p : Pg) (k : Nat) : (bestF p k).pl = false ∨ ((bestF p k).st = false ∧ (bestF p k).raw = false) := by
  rcases best_is p k with ⟨_, a, b, e, _⟩ | ⟨_, c, e⟩ | e <;> rw [e]
  · exact .inl rfl
  · exact .inr ⟨rfl, rfl⟩
  · exact .inl rfl
set_option maxHeartbeats 8000000 in
set_option maxRecDepth 100000 in
theorem PlanKinds_walk (w : World) (p : Pg) (hp : p.On w) (hin : p.In w) : Calls Tryz.prog 6 #[p.v] w fun e w' => e = .returned (.bool true) ∧ Below w.heap.size w w' := by
  obtain ⟨b, hb, hS⟩ := Sound_c p w hin
  have SO := Aside0.mk hS
  have AL := Aside0.mk (fun W (hW : Below w.heap.size w W) => alive_c W (OT_below hp.ot hW))
  cases b with
  | false =>
    clear hp hin hb hS
    obtain ⟨A0, c0, ts, la, gl, A3, c3, code⟩ := p
    try simp only at SO
    show Calls _ _ #[.agg #[.slice A0 ts.length c0, .string la, .string gl, .slice A3 code.length c3]] _ _
    go_enter Tryz.func6, Tryz.ntmps6
    go_wp2_with (first
      | (go_at_call 9; (with_reducible refine (AL.out _ (below_alloc (Below.refl _ _) _)).mono ?_); rintro e w1 ⟨rfl, hb⟩; have HB := Aside0.mk (below_step (below_alloc (Below.refl _ _) _) hb); have HR := Aside0.mk ((hb.block w.heap.size (by simp)).trans (heap_alloc_new w _)); have y0 := (blk_cell HR.out 0).trans (rfl : _ = some (Value.slice A0 ts.length c0)); have y1 := (blk_cell HR.out 1).trans (rfl : _ = some (Value.string la)); have y2 := (blk_cell HR.out 2).trans (rfl : _ = some (Value.string gl)); have y3 := (blk_cell HR.out 3).trans (rfl : _ = some (Value.slice A3 code.length c3)); clear hb)
      | (go_at_call 10; (with_reducible refine (SO.out _ HB.out).mono ?_); rintro e w2 ⟨rfl, hb⟩; have HB := Aside0.mk (below_step HB.out hb); clear hb))
    go_ret
    exact ⟨rfl, HB.out⟩
  | true =>
    obtain ⟨hsp, h60⟩ := hb rfl
    have BE := Aside0.mk (show ∀ W, Below w.heap.size w W → Calls Tryz.prog 11 #[p.v] W fun e w' => ∃ g, e = .returned (.tuple #[.slice (some ⟨g, 0, none⟩) p.code.length p.code.length, .int .i64 0]) ∧ Below W.heap.size W w' ∧ RowF w' g p.code.length (bestF p) from fun W hW => (Best_c p W (hp.below hW) (by have := hsp.locals; omega) (by omega)).mono fun e w' ⟨er, v, h1, h2, h3, h4, _⟩ => by
      obtain rfl := h2.2 hsp
      obtain ⟨g, rfl, _, h5⟩ := h4 rfl
      exact ⟨g, h1, h3, h5⟩)
    have LO := Aside0.mk (fun W (hW : Below w.heap.size w W) k (hk : k < p.code.length) => rLoops_c p W (hin.below hW) hsp k hk)
    have SA := Aside0.mk (show ∀ W g, RowF W g p.code.length (bestF p) → Calls Tryz.prog 17 #[.slice (some ⟨g, 0, none⟩) p.code.length p.code.length] W fun e w' => ∃ s r q : Nat, e = .returned (.tuple #[.int .i64 s, .int .i64 r, .int .i64 q]) ∧ s + r + q ≤ 2 * p.code.length ∧ Below W.heap.size W w' from fun W g h => (Saved_c W _ p.code.length p.code.length _ h.fc (by omega)).mono fun e w' h => ⟨_, _, _, h.1, cnt3 _ _ fun k _ => best_two p k, h.2⟩)
    have BF := Aside0.mk (best_is p)
    have HC := Aside0.mk hp.hC
    have HWF := Aside0.mk hp.hw
    clear hp hin hb hS hsp
    generalize bestF p = bf at BE SA BF
    generalize loopB p.code = lo at LO BF
    obtain ⟨A0, c0, ts, la, gl, A3, c3, code⟩ := p
    (try simp only at SO BE LO SA BF HC h60)
    change Aside0 (WfC code) at HWF
    show Calls _ _ #[.agg #[.slice A0 ts.length c0, .string la, .string gl, .slice A3 code.length c3]] _ _
    go_enter Tryz.func6, Tryz.ntmps6
    go_upto_region 9 with (first
      | (go_at_call 9; (with_reducible refine (AL.out _ (below_alloc (Below.refl _ _) _)).mono ?_); rintro e w1 ⟨rfl, hb⟩; have HB := Aside0.mk (below_step (below_alloc (Below.refl _ _) _) hb); have HR := Aside0.mk ((hb.block w.heap.size (by simp)).trans (heap_alloc_new w _)); have y0 := (blk_cell HR.out 0).trans (rfl : _ = some (Value.slice A0 ts.length c0)); have y1 := (blk_cell HR.out 1).trans (rfl : _ = some (Value.string la)); have y2 := (blk_cell HR.out 2).trans (rfl : _ = some (Value.string gl)); have y3 := (blk_cell HR.out 3).trans (rfl : _ = some (Value.slice A3 code.length c3)); clear hb)
      | (go_at_call 10; (with_reducible refine (SO.out _ HB.out).mono ?_); rintro e w2 ⟨rfl, hb⟩; have HB := Aside0.mk (below_step HB.out hb); have HR := Aside0.mk ((hb.block _ (blk_lt HR.out)).trans HR.out); have y0 := (blk_cell HR.out 0).trans (rfl : _ = some (Value.slice A0 ts.length c0)); have y1 := (blk_cell HR.out 1).trans (rfl : _ = some (Value.string la)); have y2 := (blk_cell HR.out 2).trans (rfl : _ = some (Value.string gl)); have y3 := (blk_cell HR.out 3).trans (rfl : _ = some (Value.slice A3 code.length c3)); clear hb)
      | (go_at_call 11; (with_reducible refine (BE.out _ HB.out).mono ?_); rintro e w3 ⟨g, rfl, hb, hrow⟩; have HB := Aside0.mk (below_step HB.out hb); have HL := Aside0.mk hrow; have HR := Aside0.mk ((hb.block _ (blk_lt HR.out)).trans HR.out); have y0 := (blk_cell HR.out 0).trans (rfl : _ = some (Value.slice A0 ts.length c0)); have y1 := (blk_cell HR.out 1).trans (rfl : _ = some (Value.string la)); have y2 := (blk_cell HR.out 2).trans (rfl : _ = some (Value.string gl)); have y3 := (blk_cell HR.out 3).trans (rfl : _ = some (Value.slice A3 code.length c3)); clear hb hrow))
    go_loopw [33] (fun x W => ∃ k : Nat, x = .int .i64 k ∧ k ≤ code.length ∧ Aside0 (Below w.heap.size w W) ∧ Aside0 (RowF W g code.length bf) ∧ Aside0 (W.heap[w.heap.size]? = some (.cells #[.slice A0 ts.length c0, .string la, .string gl, .slice A3 code.length c3] 25 (0, 0)))) (fun x _ => code.length - (intOf x).toNat)
    case atStart => exact ⟨0, rfl, Nat.zero_le _, HB, HL, HR⟩
    case round =>
      clear HB HL HR
      obtain ⟨k, rfl, hk, HB, HL, HR⟩ := hrel
      by_cases hlt : (k : Int) < code.length
      · have k0 : (0 : Int) ≤ k := by omega
        have hkn : k < code.length := by omega
        obtain ⟨ad, rfl, hy⟩ := at_box HC.out k hkn
        obtain ⟨z0, z1, z2⟩ := HL.out.at hkn
        have y3 := (blk_cell HR.out 3).trans (rfl : _ = some (Value.slice (some ad) code.length c3))
        have BFk := Aside0.mk (BF.out k)
        have LOk := Aside0.mk (fun W (hW : Below w.heap.size w W) => LO.out W hW k hkn)
        generalize lo k = lk at LOk BFk
        obtain ⟨fk, hfk⟩ : ∃ fk, fk = bf k := ⟨_, rfl⟩
        rw [← hfk] at z0 z1 z2 BFk
        obtain ⟨a, b, c⟩ := fk
        simp only at z0 z1 z2 BFk
        obtain ⟨x, hx⟩ : ∃ x, x = rd_T46 code k := ⟨_, rfl⟩
        rw [← hx] at BFk
        obtain ⟨x0, x1, x2, x3, x4⟩ := x
        simp only at BFk
        clear hfk
        go_upto_region 11 with (fail)
        obtain ⟨W1, hW1⟩ : ∃ W1 : World, W1 = wr.alloc (.cells #[.bool a, .bool b, .bool c] 35) := ⟨_, rfl⟩
        have hb1 : Below wr.heap.size wr W1 := hW1 ▸ below_alloc (Below.refl _ _) _
        have r0 : W1.heap[wr.heap.size]? = some (.cells #[.bool a, .bool b, .bool c] 35 (0, 0)) := by rw [hW1]; exact rowT
        have HB := Aside0.mk (below_step HB.out hb1)
        have HL := Aside0.mk (HL.out.move (hb1.block _ HL.out.lt))
        have HR := Aside0.mk ((hb1.block _ (blk_lt HR.out)).trans HR.out)
        rw [← hW1]
        have y3 := (blk_cell HR.out 3).trans (rfl : _ = some (Value.slice (some ad) code.length c3))
        obtain ⟨j0, j1, j2, j3, j4⟩ := hy _ HB.out
        clear hW1 hb1 z0 z1 z2 hy
        rw [← hx] at j0 j1 j2 j3 j4
        simp only at j0 j1 j2 j3 j4
        clear hx
        go_upto_region 12 with (fail)
        obtain ⟨W2, hW2⟩ : ∃ W2 : World, W2 = W1.alloc (.cells #[.int .u8 x0, .int .u8 x1, .int .u8 x2, .int .u8 x3, .int .i64 x4] 46) := ⟨_, rfl⟩
        have hb1 : Below W1.heap.size W1 W2 := hW2 ▸ below_alloc (Below.refl _ _) _
        have r1 : W2.heap[W1.heap.size]? = some (.cells #[.int .u8 x0, .int .u8 x1, .int .u8 x2, .int .u8 x3, .int .i64 x4] 46 (0, 0)) := by rw [hW2]; exact rowT
        have r0 := (hb1.block _ (blk_lt r0)).trans r0
        have HB := Aside0.mk (below_step HB.out hb1)
        have HL := Aside0.mk (HL.out.move (hb1.block _ HL.out.lt))
        have HR := Aside0.mk ((hb1.block _ (blk_lt HR.out)).trans HR.out)
        rw [← hW2]
        have q0 := (blk_cell r0 0).trans (rfl : _ = some (Value.bool a))
        have q1 := (blk_cell r0 1).trans (rfl : _ = some (Value.bool b))
        have q2 := (blk_cell r0 2).trans (rfl : _ = some (Value.bool c))
        have q3 := (blk_cell r1 0).trans (rfl : _ = some (Value.int .u8 x0))
        have y0 := (blk_cell HR.out 0).trans (rfl : _ = some (Value.slice A0 ts.length c0))
        have y1 := (blk_cell HR.out 1).trans (rfl : _ = some (Value.string la))
        have y2 := (blk_cell HR.out 2).trans (rfl : _ = some (Value.string gl))
        have y3 := (blk_cell HR.out 3).trans (rfl : _ = some (Value.slice (some ad) code.length c3))
        clear hW2 r0 r1 hb1 j0 j1 j2 j3 j4
        obtain ⟨h1, h2, h3⟩ : (a = true ∨ b = true → x0 = 5) ∧ (c = true → x0 = 11) ∧ (a = true → lk = false) := by
          rcases BFk.out with ⟨e5, a', b', e, hl⟩ | ⟨e11, c', e⟩ | e <;> cases e
          · exact ⟨fun _ => e5, (fun h => by cases h), hl⟩
          · exact ⟨(fun h => by rcases h with h | h <;> cases h), fun _ => e11, (fun h => by cases h)⟩
          · exact ⟨(fun h => by rcases h with h | h <;> cases h), (fun h => by cases h), (fun h => by cases h)⟩
        clear BFk
        cases a with
        | true =>
          obtain rfl : x0 = 5 := h1 (.inl rfl)
          obtain rfl : lk = false := h3 rfl
          obtain rfl : c = false := by
            cases c with
            | false => rfl
            | true => exact absurd (h2 rfl) (by decide)
          clear h1 h2 h3
          go_wp2_with (go_at_call 16; (with_reducible refine (LOk.out _ ?side1).mono ?_); (case side1 => exact HB.out); rintro e w4 ⟨rfl, hb⟩; have HB := Aside0.mk (below_step HB.out hb); have HL := Aside0.mk (HL.out.move (hb.block _ HL.out.lt)); have HR := Aside0.mk ((hb.block _ (blk_lt HR.out)).trans HR.out); clear hb)
          go_roundw
          case rel => exact ⟨k + 1, by go_num, by omega, HB, HL, HR⟩
          case measure =>
            simp [intOf]
            omega
        | false =>
          clear h3
          have h5 : (b && !(x0 == 5)) = false := by
            cases b with
            | false => rfl
            | true => rw [h1 (.inr rfl)]; rfl
          have h11 : (c && !(x0 == 11)) = false := by
            cases c with
            | false => rfl
            | true => rw [h2 rfl]; rfl
          cases b with
          | true =>
            obtain rfl : x0 = 5 := h1 (.inr rfl)
            obtain rfl : c = false := by
              cases c with
              | false => rfl
              | true => exact absurd (h2 rfl) (by decide)
            clear h1 h2 h5 h11
            go_wp2
            exact ⟨⟨k + 1, by go_num, by omega, HB, HL, HR⟩, by simp [intOf]; omega⟩
          | false =>
            cases c with
            | true =>
              obtain rfl : x0 = 11 := h2 rfl
              clear h1 h2 h5 h11
              go_wp2
              exact ⟨⟨k + 1, by go_num, by omega, HB, HL, HR⟩, by simp [intOf]; omega⟩
            | false =>
              clear h1 h2 h5 h11
              go_wp2
              exact ⟨⟨k + 1, by go_num, by omega, HB, HL, HR⟩, by simp [intOf]; omega⟩
      · obtain rfl : k = code.length := by omega
        go_wp2_with (go_at_call 17; (with_reducible refine (SA.out _ _ HL.out).mono ?_); rintro e w4 ⟨s, r, q, rfl, hsum, hb⟩; have HB := Aside0.mk (below_step HB.out hb); have s0 : (s : Int) ≥ 0 := Int.natCast_nonneg s; have s1 : (r : Int) ≥ 0 := Int.natCast_nonneg r; have s2 : (q : Int) ≥ 0 := Int.natCast_nonneg q; have s3 : (s : Int) + r + q ≤ 2 * code.length := (by omega); have s4 : (s : Int) ≤ 120 := (by omega); have s5 : (r : Int) ≤ 120 := (by omega); have s6 : (q : Int) ≤ 120 := (by omega); clear hb)
        go_ret
        exact ⟨by rfl, HB.out⟩
end Go.Proofs.YtocechpmgfhenaaGreatDoor.PF

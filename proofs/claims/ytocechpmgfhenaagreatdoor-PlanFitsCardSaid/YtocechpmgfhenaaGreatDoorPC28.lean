/- Texts of this claim, pruned to what it needs and laid together by prune.py. -/
import Derived.Test.YtocechpmgfhenaaGreatDoorPC26
import Derived.Test.YtocechpmgfhenaaGreatDoorPC23
import Derived.Test.YtocechpmgfhenaaGreatDoorPC27
import Derived.Test.YtocechpmgfhenaaGreatDoorPC15
import Derived.Test.YtocechpmgfhenaaGreatDoorPC25
namespace Go.Proofs.YtocechpmgfhenaaGreatDoor.SH
open Go.RowKit Go.Proofs.YtocechpmgfhenaaGreatDoorW.PrintWords Go.Proofs.YtocechpmgfhenaaGreatDoor.FM Go.Proofs.YtocechpmgfhenaaGreatDoor.CR Go.Proofs.YtocechpmgfhenaaGreatDoor.ST0 Go.Proofs.YtocechpmgfhenaaGreatDoor.F Go.Proofs.YtocechpmgfhenaaGreatDoor.H Go.Proofs.YtocechpmgfhenaaGreatDoor.Scan
set_option linter.unusedVariables false
set_option linter.unusedSectionVars false
set_option linter.unusedSimpArgs false
section
variable {o : Nat} {f1 f2 f3 f4 : Int} (h1 : 1 ≤ o) (h15 : o ≤ 15) (b1 : 0 ≤ f1 ∧ f1 ≤ 255) (b2 : 0 ≤ f2 ∧ f2 ≤ 255) (b3 : 0 ≤ f3 ∧ f3 ≤ 255) (b4 : -9223372036854775808 ≤ f4 ∧ f4 ≤ 9223372036854775807)
include h1 h15 b1 b2 b3 b4
omit b1 b2 b3 b4 in
theorem shape_val : lockstitchref04_shape.f (o : Int) = some (nmB o, haB o) := by
  obtain rfl | rfl | rfl | rfl | rfl | rfl | rfl | rfl | rfl | rfl | rfl | rfl | rfl | rfl | rfl : o = 1 ∨ o = 2 ∨ o = 3 ∨ o = 4 ∨ o = 5 ∨ o = 6 ∨ o = 7 ∨ o = 8 ∨ o = 9 ∨ o = 10 ∨ o = 11 ∨ o = 12 ∨ o = 13 ∨ o = 14 ∨ o = 15 := by omega
  all_goals rfl
theorem part_val (x : UInt8) (hx : x = 97 ∨ x = 98 ∨ x = 99 ∨ x = 110) : lockstitchref04_part.f o f1 f2 f3 f4 (x.toNat : Int) = some (partV f1 f2 f3 f4 x.toNat) ∧ -9223372036854775808 ≤ partV f1 f2 f3 f4 x.toNat ∧ partV f1 f2 f3 f4 x.toNat ≤ 9223372036854775807 := by
  have e1 : wrap64 f1 = f1 := by unfold wrap64; omega
  have e2 : wrap64 f2 = f2 := by unfold wrap64; omega
  have e3 : wrap64 f3 = f3 := by unfold wrap64; omega
  rcases hx with rfl | rfl | rfl | rfl
  · exact ⟨congrArg some e1, by show _ ≤ f1 ∧ f1 ≤ _; omega⟩
  · exact ⟨congrArg some e2, by show _ ≤ f2 ∧ f2 ≤ _; omega⟩
  · exact ⟨congrArg some e3, by show _ ≤ f3 ∧ f3 ≤ _; omega⟩
  · exact ⟨rfl, b4⟩
theorem line_ev : Ev (fun k => lockstitchref04_line.f k o f1 f2 f3 f4) (lV o f1 f2 f3 f4) := by
  have hl3 := ha_len ⟨o, by omega⟩
  simp only at hl3
  have hsz : (haB o).size = (hasOf o).length := rfl
  have L : ∀ d i : Nat, i + d = (hasOf o).length → Ev (fun k => lockstitchref04_line.l0 k (haB o) ((lV o f1 f2 f3 f4).take (i + 1)) (i : Int) o f1 f2 f3 f4) (lV o f1 f2 f3 f4) := by
    intro d
    induction d with
    | zero =>
      intro i hi
      have e : (lV o f1 f2 f3 f4).take (i + 1) = lV o f1 f2 f3 f4 := List.take_of_length_le (by rw [lV_len, hsz]; omega)
      rw [e]
      exact ev_step (fun k => lockstitchref04_line.l0.eq_2 ..) (Ev.congr (fun k => if_neg (by rw [hsz]; omega)) ev_const)
    | succ d ih =>
      intro i hi
      have hi2 : i < (hasOf o).length := by omega
      obtain ⟨x, hx⟩ : ∃ x, (hasOf o)[i]? = some x := ⟨_, List.getElem?_eq_getElem hi2⟩
      have hx4 := ha_mem ⟨o, by omega⟩ x (List.mem_of_getElem? hx)
      obtain ⟨p1, p2, p3⟩ := part_val h1 h15 b1 b2 b3 b4 x hx4
      have hb : bt (haB o) i = x.toNat := NU.bt_mk (hasOf o) i x hx
      have et : (lV o f1 f2 f3 f4).take (i + 1) ++ [num (partV f1 f2 f3 f4 x.toNat)] = (lV o f1 f2 f3 f4).take (i + 1 + 1) := by
        have : (lV o f1 f2 f3 f4)[i + 1]? = some (num (partV f1 f2 f3 f4 x.toNat)) := by
          unfold lV
          rw [List.getElem?_cons_succ, List.getElem?_map, hx]
          rfl
        rw [List.take_add_one (i := i + 1), this]
        rfl
      have hlen : ((lV o f1 f2 f3 f4).take (i + 1)).length < 8796093022208 := by
        rw [List.length_take, lV_len, hsz]
        omega
      have ih := ih (i + 1) (by omega)
      refine ev_step (fun k => lockstitchref04_line.l0.eq_2 ..) (Ev.congr (fun k => if_pos (by rw [hsz]; omega)) (Ev.congr (fun k => if_pos (by omega)) (ev_bind (ev_all fun _ => by rw [hb]; exact p1) (ev_bind (ev_all fun _ => if_pos ⟨rfl, p2, p3⟩) (Ev.congr (fun k => if_pos hlen) ?_)))))
      rw [et, show wrap64 ((i : Int) + 1) = ((i + 1 : Nat) : Int) by unfold wrap64; omega]
      exact ih
  have := L (hasOf o).length 0 (Nat.zero_add _)
  refine ev_bind (ev_all fun _ => shape_val h1 h15) ?_
  exact this
end
theorem gk_hs : ∀ o : Fin 16, ∀ c ∈ ([97, 98, 99, 110] : List UInt8), hs o c = decide (c ∈ (hasOf o).take 3) := by decide +kernel
theorem gk_eq {o : Nat} (h15 : o ≤ 15) (c : UInt8) (hc : c ∈ ([97, 98, 99, 110] : List UInt8)) (f : Int) : (gk o 3 c f == f) = (hs o c || f == 0) := by
  have := gk_hs ⟨o, by omega⟩ c hc
  simp only at this
  rw [this]
  unfold gk
  by_cases h : c ∈ (hasOf o).take 3
  · simp [h]
  · simp only [h, if_false, decide_false, Bool.false_or]
    rw [Bool.beq_comm]
section
variable (w : World) (o : Nat) (f1 f2 f3 f4 : Int) (b1 : 0 ≤ f1 ∧ f1 ≤ 255) (b2 : 0 ≤ f2 ∧ f2 ≤ 255) (b3 : 0 ≤ f3 ∧ f3 ≤ 255) (b4 : -9223372036854775808 ≤ f4 ∧ f4 ≤ 9223372036854775807) (htab : TB w)
include b1 b2 b3 b4 htab
set_option maxRecDepth 100000 in
theorem Right04_out (h : o = 0 ∨ 16 ≤ o) : Calls Tryz.prog 31 #[.agg #[.int .u8 o, .int .u8 f1, .int .u8 f2, .int .u8 f3, .int .i64 f4]] w fun e w' => e = .returned (.bool false) ∧ Below w.heap.size w w' := by
  have SH := Aside0.mk (fun W => shape_c W o)
  rw [(out_B h).1] at SH
  clear h htab
  go_enter Tryz.func31, Tryz.ntmps31
  go_wp2_with (go_at_call 49; (with_reducible refine (SH.out _).mono ?_); rintro e w' ⟨rfl, rfl⟩)
  go_ret
  exact ⟨rfl, below_alloc (Below.refl _ _) _⟩
set_option maxHeartbeats 2000000 in
set_option maxRecDepth 100000 in
theorem Right04_in (h1 : 1 ≤ o) (h15 : o ≤ 15) : Calls Tryz.prog 31 #[.agg #[.int .u8 o, .int .u8 f1, .int .u8 f2, .int .u8 f3, .int .i64 f4]] w fun e w' => e = .returned (.bool (rightB o f1 f2 f3 f4)) ∧ Below w.heap.size w w' := by
  have hne : (nmB o).toList.isEmpty = false := NU.isE (by
    have : ∀ o : Fin 16, 1 ≤ o.1 → 1 ≤ (nmB o).size := by decide +kernel
    exact this ⟨o, by omega⟩ h1)
  have er : rightB o f1 f2 f3 f4 = ((o : Int) == o && (gk o 3 97 f1 == f1 && (gk o 3 98 f2 == f2 && (gk o 3 99 f3 == f3 && (gk o 3 110 f4 == f4))))) := by
    rw [gk_eq h15 97 (by simp), gk_eq h15 98 (by simp), gk_eq h15 99 (by simp), gk_eq h15 110 (by simp)]
    unfold rightB
    cases hs o 97 <;> cases hs o 98 <;> cases hs o 99 <;> cases hs o 110 <;> simp <;> (cases f1 == 0 <;> cases f2 == 0 <;> cases f3 == 0 <;> cases f4 == 0 <;> rfl)
  obtain ⟨kl, hkl⟩ := ev_at (line_ev h1 h15 b1 b2 b3 b4)
  have LN := Aside0.mk hkl
  have HTB := Aside0.mk htab
  have H15 := Aside0.mk (And.intro h1 h15)
  have B := Aside0.mk (And.intro b1 (And.intro b2 (And.intro b3 b4)))
  rw [er]
  clear hkl htab h1 h15 b1 b2 b3 b4 er
  go_enter Tryz.func31, Tryz.ntmps31
  go_wp2_with (first
    | (go_at_call 49; (with_reducible refine (shape_c _ o).mono ?_); rintro e w' ⟨rfl, rfl⟩)
    | (go_at_call 51; (with_reducible refine (lockstitchref04_line.calls kl o f1 f2 f3 f4 _ _ LN.out (TB_below HTB.out (below_alloc (Below.refl _ _) _))).mono ?_); rintro e w1 ⟨v, rfl, hv, hb1⟩; obtain ⟨Al, cl, ev, hcl, hrl⟩ := Kd.R_reads hv; subst ev; have HRL := Aside0.mk hrl; have HCL := Aside0.mk hcl; have rx1 := (hb1.block w.heap.size (by simp)).trans (heap_alloc_new w _); have HB1 := Aside0.mk (below_step (below_alloc (Below.refl _ _) _) hb1); clear hv hb1 hrl)
    | (go_at_call 50; (with_reducible refine (read_c _ o f1 f2 f3 f4 H15.out.1 H15.out.2 B.out.1 B.out.2.1 B.out.2.2.1 B.out.2.2.2 Al cl HRL.out HCL.out).mono ?_); rintro e w2 ⟨rfl, hb2⟩; have rx2 := (hb2.block w.heap.size (blk_lt rx1)).trans rx1; have z2 := blk_lt rx2; have kp2 := fun j => cell_of_row (w2.alloc (.cells #[.int .u8 o, .int .u8 (gk o 3 97 f1), .int .u8 (gk o 3 98 f2), .int .u8 (gk o 3 99 f3), .int .i64 (gk o 3 110 f4)] 46)) w.heap.size j _ _ _ (row_old _ _ _ z2 rx2); have HB2 := Aside0.mk hb2; clear hb2)
    | (apply ldI; (with_reducible rfl); rfl; rfl; exact rowT; rfl)
    | (apply srI; (with_reducible rfl); rfl; rfl; rfl; exact rowT; rfl; rfl; rfl; exact setT))
  all_goals
    go_ret
    refine ⟨?_, below_alloc (below_step HB1.out HB2.out) _⟩
    simp [*]
end
end Go.Proofs.YtocechpmgfhenaaGreatDoor.SH

namespace Go.Proofs.YtocechpmgfhenaaGreatDoor.SH
open Go.RowKit Go.Proofs.YtocechpmgfhenaaGreatDoorW.PrintWords Go.Proofs.YtocechpmgfhenaaGreatDoor.CR Go.Proofs.YtocechpmgfhenaaGreatDoor.ST0
set_option linter.unusedVariables false
set_option linter.unusedSimpArgs false
set_option maxHeartbeats 2000000 in
set_option maxRecDepth 100000 in
theorem ints_c (w : World) (o : Nat) (f1 f2 f3 f4 : Int) (h1 : 1 ≤ o) (h15 : o ≤ 15) :
    Calls Tryz.prog 32 #[.agg #[.int .u8 o, .int .u8 f1, .int .u8 f2, .int .u8 f3, .int .i64 f4]] w fun e w' => e = .returned (.bool (intsB o f1 f2 f3)) ∧ Below w.heap.size w w' := by
  obtain rfl | rfl | rfl | rfl | rfl | rfl | rfl | rfl | rfl | rfl | rfl | rfl | rfl | rfl | rfl : o = 1 ∨ o = 2 ∨ o = 3 ∨ o = 4 ∨ o = 5 ∨ o = 6 ∨ o = 7 ∨ o = 8 ∨ o = 9 ∨ o = 10 ∨ o = 11 ∨ o = 12 ∨ o = 13 ∨ o = 14 ∨ o = 15 := by omega
  all_goals
    simp only [intsB, Nat.reduceEqDiff, reduceIte, or_true, true_or, or_false, false_or]
    go_enter Tryz.func32, Tryz.ntmps32
    go_wp2
  all_goals
    go_ret
    refine ⟨?_, below_alloc (Below.refl _ _) _⟩
    first | rfl | (simp [*]; done) | (simp; omega)
end Go.Proofs.YtocechpmgfhenaaGreatDoor.SH

namespace Go.Proofs.YtocechpmgfhenaaGreatDoor.PL
open Go.RowKit Go.Proofs.YtocechpmgfhenaaGreatDoorW.PrintWords Go.Proofs.YtocechpmgfhenaaGreatDoor.F Go.Proofs.YtocechpmgfhenaaGreatDoor.KP Go.Proofs.YtocechpmgfhenaaGreatDoor.CR Go.Proofs.YtocechpmgfhenaaGreatDoor.SH Go.Proofs.YtocechpmgfhenaaGreatDoor.FM Go.Proofs.YtocechpmgfhenaaGreatDoor.ST0 Go.Proofs.YtocechpmgfhenaaGreatDoor.Scan
set_option linter.unusedVariables false
set_option linter.unusedSectionVars false
set_option linter.unusedSimpArgs false
theorem Refs_c (p : Pg) (w : World) (h : p.In w) (s : ByteArray) (hz : Fit s) : Calls Tryz.prog 30 #[.slice p.A0 p.ts.length p.c0, .string s] w fun e w' => e = .returned (.bool (refs p.ts s)) ∧ Below w.heap.size w w' := by
  obtain ⟨k, hk⟩ := ev_at (ref_Refs_ev p.ts s h.hl h.hs hz)
  exact (lockstitchref03_Refs.calls k p.A0 p.c0 p.ts s _ w h.hT h.hc0 hk).mono fun e w' h => ⟨h.1, h.2.below⟩
theorem Right04_c (w : World) (o : Nat) (f1 f2 f3 f4 : Int) (hx : WfI o f1 f2 f3 f4) (htab : TB w) :
    Calls Tryz.prog 31 #[.agg #[.int .u8 o, .int .u8 f1, .int .u8 f2, .int .u8 f3, .int .i64 f4]] w fun e w' => e = .returned (.bool (if o = 0 ∨ 16 ≤ o then false else rightB o f1 f2 f3 f4)) ∧ Below w.heap.size w w' := by
  obtain ⟨_, h1, h2, h3, h4⟩ := hx
  by_cases h : o = 0 ∨ 16 ≤ o
  · rw [if_pos h]
    exact Right04_out w o f1 f2 f3 f4 h1 h2 h3 h4 htab h
  · rw [if_neg h]
    exact Right04_in w o f1 f2 f3 f4 h1 h2 h3 h4 htab (by omega) (by omega)
end Go.Proofs.YtocechpmgfhenaaGreatDoor.PL

namespace Go.Proofs.YtocechpmgfhenaaGreatDoor.PL
open Go.RowKit Go.Proofs.YtocechpmgfhenaaGreatDoorW.PrintWords Go.Proofs.YtocechpmgfhenaaGreatDoor.F Go.Proofs.YtocechpmgfhenaaGreatDoor.KP Go.Proofs.YtocechpmgfhenaaGreatDoor.CR Go.Proofs.YtocechpmgfhenaaGreatDoor.SH Go.Proofs.YtocechpmgfhenaaGreatDoor.FM Go.Proofs.YtocechpmgfhenaaGreatDoor.ST0 Go.Proofs.YtocechpmgfhenaaGreatDoor.Scan
set_option linter.unusedVariables false
set_option linter.unusedSectionVars false
set_option linter.unusedSimpArgs false
def rgR (o : Nat) (f1 f2 f3 f4 : Int) : Bool := if o = 0 ∨ 16 ≤ o then false else rightB o f1 f2 f3 f4
theorem rgR_op {o : Nat} {f1 f2 f3 f4 : Int} (h : rgR o f1 f2 f3 f4 = true) : (1 ≤ o ∧ o ≤ 15) ∧ rightB o f1 f2 f3 f4 = true := by
  unfold rgR at h
  split at h
  · cases h
  · exact ⟨by omega, h⟩
def IsR (r : Bool) : Prop := r = true
theorem IsR.mk : IsR true := rfl
def OkR (r ib kd : Bool) (o : Nat) (f4 : Int) (n : Nat) : Prop := r = true ∧ ib = true ∧ kd = true ∧ (o = 3 ∨ o = 4 → 0 ≤ f4 ∧ f4 ≤ n)
section
variable (p : Pg) (w : World) (hp : p.In w)
include hp
set_option maxHeartbeats 8000000 in
set_option maxRecDepth 100000 in
theorem Check_c : Calls Tryz.prog 15 #[p.v] w fun e w' => ∃ r er : Int, e = .returned (.tuple #[.int .i64 r, .int .i64 er]) ∧ (er = 0 ↔ SpP p) ∧ (er = 0 → r = -1) ∧ Below w.heap.size w w' := by
  have HP := Aside0.mk hp
  have hlc := hp.hc
  have hla := hp.hla
  have hgl := hp.hgl
  obtain ⟨A0, c0, ts, la, gl, A3, c3, code⟩ := p
  simp only at hlc hla hgl
  obtain ⟨b1, hb1⟩ : ∃ b1, refs ts la = b1 := ⟨_, rfl⟩
  obtain ⟨b2, hb2⟩ : ∃ b2, refs ts gl = b2 := ⟨_, rfl⟩
  have REF1 : Aside0 (∀ W, Below w.heap.size w W → Calls Tryz.prog 30 #[.slice A0 ts.length c0, .string la] W fun e w' => e = .returned (.bool b1) ∧ Below W.heap.size W w') := ⟨fun W hW => by
    rw [← hb1]
    exact Refs_c ⟨A0, c0, ts, la, gl, A3, c3, code⟩ W (HP.out.below hW) la hla⟩
  have REF2 : Aside0 (∀ W, Below w.heap.size w W → Calls Tryz.prog 30 #[.slice A0 ts.length c0, .string gl] W fun e w' => e = .returned (.bool b2) ∧ Below W.heap.size W w') := ⟨fun W hW => by
    rw [← hb2]
    exact Refs_c ⟨A0, c0, ts, la, gl, A3, c3, code⟩ W (HP.out.below hW) gl hgl⟩
  have HSP := Aside0.mk (show SpP ⟨A0, c0, ts, la, gl, A3, c3, code⟩ → b1 = true ∧ b2 = true ∧ ¬ (la.size : Int) > 8 ∧ ¬ (gl.size : Int) > 4 ∧ ¬ (code.length : Int) < 1 ∧ ¬ (code.length : Int) > 200 from fun h => ⟨by rw [← hb1]; exact h.refs.1, by rw [← hb2]; exact h.refs.2, by have := h.locals; simp only at this; omega, by have := h.globals; simp only at this; omega, by have := h.len; simp only at this; omega, by have := h.len; simp only at this; omega⟩)
  have HB0 := Aside0.mk (And.intro hb1 hb2)
  clear hp hb1 hb2
  have HLA := Aside0.mk hla
  have HGL := Aside0.mk hgl
  clear hla hgl
  have HW := Aside0.mk (Below.refl w.heap.size w)
  show Calls Tryz.prog 15 #[.agg #[.slice A0 ts.length c0, .string la, .string gl, .slice A3 code.length c3]] w fun e w' => ∃ r er : Int, e = .returned (.tuple #[.int .i64 r, .int .i64 er]) ∧ (er = 0 ↔ SpP ⟨A0, c0, ts, la, gl, A3, c3, code⟩) ∧ (er = 0 → r = -1) ∧ Below w.heap.size w w'
  by_cases hall : b1 = true ∧ b2 = true ∧ ¬ (la.size : Int) > 8 ∧ ¬ (gl.size : Int) > 4 ∧ ¬ (code.length : Int) < 1 ∧ ¬ (code.length : Int) > 200
  · obtain ⟨rfl, rfl, h3, h4, h5, h6⟩ := hall
    have HRL := Aside0.mk (show (refs ts la = true ∧ refs ts gl = true) ∧ la.size ≤ 8 ∧ gl.size ≤ 4 ∧ 1 ≤ code.length ∧ code.length ≤ 200 from ⟨HB0.out, by omega, by omega, by omega, by omega⟩)
    go_enter Tryz.func15, Tryz.ntmps15
    go_wp2_with (first
      | (go_at_call 30; (with_reducible refine (REF1.out _ ?side1).mono ?_); (case side1 => exact below_alloc HW.out _); rintro e w1 ⟨rfl, hb1⟩; have R0 := (hb1.block w.heap.size (by simp)).trans (heap_alloc_new w _); have kR := fun j => cell_of_row w1 w.heap.size j _ _ _ R0; have HW := Aside0.mk (below_step (below_alloc HW.out _) hb1); clear hb1)
      | (go_at_call 30; (with_reducible refine (REF2.out _ HW.out).mono ?_); rintro e w1 ⟨rfl, hb1⟩; have R0 := (hb1.block w.heap.size (blk_lt R0)).trans R0; have kR := fun j => cell_of_row w1 w.heap.size j _ _ _ R0; have HW := Aside0.mk (below_step HW.out hb1); clear hb1))
    have HR0 := Aside0.mk R0
    clear kR R0 REF1 REF2
    go_loopw [4] (fun c wr => ∃ i : Nat, i ≤ code.length ∧ c = .int .i64 i ∧ Aside0 (∀ j, j < i → InsAt ts la gl code j) ∧ Aside0 (wr.heap[w.heap.size]? = some (.cells #[.slice A0 ts.length c0, .string la, .string gl, .slice A3 code.length c3] 25 (0, 0))) ∧ Aside0 (Below w.heap.size w wr)) (fun c _ => code.length - (intOf c).toNat)
    case atStart => exact ⟨0, Nat.zero_le _, rfl, ⟨fun j hj => absurd hj (Nat.not_lt_zero _)⟩, HR0, HW⟩
    case round =>
      clear HR0 HW
      obtain ⟨i, hi, rfl, HI, HR, HB⟩ := hrel
      have kP := fun j => cell_of_row wr w.heap.size j _ _ _ HR.out
      by_cases hlt : (i : Int) < (code.length : Int)
      · have p0 : (0 : Int) ≤ i := by omega
        obtain ⟨ad, rfl, x0, x1, x2, x3, x4⟩ := at_T46 HP.out.hC (i : Int) p0 hlt
        rw [Int.toNat_natCast] at x0 x1 x2 x3 x4
        replace x0 := (HB.out.cell (World.block_lt_of_cell? w _ x0)).trans x0
        replace x1 := (HB.out.cell (World.block_lt_of_cell? w _ x1)).trans x1
        replace x2 := (HB.out.cell (World.block_lt_of_cell? w _ x2)).trans x2
        replace x3 := (HB.out.cell (World.block_lt_of_cell? w _ x3)).trans x3
        replace x4 := (HB.out.cell (World.block_lt_of_cell? w _ x4)).trans x4
        have hwf := HP.out.hw.rd i (show i < code.length by omega)
        obtain ⟨o, ho⟩ := Int.eq_ofNat_of_zero_le hwf.1.1
        rw [ho] at x0 hwf
        have HIA := Aside0.mk (show InsP ts la gl code.length o (rd_T46 code i).f1 (rd_T46 code i).f2 (rd_T46 code i).f3 (rd_T46 code i).f4 → InsAt ts la gl code i from fun h => ⟨o, ho, h⟩)
        have HIB := Aside0.mk (show InsAt ts la gl code i → InsP ts la gl code.length o (rd_T46 code i).f1 (rd_T46 code i).f2 (rd_T46 code i).f3 (rd_T46 code i).f4 from fun ⟨o', ho', h⟩ => by
          have h2 : (o' : Int) = o := ho'.symm.trans ho
          have : o' = o := by omega
          rwa [this] at h)
        obtain ⟨f1, e1⟩ : ∃ f1, (rd_T46 code i).f1 = f1 := ⟨_, rfl⟩
        obtain ⟨f2, e2⟩ : ∃ f2, (rd_T46 code i).f2 = f2 := ⟨_, rfl⟩
        obtain ⟨f3, e3⟩ : ∃ f3, (rd_T46 code i).f3 = f3 := ⟨_, rfl⟩
        obtain ⟨f4, e4⟩ : ∃ f4, (rd_T46 code i).f4 = f4 := ⟨_, rfl⟩
        rw [e1] at x1
        rw [e2] at x2
        rw [e3] at x3
        rw [e4] at x4
        rw [e1, e2, e3, e4] at HIA HIB hwf
        clear e1 e2 e3 e4 ho
        have HWF := Aside0.mk hwf
        clear hwf
        obtain ⟨r, hr⟩ : ∃ r, rgR o f1 f2 f3 f4 = r := ⟨_, rfl⟩
        obtain ⟨ib, hib⟩ : ∃ ib, intsB o f1 f2 f3 = ib := ⟨_, rfl⟩
        obtain ⟨kd, hk⟩ : ∃ kd, kindsB ts la gl o f1 f2 f3 f4 = kd := ⟨_, rfl⟩
        have RGT := Aside0.mk (show ∀ W, Below w.heap.size w W → Calls Tryz.prog 31 #[.agg #[.int .u8 o, .int .u8 f1, .int .u8 f2, .int .u8 f3, .int .i64 f4]] W fun e w' => e = .returned (.bool r) ∧ Below W.heap.size W w' from fun W hW => by rw [← hr]; exact Right04_c W o f1 f2 f3 f4 HWF.out (TB_below HP.out.tb hW))
        have INT := Aside0.mk (show IsR r → ∀ W, Calls Tryz.prog 32 #[.agg #[.int .u8 o, .int .u8 f1, .int .u8 f2, .int .u8 f3, .int .i64 f4]] W fun e w' => e = .returned (.bool ib) ∧ Below W.heap.size W w' from fun ht W => by
          rw [← hib]
          have := rgR_op (hr.trans ht)
          exact ints_c W o f1 f2 f3 f4 this.1.1 this.1.2)
        have KND := Aside0.mk (show IsR r → ∀ W, Below w.heap.size w W → Calls Tryz.prog 33 #[.agg #[.slice A0 ts.length c0, .string la, .string gl, .slice (some ad) code.length c3], .agg #[.int .u8 o, .int .u8 f1, .int .u8 f2, .int .u8 f3, .int .i64 f4]] W fun e w' => e = .returned (.bool kd) ∧ Below W.heap.size W w' from fun ht W hW => by
          rw [← hk]
          have := rgR_op (hr.trans ht)
          exact kinds_c ⟨A0, c0, ts, la, gl, some ad, c3, code⟩ W o f1 f2 f3 f4 this.1.1 this.1.2 HWF.out (HP.out.below hW))
        have HIP := Aside0.mk (show InsP ts la gl code.length o f1 f2 f3 f4 ↔ OkR r ib kd o f4 code.length from ⟨fun h => ⟨by
            rw [← hr]
            unfold rgR
            rw [if_neg (by have := h.op; omega)]
            exact h.right, by rw [← hib]; exact h.ints, by rw [← hk]; exact (kindsB_iff h.op.1 h.op.2).2 h.kinds, h.jump⟩, fun ⟨h1, h0, h2, h3⟩ => by
            have a := rgR_op (hr.trans h1)
            exact ⟨a.1, a.2, h3, hib.trans h0, (kindsB_iff a.1.1 a.1.2).1 (hk.trans h2)⟩⟩)
        clear hr hk hib
        have HSI := Aside0.mk (show SpP ⟨A0, c0, ts, la, gl, some ad, c3, code⟩ → OkR r ib kd o f4 code.length from fun h => HIP.out.1 (HIB.out (h.all i (by simp only; omega))))
        obtain ⟨wo, rfl⟩ : ∃ wo : World, wo = wr := ⟨_, rfl⟩
        by_cases hgood : OkR r ib kd o f4 code.length
        · have HOK := Aside0.mk (HIA.out (HIP.out.2 hgood))
          unfold OkR at hgood
          obtain ⟨rfl, rfl, rfl, hj⟩ := hgood
          have hq : (((o : Int) == 3) = true ∧ ¬ f4 < 0 ∧ ¬ f4 > (code.length : Int)) ∨ (((o : Int) == 3) = false ∧ ((o : Int) == 4) = true ∧ ¬ f4 < 0 ∧ ¬ f4 > (code.length : Int)) ∨ (((o : Int) == 3) = false ∧ ((o : Int) == 4) = false) := by
            simp only [beq_eq_false_iff_ne, beq_iff_eq]
            omega
          clear hj HSI HIP HIB HIA
          obtain ⟨q3, j1, j2⟩ | ⟨q3, q4, j1, j2⟩ | ⟨q3, q4⟩ := hq
          all_goals
            go_wp2_with (first
              | (go_at_call 31; (with_reducible refine (RGT.out _ ?side1).mono ?_); (case side1 => exact below_alloc HB.out _); rintro e w1 ⟨rfl, hb1⟩; have R1 := (hb1.block wo.heap.size (by simp)).trans (heap_alloc_new wo _); have kR1 := fun j => cell_of_row w1 wo.heap.size j _ _ _ R1; have HR1 := Aside0.mk R1; have R0 := (hb1.block w.heap.size (by have := blk_lt HR.out; simp; omega)).trans (row_old _ _ _ (blk_lt HR.out) HR.out); have kR0 := fun j => cell_of_row w1 w.heap.size j _ _ _ R0; have HR := Aside0.mk R0; clear R0; have HB := Aside0.mk (below_step (below_alloc HB.out _) hb1); clear hb1 R1)
              | (go_at_call 32; (with_reducible refine (INT.out IsR.mk _).mono ?_); rintro e w1 ⟨rfl, hb1⟩; have R1 := (hb1.block wo.heap.size (blk_lt HR1.out)).trans HR1.out; have kR1 := fun j => cell_of_row w1 wo.heap.size j _ _ _ R1; have R0 := (hb1.block w.heap.size (blk_lt HR.out)).trans HR.out; have kR0 := fun j => cell_of_row w1 w.heap.size j _ _ _ R0; have HR := Aside0.mk R0; clear R0 R1; have HB := Aside0.mk (below_step HB.out hb1); clear hb1)
              | (go_at_call 33; (with_reducible refine (KND.out IsR.mk _ HB.out).mono ?_); rintro e w2 ⟨rfl, hb2⟩; have HR := Aside0.mk ((hb2.block w.heap.size (blk_lt HR.out)).trans HR.out); have HB := Aside0.mk (below_step HB.out hb2); clear hb2))
            go_roundw
            case rel => exact ⟨i + 1, by omega, by go_num, ⟨fun j hj => by
              rcases Nat.lt_succ_iff_lt_or_eq.1 hj with hj | rfl
              · exact HI.out j hj
              · exact HOK.out⟩, HR, HB⟩
            case measure => simp [intOf]; omega
        · have HNO := Aside0.mk (show ¬ SpP ⟨A0, c0, ts, la, gl, some ad, c3, code⟩ from fun h => hgood (HSI.out h))
          have hq : (r = false ∧ ((o : Int) == 3) = true) ∨ (r = false ∧ ((o : Int) == 3) = false ∧ ((o : Int) == 4) = true) ∨ (r = false ∧ ((o : Int) == 3) = false ∧ ((o : Int) == 4) = false) ∨ (r = true ∧ ((o : Int) == 3) = true ∧ f4 < 0) ∨ (r = true ∧ ((o : Int) == 3) = true ∧ ¬ f4 < 0 ∧ f4 > (code.length : Int)) ∨ (r = true ∧ ((o : Int) == 3) = false ∧ ((o : Int) == 4) = true ∧ f4 < 0) ∨ (r = true ∧ ((o : Int) == 3) = false ∧ ((o : Int) == 4) = true ∧ ¬ f4 < 0 ∧ f4 > (code.length : Int)) ∨ (r = true ∧ ib = false ∧ ((o : Int) == 3) = true ∧ ¬ f4 < 0 ∧ ¬ f4 > (code.length : Int)) ∨ (r = true ∧ ib = false ∧ ((o : Int) == 3) = false ∧ ((o : Int) == 4) = true ∧ ¬ f4 < 0 ∧ ¬ f4 > (code.length : Int)) ∨ (r = true ∧ ib = false ∧ ((o : Int) == 3) = false ∧ ((o : Int) == 4) = false) ∨ (r = true ∧ ib = true ∧ kd = false ∧ ((o : Int) == 3) = true ∧ ¬ f4 < 0 ∧ ¬ f4 > (code.length : Int)) ∨ (r = true ∧ ib = true ∧ kd = false ∧ ((o : Int) == 3) = false ∧ ((o : Int) == 4) = true ∧ ¬ f4 < 0 ∧ ¬ f4 > (code.length : Int)) ∨ (r = true ∧ ib = true ∧ kd = false ∧ ((o : Int) == 3) = false ∧ ((o : Int) == 4) = false) := by
            unfold OkR at hgood
            simp only [beq_eq_false_iff_ne, beq_iff_eq]
            cases r <;> cases ib <;> cases kd <;> simp at hgood ⊢ <;> omega
          clear hgood HSI HIP HIB HIA
          obtain ⟨rfl, q3⟩ | ⟨rfl, q3, q4⟩ | ⟨rfl, q3, q4⟩ | ⟨rfl, q3, j1⟩ | ⟨rfl, q3, j1, j2⟩ | ⟨rfl, q3, q4, j1⟩ | ⟨rfl, q3, q4, j1, j2⟩ | ⟨rfl, rfl, q3, j1, j2⟩ | ⟨rfl, rfl, q3, q4, j1, j2⟩ | ⟨rfl, rfl, q3, q4⟩ | ⟨rfl, rfl, rfl, q3, j1, j2⟩ | ⟨rfl, rfl, rfl, q3, q4, j1, j2⟩ | ⟨rfl, rfl, rfl, q3, q4⟩ := hq
          all_goals
            go_wp2_with (first
              | (go_at_call 31; (with_reducible refine (RGT.out _ ?side1).mono ?_); (case side1 => exact below_alloc HB.out _); rintro e w1 ⟨rfl, hb1⟩; have R1 := (hb1.block wo.heap.size (by simp)).trans (heap_alloc_new wo _); have kR1 := fun j => cell_of_row w1 wo.heap.size j _ _ _ R1; have HR1 := Aside0.mk R1; have R0 := (hb1.block w.heap.size (by have := blk_lt HR.out; simp; omega)).trans (row_old _ _ _ (blk_lt HR.out) HR.out); have kR0 := fun j => cell_of_row w1 w.heap.size j _ _ _ R0; have HR := Aside0.mk R0; clear R0; have HB := Aside0.mk (below_step (below_alloc HB.out _) hb1); clear hb1 R1)
              | (go_at_call 32; (with_reducible refine (INT.out IsR.mk _).mono ?_); rintro e w1 ⟨rfl, hb1⟩; have R1 := (hb1.block wo.heap.size (blk_lt HR1.out)).trans HR1.out; have kR1 := fun j => cell_of_row w1 wo.heap.size j _ _ _ R1; have R0 := (hb1.block w.heap.size (blk_lt HR.out)).trans HR.out; have kR0 := fun j => cell_of_row w1 w.heap.size j _ _ _ R0; have HR := Aside0.mk R0; clear R0 R1; have HB := Aside0.mk (below_step HB.out hb1); clear hb1)
              | (go_at_call 33; (with_reducible refine (KND.out IsR.mk _ HB.out).mono ?_); rintro e w2 ⟨rfl, hb2⟩; have HR := Aside0.mk ((hb2.block w.heap.size (blk_lt HR.out)).trans HR.out); have HB := Aside0.mk (below_step HB.out hb2); clear hb2))
            go_ret2
            exact ⟨_, _, rfl, ⟨fun e => absurd e (by decide), fun h => absurd h HNO.out⟩, fun e => absurd e (by decide), HB.out⟩
      · obtain rfl : i = code.length := by omega
        go_wp2
        go_ret2
        exact ⟨_, _, rfl, ⟨fun _ => ⟨HRL.out.1, HRL.out.2.1, HRL.out.2.2.1, HRL.out.2.2.2, HI.out⟩, fun _ => rfl⟩, fun _ => rfl, HB.out⟩
  · have HN := Aside0.mk (fun h => hall (HSP.out h))
    obtain rfl | ⟨rfl, rfl⟩ | ⟨rfl, rfl, h3⟩ | ⟨rfl, rfl, h3, h4⟩ | ⟨rfl, rfl, h3, h4, h5⟩ | ⟨rfl, rfl, h3, h4, h5, h6⟩ : b1 = false ∨ (b1 = true ∧ b2 = false) ∨ (b1 = true ∧ b2 = true ∧ (la.size : Int) > 8) ∨ (b1 = true ∧ b2 = true ∧ ¬ (la.size : Int) > 8 ∧ (gl.size : Int) > 4) ∨ (b1 = true ∧ b2 = true ∧ ¬ (la.size : Int) > 8 ∧ ¬ (gl.size : Int) > 4 ∧ (code.length : Int) < 1) ∨ (b1 = true ∧ b2 = true ∧ ¬ (la.size : Int) > 8 ∧ ¬ (gl.size : Int) > 4 ∧ ¬ (code.length : Int) < 1 ∧ (code.length : Int) > 200) := by
      cases b1
      · exact .inl rfl
      · cases b2
        · exact .inr (.inl ⟨rfl, rfl⟩)
        · refine .inr (.inr ?_)
          simp only [true_and] at hall ⊢
          omega
    all_goals
      clear hall
      go_enter Tryz.func15, Tryz.ntmps15
      go_wp2_with (first
        | (go_at_call 30; (with_reducible refine (REF1.out _ ?side1).mono ?_); (case side1 => exact below_alloc HW.out _); rintro e w1 ⟨rfl, hb1⟩; have R0 := (hb1.block w.heap.size (by simp)).trans (heap_alloc_new w _); have kR := fun j => cell_of_row w1 w.heap.size j _ _ _ R0; have HW := Aside0.mk (below_step (below_alloc HW.out _) hb1); clear hb1)
        | (go_at_call 30; (with_reducible refine (REF2.out _ HW.out).mono ?_); rintro e w1 ⟨rfl, hb1⟩; have R0 := (hb1.block w.heap.size (blk_lt R0)).trans R0; have kR := fun j => cell_of_row w1 w.heap.size j _ _ _ R0; have HW := Aside0.mk (below_step HW.out hb1); clear hb1))
      go_ret2
      exact ⟨_, _, rfl, ⟨fun e => absurd e (by decide), fun h => absurd h HN.out⟩, fun e => absurd e (by decide), HW.out⟩
end
end Go.Proofs.YtocechpmgfhenaaGreatDoor.PL

namespace Go.Proofs.YtocechpmgfhenaaGreatDoor.PL
open Go.RowKit Go.Proofs.YtocechpmgfhenaaGreatDoorW.PrintWords Go.Proofs.YtocechpmgfhenaaGreatDoor.Scan Go.Proofs.YtocechpmgfhenaaGreatDoor.F Go.Proofs.YtocechpmgfhenaaGreatDoor.KP
set_option linter.unusedVariables false
set_option linter.unusedSimpArgs false
theorem t_ite {α : Type} {c : Prop} [Decidable c] {f g : Nat → Option α} (hf : c → ∃ r, Ev f r) (hg : ¬ c → ∃ r, Ev g r) : ∃ r, Ev (fun k => if c then f k else g k) r := by
  by_cases h : c
  · obtain ⟨r, hr⟩ := hf h
    exact ⟨r, Ev.congr (fun k => if_pos h) hr⟩
  · obtain ⟨r, hr⟩ := hg h
    exact ⟨r, Ev.congr (fun k => if_neg h) hr⟩
theorem t_step {α : Type} {g f : Nat → Option α} (h : ∀ k, g (k + 1) = f k) (k : ∃ r, Ev f r) : ∃ r, Ev g r := k.elim fun r hr => ⟨r, ev_step h hr⟩
theorem few_l0 (ts : List ByteArray) (hl : (ts.length : Int) ≤ 9223372036854775807) (la gl : ByteArray) (code : List S46) : ∀ (d i : Nat) (a : Int), i + d = ts.length → ∃ r, Ev (fun k => lockstitchlaw04_Few.l0 k a ts (ts.length : Int) (i : Int) ts la gl code) r := by
  intro d
  induction d with
  | zero =>
    intro i a hi
    exact t_step (fun k => lockstitchlaw04_Few.l0.eq_2 ..) (t_ite (fun h => absurd h (by omega)) fun _ => t_ite (fun _ => ⟨_, ev_const⟩) fun _ => ⟨_, ev_const⟩)
  | succ d ih =>
    intro i a hi
    refine t_step (fun k => lockstitchlaw04_Few.l0.eq_2 ..) (t_ite (fun _ => t_ite (fun _ => t_ite (fun _ => ?_) fun h => absurd (by omega) h) fun h => absurd (by omega) h) fun h => absurd (by omega) h)
    rw [show wrap64 ((i : Int) + 1) = ((i + 1 : Nat) : Int) by unfold wrap64; omega]
    exact ih (i + 1) _ (by omega)
theorem few_A (p : Pg) (w : World) (h : p.In w) : ∃ b, ∀ W, Below w.heap.size w W → Calls Tryz.prog 21 #[p.v] W fun e w' => e = .returned (.bool b) ∧ Below W.heap.size W w' := by
  have ht : ∃ b, Ev (fun k => lockstitchlaw04_Few.f k p.ts p.la p.gl p.code) b := few_l0 p.ts h.hl p.la p.gl p.code p.ts.length 0 _ (Nat.zero_add _)
  obtain ⟨b, hb⟩ := ht
  obtain ⟨k, hk⟩ := ev_at hb
  exact ⟨b, fun W hW => lockstitchlaw04_Few.calls k p.A0 p.c0 p.ts p.la p.gl p.A3 p.c3 p.code b W (h.below hW).hT h.hc0 (h.below hW).hC h.hc3 hk⟩
open Classical in
set_option maxHeartbeats 4000000 in
set_option maxRecDepth 100000 in
theorem Sound_c (p : Pg) (w : World) (h : p.In w) : ∃ b : Bool, (b = true → SpP p ∧ p.code.length ≤ 60) ∧ ∀ W, Below w.heap.size w W → Calls Tryz.prog 10 #[p.v] W fun e w' => e = .returned (.bool b) ∧ Below W.heap.size W w' := by
  obtain ⟨bf, hbf⟩ := few_A p w h
  have CK := Aside0.mk (fun W (hW : Below w.heap.size w W) => Check_c p W (h.below hW))
  have hmax := Kd.C_max h.hC
  have FE := Aside0.mk hbf
  clear h hbf
  refine ⟨decide (bf = true ∧ p.code.length ≤ 60 ∧ SpP p), fun h => by have := of_decide_eq_true h; exact ⟨this.2.2, this.2.1⟩, fun W hW => ?_⟩
  generalize SpP p = SP at CK ⊢
  obtain ⟨A0, c0, ts, la, gl, A3, c3, code⟩ := p
  simp only at hmax CK FE ⊢
  show Calls _ _ #[.agg #[.slice A0 ts.length c0, .string la, .string gl, .slice A3 code.length c3]] _ _
  have HW := Aside0.mk hW
  have HN := Aside0.mk (Below.refl W.heap.size W)
  clear hW
  cases bf with
  | false =>
    rw [show decide (false = true ∧ code.length ≤ 60 ∧ SP) = false from decide_eq_false fun h => by cases h.1]
    go_enter Tryz.func10, Tryz.ntmps10
    go_wp2_with (go_at_call 21; (with_reducible refine (FE.out _ (below_step HW.out (below_alloc (Below.refl _ _) _))).mono ?_); rintro e w1 ⟨rfl, hb⟩; have HN := Aside0.mk (below_step (below_alloc (Below.refl _ _) _) hb); clear hb)
    go_ret
    exact ⟨rfl, HN.out⟩
  | true =>
    by_cases h60 : (code.length : Int) > 60
    · rw [show decide (true = true ∧ code.length ≤ 60 ∧ SP) = false from decide_eq_false fun h => by have := h.2.1; omega]
      go_enter Tryz.func10, Tryz.ntmps10
      go_wp2_with (go_at_call 21; (with_reducible refine (FE.out _ (below_step HW.out (below_alloc (Below.refl _ _) _))).mono ?_); rintro e w1 ⟨rfl, hb⟩; have HN := Aside0.mk (below_step (below_alloc (Below.refl _ _) _) hb); have HR := Aside0.mk ((hb.block W.heap.size (by simp)).trans (heap_alloc_new W _)); have y3 := (blk_cell HR.out 3).trans (rfl : _ = some (Value.slice A3 code.length c3)); clear hb)
      go_ret
      exact ⟨rfl, HN.out⟩
    · by_cases hsp : SP
      · rw [show decide (true = true ∧ code.length ≤ 60 ∧ SP) = true from decide_eq_true ⟨rfl, by omega, hsp⟩]
        go_enter Tryz.func10, Tryz.ntmps10
        go_wp2_with (first
          | (go_at_call 21; (with_reducible refine (FE.out _ (below_step HW.out (below_alloc (Below.refl _ _) _))).mono ?_); rintro e w1 ⟨rfl, hb⟩; have HN := Aside0.mk (below_step (below_alloc (Below.refl _ _) _) hb); have HR := Aside0.mk ((hb.block W.heap.size (by simp)).trans (heap_alloc_new W _)); have y0 := (blk_cell HR.out 0).trans (rfl : _ = some (Value.slice A0 ts.length c0)); have y1 := (blk_cell HR.out 1).trans (rfl : _ = some (Value.string la)); have y2 := (blk_cell HR.out 2).trans (rfl : _ = some (Value.string gl)); have y3 := (blk_cell HR.out 3).trans (rfl : _ = some (Value.slice A3 code.length c3)); clear hb)
          | (go_at_call 15; (with_reducible refine (CK.out _ (below_step HW.out HN.out)).mono ?_); rintro e w2 ⟨r, er, rfl, h1, h2, hb⟩; obtain rfl : er = 0 := h1.2 hsp; have HN := Aside0.mk (below_step HN.out hb); clear h1 h2 hb))
        go_ret
        exact ⟨rfl, HN.out⟩
      · rw [show decide (true = true ∧ code.length ≤ 60 ∧ SP) = false from decide_eq_false fun h => hsp h.2.2]
        go_enter Tryz.func10, Tryz.ntmps10
        go_wp2_with (first
          | (go_at_call 21; (with_reducible refine (FE.out _ (below_step HW.out (below_alloc (Below.refl _ _) _))).mono ?_); rintro e w1 ⟨rfl, hb⟩; have HN := Aside0.mk (below_step (below_alloc (Below.refl _ _) _) hb); have HR := Aside0.mk ((hb.block W.heap.size (by simp)).trans (heap_alloc_new W _)); have y0 := (blk_cell HR.out 0).trans (rfl : _ = some (Value.slice A0 ts.length c0)); have y1 := (blk_cell HR.out 1).trans (rfl : _ = some (Value.string la)); have y2 := (blk_cell HR.out 2).trans (rfl : _ = some (Value.string gl)); have y3 := (blk_cell HR.out 3).trans (rfl : _ = some (Value.slice A3 code.length c3)); clear hb)
          | (go_at_call 15; (with_reducible refine (CK.out _ (below_step HW.out HN.out)).mono ?_); rintro e w2 ⟨r, er, rfl, h1, h2, hb⟩; have hz : (er == 0) = false := beq_false_of_ne fun h => hsp (h1.1 h); have HN := Aside0.mk (below_step HN.out hb); clear h1 h2 hb))
        go_ret
        exact ⟨by simp [hz], HN.out⟩
end Go.Proofs.YtocechpmgfhenaaGreatDoor.PL

namespace Go.Proofs.YtocechpmgfhenaaGreatDoor.PF
open Go.RowKit Go.Proofs.YtocechpmgfhenaaGreatDoorW.PrintWords Go.Proofs.YtocechpmgfhenaaGreatDoor.F Go.Proofs.YtocechpmgfhenaaGreatDoor.KP Go.Proofs.YtocechpmgfhenaaGreatDoor.CR Go.Proofs.YtocechpmgfhenaaGreatDoor.PL Go.Proofs.YtocechpmgfhenaaGreatDoor.FP Go.Proofs.YtocechpmgfhenaaGreatDoor.FSF Go.Proofs.YtocechpmgfhenaaGreatDoor.PK Go.Proofs.YtocechpmgfhenaaGreatDoor.NX Go.Proofs.YtocechpmgfhenaaGreatDoor.FG Go.Proofs.YtocechpmgfhenaaGreatDoor.ZP Go.Proofs.YtocechpmgfhenaaGreatDoor.LK Go.Proofs.YtocechpmgfhenaaGreatDoor.RFL Go.Proofs.YtocechpmgfhenaaGreatDoor.FUL Go.Proofs.YtocechpmgfhenaaGreatDoor.B8 Go.Proofs.YtocechpmgfhenaaGreatDoor.ST0
set_option linter.unusedVariables false
set_option linter.unusedSimpArgs false
end Go.Proofs.YtocechpmgfhenaaGreatDoor.PF

namespace Go.Proofs.YtocechpmgfhenaaGreatDoor.PF
open Go.RowKit Go.Proofs.YtocechpmgfhenaaGreatDoorW.PrintWords Go.Proofs.YtocechpmgfhenaaGreatDoor.F Go.Proofs.YtocechpmgfhenaaGreatDoor.PL Go.Proofs.YtocechpmgfhenaaGreatDoor.FP Go.Proofs.YtocechpmgfhenaaGreatDoor.FSF Go.Proofs.YtocechpmgfhenaaGreatDoor.PK Go.Proofs.YtocechpmgfhenaaGreatDoor.ST0
set_option linter.unusedVariables false
set_option linter.unusedSimpArgs false
def RowG (w : World) (b n : Nat) (f : Nat → Fc) : Prop := ∃ cs : Array Value, w.heap[b]? = some (.cells cs 35 (0, 0)) ∧ n * 3 ≤ cs.size ∧ ∀ k, k < n → cs[k * 3]? = some (.bool (f k).st) ∧ cs[k * 3 + 1]? = some (.bool (f k).raw) ∧ cs[k * 3 + 2]? = some (.bool (f k).pl)
theorem RowF.g {w : World} {b n : Nat} {f : Nat → Fc} (h : RowF w b n f) : RowG w b n f := by
  obtain ⟨cs, h1, h2, h3⟩ := h
  exact ⟨cs, h1, by omega, h3⟩
theorem RowG.move {w w1 : World} {b n : Nat} {f : Nat → Fc} (h : RowG w b n f) (he : w1.heap[b]? = w.heap[b]?) : RowG w1 b n f := by
  obtain ⟨cs, hc, h2⟩ := h
  exact ⟨cs, he.trans hc, h2⟩
theorem RowG.lt {w : World} {b n : Nat} {f : Nat → Fc} (h : RowG w b n f) : b < w.heap.size := by
  obtain ⟨cs, hc, _⟩ := h
  exact blk_lt hc
theorem RowG.at {w : World} {b n : Nat} {f : Nat → Fc} (h : RowG w b n f) {k : Nat} (hk : k < n) : w.cell? ⟨b, k * 3, none⟩ = some (.bool (f k).st) ∧ w.cell? ⟨b, k * 3 + 1, none⟩ = some (.bool (f k).raw) ∧ w.cell? ⟨b, k * 3 + 2, none⟩ = some (.bool (f k).pl) := by
  obtain ⟨cs, hc, _, hy⟩ := h
  obtain ⟨y0, y1, y2⟩ := hy k hk
  exact ⟨(blk_cell hc _).trans y0, (blk_cell hc _).trans y1, (blk_cell hc _).trans y2⟩
theorem RowG.free {w : World} {b n : Nat} {f : Nat → Fc} (h : RowG w b n f) (k : Nat) : w.frozen? ⟨b, k, none⟩ = false := by
  obtain ⟨cs, hc, _⟩ := h
  exact blk_frozen hc _
theorem RowG.to {w : World} {b n : Nat} {f f' : Nat → Fc} (h : RowG w b n f) (he : ∀ j, j < n → f j = f' j) : RowG w b n f' := by
  obtain ⟨cs, hc, hs, hy⟩ := h
  exact ⟨cs, hc, hs, fun k hk => he k hk ▸ hy k hk⟩
theorem RowG.fc {w : World} {b n : Nat} {f : Nat → Fc} (h : RowG w b n f) : FC w (some ⟨b, 0, none⟩) n f := fun k hk => ⟨_, rfl, fun W hW => by
  obtain ⟨cs, hc, _, hy⟩ := h.move (hW.block b h.lt)
  obtain ⟨y0, y1, y2⟩ := hy k hk
  rw [Addr.add_mid, Nat.zero_add]
  exact ⟨(blk_cell hc _).trans y0, (blk_cell hc _).trans y1, (blk_cell hc _).trans y2⟩⟩
def Fc.get (x : Fc) (j : Nat) : Bool := if j = 0 then x.st else if j = 1 then x.raw else x.pl
def Fc.put (x : Fc) (j : Nat) (v : Bool) : Fc := if j = 0 then { x with st := v } else if j = 1 then { x with raw := v } else { x with pl := v }
def putF (f : Nat → Fc) (k j : Nat) (v : Bool) (i : Nat) : Fc := if i = k then (f k).put j v else f i
theorem RowG.put {w : World} {b n : Nat} {f : Nat → Fc} (h : RowG w b n f) {k j : Nat} (hk : k < n) (hj : j < 3) (v : Bool) : RowG (w.setCell ⟨b, k * 3 + j, none⟩ (.bool v)) b n (putF f k j v) := by
  obtain ⟨cs, hc, hs, hy⟩ := h
  refine ⟨_, ST0.row_cellS _ hc, by simpa using hs, fun i hi => ?_⟩
  obtain ⟨y0, y1, y2⟩ := hy i hi
  unfold PF.putF
  by_cases e : i = k
  · subst e
    rw [if_pos rfl]
    unfold Fc.put
    obtain rfl | rfl | rfl : j = 0 ∨ j = 1 ∨ j = 2 := by omega
    · rw [if_pos rfl]
      exact ⟨by rw [Nat.add_zero, Array.getElem?_setIfInBounds_self_of_lt (by omega)], by rw [Array.getElem?_setIfInBounds_ne (by omega)]; exact y1, by rw [Array.getElem?_setIfInBounds_ne (by omega)]; exact y2⟩
    · rw [if_neg (by decide), if_pos rfl]
      exact ⟨by rw [Array.getElem?_setIfInBounds_ne (by omega)]; exact y0, by rw [Array.getElem?_setIfInBounds_self_of_lt (by omega)], by rw [Array.getElem?_setIfInBounds_ne (by omega)]; exact y2⟩
    · rw [if_neg (by decide), if_neg (by decide)]
      exact ⟨by rw [Array.getElem?_setIfInBounds_ne (by omega)]; exact y0, by rw [Array.getElem?_setIfInBounds_ne (by omega)]; exact y1, by rw [Array.getElem?_setIfInBounds_self_of_lt (by omega)]⟩
  · rw [if_neg e]
    exact ⟨by rw [Array.getElem?_setIfInBounds_ne (by omega)]; exact y0, by rw [Array.getElem?_setIfInBounds_ne (by omega)]; exact y1, by rw [Array.getElem?_setIfInBounds_ne (by omega)]; exact y2⟩
def kF : Kd Fc := Kd.iso (Kd.pair Kd.bool (Kd.pair Kd.bool Kd.bool)) (fun x : Fc => (x.st, x.raw, x.pl))
theorem kF_open {w : World} {x : Fc} {cs : List Value} (h : kF.K w x cs) : cs = [.bool x.st, .bool x.raw, .bool x.pl] := by
  obtain ⟨_, _, rfl, rfl, ⟨_, _, rfl, rfl, rfl⟩⟩ := h
  exact rfl
def gF (l : List Fc) (k : Nat) : Fc := l.getD k ⟨false, false, false⟩
theorem C_FC {w : World} {A : Option Addr} {n : Nat} {l : List Fc} (h : Kd.C kF w A n l) : FC w A n (gF l) := fun k hk => by
  obtain ⟨ad, c, e, _, hK, _⟩ := Kd.C_get h ⟨false, false, false⟩ k (by omega) (by omega)
  refine ⟨ad, e, fun W hW => ?_⟩
  obtain ⟨ad', c', e', _, hK', hc⟩ := Kd.C_get (Kd.C_below h hW) ⟨false, false, false⟩ k (by omega) (by omega)
  obtain rfl := Option.some.inj (e.symm.trans e')
  obtain rfl := kF_open hK'
  rw [Int.toNat_natCast] at hc
  have hf : ∀ j, (⟨(ad.add (k * 3)).block, (ad.add (k * 3)).off + j, none⟩ : Addr) = ad.add (k * 3 + j) ∨ True := fun _ => .inr trivial
  exact ⟨hc 0 _ rfl, by rw [← add_field _ _ 1 (by omega)]; exact hc 1 _ rfl, by rw [← add_field _ _ 2 (by omega)]; exact hc 2 _ rfl⟩
theorem app_row {ops : Array Oper} {rest : List Oper} {o : Oper} {a : Act} {Q : Exit → Act → World → Prop} {W : World} {g n c : Nat} {f : Nat → Fc} (h : RowG W g n f) (hn : 0 < n) (hs : n ≤ 1000000) (hgd : o.guard = none) (s x : Operand)
    (ho : o.op = .call { callee := .builtin .append, args := #[s, x], argTypes := #[29, 29] }) (hes : a.eval s = .slice none 0 0) (hex : a.eval x = .slice (some ⟨g, 0, none⟩) n c)
    (k : ∀ g' c' W', W.heap.size ≤ g' → n ≤ c' → RowG W' g' n f → Below W.heap.size W W' → wpList Tryz.prog ops Q rest (a.put o.dst (.slice (some ⟨g', 0, none⟩) n c')) W') : wpList Tryz.prog ops Q (o :: rest) a W := by
  obtain ⟨i0, hi, hzz⟩ := Option.map_eq_some_iff.1 info_fact
  simp only [Prod.mk.injEq] at hzz
  obtain ⟨cs, hc, hsz, hy⟩ := h
  have hl : (cs.toList.take (n * 3)).length = n * 3 := by simp; omega
  have hcell : ∀ i, i < n * 3 → ∃ b : Bool, cs[i]? = some (.bool b) := fun i hi' => by
    obtain ⟨y0, y1, y2⟩ := hy (i / 3) (by omega)
    have : i = i / 3 * 3 ∨ i = i / 3 * 3 + 1 ∨ i = i / 3 * 3 + 2 := by omega
    rcases this with e | e | e <;> rw [e]
    · exact ⟨_, y0⟩
    · exact ⟨_, y1⟩
    · exact ⟨_, y2⟩
  refine wpList_append_own W hgd s x 29 ho W.heap.size 35 i0 (.agg #[.bool false, .bool false, .bool false]) 3 3 Tryz.underlying29 hi hzz.1 hzz.2.1 hzz.2.2 rfl (by decide) (.slice none 0 0) 0 [] hes (World.ownsRow_nil _ _ _ _) ⟨g, 0, none⟩ n c (cs.toList.take (n * 3)) hex hl (fun j u hu => ?_) (fun u hu => ?_) (by simp [maxLen]; omega) (by omega) (Nat.le_refl _) fun v' w' hown hg hnil => ?_
  · rw [List.getElem?_take] at hu
    split at hu
    · rw [Addr.add_mid, Nat.zero_add]
      exact (blk_cell hc j).trans (by simpa using hu)
    · cases hu
  · obtain ⟨i, hi', e⟩ := List.getElem_of_mem hu
    obtain ⟨b, hb⟩ := hcell i (by omega)
    have : u = .bool b := by
      rw [← e, List.getElem_take]
      have h1 : i < cs.size := by omega
      rw [Array.getElem?_eq_getElem h1] at hb
      simpa using hb
    rw [this]
    rfl
  · rcases hown.2 with ⟨rfl, h0⟩ | ⟨g', cap, cur, rfl, hg1, hg2, hg3, hg4, hg5, hg6⟩
    · omega
    · rw [Nat.zero_add] at hg3 hg6 ⊢
      rw [List.nil_append] at hg6
      refine k g' cap w' hg1 hg3 ⟨cur, hg2, by rw [hg5]; exact Nat.mul_le_mul_right _ hg3, fun j hj => ?_⟩ ⟨hg.os, hg.tape, hg.output, hg.size, fun k hk => hg.block k hk (by simp [Value.ownBlock])⟩
      obtain ⟨y0, y1, y2⟩ := hy j hj
      have hcc : ∀ i, i < n * 3 → cur[i]? = cs[i]? := fun i hi' => by
        have := congrArg (fun l => l[i]?) hg6
        simpa [List.getElem?_take, hi'] using this
      rw [hcc _ (by omega), hcc _ (by omega), hcc _ (by omega)]
      exact ⟨y0, y1, y2⟩
end Go.Proofs.YtocechpmgfhenaaGreatDoor.PF

namespace Go.Proofs.YtocechpmgfhenaaGreatDoor.PF
open Go.RowKit Go.Proofs.YtocechpmgfhenaaGreatDoorW.PrintWords Go.Proofs.YtocechpmgfhenaaGreatDoor.F Go.Proofs.YtocechpmgfhenaaGreatDoor.KP Go.Proofs.YtocechpmgfhenaaGreatDoor.CR Go.Proofs.YtocechpmgfhenaaGreatDoor.PL Go.Proofs.YtocechpmgfhenaaGreatDoor.FP Go.Proofs.YtocechpmgfhenaaGreatDoor.FSF Go.Proofs.YtocechpmgfhenaaGreatDoor.PK Go.Proofs.YtocechpmgfhenaaGreatDoor.ST0
set_option linter.unusedVariables false
set_option linter.unusedSimpArgs false
def parF (b k : Nat → Fc) (m i j : Nat) : Fc := if j < m ∧ j < i then ⟨(b j).st && (k j).st, (b j).raw && (k j).raw, (b j).pl && (k j).pl⟩ else b j
theorem parF_le (b k : Nat → Fc) (m i j : Nat) : wth (parF b k m i j) (b j) = true := by
  unfold parF wth
  split
  · cases (b j).st <;> cases (b j).raw <;> cases (b j).pl <;> simp
  · cases (b j).st <;> cases (b j).raw <;> cases (b j).pl <;> rfl
theorem more_le (b k : Nat → Fc) (m i n q j : Nat) (hq : q < n) (hj : j < 3) : (b q).get j = true ↔ ∀ z, z < n → wth (putF (parF b k m i) q j true z) (b z) = true := by
  have hp := parF_le b k m i
  constructor
  · intro h z hz
    unfold putF
    split
    · rename_i e
      subst e
      have := hp z
      unfold wth at this ⊢
      unfold Fc.get at h
      unfold Fc.put
      obtain rfl | rfl | rfl : j = 0 ∨ j = 1 ∨ j = 2 := by omega
      · simp at h ⊢
        simp at this
        simp [h, this]
      · simp at h ⊢
        simp at this
        simp [h, this]
      · simp at h ⊢
        simp at this
        simp [h, this]
    · exact hp z
  · intro h
    have := h q hq
    unfold putF at this
    rw [if_pos rfl] at this
    unfold wth Fc.put at this
    unfold Fc.get
    obtain rfl | rfl | rfl : j = 0 ∨ j = 1 ∨ j = 2 := by omega
    · simp at this ⊢
      exact this.1.1
    · simp at this ⊢
      exact this.1.2
    · simp at this ⊢
      exact this.2
theorem parF_out (b f : Nat → Fc) {m k : Nat} (h : ¬ k < m) (j : Nat) : parF b f m k j = parF b f m (k + 1) j := by
  unfold parF
  by_cases h1 : j < m ∧ j < k
  · rw [if_pos h1, if_pos ⟨h1.1, by omega⟩]
  · rw [if_neg h1, if_neg (by omega)]
theorem parF_in (b f : Nat → Fc) {m k : Nat} (h : k < m) (j : Nat) : putF (putF (putF (parF b f m k) k 0 ((b k).st && (f k).st)) k 1 ((b k).raw && (f k).raw)) k 2 ((b k).pl && (f k).pl) j = parF b f m (k + 1) j := by
  unfold putF
  by_cases e : j = k
  · subst e
    simp only [if_pos]
    unfold parF
    rw [if_neg (by omega), if_pos ⟨h, by omega⟩]
    rfl
  · simp only [if_neg e]
    unfold parF
    by_cases h1 : j < m ∧ j < k
    · rw [if_pos h1, if_pos ⟨h1.1, by omega⟩]
    · rw [if_neg h1, if_neg (by omega)]
structure FW (w W : World) (pv : Array Value) (gb gp n : Nat) (bf pf : Nat → Fc) : Prop where
  box : W.heap[w.heap.size]? = some (.cells pv 25 (0, 0))
  best : RowG W gb n bf
  part : RowG W gp n pf
  below : Below w.heap.size w W
  h1 : w.heap.size < gb
  h2 : gb < gp
theorem FW.keep {w W W' : World} {pv : Array Value} {gb gp n : Nat} {bf pf : Nat → Fc} (h : FW w W pv gb gp n bf pf) (hb : Below W.heap.size W W') : FW w W' pv gb gp n bf pf :=
  ⟨(hb.block _ (blk_lt h.box)).trans h.box, h.best.move (hb.block _ h.best.lt), h.part.move (hb.block _ h.part.lt), below_step h.below hb, h.h1, h.h2⟩
theorem FW.put {w W : World} {pv : Array Value} {gb gp n : Nat} {bf pf : Nat → Fc} (h : FW w W pv gb gp n bf pf) {k j : Nat} (hk : k < n) (hj : j < 3) (v : Bool) : FW w (W.setCell ⟨gp, k * 3 + j, none⟩ (.bool v)) pv gb gp n bf (putF pf k j v) :=
  have h1 := h.h1
  have h2 := h.h2
  ⟨(Below.heap_setCell W _ _ _ (by simp; omega)).trans h.box, h.best.move (Below.heap_setCell W _ _ _ (by simp; omega)), h.part.put hk hj v, h.below.setCell (by simp; omega) _, h1, h2⟩
theorem FW.to {w W : World} {pv : Array Value} {gb gp n : Nat} {bf pf pf' : Nat → Fc} (h : FW w W pv gb gp n bf pf) (he : ∀ j, j < n → pf j = pf' j) : FW w W pv gb gp n bf pf' := ⟨h.box, h.best, h.part.to he, h.below, h.h1, h.h2⟩
set_option maxHeartbeats 16000000 in
set_option maxRecDepth 100000 in
theorem PlanFits_walk (w : World) (p : Pg) (hp : p.On w) (hin : p.In w) (A2 : Option Addr) (c2 : Nat) (l : List Fc) (hC2 : Kd.C kF w A2 l.length l) (hc2 : l.length ≤ c2) (at_ : Int) (hm0 : 0 ≤ at_) (hm1 : at_ ≤ 255) : Calls Tryz.prog 3 #[p.v, .slice A2 l.length c2, .int .u8 at_] w fun e w' => e = .returned (.bool true) ∧ Below w.heap.size w w' := by
  obtain ⟨at_, rfl⟩ := Int.eq_ofNat_of_zero_le hm0
  obtain ⟨b, hb, hS⟩ := Sound_c p w hin
  have SO := Aside0.mk hS
  have AL := Aside0.mk (fun W (hW : Below w.heap.size w W) => alive_c W (OT_below hp.ot hW))
  have FK := Aside0.mk (C_FC hC2)
  have hml := Kd.C_max hC2
  generalize gF l = kf at FK
  generalize l.length = m at FK hml hc2 ⊢
  clear hC2
  cases b with
  | false =>
    clear hp hin hb hS
    obtain ⟨A0, c0, ts, la, gl, A3, c3, code⟩ := p
    try simp only at SO
    show Calls _ _ #[.agg #[.slice A0 ts.length c0, .string la, .string gl, .slice A3 code.length c3], _, _] _ _
    go_enter Tryz.func3, Tryz.ntmps3
    go_wp2_with (first
      | (go_at_call 9; (with_reducible refine (AL.out _ (below_alloc (Below.refl _ _) _)).mono ?_); rintro e w1 ⟨rfl, hb⟩; have HB := Aside0.mk (below_step (below_alloc (Below.refl _ _) _) hb); have HR := Aside0.mk ((hb.block w.heap.size (by simp)).trans (heap_alloc_new w _)); have y0 := (blk_cell HR.out 0).trans (rfl : _ = some (Value.slice A0 ts.length c0)); have y1 := (blk_cell HR.out 1).trans (rfl : _ = some (Value.string la)); have y2 := (blk_cell HR.out 2).trans (rfl : _ = some (Value.string gl)); have y3 := (blk_cell HR.out 3).trans (rfl : _ = some (Value.slice A3 code.length c3)); clear hb)
      | (go_at_call 10; (with_reducible refine (SO.out _ HB.out).mono ?_); rintro e w2 ⟨rfl, hb⟩; have HB := Aside0.mk (below_step HB.out hb); clear hb))
    go_ret
    exact ⟨rfl, HB.out⟩
  | true =>
    obtain ⟨hsp, h60⟩ := hb rfl
    have hn1 := hsp.len.1
    have BE := Aside0.mk (show ∀ W, Below w.heap.size w W → Calls Tryz.prog 11 #[p.v] W fun e w' => ∃ g, e = .returned (.tuple #[.slice (some ⟨g, 0, none⟩) p.code.length p.code.length, .int .i64 0]) ∧ Below W.heap.size W w' ∧ RowF w' g p.code.length (bestF p) ∧ W.heap.size ≤ g from fun W hW => (Best_c p W (hp.below hW) (by have := hsp.locals; omega) (by omega)).mono fun e w' ⟨er, v, h1, h2, h3, h4, _⟩ => by
      obtain rfl := h2.2 hsp
      obtain ⟨g, rfl, hg, h5⟩ := h4 rfl
      exact ⟨g, h1, h3, h5, hg⟩)
    have FI := Aside0.mk (show ∀ W, Below w.heap.size w W → ∀ (A : Option Addr) (c : Nat) (f : Nat → Fc) (bb : Bool), FC W A p.code.length f → (bb = true ↔ ∀ k, k < p.code.length → wth (f k) (bestF p k) = true) → Calls Tryz.prog 12 #[p.v, .slice A p.code.length c] W fun e w' => e = .returned (.bool bb) ∧ Below W.heap.size W w' from fun W hW A c f bb hF hbb => Fits_c p W (hp.below hW) (by have := hsp.locals; omega) (by omega) A _ c f hF (by omega) bb ⟨fun h => ⟨hsp, rfl, hbb.1 h⟩, fun h => hbb.2 h.2.2⟩)
    clear hp hin hb hS hsp
    generalize bestF p = bf at BE FI
    obtain ⟨A0, c0, ts, la, gl, A3, c3, code⟩ := p
    try simp only at SO BE FI h60 hn1
    obtain ⟨n, hn⟩ : ∃ n, n = code.length := ⟨_, rfl⟩
    show Calls _ _ #[.agg #[.slice A0 ts.length c0, .string la, .string gl, .slice A3 code.length c3], _, _] _ _
    go_enter Tryz.func3, Tryz.ntmps3
    go_upto_region 10 with (first
      | (go_at_call 9; (with_reducible refine (AL.out _ (below_alloc (Below.refl _ _) _)).mono ?_); rintro e w1 ⟨rfl, hb⟩; have HB := Aside0.mk (below_step (below_alloc (Below.refl _ _) _) hb); have HR := Aside0.mk ((hb.block w.heap.size (by simp)).trans (heap_alloc_new w _)); have y0 := (blk_cell HR.out 0).trans (rfl : _ = some (Value.slice A0 ts.length c0)); have y1 := (blk_cell HR.out 1).trans (rfl : _ = some (Value.string la)); have y2 := (blk_cell HR.out 2).trans (rfl : _ = some (Value.string gl)); have y3 := (blk_cell HR.out 3).trans (rfl : _ = some (Value.slice A3 code.length c3)); clear hb)
      | (go_at_call 10; (with_reducible refine (SO.out _ HB.out).mono ?_); rintro e w2 ⟨rfl, hb⟩; have HB := Aside0.mk (below_step HB.out hb); have HR := Aside0.mk ((hb.block _ (blk_lt HR.out)).trans HR.out); have y0 := (blk_cell HR.out 0).trans (rfl : _ = some (Value.slice A0 ts.length c0)); have y1 := (blk_cell HR.out 1).trans (rfl : _ = some (Value.string la)); have y2 := (blk_cell HR.out 2).trans (rfl : _ = some (Value.string gl)); have y3 := (blk_cell HR.out 3).trans (rfl : _ = some (Value.slice A3 code.length c3)); clear hb)
      | (go_at_call 11; (with_reducible refine (BE.out _ HB.out).mono ?_); rintro e w3 ⟨g, rfl, hb, hrow, hg⟩; have HL := Aside0.mk hrow; have HG := Aside0.mk (show w.heap.size < g from Nat.lt_of_lt_of_le (blk_lt HR.out) hg); have HB := Aside0.mk (below_step HB.out hb); have HR := Aside0.mk ((hb.block _ (blk_lt HR.out)).trans HR.out); have y0 := (blk_cell HR.out 0).trans (rfl : _ = some (Value.slice A0 ts.length c0)); have y1 := (blk_cell HR.out 1).trans (rfl : _ = some (Value.string la)); have y2 := (blk_cell HR.out 2).trans (rfl : _ = some (Value.string gl)); have y3 := (blk_cell HR.out 3).trans (rfl : _ = some (Value.slice A3 code.length c3)); clear hb hrow hg)
      | (go_at_call 12; (with_reducible refine (FI.out _ HB.out _ _ _ true HL.out.fc ⟨fun _ k hk => ?fc1, fun _ => rfl⟩).mono ?_); (case fc1 => unfold wth; cases (bf k).st <;> cases (bf k).raw <;> cases (bf k).pl <;> rfl); rintro e w4 ⟨rfl, hb⟩; have HL := Aside0.mk (HL.out.move (hb.block _ HL.out.lt)); have HB := Aside0.mk (below_step HB.out hb); have HR := Aside0.mk ((hb.block _ (blk_lt HR.out)).trans HR.out); have y0 := (blk_cell HR.out 0).trans (rfl : _ = some (Value.slice A0 ts.length c0)); have y1 := (blk_cell HR.out 1).trans (rfl : _ = some (Value.string la)); have y2 := (blk_cell HR.out 2).trans (rfl : _ = some (Value.string gl)); have y3 := (blk_cell HR.out 3).trans (rfl : _ = some (Value.slice A3 code.length c3)); clear hb)
      | (at_builtin; (refine app_row HL.out.g (by omega) (by omega) rfl (.const (.slice none 0 0)) _ rfl rfl rfl ?_); intro gp cp w5 hgp hcp hrow hb; have HF := Aside0.mk (show FW w w5 #[.slice A0 ts.length c0, .string la, .string gl, .slice A3 code.length c3] g gp code.length bf (parF bf kf m 0) from ⟨(hb.block _ (blk_lt HR.out)).trans HR.out, (HL.out.move (hb.block _ HL.out.lt)).g, hrow.to fun j hj => (if_neg (by omega)).symm, below_step HB.out hb, HG.out, Nat.lt_of_lt_of_le HL.out.lt hgp⟩); clear hgp hrow hb))
    have HKP := Aside0.mk (fun W (hW : Below w.heap.size w W) k (hk : k < m) => (show ∃ ad, A2 = some ad ∧ W.cell? (ad.add (k * 3)) = some (.bool (kf k).st) ∧ W.cell? ⟨(ad.add (k * 3)).block, (ad.add (k * 3)).off + 1, none⟩ = some (.bool (kf k).raw) ∧ W.cell? ⟨(ad.add (k * 3)).block, (ad.add (k * 3)).off + 2, none⟩ = some (.bool (kf k).pl) by
      obtain ⟨ad, e, hy⟩ := FK.out k hk
      exact ⟨ad, e, hy W hW⟩))
    clear y0 y1 y2 y3 HR HB
    clear HL HG
    go_loopw [45] (fun x W => ∃ k : Nat, x = .int .i64 k ∧ k ≤ code.length ∧ Aside0 (FW w W #[.slice A0 ts.length c0, .string la, .string gl, .slice A3 code.length c3] g gp code.length bf (parF bf kf m k))) (fun x _ => code.length - (intOf x).toNat)
    case atStart => exact ⟨0, rfl, Nat.zero_le _, HF⟩
    case round =>
      clear HF
      obtain ⟨k, rfl, hk, HF⟩ := hrel
      by_cases hlt : (k : Int) < code.length
      · have k0 : (0 : Int) ≤ k := by omega
        have hkn : k < code.length := by omega
        by_cases hkm : k < m
        · have hkm' : (k : Int) < m := by omega
          have HF0 := HF
          have pe : parF bf kf m k k = bf k := if_neg (by omega)
          obtain ⟨b0, hb0⟩ : ∃ b0, b0 = (bf k).st := ⟨_, rfl⟩
          obtain ⟨b1, hb1⟩ : ∃ b1, b1 = (bf k).raw := ⟨_, rfl⟩
          obtain ⟨b2, hb2⟩ : ∃ b2, b2 = (bf k).pl := ⟨_, rfl⟩
          have PIN := Aside0.mk (parF_in bf kf hkm)
          rw [← hb0, ← hb1, ← hb2] at PIN
          have PE := Aside0.mk (show (parF bf kf m k k).st = b0 ∧ (parF bf kf m k k).raw = b1 ∧ (parF bf kf m k k).pl = b2 by rw [pe]; exact ⟨hb0.symm, hb1.symm, hb2.symm⟩)
          obtain ⟨ad, rfl, -⟩ := HKP.out wr HF.out.below k hkm
          have HX := Aside0.mk (fun W (hW : Below w.heap.size w W) => (show W.cell? (ad.add (k * 3)) = some (.bool (kf k).st) ∧ W.cell? ⟨(ad.add (k * 3)).block, (ad.add (k * 3)).off + 1, none⟩ = some (.bool (kf k).raw) ∧ W.cell? ⟨(ad.add (k * 3)).block, (ad.add (k * 3)).off + 2, none⟩ = some (.bool (kf k).pl) by
            obtain ⟨ad', e, h⟩ := HKP.out W hW k hkm
            obtain rfl := Option.some.inj e
            exact h))
          obtain ⟨kk, hkk⟩ : ∃ kk, kk = kf k := ⟨_, rfl⟩
          rw [← hkk] at HX PIN
          clear hkk
          obtain ⟨v0, v1, v2⟩ := kk
          clear hb0 hb1 hb2 pe
          obtain ⟨e0, he0⟩ : ∃ e, e = (b0 && v0) := ⟨_, rfl⟩
          obtain ⟨e1, he1⟩ : ∃ e, e = (b1 && v1) := ⟨_, rfl⟩
          obtain ⟨e2, he2⟩ : ∃ e, e = (b2 && v2) := ⟨_, rfl⟩
          simp only at PIN
          rw [← he0, ← he1, ← he2] at PIN
          have HE0 := Aside0.mk he0
          have HE1 := Aside0.mk he1
          have HE2 := Aside0.mk he2
          clear he0 he1 he2
          obtain ⟨x0, x1, x2⟩ := HX.out wr HF0.out.below
          obtain ⟨z0, z1, z2⟩ := HF0.out.part.at hkn
          have f0 := HF0.out.part.free (k * 3)
          simp only at x0 x1 x2
          rw [PE.out.1] at z0
          clear x1 z1 x2 z2
          cases b0
          all_goals go_upto_region 14 with (fail)
          all_goals first | (obtain ⟨W1, hW1⟩ : ∃ x, x = wr.setCell ⟨gp, k * 3, none⟩ (.bool v0) := ⟨_, rfl⟩; rw [← hW1]) | (obtain ⟨W1, hW1⟩ : ∃ x, x = wr.setCell ⟨gp, k * 3, none⟩ (.bool false) := ⟨_, rfl⟩; rw [← hW1])
          all_goals have HF1 : Aside0 (FW w W1 #[.slice A0 ts.length c0, .string la, .string gl, .slice A3 code.length c3] g gp code.length bf (putF (parF bf kf m k) k 0 e0)) := ⟨(by rw [hW1, HE0.out]; exact HF0.out.put (j := 0) hkn (by decide) _)⟩
          all_goals clear hW1 f0 x0 z0
          all_goals obtain ⟨x0, x1, x2⟩ := HX.out W1 HF1.out.below
          all_goals obtain ⟨z0, z1, z2⟩ := HF1.out.part.at hkn
          all_goals have f0 := HF1.out.part.free (k * 3 + 1)
          all_goals simp only at x0 x1 x2
          all_goals rw [show (putF (parF bf kf m k) k 0 e0 k).raw = b1 from (by unfold putF Fc.put; rw [if_pos rfl]; exact PE.out.2.1)] at z1
          all_goals clear x0 z0 x2 z2
          all_goals cases b1
          all_goals go_upto_region 15 with (fail)
          all_goals first | (obtain ⟨W2, hW2⟩ : ∃ x, x = W1.setCell ⟨gp, k * 3 + 1, none⟩ (.bool v1) := ⟨_, rfl⟩; rw [← hW2]) | (obtain ⟨W2, hW2⟩ : ∃ x, x = W1.setCell ⟨gp, k * 3 + 1, none⟩ (.bool false) := ⟨_, rfl⟩; rw [← hW2])
          all_goals have HF2 : Aside0 (FW w W2 #[.slice A0 ts.length c0, .string la, .string gl, .slice A3 code.length c3] g gp code.length bf (putF (putF (parF bf kf m k) k 0 e0) k 1 e1)) := ⟨(by rw [hW2, HE1.out]; exact HF1.out.put (j := 1) hkn (by decide) _)⟩
          all_goals clear hW2 f0 x1 z1
          all_goals obtain ⟨x0, x1, x2⟩ := HX.out W2 HF2.out.below
          all_goals obtain ⟨z0, z1, z2⟩ := HF2.out.part.at hkn
          all_goals have f0 := HF2.out.part.free (k * 3 + 2)
          all_goals simp only at x0 x1 x2
          all_goals rw [show (putF (putF (parF bf kf m k) k 0 e0) k 1 e1 k).pl = b2 from (by unfold putF Fc.put; rw [if_pos rfl, if_pos rfl]; exact PE.out.2.2)] at z2
          all_goals clear x0 z0 x1 z1
          all_goals cases b2
          all_goals go_wp2
          all_goals exact ⟨⟨k + 1, by go_num, by omega, ⟨(show FW w _ _ g gp code.length bf (putF (putF (putF (parF bf kf m k) k 0 e0) k 1 e1) k 2 e2) by rw [HE2.out]; exact HF2.out.put (j := 2) hkn (by decide) _).to fun j _ => PIN.out j⟩⟩, by simp [intOf]; omega⟩
        · have hkm' : ¬ (k : Int) < m := by omega
          go_wp2
          exact ⟨⟨k + 1, by go_num, by omega, ⟨HF.out.to fun j _ => parF_out bf kf hkm j⟩⟩, by simp [intOf]; omega⟩
      · obtain rfl : k = code.length := by omega
        obtain ⟨q, hq, hqn⟩ : ∃ q : Nat, (at_ : Int).tmod (code.length : Int) = q ∧ q < code.length := ⟨at_ % code.length, rfl, Nat.mod_lt _ (by omega)⟩
        have HWT := Aside0.mk (fun z (_ : z < code.length) => parF_le bf kf m code.length z)
        have HMR := Aside0.mk (fun j (hj : j < 3) => more_le bf kf m code.length code.length q j hqn hj)
        generalize parF bf kf m code.length = pf at HF HWT HMR
        have nz : (code.length : Int) ≠ 0 := by omega
        have y0 := (blk_cell HF.out.box 0).trans (rfl : _ = some (Value.slice A0 ts.length c0)); have y1 := (blk_cell HF.out.box 1).trans (rfl : _ = some (Value.string la)); have y2 := (blk_cell HF.out.box 2).trans (rfl : _ = some (Value.string gl)); have y3 := (blk_cell HF.out.box 3).trans (rfl : _ = some (Value.slice A3 code.length c3))
        go_upto_region 21 with (go_at_call 12; (with_reducible refine (FI.out _ HF.out.below _ _ _ true HF.out.part.fc ⟨fun _ => HWT.out, fun _ => rfl⟩).mono ?_); rintro e w4 ⟨rfl, hb⟩; have HF := Aside0.mk (HF.out.keep hb); clear hb)
        clear y0 y1 y2 y3 hq
        go_loopw [110] (fun x W => ∃ j : Nat, x = .int .i64 j ∧ j ≤ 3 ∧ Aside0 (FW w W #[.slice A0 ts.length c0, .string la, .string gl, .slice A3 code.length c3] g gp code.length bf pf)) (fun x _ => 3 - (intOf x).toNat)
        case atStart => exact ⟨0, rfl, Nat.zero_le _, HF⟩
        case round =>
          clear HF
          obtain ⟨j, rfl, hj, HF⟩ := hrel
          have y0 := (blk_cell HF.out.box 0).trans (rfl : _ = some (Value.slice A0 ts.length c0)); have y1 := (blk_cell HF.out.box 1).trans (rfl : _ = some (Value.string la)); have y2 := (blk_cell HF.out.box 2).trans (rfl : _ = some (Value.string gl)); have y3 := (blk_cell HF.out.box 3).trans (rfl : _ = some (Value.slice A3 code.length c3))
          obtain ⟨z0, z1, z2⟩ := HF.out.best.at hqn
          have q0 : (0 : Int) ≤ q := Int.natCast_nonneg q
          have q1 : (q : Int) < code.length := by omega
          have HM0 := HMR.out 0 (by decide)
          have HM1 := HMR.out 1 (by decide)
          have HM2 := HMR.out 2 (by decide)
          change (bf q).st = true ↔ _ at HM0
          change (bf q).raw = true ↔ _ at HM1
          change (bf q).pl = true ↔ _ at HM2
          have HM0 := Aside0.mk HM0
          have HM1 := Aside0.mk HM1
          have HM2 := Aside0.mk HM2
          have HZ := Aside0.mk (HF.out.best.at hqn)
          obtain ⟨b0, hb0⟩ : ∃ b, b = (bf q).st := ⟨_, rfl⟩
          obtain ⟨b1, hb1⟩ : ∃ b, b = (bf q).raw := ⟨_, rfl⟩
          obtain ⟨b2, hb2⟩ : ∃ b, b = (bf q).pl := ⟨_, rfl⟩
          rw [← hb0] at HM0 z0
          rw [← hb1] at HM1 z1
          rw [← hb2] at HM2 z2
          have HBQ := Aside0.mk (And.intro hb0.symm (And.intro hb1.symm hb2.symm))
          clear HZ
          have x0 : (b0 != b0) = false := by cases b0 <;> rfl
          have x1 : (b1 != b1) = false := by cases b1 <;> rfl
          have x2 : (b2 != b2) = false := by cases b2 <;> rfl
          clear hb0 hb1 hb2
          obtain rfl | rfl | rfl | rfl : j = 0 ∨ j = 1 ∨ j = 2 ∨ j = 3 := by omega
          · go_upto_region 24 with (at_builtin; (refine app_row HF.out.part (by omega) (by omega) rfl (.const (.slice none 0 0)) _ rfl rfl rfl ?_); intro gm cm w5 hgm hcm hrow hb; have HF5 := Aside0.mk (HF.out.keep hb); have HM := Aside0.mk hrow; have HG := Aside0.mk (show w.heap.size < gm ∧ g < gm ∧ gp < gm from ⟨Nat.lt_of_lt_of_le (blk_lt HF.out.box) hgm, Nat.lt_of_lt_of_le HF.out.best.lt hgm, Nat.lt_of_lt_of_le HF.out.part.lt hgm⟩); clear hrow hgm)
            clear hb z0 z1 z2 y0 y1 y2 y3
            obtain ⟨z0, z1, z2⟩ := HF5.out.best.at hqn
            obtain ⟨u0, u1, u2⟩ := HM.out.at hqn
            rw [HBQ.out.1] at z0
            have hgne : gm ≠ g := Nat.ne_of_gt HG.out.2.1
            have f0 := HM.out.free (q * 3)
            clear z1 u1 z2 u2
            go_upto_region 31 with (fail)
            obtain ⟨W6, hW6⟩ : ∃ x, x = w5.setCell ⟨gm, q * 3, none⟩ (.bool true) := ⟨_, rfl⟩
            have hb6 : ∀ b, b ≠ gm → W6.heap[b]? = w5.heap[b]? := fun b hb => by rw [hW6]; exact Below.heap_setCell w5 _ _ _ (by simpa using hb)
            have HF6 := Aside0.mk (show FW w W6 #[.slice A0 ts.length c0, .string la, .string gl, .slice A3 code.length c3] g gp code.length bf pf from ⟨(hb6 _ (by have := HG.out.1; omega)).trans HF5.out.box, HF5.out.best.move (hb6 _ (by have := HG.out.2.1; omega)), HF5.out.part.move (hb6 _ (by have := HG.out.2.2; omega)), by rw [hW6]; exact HF5.out.below.setCell (by have := HG.out.1; simp; omega) _, HF5.out.h1, HF5.out.h2⟩)
            have HM6 := Aside0.mk (show RowG W6 gm code.length (putF pf q 0 true) by rw [hW6]; exact HM.out.put (j := 0) hqn (by decide) true)
            rw [← hW6]
            have y0 := (blk_cell HF6.out.box 0).trans (rfl : _ = some (Value.slice A0 ts.length c0)); have y1 := (blk_cell HF6.out.box 1).trans (rfl : _ = some (Value.string la)); have y2 := (blk_cell HF6.out.box 2).trans (rfl : _ = some (Value.string gl)); have y3 := (blk_cell HF6.out.box 3).trans (rfl : _ = some (Value.slice A3 code.length c3))
            clear hW6 hb6 z0 u0 f0
            go_wp2_with (go_at_call 12; (with_reducible refine (FI.out _ HF6.out.below _ _ _ b0 HM6.out.fc HM0.out).mono ?_); rintro e w7 ⟨rfl, hb⟩; have HF7 := Aside0.mk (HF6.out.keep hb); clear hb)
            go_roundw
            case rel => exact ⟨1, by go_num, by decide, HF7⟩
            case measure => simp [intOf]
          · go_upto_region 24 with (at_builtin; (refine app_row HF.out.part (by omega) (by omega) rfl (.const (.slice none 0 0)) _ rfl rfl rfl ?_); intro gm cm w5 hgm hcm hrow hb; have HF5 := Aside0.mk (HF.out.keep hb); have HM := Aside0.mk hrow; have HG := Aside0.mk (show w.heap.size < gm ∧ g < gm ∧ gp < gm from ⟨Nat.lt_of_lt_of_le (blk_lt HF.out.box) hgm, Nat.lt_of_lt_of_le HF.out.best.lt hgm, Nat.lt_of_lt_of_le HF.out.part.lt hgm⟩); clear hrow hgm)
            clear hb z0 z1 z2 y0 y1 y2 y3
            obtain ⟨z0, z1, z2⟩ := HF5.out.best.at hqn
            obtain ⟨u0, u1, u2⟩ := HM.out.at hqn
            rw [HBQ.out.2.1] at z1
            have hgne : gm ≠ g := Nat.ne_of_gt HG.out.2.1
            have f0 := HM.out.free (q * 3 + 1)
            clear z0 u0 z2 u2
            go_upto_region 31 with (fail)
            obtain ⟨W6, hW6⟩ : ∃ x, x = w5.setCell ⟨gm, q * 3 + 1, none⟩ (.bool true) := ⟨_, rfl⟩
            have hb6 : ∀ b, b ≠ gm → W6.heap[b]? = w5.heap[b]? := fun b hb => by rw [hW6]; exact Below.heap_setCell w5 _ _ _ (by simpa using hb)
            have HF6 := Aside0.mk (show FW w W6 #[.slice A0 ts.length c0, .string la, .string gl, .slice A3 code.length c3] g gp code.length bf pf from ⟨(hb6 _ (by have := HG.out.1; omega)).trans HF5.out.box, HF5.out.best.move (hb6 _ (by have := HG.out.2.1; omega)), HF5.out.part.move (hb6 _ (by have := HG.out.2.2; omega)), by rw [hW6]; exact HF5.out.below.setCell (by have := HG.out.1; simp; omega) _, HF5.out.h1, HF5.out.h2⟩)
            have HM6 := Aside0.mk (show RowG W6 gm code.length (putF pf q 1 true) by rw [hW6]; exact HM.out.put (j := 1) hqn (by decide) true)
            rw [← hW6]
            have y0 := (blk_cell HF6.out.box 0).trans (rfl : _ = some (Value.slice A0 ts.length c0)); have y1 := (blk_cell HF6.out.box 1).trans (rfl : _ = some (Value.string la)); have y2 := (blk_cell HF6.out.box 2).trans (rfl : _ = some (Value.string gl)); have y3 := (blk_cell HF6.out.box 3).trans (rfl : _ = some (Value.slice A3 code.length c3))
            clear hW6 hb6 z1 u1 f0
            go_wp2_with (go_at_call 12; (with_reducible refine (FI.out _ HF6.out.below _ _ _ b1 HM6.out.fc HM1.out).mono ?_); rintro e w7 ⟨rfl, hb⟩; have HF7 := Aside0.mk (HF6.out.keep hb); clear hb)
            go_roundw
            case rel => exact ⟨2, by go_num, by decide, HF7⟩
            case measure => simp [intOf]
          · go_upto_region 24 with (at_builtin; (refine app_row HF.out.part (by omega) (by omega) rfl (.const (.slice none 0 0)) _ rfl rfl rfl ?_); intro gm cm w5 hgm hcm hrow hb; have HF5 := Aside0.mk (HF.out.keep hb); have HM := Aside0.mk hrow; have HG := Aside0.mk (show w.heap.size < gm ∧ g < gm ∧ gp < gm from ⟨Nat.lt_of_lt_of_le (blk_lt HF.out.box) hgm, Nat.lt_of_lt_of_le HF.out.best.lt hgm, Nat.lt_of_lt_of_le HF.out.part.lt hgm⟩); clear hrow hgm)
            clear hb z0 z1 z2 y0 y1 y2 y3
            obtain ⟨z0, z1, z2⟩ := HF5.out.best.at hqn
            obtain ⟨u0, u1, u2⟩ := HM.out.at hqn
            rw [HBQ.out.2.2] at z2
            have hgne : gm ≠ g := Nat.ne_of_gt HG.out.2.1
            have f0 := HM.out.free (q * 3 + 2)
            clear z0 u0 z1 u1
            go_upto_region 31 with (fail)
            obtain ⟨W6, hW6⟩ : ∃ x, x = w5.setCell ⟨gm, q * 3 + 2, none⟩ (.bool true) := ⟨_, rfl⟩
            have hb6 : ∀ b, b ≠ gm → W6.heap[b]? = w5.heap[b]? := fun b hb => by rw [hW6]; exact Below.heap_setCell w5 _ _ _ (by simpa using hb)
            have HF6 := Aside0.mk (show FW w W6 #[.slice A0 ts.length c0, .string la, .string gl, .slice A3 code.length c3] g gp code.length bf pf from ⟨(hb6 _ (by have := HG.out.1; omega)).trans HF5.out.box, HF5.out.best.move (hb6 _ (by have := HG.out.2.1; omega)), HF5.out.part.move (hb6 _ (by have := HG.out.2.2; omega)), by rw [hW6]; exact HF5.out.below.setCell (by have := HG.out.1; simp; omega) _, HF5.out.h1, HF5.out.h2⟩)
            have HM6 := Aside0.mk (show RowG W6 gm code.length (putF pf q 2 true) by rw [hW6]; exact HM.out.put (j := 2) hqn (by decide) true)
            rw [← hW6]
            have y0 := (blk_cell HF6.out.box 0).trans (rfl : _ = some (Value.slice A0 ts.length c0)); have y1 := (blk_cell HF6.out.box 1).trans (rfl : _ = some (Value.string la)); have y2 := (blk_cell HF6.out.box 2).trans (rfl : _ = some (Value.string gl)); have y3 := (blk_cell HF6.out.box 3).trans (rfl : _ = some (Value.slice A3 code.length c3))
            clear hW6 hb6 z2 u2 f0
            go_wp2_with (go_at_call 12; (with_reducible refine (FI.out _ HF6.out.below _ _ _ b2 HM6.out.fc HM2.out).mono ?_); rintro e w7 ⟨rfl, hb⟩; have HF7 := Aside0.mk (HF6.out.keep hb); clear hb)
            go_roundw
            case rel => exact ⟨3, by go_num, by decide, HF7⟩
            case measure => simp [intOf]
          · go_wp2
            go_ret
            exact ⟨rfl, HF.out.below⟩
end Go.Proofs.YtocechpmgfhenaaGreatDoor.PF

namespace Go.Proofs.YtocechpmgfhenaaGreatDoor.PF
open Go.ChangeShapes Go.ChangeAt Go.RowKit Go.WideShapes Go.Proofs.YtocechpmgfhenaaGreatDoorW.PrintWords Go.Proofs.YtocechpmgfhenaaGreatDoor.F
set_option linter.unusedVariables false
section
variable {H : Type} {enc : TypeId × Value → H} {W : World} {held : Bool} {sp : Nat → Bool}
theorem kF_mk (w : World) (x : Fc) : kF.K w x [.bool x.st, .bool x.raw, .bool x.pl] := ⟨[.bool x.st], [.bool x.raw, .bool x.pl], rfl, rfl, ⟨[.bool x.raw], [.bool x.pl], rfl, rfl, rfl⟩⟩
set_option maxRecDepth 100000 in
theorem rf_at {fuel : Nat} {cs : List Value} {x : DataW H × List MemPlace} (h : DataW.trod enc Tryz.prog W 0 sp held fuel 36 cs = some x) : ∃ s : Fc, kF.K W s cs := by
  obtain ⟨xs, n, _, _, hl, hxl, hf⟩ := DataW.trod_struct Tryz.underlying36 h
  have hc5 : Tryz.prog.cellsOf 36 = 3 := by kernel_rfl
  have c1 : Tryz.prog.cellsOf 4 = 1 := by kernel_rfl
  rw [hc5] at hl
  match cs, hl with
  | [a, b, c], _ =>
    match xs, hxl with
    | [x0, x1, x2], _ =>
      obtain ⟨n0, e0, _⟩ := DataW.trod_bool Tryz.underlying4 (hf 0 _ rfl)
      obtain ⟨n1, e1, _⟩ := DataW.trod_bool Tryz.underlying4 (hf 1 _ rfl)
      obtain ⟨n2, e2, _⟩ := DataW.trod_bool Tryz.underlying4 (hf 2 _ rfl)
      have e0' : a = .bool n0 := by simpa [c1] using e0
      have e1' : b = .bool n1 := by simpa [c1] using e1
      have e2' : c = .bool n2 := by simpa [c1] using e2
      exact ⟨⟨n0, n1, n2⟩, by rw [e0', e1', e2']; exact kF_mk W ⟨n0, n1, n2⟩⟩
set_option maxRecDepth 100000 in
theorem open_facts {r : Reach} {b0 : Nat} {v : Value} {d : DataW H} {ps : List MemPlace} (hval : Value.okWide Tryz.prog W r b0 26 v) (hd : DataW.Trod enc Tryz.prog W 0 (fun _ => true) held 26 v d ps) :
    ∃ (A : Option Addr) (c : Nat) (l : List Fc), v = .slice A l.length c ∧ l.length ≤ c ∧ Kd.C kF W A l.length l := by
  obtain ⟨a0, len0, cap0, rfl⟩ := okWide_slice Tryz.underlying26 hval
  obtain ⟨m, hm⟩ := hd
  exact TRO.slice_row kF ⟨false, false, false⟩ Tryz.underlying26 (by kernel_rfl) (fun h => rf_at h) (by simpa [Value.cells] using hm)
end
end Go.Proofs.YtocechpmgfhenaaGreatDoor.PF

/- Texts of this claim, pruned to what it needs and laid together by prune.py. -/
import Derived.Test.YtfkfpcciacplkaaDoorMV25
import Derived.Test.YtfkfpcciacplkaaDoorMV22
import Derived.Test.YtfkfpcciacplkaaDoorMV26
import Derived.Test.YtfkfpcciacplkaaDoorMV14
import Derived.Test.YtfkfpcciacplkaaDoorMV24
import Derived.Test.YtfkfpcciacplkaaDoorMV23
namespace Go.Proofs.YtfkfpcciacplkaaDoor.SH
open Go.RowKit Go.Proofs.YtfkfpcciacplkaaDoorW.PrintWords Go.Proofs.YtfkfpcciacplkaaDoor.FM Go.Proofs.YtfkfpcciacplkaaDoor.CR Go.Proofs.YtfkfpcciacplkaaDoor.ST0 Go.Proofs.YtfkfpcciacplkaaDoor.F Go.Proofs.YtfkfpcciacplkaaDoor.H Go.Proofs.YtfkfpcciacplkaaDoor.Scan
set_option linter.unusedVariables false
set_option linter.unusedSectionVars false
set_option linter.unusedSimpArgs false
section
variable {o : Nat} {f1 f2 f3 f4 : Int} (h1 : 1 ≤ o) (h15 : o ≤ 15) (b1 : 0 ≤ f1 ∧ f1 ≤ 255) (b2 : 0 ≤ f2 ∧ f2 ≤ 255) (b3 : 0 ≤ f3 ∧ f3 ≤ 255) (b4 : -9223372036854775808 ≤ f4 ∧ f4 ≤ 9223372036854775807)
include h1 h15 b1 b2 b3 b4
omit b1 b2 b3 b4 in
theorem shape_val : lockstitchref04_shape.f (o : Int) = some (nmB o, haB o) := by
  obtain rfl | rfl | rfl | rfl | rfl | rfl | rfl | rfl | rfl | rfl | rfl | rfl | rfl | rfl | rfl : o = 1 ∨ o = 2 ∨ o = 3 ∨ o = 4 ∨ o = 5 ∨ o = 6 ∨ o = 7 ∨ o = 8 ∨ o = 9 ∨ o = 10 ∨ o = 11 ∨ o = 12 ∨ o = 13 ∨ o = 14 ∨ o = 15 := by omega
  all_goals rfl
theorem part_val (x : UInt8) (hx : x = 97 ∨ x = 98 ∨ x = 99 ∨ x = 110) : lockstitchref04_part.f o f1 f2 f3 f4 (x.toNat : Int) = some (partV f1 f2 f3 f4 x.toNat) ∧ -9223372036854775808 ≤ partV f1 f2 f3 f4 x.toNat ∧ partV f1 f2 f3 f4 x.toNat ≤ 9223372036854775807 := by
  have e1 : wrap64 f1 = f1 := by unfold wrap64; omega
  have e2 : wrap64 f2 = f2 := by unfold wrap64; omega
  have e3 : wrap64 f3 = f3 := by unfold wrap64; omega
  rcases hx with rfl | rfl | rfl | rfl
  · exact ⟨congrArg some e1, by show _ ≤ f1 ∧ f1 ≤ _; omega⟩
  · exact ⟨congrArg some e2, by show _ ≤ f2 ∧ f2 ≤ _; omega⟩
  · exact ⟨congrArg some e3, by show _ ≤ f3 ∧ f3 ≤ _; omega⟩
  · exact ⟨rfl, b4⟩
theorem line_ev : Ev (fun k => lockstitchref04_line.f k o f1 f2 f3 f4) (lV o f1 f2 f3 f4) := by
  have hl3 := ha_len ⟨o, by omega⟩
  simp only at hl3
  have hsz : (haB o).size = (hasOf o).length := rfl
  have L : ∀ d i : Nat, i + d = (hasOf o).length → Ev (fun k => lockstitchref04_line.l0 k (haB o) ((lV o f1 f2 f3 f4).take (i + 1)) (i : Int) o f1 f2 f3 f4) (lV o f1 f2 f3 f4) := by
    intro d
    induction d with
    | zero =>
      intro i hi
      have e : (lV o f1 f2 f3 f4).take (i + 1) = lV o f1 f2 f3 f4 := List.take_of_length_le (by rw [lV_len, hsz]; omega)
      rw [e]
      exact ev_step (fun k => lockstitchref04_line.l0.eq_2 ..) (Ev.congr (fun k => if_neg (by rw [hsz]; omega)) ev_const)
    | succ d ih =>
      intro i hi
      have hi2 : i < (hasOf o).length := by omega
      obtain ⟨x, hx⟩ : ∃ x, (hasOf o)[i]? = some x := ⟨_, List.getElem?_eq_getElem hi2⟩
      have hx4 := ha_mem ⟨o, by omega⟩ x (List.mem_of_getElem? hx)
      obtain ⟨p1, p2, p3⟩ := part_val h1 h15 b1 b2 b3 b4 x hx4
      have hb : bt (haB o) i = x.toNat := NU.bt_mk (hasOf o) i x hx
      have et : (lV o f1 f2 f3 f4).take (i + 1) ++ [num (partV f1 f2 f3 f4 x.toNat)] = (lV o f1 f2 f3 f4).take (i + 1 + 1) := by
        have : (lV o f1 f2 f3 f4)[i + 1]? = some (num (partV f1 f2 f3 f4 x.toNat)) := by
          unfold lV
          rw [List.getElem?_cons_succ, List.getElem?_map, hx]
          rfl
        rw [List.take_add_one (i := i + 1), this]
        rfl
      have hlen : ((lV o f1 f2 f3 f4).take (i + 1)).length < 8796093022208 := by
        rw [List.length_take, lV_len, hsz]
        omega
      have ih := ih (i + 1) (by omega)
      refine ev_step (fun k => lockstitchref04_line.l0.eq_2 ..) (Ev.congr (fun k => if_pos (by rw [hsz]; omega)) (Ev.congr (fun k => if_pos (by omega)) (ev_bind (ev_all fun _ => by rw [hb]; exact p1) (ev_bind (ev_all fun _ => if_pos ⟨rfl, p2, p3⟩) (Ev.congr (fun k => if_pos hlen) ?_)))))
      rw [et, show wrap64 ((i : Int) + 1) = ((i + 1 : Nat) : Int) by unfold wrap64; omega]
      exact ih
  have := L (hasOf o).length 0 (Nat.zero_add _)
  refine ev_bind (ev_all fun _ => shape_val h1 h15) ?_
  exact this
end
theorem gk_hs : ∀ o : Fin 16, ∀ c ∈ ([97, 98, 99, 110] : List UInt8), hs o c = decide (c ∈ (hasOf o).take 3) := by decide +kernel
theorem gk_eq {o : Nat} (h15 : o ≤ 15) (c : UInt8) (hc : c ∈ ([97, 98, 99, 110] : List UInt8)) (f : Int) : (gk o 3 c f == f) = (hs o c || f == 0) := by
  have := gk_hs ⟨o, by omega⟩ c hc
  simp only at this
  rw [this]
  unfold gk
  by_cases h : c ∈ (hasOf o).take 3
  · simp [h]
  · simp only [h, if_false, decide_false, Bool.false_or]
    rw [Bool.beq_comm]
section
variable (w : World) (o : Nat) (f1 f2 f3 f4 : Int) (b1 : 0 ≤ f1 ∧ f1 ≤ 255) (b2 : 0 ≤ f2 ∧ f2 ≤ 255) (b3 : 0 ≤ f3 ∧ f3 ≤ 255) (b4 : -9223372036854775808 ≤ f4 ∧ f4 ≤ 9223372036854775807) (htab : TB w)
include b1 b2 b3 b4 htab
set_option maxRecDepth 100000 in
theorem Right04_out (h : o = 0 ∨ 16 ≤ o) : Calls Tryd.prog 52 #[.agg #[.int .u8 o, .int .u8 f1, .int .u8 f2, .int .u8 f3, .int .i64 f4]] w fun e w' => e = .returned (.bool false) ∧ Below w.heap.size w w' := by
  have SH := Aside0.mk (fun W => shape_c W o)
  rw [(out_B h).1] at SH
  clear h htab
  go_enter Tryd.func52, Tryd.ntmps52
  go_wp2_with (go_at_call 79; (with_reducible refine (SH.out _).mono ?_); rintro e w' ⟨rfl, rfl⟩)
  go_ret
  exact ⟨rfl, below_alloc (Below.refl _ _) _⟩
set_option maxHeartbeats 2000000 in
set_option maxRecDepth 100000 in
theorem Right04_in (h1 : 1 ≤ o) (h15 : o ≤ 15) : Calls Tryd.prog 52 #[.agg #[.int .u8 o, .int .u8 f1, .int .u8 f2, .int .u8 f3, .int .i64 f4]] w fun e w' => e = .returned (.bool (rightB o f1 f2 f3 f4)) ∧ Below w.heap.size w w' := by
  have hne : (nmB o).toList.isEmpty = false := NU.isE (by
    have : ∀ o : Fin 16, 1 ≤ o.1 → 1 ≤ (nmB o).size := by decide +kernel
    exact this ⟨o, by omega⟩ h1)
  have er : rightB o f1 f2 f3 f4 = ((o : Int) == o && (gk o 3 97 f1 == f1 && (gk o 3 98 f2 == f2 && (gk o 3 99 f3 == f3 && (gk o 3 110 f4 == f4))))) := by
    rw [gk_eq h15 97 (by simp), gk_eq h15 98 (by simp), gk_eq h15 99 (by simp), gk_eq h15 110 (by simp)]
    unfold rightB
    cases hs o 97 <;> cases hs o 98 <;> cases hs o 99 <;> cases hs o 110 <;> simp <;> (cases f1 == 0 <;> cases f2 == 0 <;> cases f3 == 0 <;> cases f4 == 0 <;> rfl)
  obtain ⟨kl, hkl⟩ := ev_at (line_ev h1 h15 b1 b2 b3 b4)
  have LN := Aside0.mk hkl
  have HTB := Aside0.mk htab
  have H15 := Aside0.mk (And.intro h1 h15)
  have B := Aside0.mk (And.intro b1 (And.intro b2 (And.intro b3 b4)))
  rw [er]
  clear hkl htab h1 h15 b1 b2 b3 b4 er
  go_enter Tryd.func52, Tryd.ntmps52
  go_wp2_with (first
    | (go_at_call 79; (with_reducible refine (shape_c _ o).mono ?_); rintro e w' ⟨rfl, rfl⟩)
    | (go_at_call 81; (with_reducible refine (lockstitchref04_line.calls kl o f1 f2 f3 f4 _ _ LN.out (TB_below HTB.out (below_alloc (Below.refl _ _) _))).mono ?_); rintro e w1 ⟨v, rfl, hv, hb1⟩; obtain ⟨Al, cl, ev, hcl, hrl⟩ := Kd.R_reads hv; subst ev; have HRL := Aside0.mk hrl; have HCL := Aside0.mk hcl; have rx1 := (hb1.block w.heap.size (by simp)).trans (heap_alloc_new w _); have HB1 := Aside0.mk (below_step (below_alloc (Below.refl _ _) _) hb1); clear hv hb1 hrl)
    | (go_at_call 80; (with_reducible refine (read_c _ o f1 f2 f3 f4 H15.out.1 H15.out.2 B.out.1 B.out.2.1 B.out.2.2.1 B.out.2.2.2 Al cl HRL.out HCL.out).mono ?_); rintro e w2 ⟨rfl, hb2⟩; have rx2 := (hb2.block w.heap.size (blk_lt rx1)).trans rx1; have z2 := blk_lt rx2; have kp2 := fun j => cell_of_row (w2.alloc (.cells #[.int .u8 o, .int .u8 (gk o 3 97 f1), .int .u8 (gk o 3 98 f2), .int .u8 (gk o 3 99 f3), .int .i64 (gk o 3 110 f4)] 68)) w.heap.size j _ _ _ (row_old _ _ _ z2 rx2); have HB2 := Aside0.mk hb2; clear hb2)
    | (apply ldI; (with_reducible rfl); rfl; rfl; exact rowT; rfl)
    | (apply srI; (with_reducible rfl); rfl; rfl; rfl; exact rowT; rfl; rfl; rfl; exact setT))
  all_goals
    go_ret
    refine ⟨?_, below_alloc (below_step HB1.out HB2.out) _⟩
    simp [*]
end
end Go.Proofs.YtfkfpcciacplkaaDoor.SH

namespace Go.Proofs.YtfkfpcciacplkaaDoor.SH
open Go.RowKit Go.Proofs.YtfkfpcciacplkaaDoorW.PrintWords Go.Proofs.YtfkfpcciacplkaaDoor.CR Go.Proofs.YtfkfpcciacplkaaDoor.ST0
set_option linter.unusedVariables false
set_option linter.unusedSimpArgs false
set_option maxHeartbeats 2000000 in
set_option maxRecDepth 100000 in
theorem ints_c (w : World) (o : Nat) (f1 f2 f3 f4 : Int) (h1 : 1 ≤ o) (h15 : o ≤ 15) :
    Calls Tryd.prog 53 #[.agg #[.int .u8 o, .int .u8 f1, .int .u8 f2, .int .u8 f3, .int .i64 f4]] w fun e w' => e = .returned (.bool (intsB o f1 f2 f3)) ∧ Below w.heap.size w w' := by
  obtain rfl | rfl | rfl | rfl | rfl | rfl | rfl | rfl | rfl | rfl | rfl | rfl | rfl | rfl | rfl : o = 1 ∨ o = 2 ∨ o = 3 ∨ o = 4 ∨ o = 5 ∨ o = 6 ∨ o = 7 ∨ o = 8 ∨ o = 9 ∨ o = 10 ∨ o = 11 ∨ o = 12 ∨ o = 13 ∨ o = 14 ∨ o = 15 := by omega
  all_goals
    simp only [intsB, Nat.reduceEqDiff, reduceIte, or_true, true_or, or_false, false_or]
    go_enter Tryd.func53, Tryd.ntmps53
    go_wp2
  all_goals
    go_ret
    refine ⟨?_, below_alloc (Below.refl _ _) _⟩
    first | rfl | (simp [*]; done) | (simp; omega)
end Go.Proofs.YtfkfpcciacplkaaDoor.SH

namespace Go.Proofs.YtfkfpcciacplkaaDoor.PL
open Go.RowKit Go.Proofs.YtfkfpcciacplkaaDoorW.PrintWords Go.Proofs.YtfkfpcciacplkaaDoor.F Go.Proofs.YtfkfpcciacplkaaDoor.KP Go.Proofs.YtfkfpcciacplkaaDoor.CR Go.Proofs.YtfkfpcciacplkaaDoor.SH Go.Proofs.YtfkfpcciacplkaaDoor.FM Go.Proofs.YtfkfpcciacplkaaDoor.ST0 Go.Proofs.YtfkfpcciacplkaaDoor.Scan
set_option linter.unusedVariables false
set_option linter.unusedSectionVars false
set_option linter.unusedSimpArgs false
theorem Refs_c (p : Pg) (w : World) (h : p.In w) (s : ByteArray) (hz : Fit s) : Calls Tryd.prog 51 #[.slice p.A0 p.ts.length p.c0, .string s] w fun e w' => e = .returned (.bool (refs p.ts s)) ∧ Below w.heap.size w w' := by
  obtain ⟨k, hk⟩ := ev_at (ref_Refs_ev p.ts s h.hl h.hs hz)
  exact (lockstitchref03_Refs.calls k p.A0 p.c0 p.ts s _ w h.hT h.hc0 hk).mono fun e w' h => ⟨h.1, h.2.below⟩
theorem Right04_c (w : World) (o : Nat) (f1 f2 f3 f4 : Int) (hx : WfI o f1 f2 f3 f4) (htab : TB w) :
    Calls Tryd.prog 52 #[.agg #[.int .u8 o, .int .u8 f1, .int .u8 f2, .int .u8 f3, .int .i64 f4]] w fun e w' => e = .returned (.bool (if o = 0 ∨ 16 ≤ o then false else rightB o f1 f2 f3 f4)) ∧ Below w.heap.size w w' := by
  obtain ⟨_, h1, h2, h3, h4⟩ := hx
  by_cases h : o = 0 ∨ 16 ≤ o
  · rw [if_pos h]
    exact Right04_out w o f1 f2 f3 f4 h1 h2 h3 h4 htab h
  · rw [if_neg h]
    exact Right04_in w o f1 f2 f3 f4 h1 h2 h3 h4 htab (by omega) (by omega)
end Go.Proofs.YtfkfpcciacplkaaDoor.PL

namespace Go.Proofs.YtfkfpcciacplkaaDoor.PL
open Go.RowKit Go.Proofs.YtfkfpcciacplkaaDoorW.PrintWords Go.Proofs.YtfkfpcciacplkaaDoor.F Go.Proofs.YtfkfpcciacplkaaDoor.KP Go.Proofs.YtfkfpcciacplkaaDoor.CR Go.Proofs.YtfkfpcciacplkaaDoor.SH Go.Proofs.YtfkfpcciacplkaaDoor.FM Go.Proofs.YtfkfpcciacplkaaDoor.ST0 Go.Proofs.YtfkfpcciacplkaaDoor.Scan
set_option linter.unusedVariables false
set_option linter.unusedSectionVars false
set_option linter.unusedSimpArgs false
def rgR (o : Nat) (f1 f2 f3 f4 : Int) : Bool := if o = 0 ∨ 16 ≤ o then false else rightB o f1 f2 f3 f4
theorem rgR_op {o : Nat} {f1 f2 f3 f4 : Int} (h : rgR o f1 f2 f3 f4 = true) : (1 ≤ o ∧ o ≤ 15) ∧ rightB o f1 f2 f3 f4 = true := by
  unfold rgR at h
  split at h
  · cases h
  · exact ⟨by omega, h⟩
def IsR (r : Bool) : Prop := r = true
theorem IsR.mk : IsR true := rfl
def OkR (r ib kd : Bool) (o : Nat) (f4 : Int) (n : Nat) : Prop := r = true ∧ ib = true ∧ kd = true ∧ (o = 3 ∨ o = 4 → 0 ≤ f4 ∧ f4 ≤ n)
section
variable (p : Pg) (w : World) (hp : p.In w)
include hp
set_option maxHeartbeats 8000000 in
set_option maxRecDepth 100000 in
theorem Check_c : Calls Tryd.prog 40 #[p.v] w fun e w' => ∃ r er : Int, e = .returned (.tuple #[.int .i64 r, .int .i64 er]) ∧ (er = 0 ↔ SpP p) ∧ (er = 0 → r = -1) ∧ Below w.heap.size w w' := by
  have HP := Aside0.mk hp
  have hlc := hp.hc
  have hla := hp.hla
  have hgl := hp.hgl
  obtain ⟨A0, c0, ts, la, gl, A3, c3, code⟩ := p
  simp only at hlc hla hgl
  obtain ⟨b1, hb1⟩ : ∃ b1, refs ts la = b1 := ⟨_, rfl⟩
  obtain ⟨b2, hb2⟩ : ∃ b2, refs ts gl = b2 := ⟨_, rfl⟩
  have REF1 : Aside0 (∀ W, Below w.heap.size w W → Calls Tryd.prog 51 #[.slice A0 ts.length c0, .string la] W fun e w' => e = .returned (.bool b1) ∧ Below W.heap.size W w') := ⟨fun W hW => by
    rw [← hb1]
    exact Refs_c ⟨A0, c0, ts, la, gl, A3, c3, code⟩ W (HP.out.below hW) la hla⟩
  have REF2 : Aside0 (∀ W, Below w.heap.size w W → Calls Tryd.prog 51 #[.slice A0 ts.length c0, .string gl] W fun e w' => e = .returned (.bool b2) ∧ Below W.heap.size W w') := ⟨fun W hW => by
    rw [← hb2]
    exact Refs_c ⟨A0, c0, ts, la, gl, A3, c3, code⟩ W (HP.out.below hW) gl hgl⟩
  have HSP := Aside0.mk (show SpP ⟨A0, c0, ts, la, gl, A3, c3, code⟩ → b1 = true ∧ b2 = true ∧ ¬ (la.size : Int) > 8 ∧ ¬ (gl.size : Int) > 4 ∧ ¬ (code.length : Int) < 1 ∧ ¬ (code.length : Int) > 200 from fun h => ⟨by rw [← hb1]; exact h.refs.1, by rw [← hb2]; exact h.refs.2, by have := h.locals; simp only at this; omega, by have := h.globals; simp only at this; omega, by have := h.len; simp only at this; omega, by have := h.len; simp only at this; omega⟩)
  have HB0 := Aside0.mk (And.intro hb1 hb2)
  clear hp hb1 hb2
  have HLA := Aside0.mk hla
  have HGL := Aside0.mk hgl
  clear hla hgl
  have HW := Aside0.mk (Below.refl w.heap.size w)
  show Calls Tryd.prog 40 #[.agg #[.slice A0 ts.length c0, .string la, .string gl, .slice A3 code.length c3]] w fun e w' => ∃ r er : Int, e = .returned (.tuple #[.int .i64 r, .int .i64 er]) ∧ (er = 0 ↔ SpP ⟨A0, c0, ts, la, gl, A3, c3, code⟩) ∧ (er = 0 → r = -1) ∧ Below w.heap.size w w'
  by_cases hall : b1 = true ∧ b2 = true ∧ ¬ (la.size : Int) > 8 ∧ ¬ (gl.size : Int) > 4 ∧ ¬ (code.length : Int) < 1 ∧ ¬ (code.length : Int) > 200
  · obtain ⟨rfl, rfl, h3, h4, h5, h6⟩ := hall
    have HRL := Aside0.mk (show (refs ts la = true ∧ refs ts gl = true) ∧ la.size ≤ 8 ∧ gl.size ≤ 4 ∧ 1 ≤ code.length ∧ code.length ≤ 200 from ⟨HB0.out, by omega, by omega, by omega, by omega⟩)
    go_enter Tryd.func40, Tryd.ntmps40
    go_wp2_with (first
      | (go_at_call 51; (with_reducible refine (REF1.out _ ?side1).mono ?_); (case side1 => exact below_alloc HW.out _); rintro e w1 ⟨rfl, hb1⟩; have R0 := (hb1.block w.heap.size (by simp)).trans (heap_alloc_new w _); have kR := fun j => cell_of_row w1 w.heap.size j _ _ _ R0; have HW := Aside0.mk (below_step (below_alloc HW.out _) hb1); clear hb1)
      | (go_at_call 51; (with_reducible refine (REF2.out _ HW.out).mono ?_); rintro e w1 ⟨rfl, hb1⟩; have R0 := (hb1.block w.heap.size (blk_lt R0)).trans R0; have kR := fun j => cell_of_row w1 w.heap.size j _ _ _ R0; have HW := Aside0.mk (below_step HW.out hb1); clear hb1))
    have HR0 := Aside0.mk R0
    clear kR R0 REF1 REF2
    go_loopw [4] (fun c wr => ∃ i : Nat, i ≤ code.length ∧ c = .int .i64 i ∧ Aside0 (∀ j, j < i → InsAt ts la gl code j) ∧ Aside0 (wr.heap[w.heap.size]? = some (.cells #[.slice A0 ts.length c0, .string la, .string gl, .slice A3 code.length c3] 46 (0, 0))) ∧ Aside0 (Below w.heap.size w wr)) (fun c _ => code.length - (intOf c).toNat)
    case atStart => exact ⟨0, Nat.zero_le _, rfl, ⟨fun j hj => absurd hj (Nat.not_lt_zero _)⟩, HR0, HW⟩
    case round =>
      clear HR0 HW
      obtain ⟨i, hi, rfl, HI, HR, HB⟩ := hrel
      have kP := fun j => cell_of_row wr w.heap.size j _ _ _ HR.out
      by_cases hlt : (i : Int) < (code.length : Int)
      · have p0 : (0 : Int) ≤ i := by omega
        obtain ⟨ad, rfl, x0, x1, x2, x3, x4⟩ := at_T68 HP.out.hC (i : Int) p0 hlt
        rw [Int.toNat_natCast] at x0 x1 x2 x3 x4
        replace x0 := (HB.out.cell (World.block_lt_of_cell? w _ x0)).trans x0
        replace x1 := (HB.out.cell (World.block_lt_of_cell? w _ x1)).trans x1
        replace x2 := (HB.out.cell (World.block_lt_of_cell? w _ x2)).trans x2
        replace x3 := (HB.out.cell (World.block_lt_of_cell? w _ x3)).trans x3
        replace x4 := (HB.out.cell (World.block_lt_of_cell? w _ x4)).trans x4
        have hwf := HP.out.hw.rd i (show i < code.length by omega)
        obtain ⟨o, ho⟩ := Int.eq_ofNat_of_zero_le hwf.1.1
        rw [ho] at x0 hwf
        have HIA := Aside0.mk (show InsP ts la gl code.length o (rd_T68 code i).f1 (rd_T68 code i).f2 (rd_T68 code i).f3 (rd_T68 code i).f4 → InsAt ts la gl code i from fun h => ⟨o, ho, h⟩)
        have HIB := Aside0.mk (show InsAt ts la gl code i → InsP ts la gl code.length o (rd_T68 code i).f1 (rd_T68 code i).f2 (rd_T68 code i).f3 (rd_T68 code i).f4 from fun ⟨o', ho', h⟩ => by
          have h2 : (o' : Int) = o := ho'.symm.trans ho
          have : o' = o := by omega
          rwa [this] at h)
        obtain ⟨f1, e1⟩ : ∃ f1, (rd_T68 code i).f1 = f1 := ⟨_, rfl⟩
        obtain ⟨f2, e2⟩ : ∃ f2, (rd_T68 code i).f2 = f2 := ⟨_, rfl⟩
        obtain ⟨f3, e3⟩ : ∃ f3, (rd_T68 code i).f3 = f3 := ⟨_, rfl⟩
        obtain ⟨f4, e4⟩ : ∃ f4, (rd_T68 code i).f4 = f4 := ⟨_, rfl⟩
        rw [e1] at x1
        rw [e2] at x2
        rw [e3] at x3
        rw [e4] at x4
        rw [e1, e2, e3, e4] at HIA HIB hwf
        clear e1 e2 e3 e4 ho
        have HWF := Aside0.mk hwf
        clear hwf
        obtain ⟨r, hr⟩ : ∃ r, rgR o f1 f2 f3 f4 = r := ⟨_, rfl⟩
        obtain ⟨ib, hib⟩ : ∃ ib, intsB o f1 f2 f3 = ib := ⟨_, rfl⟩
        obtain ⟨kd, hk⟩ : ∃ kd, kindsB ts la gl o f1 f2 f3 f4 = kd := ⟨_, rfl⟩
        have RGT := Aside0.mk (show ∀ W, Below w.heap.size w W → Calls Tryd.prog 52 #[.agg #[.int .u8 o, .int .u8 f1, .int .u8 f2, .int .u8 f3, .int .i64 f4]] W fun e w' => e = .returned (.bool r) ∧ Below W.heap.size W w' from fun W hW => by rw [← hr]; exact Right04_c W o f1 f2 f3 f4 HWF.out (TB_below HP.out.tb hW))
        have INT := Aside0.mk (show IsR r → ∀ W, Calls Tryd.prog 53 #[.agg #[.int .u8 o, .int .u8 f1, .int .u8 f2, .int .u8 f3, .int .i64 f4]] W fun e w' => e = .returned (.bool ib) ∧ Below W.heap.size W w' from fun ht W => by
          rw [← hib]
          have := rgR_op (hr.trans ht)
          exact ints_c W o f1 f2 f3 f4 this.1.1 this.1.2)
        have KND := Aside0.mk (show IsR r → ∀ W, Below w.heap.size w W → Calls Tryd.prog 54 #[.agg #[.slice A0 ts.length c0, .string la, .string gl, .slice (some ad) code.length c3], .agg #[.int .u8 o, .int .u8 f1, .int .u8 f2, .int .u8 f3, .int .i64 f4]] W fun e w' => e = .returned (.bool kd) ∧ Below W.heap.size W w' from fun ht W hW => by
          rw [← hk]
          have := rgR_op (hr.trans ht)
          exact kinds_c ⟨A0, c0, ts, la, gl, some ad, c3, code⟩ W o f1 f2 f3 f4 this.1.1 this.1.2 HWF.out (HP.out.below hW))
        have HIP := Aside0.mk (show InsP ts la gl code.length o f1 f2 f3 f4 ↔ OkR r ib kd o f4 code.length from ⟨fun h => ⟨by
            rw [← hr]
            unfold rgR
            rw [if_neg (by have := h.op; omega)]
            exact h.right, by rw [← hib]; exact h.ints, by rw [← hk]; exact (kindsB_iff h.op.1 h.op.2).2 h.kinds, h.jump⟩, fun ⟨h1, h0, h2, h3⟩ => by
            have a := rgR_op (hr.trans h1)
            exact ⟨a.1, a.2, h3, hib.trans h0, (kindsB_iff a.1.1 a.1.2).1 (hk.trans h2)⟩⟩)
        clear hr hk hib
        have HSI := Aside0.mk (show SpP ⟨A0, c0, ts, la, gl, some ad, c3, code⟩ → OkR r ib kd o f4 code.length from fun h => HIP.out.1 (HIB.out (h.all i (by simp only; omega))))
        obtain ⟨wo, rfl⟩ : ∃ wo : World, wo = wr := ⟨_, rfl⟩
        by_cases hgood : OkR r ib kd o f4 code.length
        · have HOK := Aside0.mk (HIA.out (HIP.out.2 hgood))
          unfold OkR at hgood
          obtain ⟨rfl, rfl, rfl, hj⟩ := hgood
          have hq : (((o : Int) == 3) = true ∧ ¬ f4 < 0 ∧ ¬ f4 > (code.length : Int)) ∨ (((o : Int) == 3) = false ∧ ((o : Int) == 4) = true ∧ ¬ f4 < 0 ∧ ¬ f4 > (code.length : Int)) ∨ (((o : Int) == 3) = false ∧ ((o : Int) == 4) = false) := by
            simp only [beq_eq_false_iff_ne, beq_iff_eq]
            omega
          clear hj HSI HIP HIB HIA
          obtain ⟨q3, j1, j2⟩ | ⟨q3, q4, j1, j2⟩ | ⟨q3, q4⟩ := hq
          all_goals
            go_wp2_with (first
              | (go_at_call 52; (with_reducible refine (RGT.out _ ?side1).mono ?_); (case side1 => exact below_alloc HB.out _); rintro e w1 ⟨rfl, hb1⟩; have R1 := (hb1.block wo.heap.size (by simp)).trans (heap_alloc_new wo _); have kR1 := fun j => cell_of_row w1 wo.heap.size j _ _ _ R1; have HR1 := Aside0.mk R1; have R0 := (hb1.block w.heap.size (by have := blk_lt HR.out; simp; omega)).trans (row_old _ _ _ (blk_lt HR.out) HR.out); have kR0 := fun j => cell_of_row w1 w.heap.size j _ _ _ R0; have HR := Aside0.mk R0; clear R0; have HB := Aside0.mk (below_step (below_alloc HB.out _) hb1); clear hb1 R1)
              | (go_at_call 53; (with_reducible refine (INT.out IsR.mk _).mono ?_); rintro e w1 ⟨rfl, hb1⟩; have R1 := (hb1.block wo.heap.size (blk_lt HR1.out)).trans HR1.out; have kR1 := fun j => cell_of_row w1 wo.heap.size j _ _ _ R1; have R0 := (hb1.block w.heap.size (blk_lt HR.out)).trans HR.out; have kR0 := fun j => cell_of_row w1 w.heap.size j _ _ _ R0; have HR := Aside0.mk R0; clear R0 R1; have HB := Aside0.mk (below_step HB.out hb1); clear hb1)
              | (go_at_call 54; (with_reducible refine (KND.out IsR.mk _ HB.out).mono ?_); rintro e w2 ⟨rfl, hb2⟩; have HR := Aside0.mk ((hb2.block w.heap.size (blk_lt HR.out)).trans HR.out); have HB := Aside0.mk (below_step HB.out hb2); clear hb2))
            go_roundw
            case rel => exact ⟨i + 1, by omega, by go_num, ⟨fun j hj => by
              rcases Nat.lt_succ_iff_lt_or_eq.1 hj with hj | rfl
              · exact HI.out j hj
              · exact HOK.out⟩, HR, HB⟩
            case measure => simp [intOf]; omega
        · have HNO := Aside0.mk (show ¬ SpP ⟨A0, c0, ts, la, gl, some ad, c3, code⟩ from fun h => hgood (HSI.out h))
          have hq : (r = false ∧ ((o : Int) == 3) = true) ∨ (r = false ∧ ((o : Int) == 3) = false ∧ ((o : Int) == 4) = true) ∨ (r = false ∧ ((o : Int) == 3) = false ∧ ((o : Int) == 4) = false) ∨ (r = true ∧ ((o : Int) == 3) = true ∧ f4 < 0) ∨ (r = true ∧ ((o : Int) == 3) = true ∧ ¬ f4 < 0 ∧ f4 > (code.length : Int)) ∨ (r = true ∧ ((o : Int) == 3) = false ∧ ((o : Int) == 4) = true ∧ f4 < 0) ∨ (r = true ∧ ((o : Int) == 3) = false ∧ ((o : Int) == 4) = true ∧ ¬ f4 < 0 ∧ f4 > (code.length : Int)) ∨ (r = true ∧ ib = false ∧ ((o : Int) == 3) = true ∧ ¬ f4 < 0 ∧ ¬ f4 > (code.length : Int)) ∨ (r = true ∧ ib = false ∧ ((o : Int) == 3) = false ∧ ((o : Int) == 4) = true ∧ ¬ f4 < 0 ∧ ¬ f4 > (code.length : Int)) ∨ (r = true ∧ ib = false ∧ ((o : Int) == 3) = false ∧ ((o : Int) == 4) = false) ∨ (r = true ∧ ib = true ∧ kd = false ∧ ((o : Int) == 3) = true ∧ ¬ f4 < 0 ∧ ¬ f4 > (code.length : Int)) ∨ (r = true ∧ ib = true ∧ kd = false ∧ ((o : Int) == 3) = false ∧ ((o : Int) == 4) = true ∧ ¬ f4 < 0 ∧ ¬ f4 > (code.length : Int)) ∨ (r = true ∧ ib = true ∧ kd = false ∧ ((o : Int) == 3) = false ∧ ((o : Int) == 4) = false) := by
            unfold OkR at hgood
            simp only [beq_eq_false_iff_ne, beq_iff_eq]
            cases r <;> cases ib <;> cases kd <;> simp at hgood ⊢ <;> omega
          clear hgood HSI HIP HIB HIA
          obtain ⟨rfl, q3⟩ | ⟨rfl, q3, q4⟩ | ⟨rfl, q3, q4⟩ | ⟨rfl, q3, j1⟩ | ⟨rfl, q3, j1, j2⟩ | ⟨rfl, q3, q4, j1⟩ | ⟨rfl, q3, q4, j1, j2⟩ | ⟨rfl, rfl, q3, j1, j2⟩ | ⟨rfl, rfl, q3, q4, j1, j2⟩ | ⟨rfl, rfl, q3, q4⟩ | ⟨rfl, rfl, rfl, q3, j1, j2⟩ | ⟨rfl, rfl, rfl, q3, q4, j1, j2⟩ | ⟨rfl, rfl, rfl, q3, q4⟩ := hq
          all_goals
            go_wp2_with (first
              | (go_at_call 52; (with_reducible refine (RGT.out _ ?side1).mono ?_); (case side1 => exact below_alloc HB.out _); rintro e w1 ⟨rfl, hb1⟩; have R1 := (hb1.block wo.heap.size (by simp)).trans (heap_alloc_new wo _); have kR1 := fun j => cell_of_row w1 wo.heap.size j _ _ _ R1; have HR1 := Aside0.mk R1; have R0 := (hb1.block w.heap.size (by have := blk_lt HR.out; simp; omega)).trans (row_old _ _ _ (blk_lt HR.out) HR.out); have kR0 := fun j => cell_of_row w1 w.heap.size j _ _ _ R0; have HR := Aside0.mk R0; clear R0; have HB := Aside0.mk (below_step (below_alloc HB.out _) hb1); clear hb1 R1)
              | (go_at_call 53; (with_reducible refine (INT.out IsR.mk _).mono ?_); rintro e w1 ⟨rfl, hb1⟩; have R1 := (hb1.block wo.heap.size (blk_lt HR1.out)).trans HR1.out; have kR1 := fun j => cell_of_row w1 wo.heap.size j _ _ _ R1; have R0 := (hb1.block w.heap.size (blk_lt HR.out)).trans HR.out; have kR0 := fun j => cell_of_row w1 w.heap.size j _ _ _ R0; have HR := Aside0.mk R0; clear R0 R1; have HB := Aside0.mk (below_step HB.out hb1); clear hb1)
              | (go_at_call 54; (with_reducible refine (KND.out IsR.mk _ HB.out).mono ?_); rintro e w2 ⟨rfl, hb2⟩; have HR := Aside0.mk ((hb2.block w.heap.size (blk_lt HR.out)).trans HR.out); have HB := Aside0.mk (below_step HB.out hb2); clear hb2))
            go_ret2
            exact ⟨_, _, rfl, ⟨fun e => absurd e (by decide), fun h => absurd h HNO.out⟩, fun e => absurd e (by decide), HB.out⟩
      · obtain rfl : i = code.length := by omega
        go_wp2
        go_ret2
        exact ⟨_, _, rfl, ⟨fun _ => ⟨HRL.out.1, HRL.out.2.1, HRL.out.2.2.1, HRL.out.2.2.2, HI.out⟩, fun _ => rfl⟩, fun _ => rfl, HB.out⟩
  · have HN := Aside0.mk (fun h => hall (HSP.out h))
    obtain rfl | ⟨rfl, rfl⟩ | ⟨rfl, rfl, h3⟩ | ⟨rfl, rfl, h3, h4⟩ | ⟨rfl, rfl, h3, h4, h5⟩ | ⟨rfl, rfl, h3, h4, h5, h6⟩ : b1 = false ∨ (b1 = true ∧ b2 = false) ∨ (b1 = true ∧ b2 = true ∧ (la.size : Int) > 8) ∨ (b1 = true ∧ b2 = true ∧ ¬ (la.size : Int) > 8 ∧ (gl.size : Int) > 4) ∨ (b1 = true ∧ b2 = true ∧ ¬ (la.size : Int) > 8 ∧ ¬ (gl.size : Int) > 4 ∧ (code.length : Int) < 1) ∨ (b1 = true ∧ b2 = true ∧ ¬ (la.size : Int) > 8 ∧ ¬ (gl.size : Int) > 4 ∧ ¬ (code.length : Int) < 1 ∧ (code.length : Int) > 200) := by
      cases b1
      · exact .inl rfl
      · cases b2
        · exact .inr (.inl ⟨rfl, rfl⟩)
        · refine .inr (.inr ?_)
          simp only [true_and] at hall ⊢
          omega
    all_goals
      clear hall
      go_enter Tryd.func40, Tryd.ntmps40
      go_wp2_with (first
        | (go_at_call 51; (with_reducible refine (REF1.out _ ?side1).mono ?_); (case side1 => exact below_alloc HW.out _); rintro e w1 ⟨rfl, hb1⟩; have R0 := (hb1.block w.heap.size (by simp)).trans (heap_alloc_new w _); have kR := fun j => cell_of_row w1 w.heap.size j _ _ _ R0; have HW := Aside0.mk (below_step (below_alloc HW.out _) hb1); clear hb1)
        | (go_at_call 51; (with_reducible refine (REF2.out _ HW.out).mono ?_); rintro e w1 ⟨rfl, hb1⟩; have R0 := (hb1.block w.heap.size (blk_lt R0)).trans R0; have kR := fun j => cell_of_row w1 w.heap.size j _ _ _ R0; have HW := Aside0.mk (below_step HW.out hb1); clear hb1))
      go_ret2
      exact ⟨_, _, rfl, ⟨fun e => absurd e (by decide), fun h => absurd h HN.out⟩, fun e => absurd e (by decide), HW.out⟩
end
end Go.Proofs.YtfkfpcciacplkaaDoor.PL

namespace Go.Proofs.YtfkfpcciacplkaaDoor.ST
open Go.RowKit Go.Proofs.YtfkfpcciacplkaaDoorW.PrintWords Go.Proofs.YtfkfpcciacplkaaDoor.Scan Go.Proofs.YtfkfpcciacplkaaDoor.F Go.Proofs.YtfkfpcciacplkaaDoor.KP Go.Proofs.YtfkfpcciacplkaaDoor.PL Go.Proofs.YtfkfpcciacplkaaDoor.ST0
set_option linter.unusedVariables false
set_option linter.unusedSectionVars false
set_option linter.unusedSimpArgs false
theorem CkO.of {p : Pg} {w : World} (h : p.In w) (hs : SpP p) : CkO w p.A0 p.c0 p.ts p.la p.gl p.A3 p.c3 p.code := fun W hW => by
  refine (Check_c p W (h.below hW)).mono ?_
  rintro e w' ⟨r, er, rfl, h1, _, h2⟩
  obtain rfl := h1.2 hs
  exact ⟨⟨r, rfl⟩, h2⟩
theorem LW.keep {Ws wr w' : World} {s : PS} {cs : Array Value} (h : LW Ws wr s cs) (hb : Below wr.heap.size wr w') : LW Ws w' s cs :=
  ⟨below_step h.below hb, (hb.block _ (blk_lt h.row)).trans h.row, h.is.below hb⟩
set_option maxHeartbeats 4000000 in
set_option maxRecDepth 100000 in
theorem refRun_c (p : Pg) (w : World) (h : p.In w) (hs : SpP p) (fuel : Nat) (hf : fuel ≤ 900000) : Calls Tryd.prog 38 #[p.v, .int .i64 fuel] w fun e w' =>
    ∃ A c, e = .returned (.tuple #[.slice A (runP (size p.ts) (atv p.ts p.la) p.code fuel PS0).1.length c, .int .i64 (runP (size p.ts) (atv p.ts p.la) p.code fuel PS0).2]) ∧ (runP (size p.ts) (atv p.ts p.la) p.code fuel PS0).1.length ≤ c ∧ Kd.C (Kd.int .i64) w' A (runP (size p.ts) (atv p.ts p.la) p.code fuel PS0).1.length (runP (size p.ts) (atv p.ts p.la) p.code fuel PS0).1 ∧ Below w.heap.size w w' := by
  obtain ⟨R, hR⟩ : ∃ R, R = runP (size p.ts) (atv p.ts p.la) p.code fuel PS0 := ⟨_, rfl⟩
  rw [← hR]
  have HP := Aside0.mk h
  have HSP := Aside0.mk hs
  have CK := Aside0.mk (CkO.of h hs)
  have HW := Aside0.mk (Below.refl w.heap.size w)
  have HR := Aside0.mk hR
  clear h hs hR
  obtain ⟨A0, c0, ts, la, gl, A3, c3, code⟩ := p
  simp only at CK HR
  show Calls _ _ #[.agg #[.slice A0 ts.length c0, .string la, .string gl, .slice A3 code.length c3], .int .i64 fuel] _ _
  have f0 : ¬ (fuel : Int) < 0 := by omega
  go_enter Tryd.func38, Tryd.ntmps38
  go_wp2_with (go_at_call 40; (with_reducible refine (CK.out _ ?side1).mono ?_); (case side1 => exact below_alloc HW.out _); rintro e w1 ⟨⟨r0, rfl⟩, hb1⟩; have HR0 := Aside0.mk ((hb1.block w.heap.size (by simp)).trans (heap_alloc_new w _)); have kR := fun j => cell_of_row w1 w.heap.size j _ _ _ HR0.out; have HW1 := Aside0.mk (below_step (below_alloc HW.out _) hb1); clear hb1)
  have hL0 := Aside0.mk (LW.start w1)
  have hX := HR0.out
  clear kR
  go_loopw [9] (fun f wr => ∃ (k : Nat) (s : PS) (cs : Array Value), f = .int .i64 k ∧ LW w1 wr s cs ∧ ((k ≤ fuel ∧ SInv ts la gl code k s ∧ runP (size ts) (atv ts la) code (fuel - k) s = R) ∨ (k = fuel + 1 ∧ (s.out, (10 : Int)) = R))) (fun f _ => fuel + 1 - (intOf f).toNat)
  case atStart => exact ⟨0, PS0, _, rfl, hL0.out, .inl ⟨Nat.zero_le _, SInv.start .., by rw [Nat.sub_zero]; exact HR.out.symm⟩⟩
  case round =>
    obtain ⟨k, s, cs, rfl, hL, hk⟩ := hrel
    have hlt3 : w.heap.size < w1.heap.size := blk_lt hX
    obtain ⟨wr', hwr⟩ : ∃ x : World, x = wr := ⟨_, rfl⟩
    subst hwr
    have HL := Aside0.mk hL
    have hxr := (hL.below.block w.heap.size hlt3).trans hX
    have HXR := Aside0.mk hxr
    have kp := fun j => cell_of_row wr' w.heap.size j _ _ _ hxr
    obtain ⟨oA, hs, oc, tA, tc, ecs, ehs, hcell⟩ := hL.cell
    have kout : wr'.cell? ⟨w1.heap.size, 21, none⟩ = some (.slice tA s.out.length tc) := hcell 21 _ rfl
    have HTA := Aside0.mk (show Kd.C (Kd.int .i64) wr' tA s.out.length s.out ∧ s.out.length ≤ tc by
      obtain ⟨oA', hs', oc', tA', tc', e', h1', h2', h3', h4'⟩ := hL.is
      have := e'.symm.trans ecs
      have e21 := congrArg (fun a : Array Value => a[21]?) this
      have : (Value.slice tA' s.out.length tc') = .slice tA s.out.length tc := by simpa [stA] using e21
      injection this with a1 _ a2
      subst a1 a2
      exact ⟨h4'.now, h2'⟩)
    have HB := Aside0.mk (below_step HW1.out hL.below)
    clear hxr hcell ecs
    rcases hk with ⟨hk, hI, hrun⟩ | ⟨rfl, hrun⟩
    · have hcz := hL.is.size
      have hob := hI.objs
      have hou := hI.out
      obtain ⟨ty, hty⟩ := hI.wt
      obtain ⟨u, d, er, hst⟩ : ∃ u d er, stepP (size ts) (atv ts la) code s = (u, d, er) := ⟨_, _, _, rfl⟩
      have STEP : Aside0 (∀ W, Below wr'.heap.size wr' W → Calls Tryd.prog 50 #[.agg #[.slice A0 ts.length c0, .string la, .string gl, .slice A3 code.length c3], .agg cs] W fun e w' =>
          ∃ cs', e = .returned (.tuple #[.agg cs', .bool d, .int .i64 er]) ∧ IsS w' (fun k => k ≠ w1.heap.size ∨ W.heap.size ≤ k) u cs' ∧ Below W.heap.size W w') := ⟨fun W hW => by
        have hb := below_step (below_step HW1.out hL.below) hW
        have hp := HP.out.below hb
        have := Step_ps (P := fun k => k ≠ w1.heap.size) hp.hT hp.hc0 hp.hC hp.hc3 (CK.out.below hb) HSP.out hp.hl hp.hs hp.hla hp.hgl hp.hw (hL.is.below hW) hty hI.pc0 hI.pc1 (by omega) (by omega)
        rw [hst] at this
        exact this⟩
      have HST := Aside0.mk hst
      have HI := Aside0.mk hI
      have HRUN := Aside0.mk hrun
      have HWN := Aside0.mk (show ∀ W : World, Below wr'.heap.size wr' W → W.heap[w1.heap.size]? = some (.cells cs 102 (0, 0)) from fun W hW => (hW.block _ (blk_lt hL.row)).trans hL.row)
      have hone := hL.is.one
      have hrow := hL.row
      have HWN0 := Aside0.mk hrow
      have k0 : (k : Int) ≤ fuel := by omega
      clear hI hrun hst hty hL
      cases d with
      | true =>
        go_wp2_with (first
          | (go_at_call 50; (with_reducible refine (STEP.out wr' (Below.refl _ _)).mono ?_); rintro e w6 ⟨cs', rfl, hS6, hb6⟩; have hz6 := hS6.size; have ho6 := hS6.one; have b6 := HWN.out w6 hb6; have hz36 := blk_lt b6; have k21 := (hb6.cell (p := ⟨w1.heap.size, 21, none⟩) (blk_lt HWN0.out)).trans kout; have HS6 := Aside0.mk hS6; have HB6 := Aside0.mk hb6; clear hS6 hb6)
          | (apply ldS; (with_reducible rfl); rfl; rfl; exact rowT; (first | rfl | assumption))
          | (apply srS; (with_reducible rfl); rfl; rfl; rfl; exact rowT; (first | rfl | assumption); (first | rfl | assumption); (first | rfl | assumption); exact setT))
        go_ret2
        have hr := HRUN.out
        have e1 : runP (size ts) (atv ts la) code (fuel - k) s = (s.out, er) := by
          cases hh : fuel - k <;> (unfold runP; rw [HST.out]; simp (config := {decide := true}) [*])
        rw [e1] at hr
        subst hr
        exact ⟨tA, tc, rfl, HTA.out.2, Kd.C_alloc (Kd.C_below HTA.out.1 HB6.out) _, below_alloc (below_step HB.out HB6.out) _⟩
      | false =>
        by_cases her : er = 0
        · subst her
          by_cases hkf : k < fuel
          · have k1 : (k : Int) < fuel := by omega
            go_wp2_with (first
          | (go_at_call 50; (with_reducible refine (STEP.out wr' (Below.refl _ _)).mono ?_); rintro e w6 ⟨cs', rfl, hS6, hb6⟩; have hz6 := hS6.size; have ho6 := hS6.one; have b6 := HWN.out w6 hb6; have hz36 := blk_lt b6; have k21 := (hb6.cell (p := ⟨w1.heap.size, 21, none⟩) (blk_lt HWN0.out)).trans kout; have HS6 := Aside0.mk hS6; have HB6 := Aside0.mk hb6; clear hS6 hb6)
          | (apply ldS; (with_reducible rfl); rfl; rfl; exact rowT; (first | rfl | assumption))
          | (apply srS; (with_reducible rfl); rfl; rfl; rfl; exact rowT; (first | rfl | assumption); (first | rfl | assumption); (first | rfl | assumption); exact setT))
            go_roundw
            case rel =>
              have hs2 := SInv.step HSP.out HP.out.hw HI.out HST.out
              refine ⟨k + 1, u, cs', by go_num, HL.out.next HB6.out HS6.out _, .inl ⟨by omega, hs2.2, ?_⟩⟩
              have hr := HRUN.out
              rw [show fuel - k = (fuel - (k + 1)) + 1 by omega] at hr
              unfold runP at hr
              rw [HST.out] at hr
              simpa using hr
            case measure =>
              simp [intOf]
              omega
          · have k1 : ¬ (k : Int) < fuel := by omega
            go_wp2_with (first
          | (go_at_call 50; (with_reducible refine (STEP.out wr' (Below.refl _ _)).mono ?_); rintro e w6 ⟨cs', rfl, hS6, hb6⟩; have hz6 := hS6.size; have ho6 := hS6.one; have b6 := HWN.out w6 hb6; have hz36 := blk_lt b6; have k21 := (hb6.cell (p := ⟨w1.heap.size, 21, none⟩) (blk_lt HWN0.out)).trans kout; have HS6 := Aside0.mk hS6; have HB6 := Aside0.mk hb6; clear hS6 hb6)
          | (apply ldS; (with_reducible rfl); rfl; rfl; exact rowT; (first | rfl | assumption))
          | (apply srS; (with_reducible rfl); rfl; rfl; rfl; exact rowT; (first | rfl | assumption); (first | rfl | assumption); (first | rfl | assumption); exact setT))
            go_roundw
            case rel =>
              refine ⟨k + 1, s, cs, by go_num, HL.out.keep (below_alloc HB6.out _), .inr ⟨by omega, ?_⟩⟩
              have hr := HRUN.out
              rw [show fuel - k = 0 by omega] at hr
              unfold runP at hr
              rw [HST.out] at hr
              simpa using hr
            case measure =>
              simp [intOf]
              omega
        · have her' : (er != 0) = true := bne_iff_ne.2 her
          go_wp2_with (first
          | (go_at_call 50; (with_reducible refine (STEP.out wr' (Below.refl _ _)).mono ?_); rintro e w6 ⟨cs', rfl, hS6, hb6⟩; have hz6 := hS6.size; have ho6 := hS6.one; have b6 := HWN.out w6 hb6; have hz36 := blk_lt b6; have k21 := (hb6.cell (p := ⟨w1.heap.size, 21, none⟩) (blk_lt HWN0.out)).trans kout; have HS6 := Aside0.mk hS6; have HB6 := Aside0.mk hb6; clear hS6 hb6)
          | (apply ldS; (with_reducible rfl); rfl; rfl; exact rowT; (first | rfl | assumption))
          | (apply srS; (with_reducible rfl); rfl; rfl; rfl; exact rowT; (first | rfl | assumption); (first | rfl | assumption); (first | rfl | assumption); exact setT))
          go_ret2
          have hr := HRUN.out
          have e1 : runP (size ts) (atv ts la) code (fuel - k) s = (s.out, er) := by
            cases hh : fuel - k <;> (unfold runP; rw [HST.out]; simp (config := {decide := true}) [*])
          rw [e1] at hr
          subst hr
          exact ⟨tA, tc, rfl, HTA.out.2, Kd.C_alloc (Kd.C_below HTA.out.1 HB6.out) _, below_alloc (below_step HB.out HB6.out) _⟩
    · have k0 : ¬ ((fuel + 1 : Nat) : Int) ≤ fuel := by omega
      have k0' : ¬ (fuel : Int) + 1 ≤ fuel := by omega
      go_wp2
      go_ret2
      subst hrun
      exact ⟨tA, tc, rfl, HTA.out.2, HTA.out.1, HB.out⟩
set_option maxHeartbeats 4000000 in
set_option maxRecDepth 100000 in
theorem refRun_bad (p : Pg) (w : World) (h : p.In w) (hs : ¬ SpP p) (s : Int) : Calls Tryd.prog 38 #[p.v, .int .i64 s] w fun e w' => e = .returned (.tuple #[.slice none 0 0, .int .i64 2]) ∧ Below w.heap.size w w' := by
  have CK := Aside0.mk (show ∀ W, Below w.heap.size w W → Calls Tryd.prog 40 #[.agg #[.slice p.A0 p.ts.length p.c0, .string p.la, .string p.gl, .slice p.A3 p.code.length p.c3]] W fun e w' => ∃ r er : Int, e = .returned (.tuple #[.int .i64 r, .int .i64 er]) ∧ (er != 0) = true ∧ Below W.heap.size W w' from fun W hW => by
    refine (Check_c p W (h.below hW)).mono ?_
    rintro e w' ⟨r, er, rfl, h1, _, h2⟩
    exact ⟨r, er, rfl, bne_iff_ne.2 fun e => hs (h1.1 e), h2⟩)
  have HW := Aside0.mk (Below.refl w.heap.size w)
  clear h hs
  obtain ⟨A0, c0, ts, la, gl, A3, c3, code⟩ := p
  simp only at CK
  show Calls _ _ #[.agg #[.slice A0 ts.length c0, .string la, .string gl, .slice A3 code.length c3], .int .i64 s] _ _
  go_enter Tryd.func38, Tryd.ntmps38
  go_wp2_with (go_at_call 40; (with_reducible refine (CK.out _ ?side1).mono ?_); (case side1 => exact below_alloc HW.out _); rintro e w1 ⟨r0, er, rfl, her, hb1⟩; have HW := Aside0.mk (below_step (below_alloc HW.out _) hb1); clear hb1)
  go_ret2
  exact ⟨rfl, HW.out⟩
end Go.Proofs.YtfkfpcciacplkaaDoor.ST

namespace Go.Proofs.YtfkfpcciacplkaaDoor.TMO
open Go.RowKit Go.Proofs.YtfkfpcciacplkaaDoorW.PrintWords Go.Proofs.YtfkfpcciacplkaaDoorW.PrintLast Go.Proofs.YtfkfpcciacplkaaDoorW.PrintMore Go.Proofs.YtfkfpcciacplkaaDoor.Scan Go.Proofs.YtfkfpcciacplkaaDoor.F Go.Proofs.YtfkfpcciacplkaaDoor.KP Go.Proofs.YtfkfpcciacplkaaDoor.CR Go.Proofs.YtfkfpcciacplkaaDoor.ST0 Go.Proofs.YtfkfpcciacplkaaDoor.ST Go.Proofs.YtfkfpcciacplkaaDoor.PL Go.Proofs.YtfkfpcciacplkaaDoor.TRA Go.Proofs.YtfkfpcciacplkaaDoor.TMD Go.Proofs.YtfkfpcciacplkaaDoor.MS Go.Proofs.YtfkfpcciacplkaaDoor.TAL
set_option linter.unusedVariables false
set_option linter.unusedSectionVars false
set_option linter.unusedSimpArgs false
theorem t_ite {α : Type} {c : Prop} [Decidable c] {f g : Nat → Option α} (hf : c → ∃ r, Ev f r) (hg : ¬ c → ∃ r, Ev g r) : ∃ r, Ev (fun k => if c then f k else g k) r := by
  by_cases h : c
  · obtain ⟨r, hr⟩ := hf h
    exact ⟨r, Ev.congr (fun k => if_pos h) hr⟩
  · obtain ⟨r, hr⟩ := hg h
    exact ⟨r, Ev.congr (fun k => if_neg h) hr⟩
theorem t_step {α : Type} {g f : Nat → Option α} (h : ∀ k, g (k + 1) = f k) (k : ∃ r, Ev f r) : ∃ r, Ev g r := k.elim fun r hr => ⟨r, ev_step h hr⟩
theorem few_l0 (ts : List ByteArray) (hl : (ts.length : Int) ≤ 9223372036854775807) (la gl : ByteArray) (code : List S68) : ∀ (d i : Nat) (a : Int), i + d = ts.length → ∃ r, Ev (fun k => lockstitchlaw04_Few.l0 k a ts (ts.length : Int) (i : Int) ts la gl code) r := by
  intro d
  induction d with
  | zero =>
    intro i a hi
    exact t_step (fun k => lockstitchlaw04_Few.l0.eq_2 ..) (t_ite (fun h => absurd h (by omega)) fun _ => t_ite (fun _ => ⟨_, ev_const⟩) fun _ => ⟨_, ev_const⟩)
  | succ d ih =>
    intro i a hi
    refine t_step (fun k => lockstitchlaw04_Few.l0.eq_2 ..) (t_ite (fun _ => t_ite (fun _ => t_ite (fun _ => ?_) fun h => absurd (by omega) h) fun h => absurd (by omega) h) fun h => absurd (by omega) h)
    rw [show wrap64 ((i : Int) + 1) = ((i + 1 : Nat) : Int) by unfold wrap64; omega]
    exact ih (i + 1) _ (by omega)
theorem few_A (p : Pg) (w : World) (h : p.In w) : ∃ b, ∀ W, Below w.heap.size w W → Calls Tryd.prog 24 #[p.v] W fun e w' => e = .returned (.bool b) ∧ Below W.heap.size W w' := by
  have ht : ∃ b, Ev (fun k => lockstitchlaw04_Few.f k p.ts p.la p.gl p.code) b := few_l0 p.ts h.hl p.la p.gl p.code p.ts.length 0 _ (Nat.zero_add _)
  obtain ⟨b, hb⟩ := ht
  obtain ⟨k, hk⟩ := ev_at hb
  exact ⟨b, fun W hW => lockstitchlaw04_Few.calls k p.A0 p.c0 p.ts p.la p.gl p.A3 p.c3 p.code b W (h.below hW).hT h.hc0 (h.below hW).hC h.hc3 hk⟩
section
variable (p : Pg) (w : World) (v : Value) (o : Bool) (e s y : Int) (hs : s < 0 ∨ s > 100000)
include hs
theorem pModel_out : Calls Tryd.prog 25 #[p.v, .agg #[v, .bool o, .int .i64 e, .int .i64 s, .int .i64 y]] w fun x w' => x = .returned (.bool false) ∧ Below w.heap.size w w' := by
  show Calls _ _ #[.agg #[.slice p.A0 p.ts.length p.c0, .string p.la, .string p.gl, .slice p.A3 p.code.length p.c3], _] _ _
  rcases Int.lt_or_le s 0 with h | h
  · go_enter Tryd.func25, Tryd.ntmps25
    go_wp2
    go_ret
    exact ⟨rfl, below_alloc (below_alloc (Below.refl _ _) _) _⟩
  · have h0 : ¬ s < 0 := by omega
    have h1 : s > 100000 := by omega
    go_enter Tryd.func25, Tryd.ntmps25
    go_wp2
    go_ret
    exact ⟨rfl, below_alloc (below_alloc (Below.refl _ _) _) _⟩
theorem rModel_out : Calls Tryd.prog 26 #[p.v, .agg #[v, .bool o, .int .i64 e, .int .i64 s, .int .i64 y]] w fun x w' => x = .returned (.bool false) ∧ Below w.heap.size w w' := by
  show Calls _ _ #[.agg #[.slice p.A0 p.ts.length p.c0, .string p.la, .string p.gl, .slice p.A3 p.code.length p.c3], _] _ _
  rcases Int.lt_or_le s 0 with h | h
  · go_enter Tryd.func26, Tryd.ntmps26
    go_wp2
    go_ret
    exact ⟨rfl, below_alloc (below_alloc (Below.refl _ _) _) _⟩
  · have h0 : ¬ s < 0 := by omega
    have h1 : s > 100000 := by omega
    go_enter Tryd.func26, Tryd.ntmps26
    go_wp2
    go_ret
    exact ⟨rfl, below_alloc (below_alloc (Below.refl _ _) _) _⟩
end
set_option maxHeartbeats 4000000 in
set_option maxRecDepth 100000 in
theorem pRun_bad (p : Pg) (w : World) (h : p.On w) (hs : ¬ SpP p) (s : Int) : Calls Tryd.prog 37 #[p.v, .int .i64 s] w fun e w' => e = .returned (.tuple #[.slice none 0 0, .int .i64 2]) ∧ Below w.heap.size w w' := by
  have CK := Aside0.mk (show ∀ W, Below w.heap.size w W → Calls Tryd.prog 41 #[.agg #[.slice p.A0 p.ts.length p.c0, .string p.la, .string p.gl, .slice p.A3 p.code.length p.c3]] W fun e w' => ∃ r er : Int, e = .returned (.tuple #[.int .i64 r, .int .i64 er]) ∧ (er != 0) = true ∧ Below W.heap.size W w' from fun W hW => by
    refine (pCheck_c p W (h.below hW)).mono ?_
    rintro e w' ⟨r, er, rfl, h1, _, h2⟩
    exact ⟨r, er, rfl, bne_iff_ne.2 fun e => hs (h1.1 e), h2⟩)
  have HW := Aside0.mk (Below.refl w.heap.size w)
  clear h hs
  obtain ⟨A0, c0, ts, la, gl, A3, c3, code⟩ := p
  simp only at CK
  show Calls _ _ #[.agg #[.slice A0 ts.length c0, .string la, .string gl, .slice A3 code.length c3], .int .i64 s] _ _
  go_enter Tryd.func37, Tryd.ntmps37
  go_wp2_with (go_at_call 41; (with_reducible refine (CK.out _ ?side1).mono ?_); (case side1 => exact below_alloc HW.out _); rintro e w1 ⟨r0, er, rfl, her, hb1⟩; have HW := Aside0.mk (below_step (below_alloc HW.out _) hb1); clear hb1)
  go_ret2
  exact ⟨rfl, HW.out⟩
theorem both (p : Pg) (w : World) (hp : p.On w) (hin : p.In w) (A : Option Addr) (c : Nat) (l : List Int) (o : Bool) (e s y : Int) (hl : Kd.C (Kd.int .i64) w A l.length l) (hc : l.length ≤ c) (hs : s ≤ 300 ∨ s > 100000) :
    ∃ b, ∀ W, Below w.heap.size w W → Calls Tryd.prog 25 #[p.v, .agg #[.slice A l.length c, .bool o, .int .i64 e, .int .i64 s, .int .i64 y]] W (fun x w' => x = .returned (.bool b) ∧ Below W.heap.size W w') ∧
      Calls Tryd.prog 26 #[p.v, .agg #[.slice A l.length c, .bool o, .int .i64 e, .int .i64 s, .int .i64 y]] W (fun x w' => x = .returned (.bool b) ∧ Below W.heap.size W w') := by
  by_cases ho : s < 0 ∨ s > 100000
  · exact ⟨false, fun W _ => ⟨pModel_out p W _ o e s y ho, rModel_out p W _ o e s y ho⟩⟩
  · obtain ⟨k, rfl⟩ := Int.eq_ofNat_of_zero_le (show 0 ≤ s by omega)
    by_cases hsp : SpP p
    · refine ⟨mdl (runP (size p.ts) (atv p.ts p.la) p.code k PS0) l o e, fun W hW => ⟨pModel_c W p _ A c l o e _ y (Kd.C_below hl hW) hc (by omega) (by omega) fun W' hW' => ?_, refModel_c W p _ A c l o e _ y (Kd.C_below hl hW) hc (by omega) (by omega) fun W' hW' => ?_⟩⟩
      · exact pRun_c p W' ((hp.below hW).below hW') hsp k (by omega)
      · exact refRun_c p W' ((hin.below hW).below hW') hsp k (by omega)
    · refine ⟨mdl ([], 2) l o e, fun W hW => ⟨pModel_c W p ([], 2) A c l o e _ y (Kd.C_below hl hW) hc (by omega) (by omega) fun W' hW' => ?_, refModel_c W p ([], 2) A c l o e _ y (Kd.C_below hl hW) hc (by omega) (by omega) fun W' hW' => ?_⟩⟩
      · refine (pRun_bad p W' ((hp.below hW).below hW') hsp _).mono ?_
        rintro x w' ⟨rfl, hb⟩
        exact ⟨none, 0, rfl, Nat.le_refl _, Kd.C_nil _ _, hb⟩
      · refine (refRun_bad p W' ((hin.below hW).below hW') hsp _).mono ?_
        rintro x w' ⟨rfl, hb⟩
        exact ⟨none, 0, rfl, Nat.le_refl _, Kd.C_nil _ _, hb⟩
theorem xbb (b : Bool) : (b == b) = true := by cases b <;> rfl
section
variable (w : World) (p : Pg) (hp : p.On w) (hin : p.In w) (A : Option Addr) (c : Nat) (l : List Int) (o : Bool) (e s y : Int) (hl : Kd.C (Kd.int .i64) w A l.length l) (hc : l.length ≤ c)
include hp hin hl hc
set_option maxHeartbeats 8000000 in
set_option maxRecDepth 100000 in
theorem Models_walk : Calls Tryd.prog 7 #[p.v, .agg #[.slice A l.length c, .bool o, .int .i64 e, .int .i64 s, .int .i64 y]] w fun x w' => x = .returned (.bool true) ∧ Below w.heap.size w w' := by
  obtain ⟨bf, hbf⟩ := few_A p w hin
  have FEW := Aside0.mk hbf
  have ALV := Aside0.mk (fun W (hW : Below w.heap.size w W) => alive_c W (OT_below hp.ot hW))
  obtain ⟨s', hs', hss⟩ : ∃ s', (s' ≤ 300 ∨ s' > 100000) ∧ ((s > 300 ∧ s ≤ 100000 ∧ s' = 300) ∨ (¬ (s > 300 ∧ s ≤ 100000) ∧ s' = s)) := by
    by_cases h : s > 300 ∧ s ≤ 100000
    · exact ⟨300, .inl (by omega), .inl ⟨h.1, h.2, rfl⟩⟩
    · exact ⟨s, by omega, .inr ⟨h, rfl⟩⟩
  obtain ⟨b, hb⟩ := both p w hp hin A c l o e s' y hl hc hs'
  have MOD := Aside0.mk (fun W (hW : Below w.heap.size w W) => (hb W hW).1)
  have RMO := Aside0.mk (fun W (hW : Below w.heap.size w W) => (hb W hW).2)
  have HX := xbb b
  have hmax := Kd.C_max hin.hC
  have hmax2 := Kd.C_max hl
  clear hp hin hl hc hbf hb
  obtain ⟨A0, c0, ts, la, gl, A3, c3, code⟩ := p
  obtain ⟨n0, hn0⟩ : ∃ n0, n0 = ts.length := ⟨_, rfl⟩
  obtain ⟨n3, hn3⟩ : ∃ n3, n3 = code.length := ⟨_, rfl⟩
  obtain ⟨nl, hnl⟩ : ∃ nl, nl = l.length := ⟨_, rfl⟩
  have HW := Aside0.mk (Below.refl w.heap.size w)
  show Calls _ _ #[.agg #[.slice A0 ts.length c0, .string la, .string gl, .slice A3 code.length c3], _] _ _
  change Aside0 (∀ W, Below w.heap.size w W → Calls Tryd.prog 24 #[.agg #[.slice A0 ts.length c0, .string la, .string gl, .slice A3 code.length c3]] W fun e w' => e = .returned (.bool bf) ∧ Below W.heap.size W w') at FEW
  change Aside0 (∀ W, Below w.heap.size w W → Calls Tryd.prog 25 #[.agg #[.slice A0 ts.length c0, .string la, .string gl, .slice A3 code.length c3], .agg #[.slice A l.length c, .bool o, .int .i64 e, .int .i64 s', .int .i64 y]] W (fun x w' => x = .returned (.bool b) ∧ Below W.heap.size W w')) at MOD
  change Aside0 (∀ W, Below w.heap.size w W → Calls Tryd.prog 26 #[.agg #[.slice A0 ts.length c0, .string la, .string gl, .slice A3 code.length c3], .agg #[.slice A l.length c, .bool o, .int .i64 e, .int .i64 s', .int .i64 y]] W (fun x w' => x = .returned (.bool b) ∧ Below W.heap.size W w')) at RMO
  change code.length ≤ 9223372036854775807 at hmax
  rw [← hn0, ← hn3, ← hnl] at MOD RMO
  rw [← hn0, ← hn3] at FEW
  rw [← hn3] at hmax
  rw [← hnl] at hmax2
  rw [← hn0, ← hn3, ← hnl]
  clear hn0 hn3 hnl
  cases bf with
  | false =>
    go_enter Tryd.func7, Tryd.ntmps7
    go_wp2_with (first
      | (go_at_call 12; (with_reducible refine (ALV.out _ ?side1).mono ?_); (case side1 => exact below_alloc (below_alloc HW.out _) _); rintro x w1 ⟨rfl, hb1⟩; have R0 := (hb1.block w.heap.size (by simp; try omega)).trans (rowT (p := _ = some (.cells _ 46 (0, 0)))); have kR := fun j => cell_of_row w1 w.heap.size j _ _ _ R0; have HW := Aside0.mk (below_step (below_alloc (below_alloc HW.out _) _) hb1); clear hb1)
      | (go_at_call 24; (with_reducible refine (FEW.out _ HW.out).mono ?_); rintro x w2 ⟨rfl, hb1⟩; have HW := Aside0.mk (below_step HW.out hb1); clear hb1))
    go_ret
    exact ⟨rfl, HW.out⟩
  | true =>
    have rest : ∀ (q1 : n3 ≤ 60) (q2 : nl ≤ 300), Calls Tryd.prog 7 #[.agg #[.slice A0 n0 c0, .string la, .string gl, .slice A3 n3 c3], .agg #[.slice A nl c, .bool o, .int .i64 e, .int .i64 s, .int .i64 y]] w fun x w' => x = .returned (.bool true) ∧ Below w.heap.size w w' := by
      intro q1 q2
      have t1 : ¬ (n3 : Int) > 60 := by omega
      have t2 : ¬ (nl : Int) > 300 := by omega
      rcases hss with ⟨g1, g2, g3⟩ | ⟨g2, g3⟩
      · have a1 : s > 300 := g1
        have a2 : s ≤ 100000 := g2
        obtain rfl := g3
        go_enter Tryd.func7, Tryd.ntmps7
        go_upto_region 7 with (first
          | (go_at_call 12; (with_reducible refine (ALV.out _ ?side1).mono ?_); (case side1 => exact below_alloc (below_alloc HW.out _) _); rintro x w1 ⟨rfl, hb1⟩; have R0 := (hb1.block w.heap.size (by simp; try omega)).trans (rowT (p := _ = some (.cells _ 46 (0, 0)))); have R1 := (hb1.block (w.heap.size + 1) (by simp)).trans (rowT (p := _ = some (.cells _ 27 (0, 0)))); have HR0 := Aside0.mk R0; have HR1 := Aside0.mk R1; have kR := fun j => cell_of_row w1 w.heap.size j _ _ _ R0; have kS := fun j => cell_of_row w1 (w.heap.size + 1) j _ _ _ R1; have HW := Aside0.mk (below_step (below_alloc (below_alloc HW.out _) _) hb1); clear hb1 R0 R1)
          | (go_at_call 24; (with_reducible refine (FEW.out _ HW.out).mono ?_); rintro x w2 ⟨rfl, hb1⟩; have HR0 := Aside0.mk ((hb1.block _ (blk_lt HR0.out)).trans HR0.out); have HR1 := Aside0.mk ((hb1.block _ (blk_lt HR1.out)).trans HR1.out); have kR := fun j => cell_of_row w2 w.heap.size j _ _ _ HR0.out; have kS := fun j => cell_of_row w2 (w.heap.size + 1) j _ _ _ HR1.out; have kF := fun j => blk_frozen HR1.out j; have HW := Aside0.mk (below_step HW.out hb1); clear hb1))
        all_goals
          obtain ⟨W0, hW0⟩ : ∃ W0 : World, W0 = w2.setCell ⟨w.heap.size + 1, 3, none⟩ (.int .i64 300) := ⟨_, rfl⟩
          have HR0 := Aside0.mk (show W0.heap[w.heap.size]? = some (.cells #[.slice A0 n0 c0, .string la, .string gl, .slice A3 n3 c3] 46 (0, 0)) by rw [hW0]; exact row_cellO _ _ (by simp) HR0.out)
          have HR1 := Aside0.mk (show W0.heap[w.heap.size + 1]? = some (.cells #[.slice A nl c, .bool o, .int .i64 e, .int .i64 300, .int .i64 y] 27 (0, 0)) by rw [hW0]; exact row_cellS _ HR1.out)
          have HW := Aside0.mk (show Below w.heap.size w W0 by rw [hW0]; exact HW.out.setCell (by simp) _)
          rw [← hW0]
          clear hW0 kR kS kF
          have e0 := (cell_of_row _ _ 0 _ _ _ HR0.out).trans (rfl : _ = some (Value.slice A0 n0 c0))
          have e1 := (cell_of_row _ _ 1 _ _ _ HR0.out).trans (rfl : _ = some (Value.string la))
          have e2 := (cell_of_row _ _ 2 _ _ _ HR0.out).trans (rfl : _ = some (Value.string gl))
          have e3 := (cell_of_row _ _ 3 _ _ _ HR0.out).trans (rfl : _ = some (Value.slice A3 n3 c3))
          have d0 := (cell_of_row _ _ 0 _ _ _ HR1.out).trans (rfl : _ = some (Value.slice A nl c))
          have d1 := (cell_of_row _ _ 1 _ _ _ HR1.out).trans (rfl : _ = some (Value.bool o))
          have d2 := (cell_of_row _ _ 2 _ _ _ HR1.out).trans (rfl : _ = some (Value.int .i64 e))
          have d3 := (cell_of_row _ _ 3 _ _ _ HR1.out).trans (rfl : _ = some (Value.int .i64 300))
          have d4 := (cell_of_row _ _ 4 _ _ _ HR1.out).trans (rfl : _ = some (Value.int .i64 y))
          go_region_held3 (fun w' => w'.cell? ⟨w.heap.size, 0, none⟩ = some (.slice A0 n0 c0) ∧ w'.cell? ⟨w.heap.size, 1, none⟩ = some (.string la) ∧ w'.cell? ⟨w.heap.size, 2, none⟩ = some (.string gl) ∧ w'.cell? ⟨w.heap.size, 3, none⟩ = some (.slice A3 n3 c3) ∧ w'.cell? ⟨w.heap.size + 1, 0, none⟩ = some (.slice A nl c) ∧ w'.cell? ⟨w.heap.size + 1, 1, none⟩ = some (.bool o) ∧ w'.cell? ⟨w.heap.size + 1, 2, none⟩ = some (.int .i64 e) ∧ w'.cell? ⟨w.heap.size + 1, 3, none⟩ = some (.int .i64 300) ∧ w'.cell? ⟨w.heap.size + 1, 4, none⟩ = some (.int .i64 y))
            (first
              | exact ⟨e0, e1, e2, e3, d0, d1, d2, d3, d4⟩
              | go_keep)
            (first
              | (go_at_call 15; (with_reducible refine (theirs_c _ _ _ _ _ _ _ _).mono ?_); rintro x w3 ⟨rfl, hb⟩; have HR0 := Aside0.mk ((hb.block _ (blk_lt HR0.out)).trans HR0.out); have HR1 := Aside0.mk ((hb.block _ (blk_lt HR1.out)).trans HR1.out); have e0 := (cell_of_row _ _ 0 _ _ _ HR0.out).trans (rfl : _ = some (Value.slice A0 n0 c0)); have e1 := (cell_of_row _ _ 1 _ _ _ HR0.out).trans (rfl : _ = some (Value.string la)); have e2 := (cell_of_row _ _ 2 _ _ _ HR0.out).trans (rfl : _ = some (Value.string gl)); have e3 := (cell_of_row _ _ 3 _ _ _ HR0.out).trans (rfl : _ = some (Value.slice A3 n3 c3)); have d0 := (cell_of_row _ _ 0 _ _ _ HR1.out).trans (rfl : _ = some (Value.slice A nl c)); have d1 := (cell_of_row _ _ 1 _ _ _ HR1.out).trans (rfl : _ = some (Value.bool o)); have d2 := (cell_of_row _ _ 2 _ _ _ HR1.out).trans (rfl : _ = some (Value.int .i64 e)); have d3 := (cell_of_row _ _ 3 _ _ _ HR1.out).trans (rfl : _ = some (Value.int .i64 300)); have d4 := (cell_of_row _ _ 4 _ _ _ HR1.out).trans (rfl : _ = some (Value.int .i64 y)); have HW := Aside0.mk (by first | exact below_step HW.out hb | exact below_step (below_drew1 HW.out) hb); clear hb)
              | (go_at_call 25; (with_reducible refine (MOD.out _ ?side1).mono ?_); (case side1 => first | exact HW.out | exact below_drew1 HW.out); rintro x w4 ⟨rfl, hb⟩; have HR0 := Aside0.mk ((hb.block _ (blk_lt HR0.out)).trans HR0.out); have HR1 := Aside0.mk ((hb.block _ (blk_lt HR1.out)).trans HR1.out); have e0 := (cell_of_row _ _ 0 _ _ _ HR0.out).trans (rfl : _ = some (Value.slice A0 n0 c0)); have e1 := (cell_of_row _ _ 1 _ _ _ HR0.out).trans (rfl : _ = some (Value.string la)); have e2 := (cell_of_row _ _ 2 _ _ _ HR0.out).trans (rfl : _ = some (Value.string gl)); have e3 := (cell_of_row _ _ 3 _ _ _ HR0.out).trans (rfl : _ = some (Value.slice A3 n3 c3)); have d0 := (cell_of_row _ _ 0 _ _ _ HR1.out).trans (rfl : _ = some (Value.slice A nl c)); have d1 := (cell_of_row _ _ 1 _ _ _ HR1.out).trans (rfl : _ = some (Value.bool o)); have d2 := (cell_of_row _ _ 2 _ _ _ HR1.out).trans (rfl : _ = some (Value.int .i64 e)); have d3 := (cell_of_row _ _ 3 _ _ _ HR1.out).trans (rfl : _ = some (Value.int .i64 300)); have d4 := (cell_of_row _ _ 4 _ _ _ HR1.out).trans (rfl : _ = some (Value.int .i64 y)); have HW := Aside0.mk (by first | exact below_step HW.out hb | exact below_step (below_drew1 HW.out) hb); clear hb)
              | (go_at_call 26; (with_reducible refine (RMO.out _ ?side1).mono ?_); (case side1 => first | exact HW.out | exact below_drew1 HW.out); rintro x w5 ⟨rfl, hb⟩; have HR0 := Aside0.mk ((hb.block _ (blk_lt HR0.out)).trans HR0.out); have HR1 := Aside0.mk ((hb.block _ (blk_lt HR1.out)).trans HR1.out); have e0 := (cell_of_row _ _ 0 _ _ _ HR0.out).trans (rfl : _ = some (Value.slice A0 n0 c0)); have e1 := (cell_of_row _ _ 1 _ _ _ HR0.out).trans (rfl : _ = some (Value.string la)); have e2 := (cell_of_row _ _ 2 _ _ _ HR0.out).trans (rfl : _ = some (Value.string gl)); have e3 := (cell_of_row _ _ 3 _ _ _ HR0.out).trans (rfl : _ = some (Value.slice A3 n3 c3)); have d0 := (cell_of_row _ _ 0 _ _ _ HR1.out).trans (rfl : _ = some (Value.slice A nl c)); have d1 := (cell_of_row _ _ 1 _ _ _ HR1.out).trans (rfl : _ = some (Value.bool o)); have d2 := (cell_of_row _ _ 2 _ _ _ HR1.out).trans (rfl : _ = some (Value.int .i64 e)); have d3 := (cell_of_row _ _ 3 _ _ _ HR1.out).trans (rfl : _ = some (Value.int .i64 300)); have d4 := (cell_of_row _ _ 4 _ _ _ HR1.out).trans (rfl : _ = some (Value.int .i64 y)); have HW := Aside0.mk (by first | exact below_step HW.out hb | exact below_step (below_drew1 HW.out) hb); clear hb))
          all_goals
            go_wp2
            go_ret
            exact ⟨rfl, HW.out⟩
      · obtain rfl := g3
        by_cases g1 : s' > 300
        · have a2 : ¬ s' ≤ 100000 := fun h => g2 ⟨g1, h⟩
          go_enter Tryd.func7, Tryd.ntmps7
          go_upto_region 7 with (first
            | (go_at_call 12; (with_reducible refine (ALV.out _ ?side1).mono ?_); (case side1 => exact below_alloc (below_alloc HW.out _) _); rintro x w1 ⟨rfl, hb1⟩; have R0 := (hb1.block w.heap.size (by simp; try omega)).trans (rowT (p := _ = some (.cells _ 46 (0, 0)))); have R1 := (hb1.block (w.heap.size + 1) (by simp)).trans (rowT (p := _ = some (.cells _ 27 (0, 0)))); have HR0 := Aside0.mk R0; have HR1 := Aside0.mk R1; have kR := fun j => cell_of_row w1 w.heap.size j _ _ _ R0; have kS := fun j => cell_of_row w1 (w.heap.size + 1) j _ _ _ R1; have HW := Aside0.mk (below_step (below_alloc (below_alloc HW.out _) _) hb1); clear hb1 R0 R1)
            | (go_at_call 24; (with_reducible refine (FEW.out _ HW.out).mono ?_); rintro x w2 ⟨rfl, hb1⟩; have HR0 := Aside0.mk ((hb1.block _ (blk_lt HR0.out)).trans HR0.out); have HR1 := Aside0.mk ((hb1.block _ (blk_lt HR1.out)).trans HR1.out); have kR := fun j => cell_of_row w2 w.heap.size j _ _ _ HR0.out; have kS := fun j => cell_of_row w2 (w.heap.size + 1) j _ _ _ HR1.out; have kF := fun j => blk_frozen HR1.out j; have HW := Aside0.mk (below_step HW.out hb1); clear hb1))
          obtain ⟨W0, hW0⟩ : ∃ W0 : World, W0 = w2 := ⟨_, rfl⟩
          have HR0 := Aside0.mk (show W0.heap[w.heap.size]? = some (.cells #[.slice A0 n0 c0, .string la, .string gl, .slice A3 n3 c3] 46 (0, 0)) by rw [hW0]; exact HR0.out)
          have HR1 := Aside0.mk (show W0.heap[w.heap.size + 1]? = some (.cells #[.slice A nl c, .bool o, .int .i64 e, .int .i64 s', .int .i64 y] 27 (0, 0)) by rw [hW0]; exact HR1.out)
          have HW := Aside0.mk (show Below w.heap.size w W0 by rw [hW0]; exact HW.out)
          rw [← hW0]
          clear hW0 kR kS kF
          have e0 := (cell_of_row _ _ 0 _ _ _ HR0.out).trans (rfl : _ = some (Value.slice A0 n0 c0))
          have e1 := (cell_of_row _ _ 1 _ _ _ HR0.out).trans (rfl : _ = some (Value.string la))
          have e2 := (cell_of_row _ _ 2 _ _ _ HR0.out).trans (rfl : _ = some (Value.string gl))
          have e3 := (cell_of_row _ _ 3 _ _ _ HR0.out).trans (rfl : _ = some (Value.slice A3 n3 c3))
          have d0 := (cell_of_row _ _ 0 _ _ _ HR1.out).trans (rfl : _ = some (Value.slice A nl c))
          have d1 := (cell_of_row _ _ 1 _ _ _ HR1.out).trans (rfl : _ = some (Value.bool o))
          have d2 := (cell_of_row _ _ 2 _ _ _ HR1.out).trans (rfl : _ = some (Value.int .i64 e))
          have d3 := (cell_of_row _ _ 3 _ _ _ HR1.out).trans (rfl : _ = some (Value.int .i64 s'))
          have d4 := (cell_of_row _ _ 4 _ _ _ HR1.out).trans (rfl : _ = some (Value.int .i64 y))
          go_region_held3 (fun w' => w'.cell? ⟨w.heap.size, 0, none⟩ = some (.slice A0 n0 c0) ∧ w'.cell? ⟨w.heap.size, 1, none⟩ = some (.string la) ∧ w'.cell? ⟨w.heap.size, 2, none⟩ = some (.string gl) ∧ w'.cell? ⟨w.heap.size, 3, none⟩ = some (.slice A3 n3 c3) ∧ w'.cell? ⟨w.heap.size + 1, 0, none⟩ = some (.slice A nl c) ∧ w'.cell? ⟨w.heap.size + 1, 1, none⟩ = some (.bool o) ∧ w'.cell? ⟨w.heap.size + 1, 2, none⟩ = some (.int .i64 e) ∧ w'.cell? ⟨w.heap.size + 1, 3, none⟩ = some (.int .i64 s') ∧ w'.cell? ⟨w.heap.size + 1, 4, none⟩ = some (.int .i64 y))
            (first
              | exact ⟨e0, e1, e2, e3, d0, d1, d2, d3, d4⟩
              | go_keep)
            (first
              | (go_at_call 15; (with_reducible refine (theirs_c _ _ _ _ _ _ _ _).mono ?_); rintro x w3 ⟨rfl, hb⟩; have HR0 := Aside0.mk ((hb.block _ (blk_lt HR0.out)).trans HR0.out); have HR1 := Aside0.mk ((hb.block _ (blk_lt HR1.out)).trans HR1.out); have e0 := (cell_of_row _ _ 0 _ _ _ HR0.out).trans (rfl : _ = some (Value.slice A0 n0 c0)); have e1 := (cell_of_row _ _ 1 _ _ _ HR0.out).trans (rfl : _ = some (Value.string la)); have e2 := (cell_of_row _ _ 2 _ _ _ HR0.out).trans (rfl : _ = some (Value.string gl)); have e3 := (cell_of_row _ _ 3 _ _ _ HR0.out).trans (rfl : _ = some (Value.slice A3 n3 c3)); have d0 := (cell_of_row _ _ 0 _ _ _ HR1.out).trans (rfl : _ = some (Value.slice A nl c)); have d1 := (cell_of_row _ _ 1 _ _ _ HR1.out).trans (rfl : _ = some (Value.bool o)); have d2 := (cell_of_row _ _ 2 _ _ _ HR1.out).trans (rfl : _ = some (Value.int .i64 e)); have d3 := (cell_of_row _ _ 3 _ _ _ HR1.out).trans (rfl : _ = some (Value.int .i64 s')); have d4 := (cell_of_row _ _ 4 _ _ _ HR1.out).trans (rfl : _ = some (Value.int .i64 y)); have HW := Aside0.mk (by first | exact below_step HW.out hb | exact below_step (below_drew1 HW.out) hb); clear hb)
              | (go_at_call 25; (with_reducible refine (MOD.out _ ?side1).mono ?_); (case side1 => first | exact HW.out | exact below_drew1 HW.out); rintro x w4 ⟨rfl, hb⟩; have HR0 := Aside0.mk ((hb.block _ (blk_lt HR0.out)).trans HR0.out); have HR1 := Aside0.mk ((hb.block _ (blk_lt HR1.out)).trans HR1.out); have e0 := (cell_of_row _ _ 0 _ _ _ HR0.out).trans (rfl : _ = some (Value.slice A0 n0 c0)); have e1 := (cell_of_row _ _ 1 _ _ _ HR0.out).trans (rfl : _ = some (Value.string la)); have e2 := (cell_of_row _ _ 2 _ _ _ HR0.out).trans (rfl : _ = some (Value.string gl)); have e3 := (cell_of_row _ _ 3 _ _ _ HR0.out).trans (rfl : _ = some (Value.slice A3 n3 c3)); have d0 := (cell_of_row _ _ 0 _ _ _ HR1.out).trans (rfl : _ = some (Value.slice A nl c)); have d1 := (cell_of_row _ _ 1 _ _ _ HR1.out).trans (rfl : _ = some (Value.bool o)); have d2 := (cell_of_row _ _ 2 _ _ _ HR1.out).trans (rfl : _ = some (Value.int .i64 e)); have d3 := (cell_of_row _ _ 3 _ _ _ HR1.out).trans (rfl : _ = some (Value.int .i64 s')); have d4 := (cell_of_row _ _ 4 _ _ _ HR1.out).trans (rfl : _ = some (Value.int .i64 y)); have HW := Aside0.mk (by first | exact below_step HW.out hb | exact below_step (below_drew1 HW.out) hb); clear hb)
              | (go_at_call 26; (with_reducible refine (RMO.out _ ?side1).mono ?_); (case side1 => first | exact HW.out | exact below_drew1 HW.out); rintro x w5 ⟨rfl, hb⟩; have HR0 := Aside0.mk ((hb.block _ (blk_lt HR0.out)).trans HR0.out); have HR1 := Aside0.mk ((hb.block _ (blk_lt HR1.out)).trans HR1.out); have e0 := (cell_of_row _ _ 0 _ _ _ HR0.out).trans (rfl : _ = some (Value.slice A0 n0 c0)); have e1 := (cell_of_row _ _ 1 _ _ _ HR0.out).trans (rfl : _ = some (Value.string la)); have e2 := (cell_of_row _ _ 2 _ _ _ HR0.out).trans (rfl : _ = some (Value.string gl)); have e3 := (cell_of_row _ _ 3 _ _ _ HR0.out).trans (rfl : _ = some (Value.slice A3 n3 c3)); have d0 := (cell_of_row _ _ 0 _ _ _ HR1.out).trans (rfl : _ = some (Value.slice A nl c)); have d1 := (cell_of_row _ _ 1 _ _ _ HR1.out).trans (rfl : _ = some (Value.bool o)); have d2 := (cell_of_row _ _ 2 _ _ _ HR1.out).trans (rfl : _ = some (Value.int .i64 e)); have d3 := (cell_of_row _ _ 3 _ _ _ HR1.out).trans (rfl : _ = some (Value.int .i64 s')); have d4 := (cell_of_row _ _ 4 _ _ _ HR1.out).trans (rfl : _ = some (Value.int .i64 y)); have HW := Aside0.mk (by first | exact below_step HW.out hb | exact below_step (below_drew1 HW.out) hb); clear hb))
          all_goals
            go_wp2
            go_ret
            exact ⟨rfl, HW.out⟩
        · go_enter Tryd.func7, Tryd.ntmps7
          go_upto_region 7 with (first
            | (go_at_call 12; (with_reducible refine (ALV.out _ ?side1).mono ?_); (case side1 => exact below_alloc (below_alloc HW.out _) _); rintro x w1 ⟨rfl, hb1⟩; have R0 := (hb1.block w.heap.size (by simp; try omega)).trans (rowT (p := _ = some (.cells _ 46 (0, 0)))); have R1 := (hb1.block (w.heap.size + 1) (by simp)).trans (rowT (p := _ = some (.cells _ 27 (0, 0)))); have HR0 := Aside0.mk R0; have HR1 := Aside0.mk R1; have kR := fun j => cell_of_row w1 w.heap.size j _ _ _ R0; have kS := fun j => cell_of_row w1 (w.heap.size + 1) j _ _ _ R1; have HW := Aside0.mk (below_step (below_alloc (below_alloc HW.out _) _) hb1); clear hb1 R0 R1)
            | (go_at_call 24; (with_reducible refine (FEW.out _ HW.out).mono ?_); rintro x w2 ⟨rfl, hb1⟩; have HR0 := Aside0.mk ((hb1.block _ (blk_lt HR0.out)).trans HR0.out); have HR1 := Aside0.mk ((hb1.block _ (blk_lt HR1.out)).trans HR1.out); have kR := fun j => cell_of_row w2 w.heap.size j _ _ _ HR0.out; have kS := fun j => cell_of_row w2 (w.heap.size + 1) j _ _ _ HR1.out; have kF := fun j => blk_frozen HR1.out j; have HW := Aside0.mk (below_step HW.out hb1); clear hb1))
          obtain ⟨W0, hW0⟩ : ∃ W0 : World, W0 = w2 := ⟨_, rfl⟩
          have HR0 := Aside0.mk (show W0.heap[w.heap.size]? = some (.cells #[.slice A0 n0 c0, .string la, .string gl, .slice A3 n3 c3] 46 (0, 0)) by rw [hW0]; exact HR0.out)
          have HR1 := Aside0.mk (show W0.heap[w.heap.size + 1]? = some (.cells #[.slice A nl c, .bool o, .int .i64 e, .int .i64 s', .int .i64 y] 27 (0, 0)) by rw [hW0]; exact HR1.out)
          have HW := Aside0.mk (show Below w.heap.size w W0 by rw [hW0]; exact HW.out)
          rw [← hW0]
          clear hW0 kR kS kF
          have e0 := (cell_of_row _ _ 0 _ _ _ HR0.out).trans (rfl : _ = some (Value.slice A0 n0 c0))
          have e1 := (cell_of_row _ _ 1 _ _ _ HR0.out).trans (rfl : _ = some (Value.string la))
          have e2 := (cell_of_row _ _ 2 _ _ _ HR0.out).trans (rfl : _ = some (Value.string gl))
          have e3 := (cell_of_row _ _ 3 _ _ _ HR0.out).trans (rfl : _ = some (Value.slice A3 n3 c3))
          have d0 := (cell_of_row _ _ 0 _ _ _ HR1.out).trans (rfl : _ = some (Value.slice A nl c))
          have d1 := (cell_of_row _ _ 1 _ _ _ HR1.out).trans (rfl : _ = some (Value.bool o))
          have d2 := (cell_of_row _ _ 2 _ _ _ HR1.out).trans (rfl : _ = some (Value.int .i64 e))
          have d3 := (cell_of_row _ _ 3 _ _ _ HR1.out).trans (rfl : _ = some (Value.int .i64 s'))
          have d4 := (cell_of_row _ _ 4 _ _ _ HR1.out).trans (rfl : _ = some (Value.int .i64 y))
          go_region_held3 (fun w' => w'.cell? ⟨w.heap.size, 0, none⟩ = some (.slice A0 n0 c0) ∧ w'.cell? ⟨w.heap.size, 1, none⟩ = some (.string la) ∧ w'.cell? ⟨w.heap.size, 2, none⟩ = some (.string gl) ∧ w'.cell? ⟨w.heap.size, 3, none⟩ = some (.slice A3 n3 c3) ∧ w'.cell? ⟨w.heap.size + 1, 0, none⟩ = some (.slice A nl c) ∧ w'.cell? ⟨w.heap.size + 1, 1, none⟩ = some (.bool o) ∧ w'.cell? ⟨w.heap.size + 1, 2, none⟩ = some (.int .i64 e) ∧ w'.cell? ⟨w.heap.size + 1, 3, none⟩ = some (.int .i64 s') ∧ w'.cell? ⟨w.heap.size + 1, 4, none⟩ = some (.int .i64 y))
            (first
              | exact ⟨e0, e1, e2, e3, d0, d1, d2, d3, d4⟩
              | go_keep)
            (first
              | (go_at_call 15; (with_reducible refine (theirs_c _ _ _ _ _ _ _ _).mono ?_); rintro x w3 ⟨rfl, hb⟩; have HR0 := Aside0.mk ((hb.block _ (blk_lt HR0.out)).trans HR0.out); have HR1 := Aside0.mk ((hb.block _ (blk_lt HR1.out)).trans HR1.out); have e0 := (cell_of_row _ _ 0 _ _ _ HR0.out).trans (rfl : _ = some (Value.slice A0 n0 c0)); have e1 := (cell_of_row _ _ 1 _ _ _ HR0.out).trans (rfl : _ = some (Value.string la)); have e2 := (cell_of_row _ _ 2 _ _ _ HR0.out).trans (rfl : _ = some (Value.string gl)); have e3 := (cell_of_row _ _ 3 _ _ _ HR0.out).trans (rfl : _ = some (Value.slice A3 n3 c3)); have d0 := (cell_of_row _ _ 0 _ _ _ HR1.out).trans (rfl : _ = some (Value.slice A nl c)); have d1 := (cell_of_row _ _ 1 _ _ _ HR1.out).trans (rfl : _ = some (Value.bool o)); have d2 := (cell_of_row _ _ 2 _ _ _ HR1.out).trans (rfl : _ = some (Value.int .i64 e)); have d3 := (cell_of_row _ _ 3 _ _ _ HR1.out).trans (rfl : _ = some (Value.int .i64 s')); have d4 := (cell_of_row _ _ 4 _ _ _ HR1.out).trans (rfl : _ = some (Value.int .i64 y)); have HW := Aside0.mk (by first | exact below_step HW.out hb | exact below_step (below_drew1 HW.out) hb); clear hb)
              | (go_at_call 25; (with_reducible refine (MOD.out _ ?side1).mono ?_); (case side1 => first | exact HW.out | exact below_drew1 HW.out); rintro x w4 ⟨rfl, hb⟩; have HR0 := Aside0.mk ((hb.block _ (blk_lt HR0.out)).trans HR0.out); have HR1 := Aside0.mk ((hb.block _ (blk_lt HR1.out)).trans HR1.out); have e0 := (cell_of_row _ _ 0 _ _ _ HR0.out).trans (rfl : _ = some (Value.slice A0 n0 c0)); have e1 := (cell_of_row _ _ 1 _ _ _ HR0.out).trans (rfl : _ = some (Value.string la)); have e2 := (cell_of_row _ _ 2 _ _ _ HR0.out).trans (rfl : _ = some (Value.string gl)); have e3 := (cell_of_row _ _ 3 _ _ _ HR0.out).trans (rfl : _ = some (Value.slice A3 n3 c3)); have d0 := (cell_of_row _ _ 0 _ _ _ HR1.out).trans (rfl : _ = some (Value.slice A nl c)); have d1 := (cell_of_row _ _ 1 _ _ _ HR1.out).trans (rfl : _ = some (Value.bool o)); have d2 := (cell_of_row _ _ 2 _ _ _ HR1.out).trans (rfl : _ = some (Value.int .i64 e)); have d3 := (cell_of_row _ _ 3 _ _ _ HR1.out).trans (rfl : _ = some (Value.int .i64 s')); have d4 := (cell_of_row _ _ 4 _ _ _ HR1.out).trans (rfl : _ = some (Value.int .i64 y)); have HW := Aside0.mk (by first | exact below_step HW.out hb | exact below_step (below_drew1 HW.out) hb); clear hb)
              | (go_at_call 26; (with_reducible refine (RMO.out _ ?side1).mono ?_); (case side1 => first | exact HW.out | exact below_drew1 HW.out); rintro x w5 ⟨rfl, hb⟩; have HR0 := Aside0.mk ((hb.block _ (blk_lt HR0.out)).trans HR0.out); have HR1 := Aside0.mk ((hb.block _ (blk_lt HR1.out)).trans HR1.out); have e0 := (cell_of_row _ _ 0 _ _ _ HR0.out).trans (rfl : _ = some (Value.slice A0 n0 c0)); have e1 := (cell_of_row _ _ 1 _ _ _ HR0.out).trans (rfl : _ = some (Value.string la)); have e2 := (cell_of_row _ _ 2 _ _ _ HR0.out).trans (rfl : _ = some (Value.string gl)); have e3 := (cell_of_row _ _ 3 _ _ _ HR0.out).trans (rfl : _ = some (Value.slice A3 n3 c3)); have d0 := (cell_of_row _ _ 0 _ _ _ HR1.out).trans (rfl : _ = some (Value.slice A nl c)); have d1 := (cell_of_row _ _ 1 _ _ _ HR1.out).trans (rfl : _ = some (Value.bool o)); have d2 := (cell_of_row _ _ 2 _ _ _ HR1.out).trans (rfl : _ = some (Value.int .i64 e)); have d3 := (cell_of_row _ _ 3 _ _ _ HR1.out).trans (rfl : _ = some (Value.int .i64 s')); have d4 := (cell_of_row _ _ 4 _ _ _ HR1.out).trans (rfl : _ = some (Value.int .i64 y)); have HW := Aside0.mk (by first | exact below_step HW.out hb | exact below_step (below_drew1 HW.out) hb); clear hb))
          all_goals
            go_wp2
            go_ret
            exact ⟨rfl, HW.out⟩
    by_cases q1 : n3 ≤ 60
    · by_cases q2 : nl ≤ 300
      · exact rest q1 q2
      · have t1 : ¬ (n3 : Int) > 60 := by omega
        have t2 : (nl : Int) > 300 := by omega
        clear rest
        go_enter Tryd.func7, Tryd.ntmps7
        go_wp2_with (first
          | (go_at_call 12; (with_reducible refine (ALV.out _ ?side1).mono ?_); (case side1 => exact below_alloc (below_alloc HW.out _) _); rintro x w1 ⟨rfl, hb1⟩; have R0 := (hb1.block w.heap.size (by simp; try omega)).trans (rowT (p := _ = some (.cells _ 46 (0, 0)))); have R1 := (hb1.block (w.heap.size + 1) (by simp)).trans (rowT (p := _ = some (.cells _ 27 (0, 0)))); have HR0 := Aside0.mk R0; have HR1 := Aside0.mk R1; have kR := fun j => cell_of_row w1 w.heap.size j _ _ _ R0; have kS := fun j => cell_of_row w1 (w.heap.size + 1) j _ _ _ R1; have HW := Aside0.mk (below_step (below_alloc (below_alloc HW.out _) _) hb1); clear hb1)
          | (go_at_call 24; (with_reducible refine (FEW.out _ HW.out).mono ?_); rintro x w2 ⟨rfl, hb1⟩; have kR := fun j => cell_of_row w2 w.heap.size j _ _ _ ((hb1.block _ (blk_lt HR0.out)).trans HR0.out); have kS := fun j => cell_of_row w2 (w.heap.size + 1) j _ _ _ ((hb1.block _ (blk_lt HR1.out)).trans HR1.out); have HW := Aside0.mk (below_step HW.out hb1); clear hb1))
        go_ret
        exact ⟨rfl, HW.out⟩
    · have t1 : (n3 : Int) > 60 := by omega
      clear rest
      go_enter Tryd.func7, Tryd.ntmps7
      go_wp2_with (first
        | (go_at_call 12; (with_reducible refine (ALV.out _ ?side1).mono ?_); (case side1 => exact below_alloc (below_alloc HW.out _) _); rintro x w1 ⟨rfl, hb1⟩; have R0 := (hb1.block w.heap.size (by simp; try omega)).trans (rowT (p := _ = some (.cells _ 46 (0, 0)))); have HR0 := Aside0.mk R0; have kR := fun j => cell_of_row w1 w.heap.size j _ _ _ R0; have HW := Aside0.mk (below_step (below_alloc (below_alloc HW.out _) _) hb1); clear hb1)
        | (go_at_call 24; (with_reducible refine (FEW.out _ HW.out).mono ?_); rintro x w2 ⟨rfl, hb1⟩; have kR := fun j => cell_of_row w2 w.heap.size j _ _ _ ((hb1.block _ (blk_lt HR0.out)).trans HR0.out); have HW := Aside0.mk (below_step HW.out hb1); clear hb1))
      go_ret
      exact ⟨rfl, HW.out⟩
end
end Go.Proofs.YtfkfpcciacplkaaDoor.TMO

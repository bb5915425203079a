/- Texts of this claim, pruned to what it needs and laid together by prune.py. -/
import Derived.Test.YtfkfpcciacplkaaDoorMW22
import Derived.RegionTactic
import Derived.Deep.RegionWith
import Derived.Deep.RegionHeld3
import Derived.StillTailTactics
import Derived.OwnWalk
import Derived.Laws.BitsLemmas
import Derived.Deep.RegionLaw
import Derived.Deep.DrawnRows
namespace Go.Proofs.YtfkfpcciacplkaaDoor.LK
open Go.RowKit Go.Proofs.YtfkfpcciacplkaaDoorW.PrintWords Go.Proofs.YtfkfpcciacplkaaDoor.F Go.Proofs.YtfkfpcciacplkaaDoor.PL Go.Proofs.YtfkfpcciacplkaaDoor.NX Go.Proofs.YtfkfpcciacplkaaDoor.FP Go.Proofs.YtfkfpcciacplkaaDoor.FSF Go.Proofs.YtfkfpcciacplkaaDoor.FG Go.Proofs.YtfkfpcciacplkaaDoor.CHG
set_option linter.unusedVariables false
set_option linter.unusedSimpArgs false
def mvO : Oper := { dst := some 90, op := .move (.tmp 8), type := 4, pos := "leak.go:33", after := #[{ on := 11, ground := .guard }], guard := some (11, false) }
attribute [local go_sem] mvO
theorem there_c (w : World) (g L c : Nat) (A : Option Addr) (a : Nat) (ha : a ≤ 255) (hg : w.cell? ⟨g, 0, none⟩ = some (.slice A L c)) (b : Bool) (hb : decide ((a : Int) < (L : Int)) = b) :
    Calls Tryd.prog 124 #[.int .u8 a, .pointer (some ⟨g, 0, none⟩)] w fun e w' => e = .returned (.bool b) ∧ w' = w := by
  subst hb
  have ew : wrap64 (a : Int) = a := by unfold wrap64; omega
  go_enter Tryd.func124, Tryd.ntmps124
  go_wp2
  go_ret
  exact ⟨by simp, rfl⟩
def hdM (b0 L M i : Nat) : List Value := (List.range L).map fun a => if a < i then Value.slice (some ⟨b0 + a, 0, none⟩) M M else .slice none 0 0
structure MI (w wr : World) (pv : Array Value) (L M i : Nat) (D : List (List Bool)) : Prop where
  heads : wr.heap[w.heap.size + 1]? = some (.cells (hdM (w.heap.size + 3) L M i).toArray 62 (0, 0))
  ptr : wr.heap[w.heap.size + 1 + 1]? = some (.cells #[.slice (some ⟨w.heap.size + 1, 0, none⟩) L L] 155 (0, 0))
  box : wr.heap[w.heap.size]? = some (.cells pv 46 (0, 0))
  rows : ∀ a, a < i → Row wr (w.heap.size + 3 + a) (D.getD a [])
  below : Below w.heap.size w wr
theorem MI.keep {w wr w1 : World} {pv : Array Value} {L M i : Nat} {D : List (List Bool)} (h : MI w wr pv L M i D) (hb : Below wr.heap.size wr w1) : MI w w1 pv L M i D :=
  ⟨(hb.block _ (blk_lt h.heads)).trans h.heads, (hb.block _ (blk_lt h.ptr)).trans h.ptr, (hb.block _ (blk_lt h.box)).trans h.box, fun a ha => (hb.block _ (blk_lt (h.rows a ha))).trans (h.rows a ha), below_step h.below hb⟩
theorem hdM_get (b0 L M i a : Nat) (ha : a < L) : (hdM b0 L M i).toArray[a]? = some (if a < i then Value.slice (some ⟨b0 + a, 0, none⟩) M M else .slice none 0 0) := by
  rw [List.getElem?_toArray]
  unfold hdM
  rw [List.getElem?_map, List.getElem?_range ha]
  rfl
theorem hdM_set {b0 L M i : Nat} (hi : i < L) : (hdM b0 L M i).toArray.setIfInBounds i (.slice (some ⟨b0 + i, 0, none⟩) M M) = (hdM b0 L M (i + 1)).toArray := by
  apply Array.ext_getElem?
  intro a
  by_cases ha : a < L
  · rw [Array.getElem?_setIfInBounds, hdM_get _ _ _ _ _ ha]
    by_cases e : i = a
    · subst e
      rw [if_pos rfl, if_pos (by simp [hdM, hi]), hdM_get _ _ _ _ _ ha, if_pos (Nat.lt_succ_self _)]
    · rw [if_neg e, hdM_get _ _ _ _ _ ha]
      by_cases e2 : a < i
      · rw [if_pos e2, if_pos (by omega)]
      · rw [if_neg e2, if_neg (by omega)]
  · rw [Array.getElem?_eq_none (by simp [hdM]; omega), Array.getElem?_eq_none (by simp [hdM]; omega)]
theorem made_hdM (b0 L M : Nat) : madeCells #[Value.slice none 0 0] L = (hdM b0 L M 0).toArray := by
  apply Array.ext'
  rw [toList_madeCells_one]
  simp [hdM]
  exact (List.map_const' ..).symm ▸ by simp
theorem MI.head {w wr : World} {pv : Array Value} {L M i : Nat} {D : List (List Bool)} (h : MI w wr pv L M i D) (a : Nat) (ha : a < L) (hi : a < i) : wr.cell? ⟨w.heap.size + 1, a, none⟩ = some (.slice (some ⟨w.heap.size + 3 + a, 0, none⟩) M M) :=
  (blk_cell h.heads a).trans ((hdM_get _ _ _ _ _ ha).trans (by rw [if_pos hi]))
def cntW (b0 L : Nat) (w : World) : Nat := cntM ((List.range L).map fun a => hadOf w (b0 + a))
theorem MI.cnt {w wr : World} {pv : Array Value} {L M : Nat} {D : List (List Bool)} (h : MI w wr pv L M L D) (hl : D.length = L) : cntW (w.heap.size + 3) L wr = cntM D := by
  unfold cntW
  congr 1
  apply List.ext_getElem (by simp [hl])
  intro a h1 h2
  have ha : a < L := by simpa using h1
  rw [List.getElem_map, List.getElem_range, (h.rows a ha).had, List.getD_eq_getElem?_getD, List.getElem?_eq_getElem h2]
  rfl
def boolN : Value → Nat
  | .bool true => 1
  | _ => 0
theorem MI.row {w wr w1 : World} {pv : Array Value} {L M : Nat} {D : List (List Bool)} (h : MI w wr pv L M L D) (hl : D.length = L) {a : Nat} (ha : a < L) {r : List Bool} (hr : Row w1 (w.heap.size + 3 + a) r) (hc : Ch (fun k => k = w.heap.size + 3 + a) wr w1) : MI w w1 pv L M L (D.set a r) := by
  refine ⟨(hc.block _ (blk_lt h.heads) (by omega)).trans h.heads, (hc.block _ (blk_lt h.ptr) (by omega)).trans h.ptr, (hc.block _ (blk_lt h.box) (by omega)).trans h.box, fun b hb => ?_, hc.below' h.below fun k e => by omega⟩
  rw [getD_set2 _ _ _ _ (by omega)]
  by_cases e : b = a
  · subst e
    rw [if_pos rfl]
    exact hr
  · rw [if_neg e]
    exact (hc.block _ (blk_lt (h.rows b hb)) (by omega)).trans (h.rows b hb)
set_option maxHeartbeats 8000000 in
set_option maxRecDepth 100000 in
theorem May_c (p : Pg) (w : World) (h : p.On w) (hL : p.la.size ≤ 1000) (hsm : p.code.length ≤ 1000000) : Calls Tryd.prog 103 #[p.v] w fun e w' =>
    e = .returned (.slice (some ⟨w.heap.size + 1, 0, none⟩) p.la.size p.la.size) ∧ w'.heap[w.heap.size + 1]? = some (.cells (hdM (w.heap.size + 3) p.la.size (p.code.length + 1) p.la.size).toArray 62 (0, 0)) ∧ (∀ a, a < p.la.size → Row w' (w.heap.size + 3 + a) (mayR p.code p.la.size (p.code.length + 1) a)) ∧ Below w.heap.size w w' := by
  have hC := h.hC
  have HWF := h.hw
  clear h
  obtain ⟨A0, c0, ts, la, gl, A3, c3, code⟩ := p
  simp only at hC hL hsm
  change WfC code at HWF
  show Calls _ _ #[.agg #[.slice A0 ts.length c0, .string la, .string gl, .slice A3 code.length c3]] _ fun e w' => e = .returned (.slice (some ⟨w.heap.size + 1, 0, none⟩) la.size la.size) ∧ w'.heap[w.heap.size + 1]? = some (.cells (hdM (w.heap.size + 3) la.size (code.length + 1) la.size).toArray 62 (0, 0)) ∧ (∀ a, a < la.size → Row w' (w.heap.size + 3 + a) (mayR code la.size (code.length + 1) a)) ∧ Below w.heap.size w w'
  obtain ⟨L, hLe⟩ : ∃ L, L = la.size := ⟨_, rfl⟩
  have hmk1 : ∀ W : World, (Instr.makeSlice 155 (.int .i64 (la.size : Int)) (.int .i64 (la.size : Int))).run Tryd.prog W = .ok (.slice (some ⟨W.heap.size, 0, none⟩) la.size la.size) (W.alloc (.cells (madeCells #[.slice none 0 0] la.size) 62)) :=
    print_make_of (P := Tryd.prog) 155 62 (.slice none 0 0) 24 Tryd.underlying155 (by kernel_rfl) rfl (by decide) la.size (by omega)
  have hmk2 : ∀ W : World, (Instr.makeSlice 62 (.int .i64 ((code.length : Int) + 1)) (.int .i64 ((code.length : Int) + 1))).run Tryd.prog W = .ok (.slice (some ⟨W.heap.size, 0, none⟩) (code.length + 1) (code.length + 1)) (W.alloc (.cells (madeCells #[.bool false] (code.length + 1)) 4)) :=
    print_make_of (P := Tryd.prog) 62 4 (.bool false) 1 Tryd.underlying62 (by kernel_rfl) rfl (by decide) (code.length + 1) (by omega)
  have HC := Aside0.mk hC
  have HWA := Aside0.mk HWF
  clear hC HWF
  go_enter Tryd.func103, Tryd.ntmps103
  go_upto_region 2 with (fail)
  obtain ⟨W0, hW0⟩ : ∃ W0 : World, W0 = ((w.alloc (.cells #[.slice A0 ts.length c0, .string la, .string gl, .slice A3 code.length c3] 46)).alloc (.cells (madeCells #[.slice none 0 0] la.size) 62)).alloc (.cells #[.slice (some ⟨w.heap.size + 1, 0, none⟩) la.size la.size] 155) := ⟨_, rfl⟩
  have HM := Aside0.mk (show MI w W0 #[.slice A0 ts.length c0, .string la, .string gl, .slice A3 code.length c3] L (code.length + 1) 0 (List.replicate L (List.replicate (code.length + 1) false)) ∧ W0.heap.size = w.heap.size + 3 by
    rw [hW0, ← hLe]
    refine ⟨⟨?_, ST0.row_new _ _ _ (by simp), ST0.row_old _ _ _ (by simp; omega) (ST0.row_old _ _ _ (by simp) (ST0.row_new _ _ _ rfl)), fun a ha => absurd ha (Nat.not_lt_zero _), below_alloc (below_alloc (below_alloc (Below.refl _ _) _) _) _⟩, by simp⟩
    rw [made_hdM (w.heap.size + 3) L (code.length + 1)]
    exact ST0.row_old _ _ _ (by simp) (ST0.row_new _ _ _ (by simp)))
  rw [← hW0]
  rw [← hLe] at hL ⊢
  have HLE := Aside0.mk hLe
  clear hW0 hmk1 hLe
  have k2 : W0.cell? ⟨w.heap.size + 1 + 1, 0, none⟩ = some (.slice (some ⟨w.heap.size + 1, 0, none⟩) L L) := (blk_cell HM.out.1.ptr 0).trans rfl
  go_wp2
  clear k2
  go_loopw [17] (fun x wr => ∃ i : Nat, x = .int .i64 i ∧ i ≤ L ∧ Aside0 (MI w wr #[.slice A0 ts.length c0, .string la, .string gl, .slice A3 code.length c3] L (code.length + 1) i (List.replicate L (List.replicate (code.length + 1) false)) ∧ wr.heap.size = w.heap.size + 3 + i)) (fun x _ => L - (intOf x).toNat)
  case atStart => exact ⟨0, rfl, Nat.zero_le _, HM⟩
  case round =>
    clear HM
    obtain ⟨i, rfl, hi, HM⟩ := hrel
    obtain ⟨w3, hw3⟩ : ∃ w3 : World, w3 = wr := ⟨_, rfl⟩
    subst hw3
    by_cases hlt : (i : Int) < L
    · have i0 : (0 : Int) ≤ i := Int.natCast_nonneg _
      have hzz := HM.out.2
      have k2 : w3.cell? ⟨w.heap.size + 1 + 1, 0, none⟩ = some (.slice (some ⟨w.heap.size + 1, 0, none⟩) L L) := (blk_cell HM.out.1.ptr 0).trans rfl
      have k3 : w3.cell? ⟨w.heap.size, 3, none⟩ = some (.slice A3 code.length c3) := (blk_cell HM.out.1.box 3).trans rfl
      have k4 : ∀ o, (w3.alloc o).cell? ⟨w.heap.size + 1 + 1, 0, none⟩ = some (.slice (some ⟨w.heap.size + 1, 0, none⟩) L L) := fun o => (World.cell?_alloc_lt _ _ _ (show w.heap.size + 1 + 1 < w3.heap.size by omega)).trans k2
      have k5 : ∀ o, (w3.alloc o).cell? ⟨w.heap.size + 1, i, none⟩ = some (.slice none 0 0) := fun o => (World.cell?_alloc_lt _ _ _ (show w.heap.size + 1 < w3.heap.size by omega)).trans ((blk_cell HM.out.1.heads i).trans ((hdM_get _ _ _ _ _ (by omega)).trans (by rw [if_neg (Nat.lt_irrefl _)])))
      have k6 : ∀ o, (w3.alloc o).frozen? ⟨w.heap.size + 1, i, none⟩ = false := fun o => blk_frozen (ST0.row_old w3 o _ (blk_lt HM.out.1.heads) HM.out.1.heads) i
      go_upto_region 5 with (fail)
      go_region
      all_goals
        go_wp2
        refine ⟨⟨i + 1, by go_num, by omega, ⟨⟨?_, ?_, ?_, fun a ha => ?_, ?_⟩, by simp [hzz]; omega⟩⟩, by simp [intOf]; omega⟩
        · rw [← hdM_set (by omega)]
          exact ST0.row_drew (ST0.row_cellS _ (ST0.row_old _ _ _ (blk_lt HM.out.1.heads) HM.out.1.heads))
        · exact ST0.row_drew (ST0.row_cellO _ _ (by simp) (ST0.row_old _ _ _ (blk_lt HM.out.1.ptr) HM.out.1.ptr))
        · exact ST0.row_drew (ST0.row_cellO _ _ (by simp) (ST0.row_old _ _ _ (blk_lt HM.out.1.box) HM.out.1.box))
        · have hal : a < L := by omega
          have e1 : (List.replicate L (List.replicate (code.length + 1) false)).getD a [] = List.replicate (code.length + 1) false := by
            rw [List.getD_eq_getElem?_getD, List.getElem?_replicate, if_pos hal]
            rfl
          rw [e1]
          by_cases e : a < i
          · have := HM.out.1.rows a e
            rw [e1] at this
            exact ST0.row_drew (ST0.row_cellO _ _ (by simp; omega) (ST0.row_old _ _ _ (blk_lt this) this))
          · obtain rfl : a = i := by omega
            unfold Row
            rw [← madeFalse]
            exact ST0.row_drew (ST0.row_cellO _ _ (by simp; omega) (ST0.row_new w3 _ _ hzz.symm))
        · exact below_drew1 ((below_alloc HM.out.1.below _).setCell (by simp) _)
    · obtain rfl : i = L := by omega
      have HM2 := Aside0.mk (show MI w w3 #[.slice A0 ts.length c0, .string la, .string gl, .slice A3 code.length c3] i (code.length + 1) i (List.replicate i (List.replicate (code.length + 1) false)) ∧ (List.replicate i (List.replicate (code.length + 1) false)).length = i ∧ (∀ a, a < i → ((List.replicate i (List.replicate (code.length + 1) false)).getD a []).length = code.length + 1) ∧ Sdm code i (code.length + 1) (List.replicate i (List.replicate (code.length + 1) false)) ∧ Cpm code i (List.replicate i (List.replicate (code.length + 1) false)) 0 from by
        refine ⟨HM.out.1, by simp, fun a ha => ?_, fun a ha k hk hb => ?_, fun a k _ hk => absurd hk (Nat.not_lt_zero _)⟩
        · rw [List.getD_eq_getElem?_getD, List.getElem?_replicate, if_pos ha]
          simp
        · rw [List.getD_eq_getElem?_getD (l := List.replicate i _), List.getElem?_replicate, if_pos ha] at hb
          simp [List.getD_eq_getElem?_getD, List.getElem?_replicate] at hb
          split at hb <;> simp at hb)
      have k3 : w3.cell? ⟨w.heap.size, 3, none⟩ = some (.slice A3 code.length c3) := (blk_cell HM.out.1.box 3).trans rfl
      clear HM hmk2 hlt hi
      go_wp2
      clear k3
      go_loopw [33] (fun x wr => ∃ (k : Nat) (D : List (List Bool)), x = .int .i64 k ∧ k ≤ code.length ∧ Aside0 (MI w wr #[.slice A0 ts.length c0, .string la, .string gl, .slice A3 code.length c3] i (code.length + 1) i D ∧ D.length = i ∧ (∀ a, a < i → (D.getD a []).length = code.length + 1) ∧ Sdm code i (code.length + 1) D ∧ Cpm code i D k)) (fun x _ => code.length - (intOf x).toNat)
      case atStart => exact ⟨0, _, rfl, Nat.zero_le _, HM2⟩
      case round =>
        clear HM2
        obtain ⟨k, D, rfl, hk, HM⟩ := hrel
        obtain ⟨w4, hw4⟩ : ∃ w4 : World, w4 = wr := ⟨_, rfl⟩
        subst hw4
        by_cases hlt : (k : Int) < code.length
        · have k0 : (0 : Int) ≤ k := Int.natCast_nonneg _
          obtain ⟨ad, eA, hy⟩ := at_box HC.out k (by omega)
          subst eA
          obtain ⟨y0, y1, y2, y3, y4⟩ := hy w4 HM.out.1.below
          have hwf := HWA.out.rd k (by omega)
          obtain ⟨x, hx⟩ : ∃ x, x = rd_T68 code k := ⟨_, rfl⟩
          rw [← hx] at y0 y1 y2 y3 y4 hwf
          have HX := Aside0.mk hx
          obtain ⟨x0, x1, x2, x3, x4⟩ := x
          simp only at y0 y1 y2 y3 y4 hwf
          obtain ⟨a, rfl⟩ := Int.eq_ofNat_of_zero_le hwf.2.1.1
          have ha255 := hwf.2.1.2
          clear hx hy hwf
          go_upto_region 11 with (fail)
          obtain ⟨w5, hw5⟩ : ∃ w5 : World, w5 = w4.alloc (.cells #[.int .u8 x0, .int .u8 a, .int .u8 x2, .int .u8 x3, .int .i64 x4] 68) := ⟨_, rfl⟩
          have HM5 := Aside0.mk (HM.out.1.keep (show Below w4.heap.size w4 w5 by rw [hw5]; exact below_alloc (Below.refl _ _) _))
          have hi5 : w5.heap[w4.heap.size]? = some (.cells #[.int .u8 x0, .int .u8 a, .int .u8 x2, .int .u8 x3, .int .i64 x4] 68 (0, 0)) := by rw [hw5]; exact ST0.row_new _ _ _ rfl
          rw [← hw5]
          clear hw5 y0 y1 y2 y3 y4
          have j0 : w5.cell? ⟨w4.heap.size, 0, none⟩ = some (.int .u8 x0) := (blk_cell hi5 0).trans rfl
          have j1 : w5.cell? ⟨w4.heap.size, 1, none⟩ = some (.int .u8 a) := (blk_cell hi5 1).trans rfl
          have j2 : w5.cell? ⟨w.heap.size + 1 + 1, 0, none⟩ = some (.slice (some ⟨w.heap.size + 1, 0, none⟩) i i) := (blk_cell HM5.out.ptr 0).trans rfl
          obtain ⟨q1, q2, q3, q4⟩ := HM.out.2
          have HQ := Aside0.mk (And.intro q1 (And.intro q2 (And.intro q3 q4)))
          clear q1 q2 q3 q4
          have nxt0 : (x0 = 5 → ¬ a < i) → Cpm code i D (k + 1) := fun hn a' k' h1 h2 h3 h4 h5 => by
            by_cases e : k' = k
            · subst e
              rw [← HX.out] at h4 h5
              simp only at h4 h5
              exact absurd (show a < i by omega) (hn h4)
            · exact HQ.out.2.2.2 a' k' h1 (by omega) h3 h4 h5
          have NXT := Aside0.mk nxt0
          clear nxt0
          by_cases h5 : x0 = 5
          · subst h5
            have a0 : (0 : Int) ≤ a := Int.natCast_nonneg _
            by_cases hai : a < i
            · have hr := HM5.out.rows a hai
              have hh := HM5.out.head a hai hai
              have hlr : ((D.getD a []).length) = code.length + 1 := HQ.out.2.1 a hai
              have hcl := hr.cell k (by omega)
              have hfr := hr.free k
              have a1 : (a : Int) < i := by omega
              have k1 : (k : Int) < (code.length : Int) + 1 := by omega
              have TH := Aside0.mk (fun (W : World) (h : W.cell? ⟨w.heap.size + 1 + 1, 0, none⟩ = some (.slice (some ⟨w.heap.size + 1, 0, none⟩) i i)) => there_c W (w.heap.size + 1 + 1) i i _ a (by omega) h true (by simp [a1, hai]))
              go_wp2_with (go_at_call 124; (with_reducible refine (TH.out _ j2).mono ?_); rintro e w' ⟨rfl, rfl⟩)
              go_roundw
              case measure =>
                simp [intOf]
                omega
              refine ⟨k + 1, D.set a ((D.getD a []).set k true), by go_num, by omega, ⟨HM5.out.row HQ.out.1 hai ((HM5.out.rows a hai).set k) ((Ch.refl (fun k => k = w.heap.size + 3 + a) _).set (.inl rfl) _), by rw [List.length_set]; exact HQ.out.1, fun b hb => ?_, HQ.out.2.2.1.set HQ.out.1 hai ?_, fun a' k' h1 h2 h3 h4 h6 => ?_⟩⟩
              · rw [getD_set2 _ _ _ _ (by rw [HQ.out.1]; exact hai)]
                split
                · rw [List.length_set]
                  exact hlr
                · exact HQ.out.2.1 b hb
              · exact .new hai (by omega) (by rw [← HX.out]) (by rw [← HX.out])
              · rw [getD_set2 _ _ _ _ (by rw [HQ.out.1]; exact hai)]
                by_cases e : k' = k
                · subst e
                  rw [← HX.out] at h6
                  simp only at h6
                  rw [if_pos (by omega), set_getD _ _ _ _ (by omega), if_pos rfl]
                · have := HQ.out.2.2.2 a' k' h1 (by omega) h3 h4 h6
                  split
                  · rename_i e2
                    subst e2
                    rw [set_getD _ _ _ _ (by omega), if_neg e]
                    exact this
                  · exact this
            · have a1 : ¬ (a : Int) < i := by omega
              have TH := Aside0.mk (fun (W : World) (h : W.cell? ⟨w.heap.size + 1 + 1, 0, none⟩ = some (.slice (some ⟨w.heap.size + 1, 0, none⟩) i i)) => there_c W (w.heap.size + 1 + 1) i i _ a (by omega) h false (by simp [hai]))
              go_wp2_with (go_at_call 124; (with_reducible refine (TH.out _ j2).mono ?_); rintro e w' ⟨rfl, rfl⟩)
              go_roundw
              case measure =>
                simp [intOf]
                omega
              exact ⟨k + 1, D, by go_num, by omega, ⟨HM5.out, HQ.out.1, HQ.out.2.1, HQ.out.2.2.1, NXT.out fun _ => hai⟩⟩
          · have e5 : (x0 == 5) = false := beq_false_of_ne h5
            go_wp2
            exact ⟨⟨k + 1, D, by go_num, by omega, ⟨HM5.out, HQ.out.1, HQ.out.2.1, HQ.out.2.2.1, NXT.out fun e => absurd e h5⟩⟩, by simp [intOf]; omega⟩
        · obtain rfl : k = code.length := by omega
          have HM3 := Aside0.mk HM.out
          have k3 : w4.cell? ⟨w.heap.size, 3, none⟩ = some (.slice A3 code.length c3) := (blk_cell HM.out.1.box 3).trans rfl
          clear HM hlt hk
          go_wp2
          clear k3
          go_loopw [8] (fun v wr => ∃ (g : Bool) (D : List (List Bool)), v = .bool g ∧ Aside0 ((MI w wr #[.slice A0 ts.length c0, .string la, .string gl, .slice A3 code.length c3] i (code.length + 1) i D ∧ D.length = i ∧ (∀ a, a < i → (D.getD a []).length = code.length + 1) ∧ Sdm code i (code.length + 1) D ∧ Cpm code i D code.length) ∧ (g = false → Clm code i (code.length + 1) D code.length))) (fun v wr => 2 * (i * (code.length + 1) - cntW (w.heap.size + 3) i wr) + boolN v)
          case atStart => exact ⟨true, D, rfl, ⟨HM3.out, fun e => by cases e⟩⟩
          case round =>
            clear HM3
            obtain ⟨g, D1, rfl, HM⟩ := hrel
            obtain ⟨w5, hw5⟩ : ∃ w5 : World, w5 = wr := ⟨_, rfl⟩
            subst hw5
            have k2 : w5.cell? ⟨w.heap.size + 1 + 1, 0, none⟩ = some (.slice (some ⟨w.heap.size + 1, 0, none⟩) i i) := (blk_cell HM.out.1.1.ptr 0).trans rfl
            cases g with
            | false =>
              go_wp2
              go_ret
              obtain ⟨⟨h1, h2, h3, h4, h5⟩, h6⟩ := HM.out
              have hall := all_may rfl h4 h5 (h6 (by simp)) h3
              rw [← HLE.out]
              exact ⟨rfl, h1.heads, fun a ha => by rw [← hall a ha]; exact h1.rows a ha, h1.below⟩
            | true =>
              have HCN := Aside0.mk (show 2 * (i * (code.length + 1) - cntW (w.heap.size + 3) i w5) + boolN (.bool true) = 2 * (i * (code.length + 1) - cntM D1) + 1 by rw [HM.out.1.1.cnt HM.out.1.2.1]; rfl)
              have k3 : w5.cell? ⟨w.heap.size, 3, none⟩ = some (.slice A3 code.length c3) := (blk_cell HM.out.1.1.box 3).trans rfl
              have HM4 := Aside0.mk HM.out.1
              clear HM
              go_wp2
              clear k2 k3
              go_loopw [59, 8] (fun x v wr => ∃ (k : Nat) (g : Bool) (D : List (List Bool)), x = .int .i64 k ∧ v = .bool g ∧ k ≤ code.length ∧ Aside0 ((MI w wr #[.slice A0 ts.length c0, .string la, .string gl, .slice A3 code.length c3] i (code.length + 1) i D ∧ D.length = i ∧ (∀ a, a < i → (D.getD a []).length = code.length + 1) ∧ Sdm code i (code.length + 1) D ∧ Cpm code i D code.length) ∧ (g = true → cntM D1 < cntM D) ∧ (g = false → cntM D = cntM D1 ∧ Clm code i (code.length + 1) D k))) (fun x _ _ => code.length - (intOf x).toNat)
              case atStart => exact ⟨0, false, D1, rfl, rfl, Nat.zero_le _, ⟨HM4.out, (fun e => by cases e), fun _ => ⟨rfl, fun j a b h => absurd h (Nat.not_lt_zero _)⟩⟩⟩
              case round =>
                clear HM4
                obtain ⟨k, g, D, rfl, rfl, hk, HM⟩ := hrel
                obtain ⟨w6, hw6⟩ : ∃ w6 : World, w6 = wr := ⟨_, rfl⟩
                subst hw6
                by_cases hlt : (k : Int) < code.length
                · have k0 : (0 : Int) ≤ k := Int.natCast_nonneg _
                  obtain ⟨ad, eA, hy⟩ := at_box HC.out k (by omega)
                  subst eA
                  obtain ⟨y0, y1, y2, y3, y4⟩ := hy w6 HM.out.1.1.below
                  have hwf := HWA.out.rd k (by omega)
                  obtain ⟨x, hx⟩ : ∃ x, x = rd_T68 code k := ⟨_, rfl⟩
                  rw [← hx] at y0 y1 y2 y3 y4 hwf
                  have HX := Aside0.mk hx
                  obtain ⟨x0, x1, x2, x3, x4⟩ := x
                  simp only at y0 y1 y2 y3 y4 hwf
                  obtain ⟨a, rfl⟩ := Int.eq_ofNat_of_zero_le hwf.2.1.1
                  obtain ⟨b, rfl⟩ := Int.eq_ofNat_of_zero_le hwf.2.2.1.1
                  have ha255 := hwf.2.1.2
                  have hb255 := hwf.2.2.1.2
                  clear hx hy hwf
                  go_upto_region 20 with (fail)
                  obtain ⟨w7, hw7⟩ : ∃ w7 : World, w7 = w6.alloc (.cells #[.int .u8 x0, .int .u8 a, .int .u8 b, .int .u8 x3, .int .i64 x4] 68) := ⟨_, rfl⟩
                  have HM7 := Aside0.mk (HM.out.1.1.keep (show Below w6.heap.size w6 w7 by rw [hw7]; exact below_alloc (Below.refl _ _) _))
                  have hi7 : w7.heap[w6.heap.size]? = some (.cells #[.int .u8 x0, .int .u8 a, .int .u8 b, .int .u8 x3, .int .i64 x4] 68 (0, 0)) := by rw [hw7]; exact ST0.row_new _ _ _ rfl
                  have hfar := HM.out.1.1.below.size
                  rw [← hw7]
                  clear hw7 y0 y1 y2 y3 y4
                  have HI7 := Aside0.mk hi7
                  have j0 : w7.cell? ⟨w6.heap.size, 0, none⟩ = some (.int .u8 x0) := (blk_cell hi7 0).trans rfl
                  have j1 : w7.cell? ⟨w6.heap.size, 1, none⟩ = some (.int .u8 a) := (blk_cell hi7 1).trans rfl
                  have j3 : w7.cell? ⟨w6.heap.size, 2, none⟩ = some (.int .u8 b) := (blk_cell hi7 2).trans rfl
                  have j2 : w7.cell? ⟨w.heap.size + 1 + 1, 0, none⟩ = some (.slice (some ⟨w.heap.size + 1, 0, none⟩) i i) := (blk_cell HM7.out.ptr 0).trans rfl
                  obtain ⟨⟨q1, q2, q3, q4, q5⟩, q6, q7⟩ := HM.out
                  have hrl : ∀ q, q < i → w.heap.size + 3 + q < w6.heap.size := fun q hq => blk_lt (q1.rows q hq)
                  have HQ := Aside0.mk (And.intro q2 (And.intro q3 (And.intro q4 q5)))
                  have HG := Aside0.mk (And.intro q6 q7)
                  clear q1 q2 q3 q4 q5 q6 q7 hi7 HM
                  have nxt0 : ¬ (x0 = 7 ∧ a < i ∧ b < i) → g = false → Clm code i (code.length + 1) D (k + 1) := fun hn hg j a' b' h1 h2 h3 h4 h5 h6 h7 => by
                    by_cases e : j = k
                    · subst e
                      rw [← HX.out] at h3 h4 h5
                      simp only at h3 h4 h5
                      exact absurd ⟨h3, by omega, by omega⟩ hn
                    · exact (HG.out.2 hg).2 j a' b' (by omega) h2 h3 h4 h5 h6 h7
                  have NXT := Aside0.mk nxt0
                  clear nxt0
                  have TH := Aside0.mk (fun (W : World) (q : Nat) (hq : q ≤ 255) (h : W.cell? ⟨w.heap.size + 1 + 1, 0, none⟩ = some (.slice (some ⟨w.heap.size + 1, 0, none⟩) i i)) => there_c W (w.heap.size + 1 + 1) i i _ q hq h _ rfl)
                  have a0 : (0 : Int) ≤ a := Int.natCast_nonneg _
                  have b0 : (0 : Int) ≤ b := Int.natCast_nonneg _
                  by_cases h7 : x0 = 7
                  · subst h7
                    by_cases hai : a < i
                    · have ta : decide ((a : Int) < (i : Int)) = true := decide_eq_true (by omega)
                      have TA := Aside0.mk (fun (W : World) (h : W.cell? ⟨w.heap.size + 1 + 1, 0, none⟩ = some (.slice (some ⟨w.heap.size + 1, 0, none⟩) i i)) => (by rw [← ta]; exact TH.out W a (by omega) h : Calls Tryd.prog 124 #[.int .u8 a, .pointer (some ⟨w.heap.size + 1 + 1, 0, none⟩)] W fun e w' => e = .returned (.bool true) ∧ w' = W))
                      by_cases hbi : b < i
                      · have tb : decide ((b : Int) < (i : Int)) = true := decide_eq_true (by omega)
                        have TB := Aside0.mk (fun (W : World) (h : W.cell? ⟨w.heap.size + 1 + 1, 0, none⟩ = some (.slice (some ⟨w.heap.size + 1, 0, none⟩) i i)) => (by rw [← tb]; exact TH.out W b (by omega) h : Calls Tryd.prog 124 #[.int .u8 b, .pointer (some ⟨w.heap.size + 1 + 1, 0, none⟩)] W fun e w' => e = .returned (.bool true) ∧ w' = W))
                        clear ta tb TH
                        have a1 : (a : Int) < i := by omega
                        have b1 : (b : Int) < i := by omega
                        have ja := HM7.out.head a hai hai
                        have jb := HM7.out.head b hbi hbi
                        have la := HQ.out.2.1 a hai
                        have lb := HQ.out.2.1 b hbi
                        obtain ⟨mb, hmb⟩ : ∃ mb, mb = mor (D.getD a []) (D.getD b []) (code.length + 1) := ⟨_, rfl⟩
                        have MG := Aside0.mk (fun (W : World) (hW : Below w7.heap.size w7 W) => (by
                          have := merge_c W (code.length + 1) (w.heap.size + 3 + a) (w.heap.size + 3 + b) (D.getD a []) (D.getD b []) ((hW.block _ (blk_lt (HM7.out.rows a hai))).trans (HM7.out.rows a hai)) ((hW.block _ (blk_lt (HM7.out.rows b hbi))).trans (HM7.out.rows b hbi)) la lb (fun (e : w.heap.size + 3 + a = w.heap.size + 3 + b) => by rw [show a = b by omega]) (by omega)
                          rw [← hmb] at this
                          exact this : Calls Tryd.prog 125 #[.slice (some ⟨w.heap.size + 3 + a, 0, none⟩) (code.length + 1) (code.length + 1), .slice (some ⟨w.heap.size + 3 + b, 0, none⟩) (code.length + 1) (code.length + 1)] W fun e w' => e = .returned (.bool mb) ∧ Row w' (w.heap.size + 3 + a) (mg (code.length + 1) (D.getD a []) (D.getD b []) (code.length + 1)) ∧ Ch (fun k => k = w.heap.size + 3 + a) W w'))
                        have HMB := Aside0.mk hmb
                        have HLA := Aside0.mk la
                        have HLB := Aside0.mk lb
                        clear la lb hmb
                        have hra := hrl a hai
                        have hg0 := HM7.out.below.size
                        have HRL := Aside0.mk hrl
                        clear hrl
                        cases mb <;> (
                          go_upto_region 21 with (first | (go_at_call 124; (with_reducible refine (TA.out _ j2).mono ?_); rintro e w' ⟨rfl, hw⟩; have hw := hw.symm; subst hw) | (go_at_call 124; (with_reducible refine (TB.out _ j2).mono ?_); rintro e w' ⟨rfl, hw⟩; have hw := hw.symm; subst hw))
                          rw [show ({ dst := some 90, op := .move (.tmp 8), type := 4, pos := "leak.go:33", after := #[{ on := 11, ground := .guard }], guard := some (11, false) } : Oper) = mvO from rfl]
                          go_region_held3 (fun W => W.cell? ⟨w.heap.size + 1 + 1, 0, none⟩ = some (.slice (some ⟨w.heap.size + 1, 0, none⟩) i i) ∧ W.cell? ⟨w6.heap.size, 1, none⟩ = some (.int .u8 a) ∧ W.cell? ⟨w6.heap.size, 2, none⟩ = some (.int .u8 b) ∧ W.cell? ⟨w.heap.size + 1, a, none⟩ = some (.slice (some ⟨w.heap.size + 3 + a, 0, none⟩) (code.length + 1) (code.length + 1)) ∧ W.cell? ⟨w.heap.size + 1, b, none⟩ = some (.slice (some ⟨w.heap.size + 3 + b, 0, none⟩) (code.length + 1) (code.length + 1)))
                            (first
                              | exact ⟨j2, j1, j3, ja, jb⟩
                              | go_keep)
                            (first
                              | (go_at_call 125; (with_reducible refine (MG.out _ ?side1).mono ?_); (case side1 => first | exact Below.refl _ _ | exact below_drew1 (Below.refl _ _)); rintro e w8 ⟨rfl, hr, hc⟩; have j2 := (World.cell?_of_block (a := ⟨w.heap.size + 1 + 1, 0, none⟩) (hc.block (w.heap.size + 1 + 1) (blk_lt HM7.out.ptr) (by omega))).trans j2; have j1 := (World.cell?_of_block (a := ⟨w6.heap.size, 1, none⟩) (hc.block w6.heap.size (blk_lt HI7.out) (by omega))).trans j1; have j3 := (World.cell?_of_block (a := ⟨w6.heap.size, 2, none⟩) (hc.block w6.heap.size (blk_lt HI7.out) (by omega))).trans j3; have ja := (World.cell?_of_block (a := ⟨w.heap.size + 1, a, none⟩) (hc.block (w.heap.size + 1) (blk_lt HM7.out.heads) (by omega))).trans ja; have jb := (World.cell?_of_block (a := ⟨w.heap.size + 1, b, none⟩) (hc.block (w.heap.size + 1) (blk_lt HM7.out.heads) (by omega))).trans jb; have HRW := Aside0.mk hr; have HCW := Aside0.mk hc; clear hr hc))
                          go_wp2
                          have hs2 := HQ.out.2.2.1.merge HQ.out.1 hai hbi (show k < code.length by omega) (by rw [← HX.out]) (by rw [← HX.out]) (by rw [← HX.out])
                          have hc2 := HQ.out.2.2.2.merge (r := D.getD b []) (M := code.length + 1) HQ.out.1 hai (Nat.le_succ _)
                          have hm2 := HM7.out.row HQ.out.1 hai HRW.out (by first | exact HCW.out | exact (Ch.of (below_drew1 (Below.refl _ _))).trans HCW.out)
                          have hl2 : (D.set a (mg (code.length + 1) (D.getD a []) (D.getD b []) (code.length + 1))).length = i := by rw [List.length_set]; exact HQ.out.1
                          have hr2 : ∀ q, q < i → ((D.set a (mg (code.length + 1) (D.getD a []) (D.getD b []) (code.length + 1))).getD q []).length = code.length + 1 := fun q hq => by
                            rw [getD_set2 _ _ _ _ (by rw [HQ.out.1]; exact hai)]
                            split
                            · exact mg_len ..
                            · exact HQ.out.2.1 q hq
                          have hcn := cntM_set D a (mg (code.length + 1) (D.getD a []) (D.getD b []) (code.length + 1)) (by rw [HQ.out.1]; exact hai)
                          have hmc := mg_cnt (b := D.getD b []) HLA.out
                          refine ⟨⟨k + 1, _, _, by go_num, rfl, by omega, ⟨⟨hm2, hl2, hr2, hs2, hc2⟩, ?_, ?_⟩⟩, by simp [intOf]; omega⟩
                          · first
                              | (intro _; have := hmc.2 HMB.out.symm; have := HG.out; cases g with
                                | true => have := HG.out.1 rfl; omega
                                | false => have := (HG.out.2 rfl).1; omega)
                              | (intro hg; have h0 := mg_no HLA.out HMB.out.symm; have h1 := HG.out.1 hg; rw [h0.1] at hcn ⊢; omega)
                          · first
                              | (intro hg; cases hg; done)
                              | (intro hg; have h0 := mg_no HLA.out HMB.out.symm; have h1 := HG.out.2 hg; rw [h0.1] at hcn ⊢
                                 have hD : ∀ q, (D.set a (D.getD a [])).getD q [] = D.getD q [] := fun q => by
                                   rw [getD_set2 _ _ _ _ (by rw [HQ.out.1]; exact hai)]
                                   split
                                   · rename_i e
                                     rw [e]
                                   · rfl
                                 refine ⟨by omega, fun j a' b' h2 h3 h4 h5 h6 h7 h8 q hq => ?_⟩
                                 rw [hD, hD]
                                 by_cases e : j = k
                                 · subst e
                                   rw [← HX.out] at h5 h6
                                   simp only at h5 h6
                                   obtain rfl : a = a' := by omega
                                   obtain rfl : b = b' := by omega
                                   exact h0.2 q hq
                                 · exact h1.2 j a' b' (by omega) h3 h4 h5 h6 h7 h8 q hq))
                      · have tb : decide ((b : Int) < (i : Int)) = false := decide_eq_false (by omega)
                        have TB := Aside0.mk (fun (W : World) (h : W.cell? ⟨w.heap.size + 1 + 1, 0, none⟩ = some (.slice (some ⟨w.heap.size + 1, 0, none⟩) i i)) => (by rw [← tb]; exact TH.out W b (by omega) h : Calls Tryd.prog 124 #[.int .u8 b, .pointer (some ⟨w.heap.size + 1 + 1, 0, none⟩)] W fun e w' => e = .returned (.bool false) ∧ w' = W))
                        clear ta tb TH
                        go_wp2_with (first | (go_at_call 124; (with_reducible refine (TA.out _ j2).mono ?_); rintro e w' ⟨rfl, rfl⟩) | (go_at_call 124; (with_reducible refine (TB.out _ j2).mono ?_); rintro e w' ⟨rfl, rfl⟩))
                        go_roundw
                        case measure =>
                          simp [intOf]
                          omega
                        exact ⟨k + 1, g, D, by go_num, rfl, by omega, ⟨⟨HM7.out, HQ.out⟩, HG.out.1, fun hg => ⟨(HG.out.2 hg).1, NXT.out (fun h => hbi h.2.2) hg⟩⟩⟩
                    · have ta : decide ((a : Int) < (i : Int)) = false := decide_eq_false (by omega)
                      have TA := Aside0.mk (fun (W : World) (h : W.cell? ⟨w.heap.size + 1 + 1, 0, none⟩ = some (.slice (some ⟨w.heap.size + 1, 0, none⟩) i i)) => (by rw [← ta]; exact TH.out W a (by omega) h : Calls Tryd.prog 124 #[.int .u8 a, .pointer (some ⟨w.heap.size + 1 + 1, 0, none⟩)] W fun e w' => e = .returned (.bool false) ∧ w' = W))
                      clear ta TH
                      go_wp2_with (go_at_call 124; (with_reducible refine (TA.out _ j2).mono ?_); rintro e w' ⟨rfl, rfl⟩)
                      go_roundw
                      case measure =>
                        simp [intOf]
                        omega
                      exact ⟨k + 1, g, D, by go_num, rfl, by omega, ⟨⟨HM7.out, HQ.out⟩, HG.out.1, fun hg => ⟨(HG.out.2 hg).1, NXT.out (fun h => hai h.2.1) hg⟩⟩⟩
                  · have e7 : (x0 == 7) = false := beq_false_of_ne h7
                    go_wp2
                    exact ⟨⟨k + 1, g, D, by go_num, rfl, by omega, ⟨⟨HM7.out, HQ.out⟩, HG.out.1, fun hg => ⟨(HG.out.2 hg).1, NXT.out (fun h => h7 h.1) hg⟩⟩⟩, by simp [intOf]; omega⟩
                · obtain rfl : k = code.length := by omega
                  have HMQ := Aside0.mk HM.out
                  clear HM
                  go_wp2
                  obtain ⟨h1, h2, h3⟩ := HMQ.out
                  refine ⟨⟨g, D, rfl, ⟨h1, fun e => (h3 e).2⟩⟩, ?_⟩
                  rw [HCN.out, h1.1.cnt h1.2.1]
                  have hle := cntM_le D i (code.length + 1) h1.2.1 h1.2.2.1
                  cases g with
                  | true =>
                    have := h2 rfl
                    show 2 * _ + 1 < 2 * _ + 1
                    omega
                  | false =>
                    have := (h3 rfl).1
                    show 2 * _ + 0 < 2 * _ + 1
                    omega
end Go.Proofs.YtfkfpcciacplkaaDoor.LK

namespace Go.Proofs.YtfkfpcciacplkaaDoor.LK
open Go.RowKit Go.Proofs.YtfkfpcciacplkaaDoorW.PrintWords Go.Proofs.YtfkfpcciacplkaaDoor.F Go.Proofs.YtfkfpcciacplkaaDoor.PL Go.Proofs.YtfkfpcciacplkaaDoor.NX Go.Proofs.YtfkfpcciacplkaaDoor.FP Go.Proofs.YtfkfpcciacplkaaDoor.FSF Go.Proofs.YtfkfpcciacplkaaDoor.FG Go.Proofs.YtfkfpcciacplkaaDoor.CHG
set_option linter.unusedVariables false
set_option linter.unusedSimpArgs false
def LeakP (code : List S68) (L n k : Nat) : Prop := ∃ j b : Nat, j < n ∧ j < code.length ∧ ((rd_T68 code j).f0 = 11 ∨ (rd_T68 code j).f0 = 13) ∧ (rd_T68 code j).f2 = b ∧ b < L ∧ MayP code L b k
open Classical in
noncomputable def leakB (code : List S68) (L k : Nat) : Bool := decide (LeakP code L code.length k)
theorem leakB_iff {code : List S68} {L k : Nat} : leakB code L k = true ↔ LeakP code L code.length k := by
  unfold leakB
  simp
set_option maxHeartbeats 8000000 in
set_option maxRecDepth 100000 in
theorem Leaks_c (p : Pg) (w : World) (h : p.On w) (hL : p.la.size ≤ 1000) (hsm : p.code.length ≤ 1000000) (k : Nat) (hk : k < p.code.length) : Calls Tryd.prog 66 #[p.v, .int .i64 k] w fun e w' => e = .returned (.bool (leakB p.code p.la.size k)) ∧ Below w.heap.size w w' := by
  have hC := h.hC
  have HWF := h.hw
  have MAY := Aside0.mk (fun W (hW : Below w.heap.size w W) => May_c p W (h.below hW) hL hsm)
  clear h
  obtain ⟨A0, c0, ts, la, gl, A3, c3, code⟩ := p
  simp only at hC hL hsm hk
  change WfC code at HWF
  change Aside0 (∀ W, Below w.heap.size w W → Calls Tryd.prog 103 #[.agg #[.slice A0 ts.length c0, .string la, .string gl, .slice A3 code.length c3]] W fun e w' => e = .returned (.slice (some ⟨W.heap.size + 1, 0, none⟩) la.size la.size) ∧ w'.heap[W.heap.size + 1]? = some (.cells (hdM (W.heap.size + 3) la.size (code.length + 1) la.size).toArray 62 (0, 0)) ∧ (∀ a, a < la.size → Row w' (W.heap.size + 3 + a) (mayR code la.size (code.length + 1) a)) ∧ Below W.heap.size W w') at MAY
  show Calls _ _ #[.agg #[.slice A0 ts.length c0, .string la, .string gl, .slice A3 code.length c3], .int .i64 k] _ fun e w' => e = .returned (.bool (leakB code la.size k)) ∧ _
  obtain ⟨L, hLe⟩ : ∃ L, L = la.size := ⟨_, rfl⟩
  rw [← hLe] at hL MAY ⊢
  have HC := Aside0.mk hC
  have HWA := Aside0.mk HWF
  have k0 : ¬ (k : Int) < 0 := by omega
  have k00 : (0 : Int) ≤ k := by omega
  have k1 : ¬ (k : Int) ≥ code.length := by omega
  have k2 : (k : Int) < (code.length : Int) + 1 := by omega
  clear hC HWF hLe
  go_enter Tryd.func66, Tryd.ntmps66
  go_wp2_with (go_at_call 103; (with_reducible refine (MAY.out _ (below_alloc (Below.refl _ _) _)).mono ?_); rintro e w1 ⟨rfl, h1, h2, hb⟩; have HX := Aside0.mk ((hb.block w.heap.size (by simp)).trans (heap_alloc_new w _)); have kx := fun j => cell_of_row w1 w.heap.size j _ _ _ HX.out; have HB := Aside0.mk (below_step (below_alloc (Below.refl _ _) _) hb); have HD := Aside0.mk h1; have HR := Aside0.mk h2; clear hb h1 h2)
  obtain ⟨b0, hb0⟩ : ∃ b0, b0 = (w.alloc (.cells #[.slice A0 ts.length c0, .string la, .string gl, .slice A3 code.length c3] 46)).heap.size := ⟨_, rfl⟩
  rw [← hb0] at HD HR
  have hb1 : w.heap.size + 1 = b0 := by rw [hb0]; simp
  rw [hb1]
  clear hb0 hb1 kx
  go_loopw [22] (fun x wr => ∃ i : Nat, x = .int .i64 i ∧ i ≤ code.length ∧ Aside0 (¬ LeakP code L i k ∧ Below w1.heap.size w1 wr)) (fun x _ => code.length - (intOf x).toNat)
  case atStart => exact ⟨0, rfl, Nat.zero_le _, ⟨fun ⟨j, b, h, _⟩ => absurd h (Nat.not_lt_zero _), Below.refl _ _⟩⟩
  case round =>
    obtain ⟨i, rfl, hi, HM⟩ := hrel
    obtain ⟨w4, hw4⟩ : ∃ w4 : World, w4 = wr := ⟨_, rfl⟩
    subst hw4
    by_cases hlt : (i : Int) < code.length
    · have i0 : (0 : Int) ≤ i := Int.natCast_nonneg _
      obtain ⟨ad, eA, hy⟩ := at_box HC.out i (by omega)
      subst eA
      obtain ⟨y0, y1, y2, y3, y4⟩ := hy w4 (below_step HB.out HM.out.2)
      have hwf := HWA.out.rd i (by omega)
      obtain ⟨x, hx⟩ : ∃ x, x = rd_T68 code i := ⟨_, rfl⟩
      rw [← hx] at y0 y1 y2 y3 y4 hwf
      have HX1 := Aside0.mk hx
      obtain ⟨x0, x1, x2, x3, x4⟩ := x
      simp only at y0 y1 y2 y3 y4 hwf
      obtain ⟨b, rfl⟩ := Int.eq_ofNat_of_zero_le hwf.2.2.1.1
      have hb255 := hwf.2.2.1.2
      clear hx hy hwf
      go_upto_region 7 with (fail)
      obtain ⟨w5, hw5⟩ : ∃ w5 : World, w5 = w4.alloc (.cells #[.int .u8 x0, .int .u8 x1, .int .u8 b, .int .u8 x3, .int .i64 x4] 68) := ⟨_, rfl⟩
      have HM5 := Aside0.mk (below_step HM.out.2 (show Below w4.heap.size w4 w5 by rw [hw5]; exact below_alloc (Below.refl _ _) _))
      have hi5 : w5.heap[w4.heap.size]? = some (.cells #[.int .u8 x0, .int .u8 x1, .int .u8 b, .int .u8 x3, .int .i64 x4] 68 (0, 0)) := by rw [hw5]; exact ST0.row_new _ _ _ rfl
      rw [← hw5]
      clear hw5 y0 y1 y2 y3 y4
      have j0 : w5.cell? ⟨w4.heap.size, 0, none⟩ = some (.int .u8 x0) := (blk_cell hi5 0).trans rfl
      have j1 : w5.cell? ⟨w4.heap.size, 2, none⟩ = some (.int .u8 b) := (blk_cell hi5 2).trans rfl
      have ew : wrap64 (b : Int) = b := by unfold wrap64; omega
      have bb0 : (0 : Int) ≤ b := Int.natCast_nonneg _
      have nxt0 : ¬ ((x0 = 11 ∨ x0 = 13) ∧ b < L ∧ MayP code L b k) → ¬ LeakP code L (i + 1) k := fun hn ⟨j, b', h1, h2, h3, h4, h5, h6⟩ => by
        by_cases e : j = i
        · subst e
          rw [← HX1.out] at h3 h4
          simp only at h3 h4
          obtain rfl : b = b' := by omega
          exact hn ⟨h3, h5, h6⟩
        · exact HM.out.1 ⟨j, b', by omega, h2, h3, h4, h5, h6⟩
      have NXT := Aside0.mk nxt0
      clear nxt0 hi5
      by_cases h13 : x0 = 11 ∨ x0 = 13
      · by_cases hbl : b < L
        · have b1 : (b : Int) < L := by omega
          have hh : w5.cell? ⟨b0 + 1, b, none⟩ = some (.slice (some ⟨b0 + 3 + b, 0, none⟩) (code.length + 1) (code.length + 1)) := (World.cell?_of_block (a := ⟨b0 + 1, b, none⟩) (HM5.out.block (b0 + 1) (blk_lt HD.out))).trans ((blk_cell HD.out b).trans ((hdM_get _ _ _ _ _ hbl).trans (by rw [if_pos hbl])))
          have hr : Row w5 (b0 + 3 + b) (mayR code L (code.length + 1) b) := (HM5.out.block _ (blk_lt (HR.out b hbl))).trans (HR.out b hbl)
          have hcl := hr.cell k (by rw [mayR_len]; omega)
          cases hv : (mayR code L (code.length + 1) b).getD k false with
          | true =>
            rw [hv] at hcl
            have HL := Aside0.mk (leakB_iff.2 ⟨i, b, by omega, by omega, by rw [← HX1.out]; exact h13, by rw [← HX1.out], hbl, (mayR_get (by omega)).1 hv⟩ : leakB code L k = true)
            clear hv hr
            rcases h13 with rfl | rfl <;>
            · go_wp2
              go_ret
              exact ⟨by rw [HL.out]; rfl, below_step HB.out HM5.out⟩
          | false =>
            rw [hv] at hcl
            have HN := Aside0.mk (NXT.out fun h => by have := (mayR_get (M := code.length + 1) (by omega)).2 h.2.2; rw [hv] at this; cases this)
            clear hv hr
            rcases h13 with rfl | rfl <;>
            · go_wp2
              exact ⟨⟨i + 1, by go_num, by omega, ⟨HN.out, HM5.out⟩⟩, by simp [intOf]; omega⟩
        · have b1 : ¬ (b : Int) < L := by omega
          have HN := Aside0.mk (NXT.out fun h => hbl h.2.1)
          rcases h13 with rfl | rfl <;>
          · go_wp2
            exact ⟨⟨i + 1, by go_num, by omega, ⟨HN.out, HM5.out⟩⟩, by simp [intOf]; omega⟩
      · have e11 : (x0 == 11) = false := beq_false_of_ne fun e => h13 (.inl e)
        have e13 : (x0 == 13) = false := beq_false_of_ne fun e => h13 (.inr e)
        have HN := Aside0.mk (NXT.out fun h => h13 h.1)
        clear h13
        go_wp2
        exact ⟨⟨i + 1, by go_num, by omega, ⟨HN.out, HM5.out⟩⟩, by simp [intOf]; omega⟩
    · obtain rfl : i = code.length := by omega
      have HL := Aside0.mk (eq_false_of_ne_true fun h => HM.out.1 (leakB_iff.1 h) : leakB code L k = false)
      go_wp2
      go_ret
      exact ⟨by rw [HL.out]; rfl, below_step HB.out HM.out.2⟩
noncomputable def loopB (code : List S68) (k : Nat) : Bool := (rch (nxt code) (code.length + 1) k).getD k false
theorem own_cellB {w : World} {B : Nat} {v : Value} {l : List Bool} (h : w.ownsRow B 4 1 v l.length (encs Value.bool l)) (k : Nat) (hk : k < l.length) : ∃ ad c, v = .slice (some ad) l.length c ∧ w.cell? (ad.add k) = some (.bool (l.getD k false)) := by
  rcases h.2 with ⟨_, e⟩ | ⟨g, cap, cur, e, _⟩
  · omega
  · exact ⟨_, _, e, h.cells (g := g) (by rw [e]; rfl) k _ (by simp [encs, List.getElem?_eq_getElem hk, List.getD_eq_getElem?_getD])⟩
set_option maxHeartbeats 4000000 in
set_option maxRecDepth 100000 in
theorem Loops_c (p : Pg) (w : World) (h : p.On w) (hI : InR (nxt p.code) (p.code.length + 1)) (hsm : p.code.length ≤ 1000000) (k : Nat) (hk : k < p.code.length) : Calls Tryd.prog 67 #[p.v, .int .i64 k] w fun e w' => e = .returned (.bool (loopB p.code k)) ∧ Below w.heap.size w w' := by
  have RE := Aside0.mk (fun W (hW : Below w.heap.size w W) => Reach_in W p.A0 p.c0 p.ts p.la p.gl p.A3 p.c3 p.code (h.below hW).hC k (by omega) (by omega) hI hsm)
  clear h
  obtain ⟨A0, c0, ts, la, gl, A3, c3, code⟩ := p
  simp only at RE hk hsm
  show Calls _ _ #[.agg #[.slice A0 ts.length c0, .string la, .string gl, .slice A3 code.length c3], .int .i64 k] _ fun e w' => e = .returned (.bool (loopB code k)) ∧ _
  have hl := rch_length (nxt code) (code.length + 1) k
  obtain ⟨l, hle⟩ : ∃ l, l = rch (nxt code) (code.length + 1) k := ⟨_, rfl⟩
  unfold loopB
  rw [← hle] at RE hl ⊢
  clear hle
  obtain ⟨u, hu⟩ : ∃ u, u = l.getD k false := ⟨_, rfl⟩
  rw [← hu]
  have HU := Aside0.mk hu
  clear hu
  have k0 : (k : Int) ≥ 0 := by omega
  have k1 : (k : Int) < (code.length : Int) + 1 := by omega
  go_enter Tryd.func67, Tryd.ntmps67
  go_wp2_with (go_at_call 104; (with_reducible refine (RE.out _ (below_alloc (Below.refl _ _) _)).mono ?_); rintro e w1 ⟨v, rfl, ho, hb⟩; obtain ⟨ad, c, hv, hc⟩ := own_cellB ho k (by omega); subst hv; rw [← HU.out] at hc; rw [hl]; have HB := Aside0.mk (below_step (below_alloc (Below.refl _ _) _) hb); clear hb ho)
  go_ret
  exact ⟨rfl, HB.out⟩
end Go.Proofs.YtfkfpcciacplkaaDoor.LK

namespace Go.Proofs.YtfkfpcciacplkaaDoor.FUL
open Go.RowKit Go.Proofs.YtfkfpcciacplkaaDoorW.PrintWords Go.Proofs.YtfkfpcciacplkaaDoor.F Go.Proofs.YtfkfpcciacplkaaDoor.PL Go.Proofs.YtfkfpcciacplkaaDoor.KP Go.Proofs.YtfkfpcciacplkaaDoor.NX Go.Proofs.YtfkfpcciacplkaaDoor.FP Go.Proofs.YtfkfpcciacplkaaDoor.FSF Go.Proofs.YtfkfpcciacplkaaDoor.FG Go.Proofs.YtfkfpcciacplkaaDoor.Scan Go.Proofs.YtfkfpcciacplkaaDoor.PK
set_option linter.unusedVariables false
set_option linter.unusedSimpArgs false
theorem pSize_c (p : Pg) (w : World) (h : p.On w) (t : Int) : Calls Tryd.prog 70 #[.slice p.A0 p.ts.length p.c0, .int .i64 t] w fun e w' => e = .returned (.int .i64 (size p.ts t)) ∧ Below w.heap.size w w' := by
  obtain ⟨k, hk⟩ := ev_at (kind_Size_ev p.ts h.hl h.hs t)
  exact (kind_Size.calls k p.A0 p.c0 p.ts t _ w h.hT h.hc0 hk).mono fun e w' h => ⟨h.1, h.2.below⟩
def lastG (code : List S68) (a : Int) (whole : Nat) : Nat → Nat → Nat → Int
  | 0, _, _ => -1
  | d + 1, j, had =>
    if (rd_T68 code j).f0 = 1 ∨ (rd_T68 code j).f0 = 2 ∨ (rd_T68 code j).f0 = 14 ∨ (rd_T68 code j).f0 = 15 then lastG code a whole d (j + 1) had
    else if (rd_T68 code j).f0 = 6 ∨ (rd_T68 code j).f0 = 7 then (if (rd_T68 code j).f1 = a then -1 else lastG code a whole d (j + 1) had)
    else if (rd_T68 code j).f0 = 9 ∨ (rd_T68 code j).f0 = 11 then
      (if (rd_T68 code j).f1 = a ∧ 0 ≤ (rd_T68 code j).f4 ∧ (rd_T68 code j).f4 < 6 then
        (if had ||| 2 ^ (rd_T68 code j).f4.toNat = whole then (j : Int) else lastG code a whole d (j + 1) (had ||| 2 ^ (rd_T68 code j).f4.toNat))
      else -1)
    else -1
noncomputable def lastB (p : Pg) (k : Nat) : Int := if (rd_T68 p.code k).f0 = 5 then lastG p.code (rd_T68 p.code k).f1 (2 ^ (size p.ts (atv p.ts p.la (rd_T68 p.code k).f1)).toNat - 1) (p.code.length - (k + 1)) (k + 1) 0 else -1
theorem pw (m : Nat) (h : m ≤ 6) : IntKind.i64.wrap (IntKind.i64.wrap (2 ^ m) - 1) = ((2 ^ m - 1 : Nat) : Int) := by
  obtain rfl | rfl | rfl | rfl | rfl | rfl | rfl : m = 0 ∨ m = 1 ∨ m = 2 ∨ m = 3 ∨ m = 4 ∨ m = 5 ∨ m = 6 := by omega
  all_goals decide
theorem bits_or (a n : Nat) (ha : a < 64) (hn : n < 6) : bits .or .i64 a (wrap64 (2 ^ n)) = ((a ||| 2 ^ n : Nat) : Int) := by
  have h : ∀ a : Fin 64, ∀ n : Fin 6, bits .or .i64 (a.1 : Int) (wrap64 (2 ^ n.1)) = ((a.1 ||| 2 ^ n.1 : Nat) : Int) := by decide +kernel
  exact h ⟨a, ha⟩ ⟨n, hn⟩
theorem or_lt (a n : Nat) (ha : a < 64) (hn : n < 6) : a ||| 2 ^ n < 64 := Nat.or_lt_two_pow (n := 6) ha (Nat.pow_lt_pow_right (by decide) hn)
theorem box_at {w : World} {ad : Addr} {n : Nat} {code : List S68} (h : Kd.C k68 w (some ad) n code) (m j : Nat) (h1 : m + j < n) : ∀ W, Below w.heap.size w W → W.cell? ((ad.add (m * 5)).add (j * 5)) = some (.int .u8 (rd_T68 code (m + j : Nat)).f0) ∧
    W.cell? ⟨((ad.add (m * 5)).add (j * 5)).block, ((ad.add (m * 5)).add (j * 5)).off + 1, none⟩ = some (.int .u8 (rd_T68 code (m + j : Nat)).f1) ∧ W.cell? ⟨((ad.add (m * 5)).add (j * 5)).block, ((ad.add (m * 5)).add (j * 5)).off + 2, none⟩ = some (.int .u8 (rd_T68 code (m + j : Nat)).f2) ∧
    W.cell? ⟨((ad.add (m * 5)).add (j * 5)).block, ((ad.add (m * 5)).add (j * 5)).off + 3, none⟩ = some (.int .u8 (rd_T68 code (m + j : Nat)).f3) ∧ W.cell? ⟨((ad.add (m * 5)).add (j * 5)).block, ((ad.add (m * 5)).add (j * 5)).off + 4, none⟩ = some (.int .i64 (rd_T68 code (m + j : Nat)).f4) := by
  obtain ⟨ad', e, hy⟩ := at_box h (m + j) h1
  obtain rfl := Option.some.inj e
  rw [Addr.add_add, ← Nat.add_mul]
  exact hy
set_option maxHeartbeats 8000000 in
set_option maxRecDepth 100000 in
theorem Last_c (p : Pg) (w : World) (h : p.On w) (hsm : p.code.length ≤ 1000000) (k : Nat) (hk : k < p.code.length) : Calls Tryd.prog 105 #[p.v, .int .i64 k] w fun e w' => e = .returned (.int .i64 (lastB p k)) ∧ Below w.heap.size w w' := by
  have hC := h.hC
  have HWF := h.hw
  have hc3 := h.hc3
  have hx255 := (HWF.rd k hk).2.1
  have hmax := Kd.C_max hC
  have HL := Aside0.mk (fun W (hW : Below w.heap.size w W) => pLocal_c p W (h.below hW) (rd_T68 p.code k).f1 hx255.1 hx255.2)
  obtain ⟨m, em, m6⟩ : ∃ m : Nat, size p.ts (atv p.ts p.la (rd_T68 p.code k).f1) = m ∧ m ≤ 6 := ⟨_, rfl, typ_le p.ts _⟩
  have HS := Aside0.mk (fun W (hW : Below w.heap.size w W) => (by rw [← em]; exact pSize_c p W (h.below hW) _ : Calls Tryd.prog 70 #[.slice p.A0 p.ts.length p.c0, .int .i64 (atv p.ts p.la (rd_T68 p.code k).f1)] W fun e w' => e = .returned (.int .i64 m) ∧ Below W.heap.size W w'))
  have hlb : lastB p k = if (rd_T68 p.code k).f0 = 5 then lastG p.code (rd_T68 p.code k).f1 (2 ^ m - 1) (p.code.length - (k + 1)) (k + 1) 0 else -1 := by
    unfold lastB
    rw [em, Int.toNat_natCast]
  rw [hlb]
  clear h hlb em
  obtain ⟨A0, c0, ts, la, gl, A3, c3, code⟩ := p
  simp only at hC hc3 hsm hk hx255 hmax
  change WfC code at HWF
  change Aside0 (∀ W, Below w.heap.size w W → Calls Tryd.prog 71 #[.agg #[.slice A0 ts.length c0, .string la, .string gl, .slice A3 code.length c3], .int .u8 (rd_T68 code k).f1] W fun e w' => e = .returned (.int .i64 (atv ts la (rd_T68 code k).f1)) ∧ Below W.heap.size W w') at HL
  change Aside0 (∀ W, Below w.heap.size w W → Calls Tryd.prog 70 #[.slice A0 ts.length c0, .int .i64 (atv ts la (rd_T68 code k).f1)] W fun e w' => e = .returned (.int .i64 m) ∧ Below W.heap.size W w') at HS
  show Calls _ _ #[.agg #[.slice A0 ts.length c0, .string la, .string gl, .slice A3 code.length c3], .int .i64 k] _ fun e w' => e = .returned (.int .i64 (if (rd_T68 code k).f0 = 5 then lastG code (rd_T68 code k).f1 (2 ^ m - 1) (code.length - (k + 1)) (k + 1) 0 else -1)) ∧ _
  generalize atv ts la (rd_T68 code k).f1 = t0 at HL HS
  obtain ⟨ad, rfl, hy⟩ := at_box hC k hk
  have HY := Aside0.mk hy
  obtain ⟨x, hx⟩ : ∃ x, x = rd_T68 code k := ⟨_, rfl⟩
  rw [← hx] at HY HL hx255 ⊢
  obtain ⟨y0, y1, y2, y3, y4⟩ := HY.out _ (below_alloc (Below.refl _ _) (.cells #[.slice A0 ts.length c0, .string la, .string gl, .slice (some ad) code.length c3] 46))
  obtain ⟨x0, x1, x2, x3, x4⟩ := x
  simp only at y0 y1 y2 y3 y4 hx255 HL ⊢
  have HC := Aside0.mk hC
  have HWA := Aside0.mk HWF
  have k0 : ¬ (k : Int) < 0 := by omega
  have k00 : (0 : Int) ≤ k := by omega
  have k1 : ¬ (k : Int) ≥ code.length := by omega
  clear hC HWF hx hy
  by_cases h5 : x0 = 5
  · rw [if_pos h5]
    subst h5
    obtain ⟨whole, hwh⟩ : ∃ n : Nat, n = 2 ^ m - 1 := ⟨_, rfl⟩
    rw [← hwh]
    have HWH := Aside0.mk hwh
    clear hwh
    obtain ⟨R, hR⟩ : ∃ R, lastG code x1 whole (code.length - (k + 1)) (k + 1) 0 = R := ⟨_, rfl⟩
    rw [hR]
    have HQ := Aside0.mk hR
    clear hR
    go_enter Tryd.func105, Tryd.ntmps105
    go_upto_region 4 with (fail)
    obtain ⟨w1, hw1⟩ : ∃ w1 : World, w1 = w.alloc (.cells #[.slice A0 ts.length c0, .string la, .string gl, .slice (some ad) code.length c3] 46) := ⟨_, rfl⟩
    have HB := Aside0.mk (show Below w.heap.size w w1 by rw [hw1]; exact below_alloc (Below.refl _ _) _)
    have HR := Aside0.mk (show w1.heap[w.heap.size]? = some (.cells #[.slice A0 ts.length c0, .string la, .string gl, .slice (some ad) code.length c3] 46 (0, 0)) by rw [hw1]; exact heap_alloc_new w _)
    rw [← hw1]
    clear hw1 y0 y1 y2 y3 y4
    have e0 := (blk_cell HR.out 0).trans (rfl : _ = some (Value.slice A0 ts.length c0))
    have e1 := (blk_cell HR.out 1).trans (rfl : _ = some (Value.string la))
    have e2 := (blk_cell HR.out 2).trans (rfl : _ = some (Value.string gl))
    have e3 := (blk_cell HR.out 3).trans (rfl : _ = some (Value.slice (some ad) code.length c3))
    go_region_held3 (fun W => W.cell? ⟨w.heap.size, 0, none⟩ = some (.slice A0 ts.length c0) ∧ W.cell? ⟨w.heap.size, 1, none⟩ = some (.string la) ∧ W.cell? ⟨w.heap.size, 2, none⟩ = some (.string gl) ∧ W.cell? ⟨w.heap.size, 3, none⟩ = some (.slice (some ad) code.length c3))
      (first
        | exact ⟨e0, e1, e2, e3⟩
        | go_keep)
      (first
        | (go_at_call 71; (with_reducible refine (HL.out _ ?side1).mono ?_); (case side1 => first | exact HB.out | exact below_drew1 HB.out); rintro e w2 ⟨rfl, hb⟩; have HR := Aside0.mk ((hb.block _ (blk_lt HR.out)).trans HR.out); have HB := Aside0.mk (by first | exact below_step HB.out hb | exact below_step (below_drew1 HB.out) hb); have e0 := (blk_cell HR.out 0).trans (rfl : _ = some (Value.slice A0 ts.length c0)); have e1 := (blk_cell HR.out 1).trans (rfl : _ = some (Value.string la)); have e2 := (blk_cell HR.out 2).trans (rfl : _ = some (Value.string gl)); have e3 := (blk_cell HR.out 3).trans (rfl : _ = some (Value.slice (some ad) code.length c3)); clear hb)
        | (go_at_call 70; (with_reducible refine (HS.out _ HB.out).mono ?_); rintro e w3 ⟨rfl, hb⟩; have HR := Aside0.mk ((hb.block _ (blk_lt HR.out)).trans HR.out); have HB := Aside0.mk (below_step HB.out hb); have e0 := (blk_cell HR.out 0).trans (rfl : _ = some (Value.slice A0 ts.length c0)); have e1 := (blk_cell HR.out 1).trans (rfl : _ = some (Value.string la)); have e2 := (blk_cell HR.out 2).trans (rfl : _ = some (Value.string gl)); have e3 := (blk_cell HR.out 3).trans (rfl : _ = some (Value.slice (some ad) code.length c3)); clear hb))
    go_upto_region 5 with (fail)
    rw [show IntKind.i64.wrap (IntKind.i64.wrap (2 ^ m) - 1) = ((2 ^ m - 1 : Nat) : Int) from pw m m6, ← HWH.out]
    clear HWH
    generalize IntKind.i64.wrap (2 ^ m) = q40
    have hk1 : (k : Int) + 1 ≤ code.length := by omega
    have hk2 : (0 : Int) ≤ (k : Int) + 1 := by omega
    have hk3 : (k : Int) + 1 ≤ c3 := by omega
    obtain ⟨L, hL⟩ : ∃ L, L = code.length - (k + 1) := ⟨_, rfl⟩
    have hLk : k + 1 + L = code.length := by omega
    rw [← hL] at HQ
    have HX := Aside0.mk hLk
    have HE := Aside0.mk (fun (j : Nat) (hj : j < L) => box_at HC.out (k + 1) j (by omega))
    go_upto_region 7 with (fail)
    all_goals rw [← hL]
    all_goals clear hL
    all_goals go_loopw [48, 7] (fun x v wr => ∃ j had : Nat, x = .int .i64 j ∧ v = .int .i64 had ∧ j ≤ L ∧ had < 64 ∧ Aside0 (lastG code x1 whole (L - j) (k + 1 + j) had = R) ∧ Aside0 (Below w.heap.size w wr)) (fun x _ _ => L - (intOf x).toNat)
    all_goals first
      | exact ⟨0, 0, rfl, rfl, Nat.zero_le _, by decide, HQ, HB⟩
      | skip
    case round =>
      obtain ⟨j, had, rfl, rfl, hj, h64, HJ, HJB⟩ := hrel
      obtain rfl : L = 0 := by omega
      obtain rfl : j = 0 := by omega
      have hr : -1 = R := HJ.out
      subst hr
      clear HJ HQ HE HX HC HB HR HWA
      go_wp2
      go_ret
      exact ⟨rfl, HJB.out⟩
    case round =>
      clear HQ HB HR
      obtain ⟨j, had, rfl, rfl, hj, h64, HJ, HJB⟩ := hrel
      by_cases hlt : (j : Int) < (L : Int)
      · obtain ⟨d, hd⟩ : ∃ d, L - j = d + 1 := ⟨L - j - 1, by omega⟩
        have hd1 : L - (j + 1) = d := by omega
        have hjn : j < L := by omega
        have hk4 : (0 : Int) ≤ j := by omega
        have hk5 : (j : Int) < (code.length - (k + 1) : Nat) := by omega
        have hz := HE.out j hjn _ HJB.out
        have hj1 := HJ.out
        rw [hd] at hj1
        unfold lastG at hj1
        have hwy := HWA.out.rd (k + 1 + j) (by omega)
        obtain ⟨y, hy⟩ : ∃ y, y = rd_T68 code (k + 1 + j : Nat) := ⟨_, rfl⟩
        rw [← hy] at hz hj1 hwy
        obtain ⟨y0, y1, y2, y3, y4⟩ := y
        obtain ⟨z0, z1, z2, z3, z4⟩ := hz
        simp only at z0 z1 z2 z3 z4 hj1 hwy
        clear hy HE HJ
        by_cases c1 : y0 = 1 ∨ y0 = 2 ∨ y0 = 14 ∨ y0 = 15
        · rw [if_pos c1] at hj1
          have HN := Aside0.mk hj1
          clear hj1
          rcases c1 with rfl | rfl | rfl | rfl
          all_goals go_wp2
          all_goals go_roundw
          all_goals first
            | exact ⟨j + 1, had, by go_num, rfl, by omega, h64, ⟨by rw [hd1, ← Nat.add_assoc]; exact HN.out⟩, ⟨below_alloc HJB.out _⟩⟩
            | (simp [intOf]; omega)
        · rw [if_neg c1] at hj1
          by_cases c2 : y0 = 6 ∨ y0 = 7
          · rw [if_pos c2] at hj1
            by_cases e1 : y1 = x1
            · rw [if_pos e1] at hj1
              subst e1
              subst hj1
              clear hwy c1
              rcases c2 with rfl | rfl
              all_goals go_wp2
              all_goals go_ret
              all_goals exact ⟨rfl, below_alloc HJB.out _⟩
            · rw [if_neg e1] at hj1
              have e2 : (y1 != x1) = true := bne_iff_ne.2 e1
              have HN := Aside0.mk hj1
              clear hj1 e1 c1 hwy
              rcases c2 with rfl | rfl
              all_goals go_wp2
              all_goals go_roundw
              all_goals first
                | exact ⟨j + 1, had, by go_num, rfl, by omega, h64, ⟨by rw [hd1, ← Nat.add_assoc]; exact HN.out⟩, ⟨below_alloc HJB.out _⟩⟩
                | (simp [intOf]; omega)
          · rw [if_neg c2] at hj1
            by_cases c3' : y0 = 9 ∨ y0 = 11
            · rw [if_pos c3'] at hj1
              clear c1 c2 hwy
              by_cases g : y1 = x1 ∧ 0 ≤ y4 ∧ y4 < 6
              · rw [if_pos g] at hj1
                obtain ⟨rfl, g0, g6⟩ := g
                obtain ⟨n, rfl⟩ := Int.eq_ofNat_of_zero_le g0
                rw [Int.toNat_natCast] at hj1
                have hbo := Aside0.mk (bits_or had n h64 (by omega))
                have hlt := or_lt had n h64 (by omega)
                generalize had ||| 2 ^ n = hd2 at hbo hlt hj1
                by_cases ew : hd2 = whole
                · rw [if_pos ew] at hj1
                  subst hj1
                  rcases c3' with rfl | rfl
                  all_goals go_upto_region 24 with (fail)
                  all_goals rw [hbo.out]
                  all_goals go_wp2
                  all_goals go_ret
                  all_goals exact ⟨by go_num, below_alloc HJB.out _⟩
                · rw [if_neg ew] at hj1
                  have ew2 : ((hd2 : Int) == (whole : Int)) = false := beq_eq_false_iff_ne.2 (by omega)
                  have HN := Aside0.mk hj1
                  clear hj1 ew
                  rcases c3' with rfl | rfl
                  all_goals go_upto_region 24 with (fail)
                  all_goals rw [hbo.out]
                  all_goals go_wp2
                  all_goals go_roundw
                  all_goals first
                    | exact ⟨j + 1, hd2, by go_num, rfl, by omega, hlt, ⟨by rw [hd1, ← Nat.add_assoc]; exact HN.out⟩, ⟨below_alloc HJB.out _⟩⟩
                    | (simp [intOf]; omega)
              · rw [if_neg g] at hj1
                subst hj1
                have g' : y1 ≠ x1 ∨ (y1 = x1 ∧ y4 < 0) ∨ (y1 = x1 ∧ 0 ≤ y4 ∧ 6 ≤ y4) := by omega
                clear g
                rcases g' with e1 | ⟨rfl, e1⟩ | ⟨rfl, e1, e2⟩
                · have e2 : (y1 != x1) = true := bne_iff_ne.2 e1
                  clear e1
                  rcases c3' with rfl | rfl
                  all_goals go_wp2
                  all_goals go_ret
                  all_goals exact ⟨rfl, below_alloc HJB.out _⟩
                all_goals rcases c3' with rfl | rfl
                all_goals go_wp2
                all_goals go_ret
                all_goals exact ⟨rfl, below_alloc HJB.out _⟩
            · rw [if_neg c3'] at hj1
              subst hj1
              have b1 : (y0 == 1) = false := beq_eq_false_iff_ne.2 (by omega)
              have b2 : (y0 == 2) = false := beq_eq_false_iff_ne.2 (by omega)
              have b3 : (y0 == 14) = false := beq_eq_false_iff_ne.2 (by omega)
              have b4 : (y0 == 15) = false := beq_eq_false_iff_ne.2 (by omega)
              have b5 : (y0 == 6) = false := beq_eq_false_iff_ne.2 (by omega)
              have b6 : (y0 == 7) = false := beq_eq_false_iff_ne.2 (by omega)
              have b7 : (y0 == 9) = false := beq_eq_false_iff_ne.2 (by omega)
              have b8 : (y0 == 11) = false := beq_eq_false_iff_ne.2 (by omega)
              clear c1 c2 c3' hwy
              go_wp2
              go_ret
              exact ⟨rfl, below_alloc HJB.out _⟩
      · obtain rfl : j = L := by omega
        have hr : -1 = R := by
          have := HJ.out
          rw [Nat.sub_self] at this
          exact this
        subst hr
        clear HJ HE HX HC HWA
        go_wp2
        go_ret
        exact ⟨rfl, HJB.out⟩
  · rw [if_neg h5]
    have h5' : (x0 != 5) = true := bne_iff_ne.2 h5
    go_enter Tryd.func105, Tryd.ntmps105
    go_wp2
    go_ret
    exact ⟨rfl, below_alloc (Below.refl _ _) _⟩
theorem Full_c (p : Pg) (w : World) (h : p.On w) (hsm : p.code.length ≤ 1000000) (k : Nat) (hk : k < p.code.length) : Calls Tryd.prog 68 #[p.v, .int .i64 k] w fun e w' => e = .returned (.bool (decide (0 ≤ lastB p k))) ∧ Below w.heap.size w w' := by
  have LA := Aside0.mk (fun W (hW : Below w.heap.size w W) => Last_c p W (h.below hW) hsm k hk)
  clear h
  obtain ⟨A0, c0, ts, la, gl, A3, c3, code⟩ := p
  simp only at LA hk hsm
  generalize lastB ⟨A0, c0, ts, la, gl, A3, c3, code⟩ k = l at LA ⊢
  show Calls _ _ #[.agg #[.slice A0 ts.length c0, .string la, .string gl, .slice A3 code.length c3], .int .i64 k] _ _
  go_enter Tryd.func68, Tryd.ntmps68
  go_wp2_with (go_at_call 105; (with_reducible refine (LA.out _ (below_alloc (Below.refl _ _) _)).mono ?_); rintro e w1 ⟨rfl, hb⟩; have HB := Aside0.mk (below_step (below_alloc (Below.refl _ _) _) hb); clear hb)
  go_ret
  exact ⟨rfl, HB.out⟩
end Go.Proofs.YtfkfpcciacplkaaDoor.FUL

namespace Go.Proofs.YtfkfpcciacplkaaDoor.PF
open Go.RowKit Go.Proofs.YtfkfpcciacplkaaDoorW.PrintWords Go.Proofs.YtfkfpcciacplkaaDoor.F Go.Proofs.YtfkfpcciacplkaaDoor.PL Go.Proofs.YtfkfpcciacplkaaDoor.FP Go.Proofs.YtfkfpcciacplkaaDoor.FSF Go.Proofs.YtfkfpcciacplkaaDoor.PK
set_option linter.unusedVariables false
set_option linter.unusedSimpArgs false
structure Fc where
  st : Bool
  raw : Bool
  pl : Bool
def FC (w : World) (A : Option Addr) (n : Nat) (f : Nat → Fc) : Prop := ∀ k, k < n → ∃ ad, A = some ad ∧ ∀ W, Below w.heap.size w W → W.cell? (ad.add (k * 3)) = some (.bool (f k).st) ∧ W.cell? ⟨(ad.add (k * 3)).block, (ad.add (k * 3)).off + 1, none⟩ = some (.bool (f k).raw) ∧ W.cell? ⟨(ad.add (k * 3)).block, (ad.add (k * 3)).off + 2, none⟩ = some (.bool (f k).pl)
theorem FC.below {w w1 : World} {A : Option Addr} {n : Nat} {f : Nat → Fc} (h : FC w A n f) (hb : Below w.heap.size w w1) : FC w1 A n f := fun k hk => by
  obtain ⟨ad, e, hy⟩ := h k hk
  exact ⟨ad, e, fun W hW => hy W (below_step hb hW)⟩
def RowF (w : World) (b n : Nat) (f : Nat → Fc) : Prop := ∃ cs : Array Value, w.heap[b]? = some (.cells cs 60 (0, 0)) ∧ cs.size = n * 3 ∧ ∀ k, k < n → cs[k * 3]? = some (.bool (f k).st) ∧ cs[k * 3 + 1]? = some (.bool (f k).raw) ∧ cs[k * 3 + 2]? = some (.bool (f k).pl)
theorem RowF.move {w w1 : World} {b n : Nat} {f : Nat → Fc} (h : RowF w b n f) (he : w1.heap[b]? = w.heap[b]?) : RowF w1 b n f := by
  obtain ⟨cs, hc, h2⟩ := h
  exact ⟨cs, he.trans hc, h2⟩
theorem RowF.lt {w : World} {b n : Nat} {f : Nat → Fc} (h : RowF w b n f) : b < w.heap.size := by
  obtain ⟨cs, hc, _⟩ := h
  exact blk_lt hc
theorem RowF.fc {w : World} {b n : Nat} {f : Nat → Fc} (h : RowF w b n f) : FC w (some ⟨b, 0, none⟩) n f := fun k hk => ⟨_, rfl, fun W hW => by
  obtain ⟨cs, hc, _, hy⟩ := h.move (hW.block b h.lt)
  obtain ⟨y0, y1, y2⟩ := hy k hk
  rw [Addr.add_mid, Nat.zero_add]
  exact ⟨(blk_cell hc _).trans y0, (blk_cell hc _).trans y1, (blk_cell hc _).trans y2⟩⟩
def cnt (g : Nat → Bool) : Nat → Nat
  | 0 => 0
  | k + 1 => cnt g k + (g k).toNat
theorem cnt_le (g : Nat → Bool) (k : Nat) : cnt g k ≤ k := by
  induction k with
  | zero => exact Nat.le_refl _
  | succ k ih => have := Bool.toNat_le (g k); simp only [cnt]; omega
theorem run_loadVar_num {P : Program} (w : World) (a : Addr) (ty : TypeId) (d : TypeDesc) (v : Value) (hu : P.underlying ty = some d) (hd : (match d with | .struct _ | .array _ _ => true | _ => false) = false) (hc : w.cell? a = some v) : (loadVar ty a).run P w = .ok v w := by
  have hagg : (isAgg ty).run P w = .ok false w := by
    unfold isAgg
    rw [Sem.run_bind, run_underlying hu w]
    cases d <;> simp_all
  simp [loadVar, Sem.run_bind, hagg, hc]
theorem results_cell3 {P : Program} {fn : Func} {p q r : Tmp} {ty : TypeId} (h : fn.results = #[.cell p ty, .cell q ty, .cell r ty]) (tmps : Array Value) (w : World) (d : TypeDesc) (hu : P.underlying ty = some d) (hd : (match d with | .struct _ | .array _ _ => true | _ => false) = false) (a b c : Addr) (x y z : Value)
    (ha : tmps.getD p undef = .pointer (some a)) (hb : tmps.getD q undef = .pointer (some b)) (hc : tmps.getD r undef = .pointer (some c)) (hx : w.cell? a = some x) (hy : w.cell? b = some y) (hz : w.cell? c = some z) : (results fn tmps).run P w = .ok (.tuple #[x, y, z]) w := by
  rw [Array.getD_eq_getD_getElem?] at ha hb hc
  simp only [results, h]
  simp [Sem.run_bind, Result.andThen, asAddr, ha, hb, hc, run_loadVar_num w a ty d x hu hd hx, run_loadVar_num w b ty d y hu hd hy, run_loadVar_num w c ty d z hu hd hz]
structure SV (w W : World) (s r q : Nat) : Prop where
  b0 : W.heap[w.heap.size]? = some (.cells #[.int .i64 s] 3 (0, 0))
  b1 : W.heap[w.heap.size + 1]? = some (.cells #[.int .i64 r] 3 (0, 0))
  b2 : W.heap[w.heap.size + 1 + 1]? = some (.cells #[.int .i64 q] 3 (0, 0))
  below : Below w.heap.size w W
theorem SV.alloc {w W : World} {s r q : Nat} (h : SV w W s r q) (o : Obj) : SV w (W.alloc o) s r q :=
  ⟨ST0.row_old _ _ _ (blk_lt h.b0) h.b0, ST0.row_old _ _ _ (blk_lt h.b1) h.b1, ST0.row_old _ _ _ (blk_lt h.b2) h.b2, below_alloc h.below _⟩
theorem SV.set0 {w W : World} {s r q : Nat} (h : SV w W s r q) (m : Nat) : SV w (W.setCell ⟨w.heap.size, 0, none⟩ (.int .i64 m)) m r q :=
  ⟨ST0.row_cellS _ h.b0, blk_far h.b1 (by simp) _, blk_far h.b2 (by simp; omega) _, h.below.setCell (Nat.le_refl _) _⟩
theorem SV.set1 {w W : World} {s r q : Nat} (h : SV w W s r q) (m : Nat) : SV w (W.setCell ⟨w.heap.size + 1, 0, none⟩ (.int .i64 m)) s m q :=
  ⟨blk_far h.b0 (by simp) _, ST0.row_cellS _ h.b1, blk_far h.b2 (by simp) _, h.below.setCell (Nat.le_succ _) _⟩
theorem SV.set2 {w W : World} {s r q : Nat} (h : SV w W s r q) (m : Nat) : SV w (W.setCell ⟨w.heap.size + 1 + 1, 0, none⟩ (.int .i64 m)) s r m :=
  ⟨blk_far h.b0 (by simp; omega) _, blk_far h.b1 (by simp) _, ST0.row_cellS _ h.b2, h.below.setCell (by simp; omega) _⟩
def LR (w W : World) (b : Nat) (t0 t1 t2 : Bool) : Prop := w.heap.size + 1 + 1 < b ∧ ∃ t, W.heap[b]? = some (.cells #[.bool t0, .pointer (some ⟨w.heap.size, 0, none⟩), .bool t1, .pointer (some ⟨w.heap.size + 1, 0, none⟩), .bool t2, .pointer (some ⟨w.heap.size + 1 + 1, 0, none⟩)] t (0, 0))
theorem LR.alloc {w W : World} {b : Nat} {t0 t1 t2 : Bool} (h : LR w W b t0 t1 t2) (o : Obj) : LR w (W.alloc o) b t0 t1 t2 := by
  obtain ⟨h0, t, h1⟩ := h
  exact ⟨h0, t, ST0.row_old _ _ _ (blk_lt h1) h1⟩
theorem LR.set {w W : World} {b : Nat} {t0 t1 t2 : Bool} (h : LR w W b t0 t1 t2) (i : Nat) (hi : i ≤ w.heap.size + 1 + 1) (v : Value) : LR w (W.setCell ⟨i, 0, none⟩ v) b t0 t1 t2 := by
  obtain ⟨h0, t, h1⟩ := h
  exact ⟨h0, t, blk_far h1 (by simp; omega) _⟩
set_option maxHeartbeats 8000000 in
set_option maxRecDepth 100000 in
theorem Saved_c (w : World) (A : Option Addr) (n c : Nat) (f : Nat → Fc) (hC : FC w A n f) (hn : n ≤ 4000000) : Calls Tryd.prog 33 #[.slice A n c] w fun e w' =>
    e = .returned (.tuple #[.int .i64 (cnt (fun k => (f k).st) n), .int .i64 (cnt (fun k => (f k).raw) n), .int .i64 (cnt (fun k => (f k).pl) n)]) ∧ Below w.heap.size w w' := by
  have HC := Aside0.mk hC
  clear hC
  go_enter Tryd.func33, Tryd.ntmps33
  go_upto_region 2 with (fail)
  obtain ⟨W0, hW0⟩ : ∃ W0 : World, W0 = ((w.alloc (.cells #[.int .i64 0] 3)).alloc (.cells #[.int .i64 0] 3)).alloc (.cells #[.int .i64 0] 3) := ⟨_, rfl⟩
  have HS := Aside0.mk (show SV w W0 0 0 0 by
    rw [hW0]
    exact ⟨ST0.row_old _ _ _ (by simp; omega) (ST0.row_old _ _ _ (by simp) (ST0.row_new _ _ _ rfl)), ST0.row_old _ _ _ (by simp) (ST0.row_new _ _ _ (by simp)), ST0.row_new _ _ _ (by simp), below_alloc (below_alloc (below_alloc (Below.refl _ _) _) _) _⟩)
  rw [← hW0]
  clear hW0
  go_loopw [11] (fun x W => ∃ k : Nat, x = .int .i64 k ∧ k ≤ n ∧ Aside0 (SV w W (cnt (fun k => (f k).st) k) (cnt (fun k => (f k).raw) k) (cnt (fun k => (f k).pl) k))) (fun x _ => n - (intOf x).toNat)
  case atStart => exact ⟨0, rfl, Nat.zero_le _, HS⟩
  case round =>
    clear HS
    obtain ⟨k, rfl, hk, HS⟩ := hrel
    by_cases hlt : (k : Int) < n
    · have k0 : (0 : Int) ≤ k := by omega
      obtain ⟨ad, rfl, hy⟩ := HC.out k (by omega)
      obtain ⟨y0, y1, y2⟩ := hy _ HS.out.below
      have hl0 := cnt_le (fun k => (f k).st) k
      have hl1 := cnt_le (fun k => (f k).raw) k
      have hl2 := cnt_le (fun k => (f k).pl) k
      have hs0 : cnt (fun k => (f k).st) (k + 1) = cnt (fun k => (f k).st) k + (f k).st.toNat := rfl
      have hs1 : cnt (fun k => (f k).raw) (k + 1) = cnt (fun k => (f k).raw) k + (f k).raw.toNat := rfl
      have hs2 : cnt (fun k => (f k).pl) (k + 1) = cnt (fun k => (f k).pl) k + (f k).pl.toNat := rfl
      have HN := Aside0.mk (And.intro hs0 (And.intro hs1 hs2))
      clear hs0 hs1 hs2
      generalize cnt (fun k => (f k).st) k = s at HS hl0 HN
      generalize cnt (fun k => (f k).raw) k = r at HS hl1 HN
      generalize cnt (fun k => (f k).pl) k = q at HS hl2 HN
      generalize (f k).st = t0 at y0 HN
      generalize (f k).raw = t1 at y1 HN
      generalize (f k).pl = t2 at y2 HN
      go_upto_region 5 with (fail)
      obtain ⟨b, hb⟩ : ∃ b, b = wr.heap.size + 1 := ⟨_, rfl⟩
      obtain ⟨W1, hW1⟩ : ∃ W1 : World, W1 = (wr.alloc (.cells #[.bool t0, .bool t1, .bool t2] 60)).alloc (.cells #[.bool t0, .pointer (some ⟨w.heap.size, 0, none⟩), .bool t1, .pointer (some ⟨w.heap.size + 1, 0, none⟩), .bool t2, .pointer (some ⟨w.heap.size + 1 + 1, 0, none⟩)] 99) := ⟨_, rfl⟩
      have HS1 := Aside0.mk (show SV w W1 s r q by rw [hW1]; exact (HS.out.alloc _).alloc _)
      have HR1 := Aside0.mk (show LR w W1 b t0 t1 t2 by
        rw [hW1, hb]
        have := blk_lt HS.out.b2
        exact ⟨by omega, _, ST0.row_new _ _ _ (by simp)⟩)
      rw [← hW1, ← hb]
      clear hW1 hb HS y0 y1 y2 hy
      go_loopw [26] (fun x W => ∃ j : Nat, x = .int .i64 j ∧ j ≤ 3 ∧ Aside0 (SV w W (s + if 1 ≤ j then t0.toNat else 0) (r + if 2 ≤ j then t1.toNat else 0) (q + if 3 ≤ j then t2.toNat else 0) ∧ LR w W b t0 t1 t2)) (fun x _ => 3 - (intOf x).toNat)
      case atStart => exact ⟨0, rfl, Nat.zero_le _, ⟨HS1.out, HR1.out⟩⟩
      case round =>
        clear HS1 HR1
        obtain ⟨j, rfl, hj, HJ⟩ := hrel
        obtain rfl | rfl | rfl | rfl : j = 0 ∨ j = 1 ∨ j = 2 ∨ j = 3 := by omega
        · have hV : SV w wr s r q := HJ.out.1
          have HL := Aside0.mk HJ.out.2
          have HV := Aside0.mk hV
          obtain ⟨hlr, tt, hL⟩ := HJ.out.2
          clear HJ
          have hbl := blk_lt hL
          have d0 := (blk_cell hV.b0 0).trans (rfl : _ = some (Value.int .i64 _))
          have f0 := blk_frozen hV.b0 0
          have a0 := (blk_cell hL 0).trans (rfl : _ = some (Value.bool t0))
          have a1 := (blk_cell hL 1).trans (rfl : _ = some (Value.pointer (some ⟨w.heap.size, 0, none⟩)))
          have hlt2 : w.heap.size + 1 + 1 < wr.heap.size := blk_lt hV.b2
          have hl2 : w.heap.size < wr.heap.size := by omega
          have hl3 : w.heap.size + 1 < wr.heap.size := by omega
          clear hV hL
          cases t0
          · go_wp2
            go_roundw
            case rel => exact ⟨1, rfl, by decide, ⟨HV.out.alloc _, HL.out.alloc _⟩⟩
            case measure => simp [intOf]
          · go_wp2
            go_roundw
            case rel => exact ⟨1, rfl, by decide, ⟨(HV.out.set0 (s + 1)).alloc _, (HL.out.set w.heap.size (by omega) _).alloc _⟩⟩
            case measure => simp [intOf]
        · have hV : SV w wr (s + t0.toNat) r q := HJ.out.1
          have hb0 := Bool.toNat_le t0
          have HL := Aside0.mk HJ.out.2
          have HV := Aside0.mk hV
          obtain ⟨hlr, tt, hL⟩ := HJ.out.2
          clear HJ
          have hbl := blk_lt hL
          have d1 := (blk_cell hV.b1 0).trans (rfl : _ = some (Value.int .i64 _))
          have f1 := blk_frozen hV.b1 0
          have a0 := (blk_cell hL 2).trans (rfl : _ = some (Value.bool t1))
          have a1 := (blk_cell hL 3).trans (rfl : _ = some (Value.pointer (some ⟨w.heap.size + 1, 0, none⟩)))
          have hlt2 : w.heap.size + 1 + 1 < wr.heap.size := blk_lt hV.b2
          have hl2 : w.heap.size < wr.heap.size := by omega
          have hl3 : w.heap.size + 1 < wr.heap.size := by omega
          clear hV hL
          cases t1
          · go_wp2
            go_roundw
            case rel => exact ⟨2, rfl, by decide, ⟨HV.out.alloc _, HL.out.alloc _⟩⟩
            case measure => simp [intOf]
          · go_wp2
            go_roundw
            case rel => exact ⟨2, rfl, by decide, ⟨(HV.out.set1 (r + 1)).alloc _, (HL.out.set (w.heap.size + 1) (by omega) _).alloc _⟩⟩
            case measure => simp [intOf]
        · have hV : SV w wr (s + t0.toNat) (r + t1.toNat) q := HJ.out.1
          have hb0 := Bool.toNat_le t0
          have hb1 := Bool.toNat_le t1
          have HL := Aside0.mk HJ.out.2
          have HV := Aside0.mk hV
          obtain ⟨hlr, tt, hL⟩ := HJ.out.2
          clear HJ
          have hbl := blk_lt hL
          have d2 := (blk_cell hV.b2 0).trans (rfl : _ = some (Value.int .i64 _))
          have f2 := blk_frozen hV.b2 0
          have a0 := (blk_cell hL 4).trans (rfl : _ = some (Value.bool t2))
          have a1 := (blk_cell hL 5).trans (rfl : _ = some (Value.pointer (some ⟨w.heap.size + 1 + 1, 0, none⟩)))
          have hlt2 : w.heap.size + 1 + 1 < wr.heap.size := blk_lt hV.b2
          have hl2 : w.heap.size < wr.heap.size := by omega
          have hl3 : w.heap.size + 1 < wr.heap.size := by omega
          clear hV hL
          cases t2
          · go_wp2
            go_roundw
            case rel => exact ⟨3, rfl, by decide, ⟨HV.out.alloc _, HL.out.alloc _⟩⟩
            case measure => simp [intOf]
          · go_wp2
            go_roundw
            case rel => exact ⟨3, rfl, by decide, ⟨(HV.out.set2 (q + 1)).alloc _, (HL.out.set (w.heap.size + 1 + 1) (by omega) _).alloc _⟩⟩
            case measure => simp [intOf]
        · have HV := Aside0.mk (show SV w wr (s + t0.toNat) (r + t1.toNat) (q + t2.toNat) from HJ.out.1)
          clear HJ
          go_wp2
          go_roundw
          case rel => exact ⟨k + 1, by go_num, by omega, ⟨by rw [HN.out.1, HN.out.2.1, HN.out.2.2]; exact HV.out⟩⟩
          case measure =>
            simp [intOf]
            omega
    · obtain rfl : k = n := by omega
      have c0 := (blk_cell HS.out.b0 0).trans (rfl : _ = some (Value.int .i64 _))
      have c1 := (blk_cell HS.out.b1 0).trans (rfl : _ = some (Value.int .i64 _))
      have c2 := (blk_cell HS.out.b2 0).trans (rfl : _ = some (Value.int .i64 _))
      have f0 := blk_frozen HS.out.b0 0
      have f1 := blk_frozen HS.out.b1 0
      have f2 := blk_frozen HS.out.b2 0
      go_wp2
      have hz := ((HS.out.set0 (cnt (fun k => (f k).st) k)).set1 (cnt (fun k => (f k).raw) k)).set2 (cnt (fun k => (f k).pl) k)
      (try simp only [Exit.inBlock, Exit.then])
      refine bodyPost_ret (results_cell3 rfl _ _ _ Tryd.underlying3 rfl _ _ _ _ _ _ rfl rfl rfl ((blk_cell hz.b0 0).trans rfl) ((blk_cell hz.b1 0).trans rfl) ((blk_cell hz.b2 0).trans rfl)) rfl ?_
      exact ⟨rfl, hz.below⟩
end Go.Proofs.YtfkfpcciacplkaaDoor.PF

namespace Go.Proofs.YtfkfpcciacplkaaDoor.PL
open Go.RowKit Go.Proofs.YtfkfpcciacplkaaDoorW.PrintWords Go.Proofs.YtfkfpcciacplkaaDoor.F Go.Proofs.YtfkfpcciacplkaaDoor.KP Go.Proofs.YtfkfpcciacplkaaDoor.CR Go.Proofs.YtfkfpcciacplkaaDoor.SH Go.Proofs.YtfkfpcciacplkaaDoor.FM Go.Proofs.YtfkfpcciacplkaaDoor.ST0
set_option linter.unusedVariables false
set_option linter.unusedSectionVars false
set_option linter.unusedSimpArgs false
noncomputable def kindsD (ts : List ByteArray) (la gl : ByteArray) (o : Nat) (f1 f2 f3 f4 : Int) : Bool :=
  if o = 1 ∨ o = 4 ∨ o = 14 then decide (f1 < 8) else if o = 2 then decide (f1 < 8) && (decide (f2 < 8) && decide (f3 < 8)) else if o = 5 ∨ o = 6 then decide (0 ≤ atv ts la f1)
  else if o = 7 then oneB (atv ts la f1) (atv ts la f2) else if o = 8 then decide (f1 < 8) && numP ts (atv ts la f2) f4 else if o = 9 then decide (f2 < 8) && numP ts (atv ts la f1) f4
  else if o = 10 then oneB (atv ts la f1) (toP ts (atv ts la f2) f4) else if o = 11 then oneB (atv ts la f2) (toP ts (atv ts la f1) f4)
  else if o = 12 then oneB (atv ts la f1) (atv ts gl f2) else if o = 13 then oneB (atv ts la f2) (atv ts gl f1) else if o = 15 then decide (f1 < 8) && oneB (atv ts la f2) (atv ts la f3) else true
theorem oneB_iff' (a b : Int) : oneB a b = true ↔ 0 ≤ a ∧ a = b := by simp [oneB]
theorem kindsD_iff {ts : List ByteArray} {la gl : ByteArray} {o : Nat} {f1 f2 f3 f4 : Int} (h1 : 1 ≤ o) (h15 : o ≤ 15) : kindsD ts la gl o f1 f2 f3 f4 = true ↔ intsB o f1 f2 f3 = true ∧ KindsP ts la gl o f1 f2 f3 f4 := by
  unfold kindsD KindsP intsB numP toP
  obtain rfl | rfl | rfl | rfl | rfl | rfl | rfl | rfl | rfl | rfl | rfl | rfl | rfl | rfl | rfl : o = 1 ∨ o = 2 ∨ o = 3 ∨ o = 4 ∨ o = 5 ∨ o = 6 ∨ o = 7 ∨ o = 8 ∨ o = 9 ∨ o = 10 ∨ o = 11 ∨ o = 12 ∨ o = 13 ∨ o = 14 ∨ o = 15 := by omega
  all_goals simp [oneB_iff']
  all_goals split <;> omega
section
variable (p : Pg) (w : World) (o : Nat) (f1 f2 f3 f4 : Int) (h1 : 1 ≤ o) (h15 : o ≤ 15) (hx : WfI o f1 f2 f3 f4) (hp : p.On w)
include h1 h15 hx hp
set_option maxHeartbeats 8000000 in
set_option maxRecDepth 100000 in
theorem pkinds_c : Calls Tryd.prog 57 #[p.v, .agg #[.int .u8 o, .int .u8 f1, .int .u8 f2, .int .u8 f3, .int .i64 f4]] w fun e w' => e = .returned (.bool (kindsD p.ts p.la p.gl o f1 f2 f3 f4)) ∧ Below w.heap.size w w' := by
  obtain ⟨_, ⟨a0, a1⟩, ⟨b0, b1⟩, ⟨c0', c1⟩, _⟩ := hx
  obtain ⟨A0, c0, ts, la, gl, A3, c3, code⟩ := p
  have HP := Aside0.mk hp
  have HA := Aside0.mk (And.intro a0 a1)
  have HBB := Aside0.mk (And.intro b0 b1)
  have HCC := Aside0.mk (And.intro c0' c1)
  clear hp a0 a1 b0 b1 c0' c1
  have LOC : Aside0 (∀ W, Below w.heap.size w W → ∀ a : Int, 0 ≤ a → a ≤ 255 → Calls Tryd.prog 71 #[.agg #[.slice A0 ts.length c0, .string la, .string gl, .slice A3 code.length c3], .int .u8 a] W fun e w' => e = .returned (.int .i64 (atv ts la a)) ∧ Below W.heap.size W w') := ⟨fun W hW a h0 h1 => pLocal_c ⟨A0, c0, ts, la, gl, A3, c3, code⟩ W (HP.out.below hW) a h0 h1⟩
  have HW := Aside0.mk (Below.refl w.heap.size w)
  show Calls Tryd.prog 57 #[.agg #[.slice A0 ts.length c0, .string la, .string gl, .slice A3 code.length c3], .agg #[.int .u8 o, .int .u8 f1, .int .u8 f2, .int .u8 f3, .int .i64 f4]] w fun e w' => e = .returned (.bool (kindsD ts la gl o f1 f2 f3 f4)) ∧ Below w.heap.size w w'
  go_enter Tryd.func57, Tryd.ntmps57
  go_upto_region 1 with (fail)
  obtain ⟨W0, hW0⟩ : ∃ W0 : World, W0 = (w.alloc (.cells #[.slice A0 ts.length c0, .string la, .string gl, .slice A3 code.length c3] 46)).alloc (.cells #[.int .u8 o, .int .u8 f1, .int .u8 f2, .int .u8 f3, .int .i64 f4] 68) := ⟨_, rfl⟩
  have R0 : W0.heap[w.heap.size]? = some (.cells #[.slice A0 ts.length c0, .string la, .string gl, .slice A3 code.length c3] 46 (0, 0)) := by rw [hW0]; exact row_old _ _ _ (by simp) (heap_alloc_new _ _)
  have R1 : W0.heap[w.heap.size + 1]? = some (.cells #[.int .u8 o, .int .u8 f1, .int .u8 f2, .int .u8 f3, .int .i64 f4] 68 (0, 0)) := by rw [hW0]; exact row_new _ _ _ (by simp)
  have zz : w.heap.size + 1 + 1 ≤ W0.heap.size := by rw [hW0]; simp
  have HW := Aside0.mk (show Below w.heap.size w W0 by rw [hW0]; exact below_alloc (below_alloc (Below.refl _ _) _) _)
  rw [← hW0]
  clear hW0
  have e0 : W0.cell? ⟨w.heap.size, 0, none⟩ = some (.slice A0 ts.length c0) := (cell_of_row _ _ 0 _ _ _ R0).trans rfl
  have e1 : W0.cell? ⟨w.heap.size, 1, none⟩ = some (.string la) := (cell_of_row _ _ 1 _ _ _ R0).trans rfl
  have e2 : W0.cell? ⟨w.heap.size, 2, none⟩ = some (.string gl) := (cell_of_row _ _ 2 _ _ _ R0).trans rfl
  have e3 : W0.cell? ⟨w.heap.size, 3, none⟩ = some (.slice A3 code.length c3) := (cell_of_row _ _ 3 _ _ _ R0).trans rfl
  have g0 : W0.cell? ⟨w.heap.size + 1, 0, none⟩ = some (.int .u8 o) := (cell_of_row _ _ 0 _ _ _ R1).trans rfl
  have g1 : W0.cell? ⟨w.heap.size + 1, 1, none⟩ = some (.int .u8 f1) := (cell_of_row _ _ 1 _ _ _ R1).trans rfl
  have g2 : W0.cell? ⟨w.heap.size + 1, 2, none⟩ = some (.int .u8 f2) := (cell_of_row _ _ 2 _ _ _ R1).trans rfl
  have g3 : W0.cell? ⟨w.heap.size + 1, 3, none⟩ = some (.int .u8 f3) := (cell_of_row _ _ 3 _ _ _ R1).trans rfl
  have g4 : W0.cell? ⟨w.heap.size + 1, 4, none⟩ = some (.int .i64 f4) := (cell_of_row _ _ 4 _ _ _ R1).trans rfl
  clear R0 R1
  go_region_held3 (fun w' => w'.cell? ⟨w.heap.size, 0, none⟩ = some (.slice A0 ts.length c0) ∧ w'.cell? ⟨w.heap.size, 1, none⟩ = some (.string la) ∧ w'.cell? ⟨w.heap.size, 2, none⟩ = some (.string gl) ∧ w'.cell? ⟨w.heap.size, 3, none⟩ = some (.slice A3 code.length c3) ∧ w'.cell? ⟨w.heap.size + 1, 1, none⟩ = some (.int .u8 f1) ∧ w'.cell? ⟨w.heap.size + 1, 2, none⟩ = some (.int .u8 f2))
      (first
        | (exact ⟨e0, e1, e2, e3, g1, g2⟩)
        | go_keep)
      ((first
        | (go_at_call 71; ((with_reducible refine (LOC.out _ ?side1 f1 HA.out.1 HA.out.2).mono ?_); (case side1 => first | exact HW.out | exact below_drew1 HW.out); rintro e w1 ⟨rfl, hb1⟩; obtain ⟨hq1, hf1⟩ := bcell (B := w.heap.size + 1 + 1) (hb1.mono zz); have e0 := (hq1 _ _ (by omega)).trans e0; have e1 := (hq1 _ _ (by omega)).trans e1; have e2 := (hq1 _ _ (by omega)).trans e2; have e3 := (hq1 _ _ (by omega)).trans e3; have g0 := (hq1 _ _ (by omega)).trans g0; have g1 := (hq1 _ _ (by omega)).trans g1; have g2 := (hq1 _ _ (by omega)).trans g2; have g3 := (hq1 _ _ (by omega)).trans g3; have g4 := (hq1 _ _ (by omega)).trans g4; have HW := Aside0.mk (show Below w.heap.size w w1 from below_step (by first | exact HW.out | exact below_drew1 HW.out) hb1); have zz : w.heap.size + 1 + 1 ≤ w1.heap.size := Nat.le_trans zz hb1.size; clear hb1 hq1 hf1))
        | (go_at_call 71; ((with_reducible refine (LOC.out _ ?side1 f2 HBB.out.1 HBB.out.2).mono ?_); (case side1 => first | exact HW.out | exact below_drew1 HW.out); rintro e w1 ⟨rfl, hb1⟩; obtain ⟨hq1, hf1⟩ := bcell (B := w.heap.size + 1 + 1) (hb1.mono zz); have e0 := (hq1 _ _ (by omega)).trans e0; have e1 := (hq1 _ _ (by omega)).trans e1; have e2 := (hq1 _ _ (by omega)).trans e2; have e3 := (hq1 _ _ (by omega)).trans e3; have g0 := (hq1 _ _ (by omega)).trans g0; have g1 := (hq1 _ _ (by omega)).trans g1; have g2 := (hq1 _ _ (by omega)).trans g2; have g3 := (hq1 _ _ (by omega)).trans g3; have g4 := (hq1 _ _ (by omega)).trans g4; have HW := Aside0.mk (show Below w.heap.size w w1 from below_step (by first | exact HW.out | exact below_drew1 HW.out) hb1); have zz : w.heap.size + 1 + 1 ≤ w1.heap.size := Nat.le_trans zz hb1.size; clear hb1 hq1 hf1))))
  have GLB : Aside0 (∀ W, Below w.heap.size w W → ∀ a : Int, 0 ≤ a → a ≤ 255 → Calls Tryd.prog 95 #[.agg #[.slice A0 ts.length c0, .string la, .string gl, .slice A3 code.length c3], .int .u8 a] W fun e w' => e = .returned (.int .i64 (atv ts gl a)) ∧ Below W.heap.size W w') := ⟨fun W hW a h0 h1 => pGlob_c ⟨A0, c0, ts, la, gl, A3, c3, code⟩ W (HP.out.below hW) a h0 h1⟩
  have NUM : Aside0 (∀ W, Below w.heap.size w W → ∀ a n : Int, Calls Tryd.prog 93 #[.agg #[.slice A0 ts.length c0, .string la, .string gl, .slice A3 code.length c3], .int .i64 a, .int .i64 n] W fun e w' => e = .returned (.bool (numP ts a n)) ∧ Below W.heap.size W w') := ⟨fun W hW a n => pnumber_c ⟨A0, c0, ts, la, gl, A3, c3, code⟩ W (HP.out.below hW) a n⟩
  have TO : Aside0 (∀ W, Below w.heap.size w W → ∀ a n : Int, Calls Tryd.prog 94 #[.agg #[.slice A0 ts.length c0, .string la, .string gl, .slice A3 code.length c3], .int .i64 a, .int .i64 n] W fun e w' => e = .returned (.tuple #[.int .i64 (toP ts a n), .bool (isP ts a n)]) ∧ Below W.heap.size W w') := ⟨fun W hW a n => pfield_c ⟨A0, c0, ts, la, gl, A3, c3, code⟩ W (HP.out.below hW) a n⟩
  obtain ⟨b1, hb1⟩ : ∃ b1, decide (f1 < 8) = b1 := ⟨_, rfl⟩
  obtain ⟨b2, hb2⟩ : ∃ b2, decide (f2 < 8) = b2 := ⟨_, rfl⟩
  have D1 := Aside0.mk hb1
  have D2 := Aside0.mk hb2
  clear hb1 hb2
  obtain rfl | rfl | rfl | rfl | rfl | rfl | rfl | ⟨rfl, rfl⟩ | ⟨rfl, rfl⟩ | ⟨rfl, rfl⟩ | ⟨rfl, rfl⟩ | rfl | rfl | rfl | rfl | rfl | ⟨rfl, rfl⟩ | ⟨rfl, rfl⟩ : o = 1 ∨ o = 2 ∨ o = 3 ∨ o = 4 ∨ o = 5 ∨ o = 6 ∨ o = 7 ∨ (o = 8 ∧ b1 = true) ∨ (o = 8 ∧ b1 = false) ∨ (o = 9 ∧ b2 = true) ∨ (o = 9 ∧ b2 = false) ∨ o = 10 ∨ o = 11 ∨ o = 12 ∨ o = 13 ∨ o = 14 ∨ (o = 15 ∧ b1 = true) ∨ (o = 15 ∧ b1 = false) := by
    have := Bool.eq_false_or_eq_true b1
    have := Bool.eq_false_or_eq_true b2
    cases b1 <;> cases b2 <;> simp <;> omega
  all_goals
    go_wp2_with (first
      | (go_at_call 91; (with_reducible refine (ints1_c _ _ f1 _ D1.out).mono ?_); rintro e w2 ⟨rfl, hb2⟩; obtain ⟨hq1, hf1⟩ := bcell (B := w.heap.size + 1 + 1) ((below_step (below_alloc (Below.refl _ _) _) hb2).mono zz); have e0 := (hq1 _ _ (by omega)).trans e0; have e1 := (hq1 _ _ (by omega)).trans e1; have e2 := (hq1 _ _ (by omega)).trans e2; have e3 := (hq1 _ _ (by omega)).trans e3; have g0 := (hq1 _ _ (by omega)).trans g0; have g1 := (hq1 _ _ (by omega)).trans g1; have g2 := (hq1 _ _ (by omega)).trans g2; have g3 := (hq1 _ _ (by omega)).trans g3; have g4 := (hq1 _ _ (by omega)).trans g4; have HW := Aside0.mk (below_step (below_alloc HW.out _) hb2); clear hb2 hq1 hf1)
      | (go_at_call 91; (with_reducible refine (ints1_c _ _ f2 _ D2.out).mono ?_); rintro e w2 ⟨rfl, hb2⟩; obtain ⟨hq1, hf1⟩ := bcell (B := w.heap.size + 1 + 1) ((below_step (below_alloc (Below.refl _ _) _) hb2).mono zz); have e0 := (hq1 _ _ (by omega)).trans e0; have e1 := (hq1 _ _ (by omega)).trans e1; have e2 := (hq1 _ _ (by omega)).trans e2; have e3 := (hq1 _ _ (by omega)).trans e3; have g0 := (hq1 _ _ (by omega)).trans g0; have g1 := (hq1 _ _ (by omega)).trans g1; have g2 := (hq1 _ _ (by omega)).trans g2; have g3 := (hq1 _ _ (by omega)).trans g3; have g4 := (hq1 _ _ (by omega)).trans g4; have HW := Aside0.mk (below_step (below_alloc HW.out _) hb2); clear hb2 hq1 hf1)
      | (go_at_call 91; (with_reducible refine (ints3_c _ _ f1 f2 f3).mono ?_); rintro e w2 ⟨rfl, hb2⟩; have HW := Aside0.mk (below_step (below_alloc HW.out _) hb2); clear hb2)
      | (go_at_call 71; (with_reducible refine (LOC.out _ HW.out f3 HCC.out.1 HCC.out.2).mono ?_); rintro e w2 ⟨rfl, hb2⟩; have HW := Aside0.mk (below_step HW.out hb2); clear hb2)
      | (go_at_call 95; (with_reducible refine (GLB.out _ HW.out f2 HBB.out.1 HBB.out.2).mono ?_); rintro e w2 ⟨rfl, hb2⟩; have HW := Aside0.mk (below_step HW.out hb2); clear hb2)
      | (go_at_call 95; (with_reducible refine (GLB.out _ HW.out f1 HA.out.1 HA.out.2).mono ?_); rintro e w2 ⟨rfl, hb2⟩; have HW := Aside0.mk (below_step HW.out hb2); clear hb2)
      | (go_at_call 93; (with_reducible refine (NUM.out _ HW.out _ f4).mono ?_); rintro e w2 ⟨rfl, hb2⟩; have HW := Aside0.mk (below_step HW.out hb2); clear hb2)
      | (go_at_call 94; (with_reducible refine (TO.out _ HW.out _ f4).mono ?_); rintro e w2 ⟨rfl, hb2⟩; have HW := Aside0.mk (below_step HW.out hb2); clear hb2)
      | (go_at_call 92; (with_reducible refine (pone_c _ _ _).mono ?_); rintro e w2 ⟨rfl, hb2⟩; have HW := Aside0.mk (below_step HW.out hb2); clear hb2))
  all_goals
    go_ret
    refine ⟨?_, HW.out⟩
    first | (simp [kindsD, *]; done) | (simp [kindsD, D1.out, D2.out]; done) | (simp [kindsD]; omega)
end
end Go.Proofs.YtfkfpcciacplkaaDoor.PL

namespace Go.Proofs.YtfkfpcciacplkaaDoor.PL
open Go.RowKit Go.Proofs.YtfkfpcciacplkaaDoorW.PrintWords Go.Proofs.YtfkfpcciacplkaaDoor.F Go.Proofs.YtfkfpcciacplkaaDoor.KP Go.Proofs.YtfkfpcciacplkaaDoor.CR Go.Proofs.YtfkfpcciacplkaaDoor.SH Go.Proofs.YtfkfpcciacplkaaDoor.FM Go.Proofs.YtfkfpcciacplkaaDoor.ST0 Go.Proofs.YtfkfpcciacplkaaDoor.Scan
set_option linter.unusedVariables false
set_option linter.unusedSectionVars false
set_option linter.unusedSimpArgs false
theorem bt_app (a b : ByteArray) (j : Int) (h0 : 0 ≤ j) : bt (a ++ b) j = if j < a.size then bt a j else bt b (j - a.size) := by
  obtain ⟨n, rfl⟩ := Int.eq_ofNat_of_zero_le h0
  have hz : (a ++ b).size = a.size + b.size := ByteArray.size_append
  unfold bt
  simp only [Int.toNat_natCast]
  by_cases h : n < a.size
  · rw [dif_pos (by omega), if_pos (by omega), dif_pos h, ByteArray.getElem_append_left h]
  · rw [if_neg (by omega)]
    have e : ((n : Int) - a.size).toNat = n - a.size := by omega
    by_cases h' : n < (a ++ b).size
    · rw [dif_pos h', dif_pos (by omega), ByteArray.getElem_append_right (by omega)]
      simp only [e]
    · rw [dif_neg h', dif_neg (by omega)]
theorem refs_app (ts : List ByteArray) (a b : ByteArray) : refs ts (a ++ b) = true ↔ refs ts a = true ∧ refs ts b = true := by
  rw [refs_iff, refs_iff, refs_iff]
  have hz : (a ++ b).size = a.size + b.size := ByteArray.size_append
  constructor
  · rintro ⟨hr, h⟩
    refine ⟨⟨hr, fun j h0 h1 => ?_⟩, hr, fun j h0 h1 => ?_⟩
    · have := h j h0 (by omega)
      rwa [bt_app _ _ _ h0, if_pos h1] at this
    · have := h (j + a.size) (by omega) (by omega)
      rwa [bt_app _ _ _ (by omega), if_neg (by omega), Int.add_sub_cancel] at this
  · rintro ⟨⟨hr, h⟩, _, h'⟩
    refine ⟨hr, fun j h0 h1 => ?_⟩
    rw [bt_app _ _ _ h0]
    split
    · exact h j h0 ‹_›
    · exact h' (j - a.size) (by omega) (by omega)
def rgt (o : Nat) (f1 f2 f3 f4 : Int) : Bool := if (o : Int) < 1 ∨ 15 < (o : Int) then false else rightB o f1 f2 f3 f4
theorem Right_c (w : World) (o : Nat) (f1 f2 f3 f4 : Int) (hot : OT w) : Calls Tryd.prog 56 #[.agg #[.int .u8 o, .int .u8 f1, .int .u8 f2, .int .u8 f3, .int .i64 f4]] w fun e w' => e = .returned (.bool (rgt o f1 f2 f3 f4)) ∧ Below w.heap.size w w' := by
  refine code_Right.calls o f1 f2 f3 f4 _ w ?_ hot
  unfold code_Right.f rgt
  rw [if_pos (by omega), Int.toNat_natCast]
theorem rgt_op {o : Nat} {f1 f2 f3 f4 : Int} (h : rgt o f1 f2 f3 f4 = true) : (1 ≤ o ∧ o ≤ 15) ∧ rightB o f1 f2 f3 f4 = true := by
  unfold rgt at h
  split at h
  · cases h
  · exact ⟨by omega, h⟩
def IsT (r : Bool) : Prop := r = true
theorem IsT.mk : IsT true := rfl
def OkI (r kd : Bool) (o : Nat) (f4 : Int) (n : Nat) : Prop := r = true ∧ kd = true ∧ (o = 3 ∨ o = 4 → 0 ≤ f4 ∧ f4 ≤ n)
section
variable (p : Pg) (w : World) (hp : p.On w)
include hp
set_option maxHeartbeats 8000000 in
set_option maxRecDepth 100000 in
theorem pCheck_c : Calls Tryd.prog 41 #[p.v] w fun e w' => ∃ r er : Int, e = .returned (.tuple #[.int .i64 r, .int .i64 er]) ∧ (er = 0 ↔ SpP p) ∧ (er = 0 → r = -1) ∧ Below w.heap.size w w' := by
  have HP := Aside0.mk hp
  have hlc := hp.hc
  have hla := hp.hla
  have hgl := hp.hgl
  obtain ⟨A0, c0, ts, la, gl, A3, c3, code⟩ := p
  simp only at hlc hla hgl
  obtain ⟨b, hb⟩ : ∃ b, refs ts (la ++ gl) = b := ⟨_, rfl⟩
  have REF : Aside0 (∀ W, Below w.heap.size w W → Calls Tryd.prog 55 #[.slice A0 ts.length c0, .string (la ++ gl)] W fun e w' => e = .returned (.bool b) ∧ Below W.heap.size W w') := ⟨fun W hW => by
    rw [← hb]
    exact pRefs_c ⟨A0, c0, ts, la, gl, A3, c3, code⟩ W (HP.out.below hW) (la ++ gl) (by rw [ByteArray.size_append]; omega)⟩
  have HSP := Aside0.mk (show SpP ⟨A0, c0, ts, la, gl, A3, c3, code⟩ → b = true ∧ ¬ (la.size : Int) > 8 ∧ ¬ (gl.size : Int) > 4 ∧ ¬ (code.length : Int) < 1 ∧ ¬ (code.length : Int) > 200 from fun h => ⟨by rw [← hb]; exact (refs_app ts la gl).2 h.refs, by have := h.locals; simp only at this; omega, by have := h.globals; simp only at this; omega, by have := h.len; simp only at this; omega, by have := h.len; simp only at this; omega⟩)
  have HB0 := Aside0.mk hb
  clear hp hb
  have HW := Aside0.mk (Below.refl w.heap.size w)
  show Calls Tryd.prog 41 #[.agg #[.slice A0 ts.length c0, .string la, .string gl, .slice A3 code.length c3]] w fun e w' => ∃ r er : Int, e = .returned (.tuple #[.int .i64 r, .int .i64 er]) ∧ (er = 0 ↔ SpP ⟨A0, c0, ts, la, gl, A3, c3, code⟩) ∧ (er = 0 → r = -1) ∧ Below w.heap.size w w'
  by_cases hall : b = true ∧ ¬ (la.size : Int) > 8 ∧ ¬ (gl.size : Int) > 4 ∧ ¬ (code.length : Int) < 1 ∧ ¬ (code.length : Int) > 200
  · obtain ⟨rfl, h3, h4, h5, h6⟩ := hall
    have HRL := Aside0.mk (show (refs ts la = true ∧ refs ts gl = true) ∧ la.size ≤ 8 ∧ gl.size ≤ 4 ∧ 1 ≤ code.length ∧ code.length ≤ 200 from ⟨(refs_app ts la gl).1 HB0.out, by omega, by omega, by omega, by omega⟩)
    go_enter Tryd.func41, Tryd.ntmps41
    go_wp2_with (go_at_call 55; (with_reducible refine (REF.out _ ?side1).mono ?_); (case side1 => exact below_alloc HW.out _); rintro e w1 ⟨rfl, hb1⟩; have R0 := (hb1.block w.heap.size (by simp)).trans (heap_alloc_new w _); have kR := fun j => cell_of_row w1 w.heap.size j _ _ _ R0; have HW := Aside0.mk (below_step (below_alloc HW.out _) hb1); clear hb1)
    have HR0 := Aside0.mk R0
    clear kR R0 REF
    go_loopw [42] (fun c wr => ∃ i : Nat, i ≤ code.length ∧ c = .int .i64 i ∧ Aside0 (∀ j, j < i → InsAt ts la gl code j) ∧ Aside0 (wr.heap[w.heap.size]? = some (.cells #[.slice A0 ts.length c0, .string la, .string gl, .slice A3 code.length c3] 46 (0, 0))) ∧ Aside0 (Below w.heap.size w wr)) (fun c _ => code.length - (intOf c).toNat)
    case atStart => exact ⟨0, Nat.zero_le _, rfl, ⟨fun j hj => absurd hj (Nat.not_lt_zero _)⟩, HR0, HW⟩
    case round =>
      clear HR0 HW
      obtain ⟨i, hi, rfl, HI, HR, HB⟩ := hrel
      by_cases hlt : (i : Int) < (code.length : Int)
      · have p0 : (0 : Int) ≤ i := by omega
        obtain ⟨ad, rfl, x0, x1, x2, x3, x4⟩ := at_T68 HP.out.hC (i : Int) p0 hlt
        rw [Int.toNat_natCast] at x0 x1 x2 x3 x4
        replace x0 := (HB.out.cell (World.block_lt_of_cell? w _ x0)).trans x0
        replace x1 := (HB.out.cell (World.block_lt_of_cell? w _ x1)).trans x1
        replace x2 := (HB.out.cell (World.block_lt_of_cell? w _ x2)).trans x2
        replace x3 := (HB.out.cell (World.block_lt_of_cell? w _ x3)).trans x3
        replace x4 := (HB.out.cell (World.block_lt_of_cell? w _ x4)).trans x4
        have hwf := HP.out.hw.rd i (show i < code.length by omega)
        obtain ⟨o, ho⟩ := Int.eq_ofNat_of_zero_le hwf.1.1
        rw [ho] at x0 hwf
        have HIA := Aside0.mk (show InsP ts la gl code.length o (rd_T68 code i).f1 (rd_T68 code i).f2 (rd_T68 code i).f3 (rd_T68 code i).f4 → InsAt ts la gl code i from fun h => ⟨o, ho, h⟩)
        have HIB := Aside0.mk (show InsAt ts la gl code i → InsP ts la gl code.length o (rd_T68 code i).f1 (rd_T68 code i).f2 (rd_T68 code i).f3 (rd_T68 code i).f4 from fun ⟨o', ho', h⟩ => by
          have h2 : (o' : Int) = o := ho'.symm.trans ho
          have : o' = o := by omega
          rwa [this] at h)
        obtain ⟨f1, e1⟩ : ∃ f1, (rd_T68 code i).f1 = f1 := ⟨_, rfl⟩
        obtain ⟨f2, e2⟩ : ∃ f2, (rd_T68 code i).f2 = f2 := ⟨_, rfl⟩
        obtain ⟨f3, e3⟩ : ∃ f3, (rd_T68 code i).f3 = f3 := ⟨_, rfl⟩
        obtain ⟨f4, e4⟩ : ∃ f4, (rd_T68 code i).f4 = f4 := ⟨_, rfl⟩
        rw [e1] at x1
        rw [e2] at x2
        rw [e3] at x3
        rw [e4] at x4
        rw [e1, e2, e3, e4] at HIA HIB hwf
        clear e1 e2 e3 e4 ho
        have HWF := Aside0.mk hwf
        clear hwf
        obtain ⟨r, hr⟩ : ∃ r, rgt o f1 f2 f3 f4 = r := ⟨_, rfl⟩
        obtain ⟨kd, hk⟩ : ∃ kd, kindsD ts la gl o f1 f2 f3 f4 = kd := ⟨_, rfl⟩
        have RGT := Aside0.mk (show ∀ W, Below w.heap.size w W → Calls Tryd.prog 56 #[.agg #[.int .u8 o, .int .u8 f1, .int .u8 f2, .int .u8 f3, .int .i64 f4]] W fun e w' => e = .returned (.bool r) ∧ Below W.heap.size W w' from fun W hW => by rw [← hr]; exact Right_c W o f1 f2 f3 f4 (OT_below HP.out.ot hW))
        have KND := Aside0.mk (show IsT r → ∀ W, Below w.heap.size w W → Calls Tryd.prog 57 #[.agg #[.slice A0 ts.length c0, .string la, .string gl, .slice (some ad) code.length c3], .agg #[.int .u8 o, .int .u8 f1, .int .u8 f2, .int .u8 f3, .int .i64 f4]] W fun e w' => e = .returned (.bool kd) ∧ Below W.heap.size W w' from fun ht W hW => by
          rw [← hk]
          have := rgt_op (hr.trans ht)
          exact pkinds_c ⟨A0, c0, ts, la, gl, some ad, c3, code⟩ W o f1 f2 f3 f4 this.1.1 this.1.2 HWF.out (HP.out.below hW))
        have HIP := Aside0.mk (show InsP ts la gl code.length o f1 f2 f3 f4 ↔ OkI r kd o f4 code.length from ⟨fun h => ⟨by
            rw [← hr]
            unfold rgt
            rw [if_neg (by have := h.op; omega)]
            exact h.right, by rw [← hk]; exact (kindsD_iff h.op.1 h.op.2).2 ⟨h.ints, h.kinds⟩, h.jump⟩, fun ⟨h1, h2, h3⟩ => by
            have a := rgt_op (hr.trans h1)
            have b := (kindsD_iff a.1.1 a.1.2).1 (hk.trans h2)
            exact ⟨a.1, a.2, h3, b.1, b.2⟩⟩)
        clear hr hk
        have HSI := Aside0.mk (show SpP ⟨A0, c0, ts, la, gl, some ad, c3, code⟩ → OkI r kd o f4 code.length from fun h => HIP.out.1 (HIB.out (h.all i (by simp only; omega))))
        obtain ⟨wo, rfl⟩ : ∃ wo : World, wo = wr := ⟨_, rfl⟩
        by_cases hgood : OkI r kd o f4 code.length
        · have HOK := Aside0.mk (HIA.out (HIP.out.2 hgood))
          unfold OkI at hgood
          obtain ⟨rfl, rfl, hj⟩ := hgood
          have hq : (((o : Int) == 3) = true ∧ ¬ f4 < 0 ∧ ¬ f4 > (code.length : Int)) ∨ (((o : Int) == 3) = false ∧ ((o : Int) == 4) = true ∧ ¬ f4 < 0 ∧ ¬ f4 > (code.length : Int)) ∨ (((o : Int) == 3) = false ∧ ((o : Int) == 4) = false) := by
            simp only [beq_eq_false_iff_ne, beq_iff_eq]
            omega
          clear hj HSI HIP HIB HIA
          obtain ⟨q3, j1, j2⟩ | ⟨q3, q4, j1, j2⟩ | ⟨q3, q4⟩ := hq
          all_goals
            go_wp2_with (first
              | (go_at_call 56; (with_reducible refine (RGT.out _ ?side1).mono ?_); (case side1 => exact below_alloc HB.out _); rintro e w1 ⟨rfl, hb1⟩; have R1 := (hb1.block wo.heap.size (by simp)).trans (heap_alloc_new wo _); have kR1 := fun j => cell_of_row w1 wo.heap.size j _ _ _ R1; have R0 := (hb1.block w.heap.size (by have := blk_lt HR.out; simp; omega)).trans (row_old _ _ _ (blk_lt HR.out) HR.out); have kR0 := fun j => cell_of_row w1 w.heap.size j _ _ _ R0; have HR := Aside0.mk R0; clear R0; have HB := Aside0.mk (below_step (below_alloc HB.out _) hb1); clear hb1 R1)
              | (go_at_call 57; (with_reducible refine (KND.out IsT.mk _ HB.out).mono ?_); rintro e w2 ⟨rfl, hb2⟩; have HR := Aside0.mk ((hb2.block w.heap.size (blk_lt HR.out)).trans HR.out); have HB := Aside0.mk (below_step HB.out hb2); clear hb2))
            go_roundw
            case rel => exact ⟨i + 1, by omega, by go_num, ⟨fun j hj => by
              rcases Nat.lt_succ_iff_lt_or_eq.1 hj with hj | rfl
              · exact HI.out j hj
              · exact HOK.out⟩, HR, HB⟩
            case measure => simp [intOf]; omega
        · have HNO := Aside0.mk (show ¬ SpP ⟨A0, c0, ts, la, gl, some ad, c3, code⟩ from fun h => hgood (HSI.out h))
          have hq : r = false ∨ (r = true ∧ ((o : Int) == 3) = true ∧ f4 < 0) ∨ (r = true ∧ ((o : Int) == 3) = true ∧ ¬ f4 < 0 ∧ f4 > (code.length : Int)) ∨ (r = true ∧ ((o : Int) == 3) = false ∧ ((o : Int) == 4) = true ∧ f4 < 0) ∨ (r = true ∧ ((o : Int) == 3) = false ∧ ((o : Int) == 4) = true ∧ ¬ f4 < 0 ∧ f4 > (code.length : Int)) ∨ (r = true ∧ kd = false ∧ ((o : Int) == 3) = true ∧ ¬ f4 < 0 ∧ ¬ f4 > (code.length : Int)) ∨ (r = true ∧ kd = false ∧ ((o : Int) == 3) = false ∧ ((o : Int) == 4) = true ∧ ¬ f4 < 0 ∧ ¬ f4 > (code.length : Int)) ∨ (r = true ∧ kd = false ∧ ((o : Int) == 3) = false ∧ ((o : Int) == 4) = false) := by
            unfold OkI at hgood
            simp only [beq_eq_false_iff_ne, beq_iff_eq]
            cases r <;> cases kd <;> simp at hgood ⊢ <;> omega
          clear hgood HSI HIP HIB HIA
          obtain rfl | ⟨rfl, q3, j1⟩ | ⟨rfl, q3, j1, j2⟩ | ⟨rfl, q3, q4, j1⟩ | ⟨rfl, q3, q4, j1, j2⟩ | ⟨rfl, rfl, q3, j1, j2⟩ | ⟨rfl, rfl, q3, q4, j1, j2⟩ | ⟨rfl, rfl, q3, q4⟩ := hq
          all_goals
            go_wp2_with (first
              | (go_at_call 56; (with_reducible refine (RGT.out _ ?side1).mono ?_); (case side1 => exact below_alloc HB.out _); rintro e w1 ⟨rfl, hb1⟩; have R1 := (hb1.block wo.heap.size (by simp)).trans (heap_alloc_new wo _); have kR1 := fun j => cell_of_row w1 wo.heap.size j _ _ _ R1; have R0 := (hb1.block w.heap.size (by have := blk_lt HR.out; simp; omega)).trans (row_old _ _ _ (blk_lt HR.out) HR.out); have kR0 := fun j => cell_of_row w1 w.heap.size j _ _ _ R0; have HR := Aside0.mk R0; clear R0; have HB := Aside0.mk (below_step (below_alloc HB.out _) hb1); clear hb1 R1)
              | (go_at_call 57; (with_reducible refine (KND.out IsT.mk _ HB.out).mono ?_); rintro e w2 ⟨rfl, hb2⟩; have HR := Aside0.mk ((hb2.block w.heap.size (blk_lt HR.out)).trans HR.out); have HB := Aside0.mk (below_step HB.out hb2); clear hb2))
            go_ret2
            exact ⟨_, _, rfl, ⟨fun e => absurd e (by decide), fun h => absurd h HNO.out⟩, fun e => absurd e (by decide), HB.out⟩
      · obtain rfl : i = code.length := by omega
        go_wp2
        go_ret2
        exact ⟨_, _, rfl, ⟨fun _ => ⟨HRL.out.1, HRL.out.2.1, HRL.out.2.2.1, HRL.out.2.2.2, HI.out⟩, fun _ => rfl⟩, fun _ => rfl, HB.out⟩
  · have HN := Aside0.mk (fun h => hall (HSP.out h))
    obtain rfl | ⟨rfl, h3⟩ | ⟨rfl, h3, h4⟩ | ⟨rfl, h3, h4, h5⟩ | ⟨rfl, h3, h4, h5, h6⟩ : b = false ∨ (b = true ∧ (la.size : Int) > 8) ∨ (b = true ∧ ¬ (la.size : Int) > 8 ∧ (gl.size : Int) > 4) ∨ (b = true ∧ ¬ (la.size : Int) > 8 ∧ ¬ (gl.size : Int) > 4 ∧ (code.length : Int) < 1) ∨ (b = true ∧ ¬ (la.size : Int) > 8 ∧ ¬ (gl.size : Int) > 4 ∧ ¬ (code.length : Int) < 1 ∧ (code.length : Int) > 200) := by
      cases b
      · exact .inl rfl
      · refine .inr ?_
        simp only [true_and] at hall ⊢
        omega
    all_goals
      clear hall
      go_enter Tryd.func41, Tryd.ntmps41
      go_wp2_with (go_at_call 55; (with_reducible refine (REF.out _ ?side1).mono ?_); (case side1 => exact below_alloc HW.out _); rintro e w1 ⟨rfl, hb1⟩; have R0 := (hb1.block w.heap.size (by simp)).trans (heap_alloc_new w _); have kR := fun j => cell_of_row w1 w.heap.size j _ _ _ R0; have HW := Aside0.mk (below_step (below_alloc HW.out _) hb1); clear hb1)
      go_ret2
      exact ⟨_, _, rfl, ⟨fun e => absurd e (by decide), fun h => absurd h HN.out⟩, fun e => absurd e (by decide), HW.out⟩
end
end Go.Proofs.YtfkfpcciacplkaaDoor.PL

namespace Go.Proofs.YtfkfpcciacplkaaDoor.B8
open Go.Proofs.YtfkfpcciacplkaaDoor.FP
abbrev S8 := BitVec 8
def iv (z : S8) : Int := (z.toNat : Int)
def bv (x : Int) : S8 := BitVec.ofInt 8 x
theorem bv_iv (z : S8) : bv (iv z) = z := by
  apply BitVec.eq_of_toNat_eq
  unfold bv iv
  rw [BitVec.ofInt_natCast, BitVec.toNat_ofNat]
  exact Nat.mod_eq_of_lt z.isLt
theorem iv_inj {a b : S8} (h : iv a = iv b) : a = b := by rw [← bv_iv a, h, bv_iv]
theorem wrap_iv (z : S8) : IntKind.u8.wrap (z.toNat : Int) = iv z := wraps_u8 _ (Int.natCast_nonneg _) (by have := z.isLt; omega)
theorem bits_or (a b : S8) : bits .or .u8 (iv a) (iv b) = iv (a ||| b) := by
  have h : bits .or .u8 (iv a) (iv b) = IntKind.u8.wrap ((bv (iv a) ||| bv (iv b) : S8).toNat : Int) := rfl
  rw [h, bv_iv, bv_iv, wrap_iv]
theorem bits_and (a b : S8) : bits .and .u8 (iv a) (iv b) = iv (a &&& b) := by
  have h : bits .and .u8 (iv a) (iv b) = IntKind.u8.wrap ((bv (iv a) &&& bv (iv b) : S8).toNat : Int) := rfl
  rw [h, bv_iv, bv_iv, wrap_iv]
theorem bits_not (a b : S8) : bits .andNot .u8 (iv a) (iv b) = iv (a &&& ~~~ b) := by
  have h : bits .andNot .u8 (iv a) (iv b) = IntKind.u8.wrap ((bv (iv a) &&& ~~~ bv (iv b) : S8).toNat : Int) := rfl
  rw [h, bv_iv, bv_iv, wrap_iv]
def Sub (a b : S8) : Prop := ∀ i, a.getLsbD i = true → b.getLsbD i = true
theorem Sub.refl (a : S8) : Sub a a := fun _ h => h
theorem Sub.trans {a b c : S8} (h : Sub a b) (k : Sub b c) : Sub a c := fun i hi => k i (h i hi)
theorem Sub.anti {a b : S8} (h : Sub a b) (k : Sub b a) : a = b :=
  BitVec.eq_of_getLsbD_eq fun i _ => by rw [Bool.eq_iff_iff]; exact ⟨h i, k i⟩
theorem Sub.zero (a : S8) : Sub 0 a := fun i h => by simp at h
theorem Sub.all (a : S8) : Sub a 255 := fun i h => by
  have hi : i < 8 := BitVec.lt_of_getLsbD h
  have : ∀ j, j < 8 → (255#8).getLsbD j = true := by decide
  exact this i hi
theorem sub_and_r {a b c : S8} : Sub a (b &&& c) ↔ Sub a b ∧ Sub a c := by
  constructor
  · intro h
    exact ⟨fun i hi => by have := h i hi; rw [BitVec.getLsbD_and, Bool.and_eq_true] at this; exact this.1, fun i hi => by have := h i hi; rw [BitVec.getLsbD_and, Bool.and_eq_true] at this; exact this.2⟩
  · rintro ⟨h, k⟩ i hi
    rw [BitVec.getLsbD_and, Bool.and_eq_true]
    exact ⟨h i hi, k i hi⟩
theorem not_bit (a b : S8) (i : Nat) : (a &&& ~~~ b).getLsbD i = true ↔ a.getLsbD i = true ∧ b.getLsbD i = false := by
  rw [BitVec.getLsbD_and, Bool.and_eq_true, BitVec.getLsbD_not, Bool.and_eq_true]
  constructor
  · rintro ⟨h, _, k⟩
    exact ⟨h, by simpa using k⟩
  · rintro ⟨h, k⟩
    exact ⟨h, by simpa using BitVec.lt_of_getLsbD h, by simpa using k⟩
theorem and_eq {a b : S8} : a &&& b = a ↔ Sub a b := by
  constructor
  · intro h
    have k : Sub a (a &&& b) := by rw [h]; exact Sub.refl a
    exact (sub_and_r.1 k).2
  · intro h
    exact Sub.anti (fun i hi => by rw [BitVec.getLsbD_and, Bool.and_eq_true] at hi; exact hi.1) (sub_and_r.2 ⟨Sub.refl a, h⟩)
def pc (z : S8) : Nat := cnt ((List.range 8).map z.getLsbD)
theorem pc_le {a b : S8} (h : Sub a b) : pc a ≤ pc b ∧ (a ≠ b → pc a < pc b) := by
  have hg : ∀ (z : S8) i, ((List.range 8).map z.getLsbD).getD i false = z.getLsbD i := by
    intro z i
    rw [List.getD_eq_getElem?_getD, List.getElem?_map]
    by_cases hi : i < 8
    · rw [List.getElem?_range hi]
      rfl
    · rw [List.getElem?_eq_none (by simpa using hi)]
      exact (BitVec.getLsbD_of_ge z i (by omega)).symm
  have hle : LE ((List.range 8).map a.getLsbD) ((List.range 8).map b.getLsbD) := ⟨by simp, fun i hi => by rw [hg] at hi ⊢; exact h i hi⟩
  refine ⟨(cnt_le hle).1, fun hne => (cnt_le hle).2 fun e => hne ?_⟩
  exact BitVec.eq_of_getLsbD_eq fun i _ => by rw [← hg a, ← hg b, e]
theorem pc_8 (z : S8) : pc z ≤ 8 := by
  have := cnt_len ((List.range 8).map z.getLsbD)
  simpa [pc] using this
theorem pc_0 : pc 0 = 0 := by decide
abbrev g (l : List S8) (i : Nat) : S8 := l.getD i 0
def LS (a b : List S8) : Prop := a.length = b.length ∧ ∀ i, Sub (g a i) (g b i)
theorem LS.refl (a : List S8) : LS a a := ⟨rfl, fun _ => Sub.refl _⟩
theorem LS.trans {a b c : List S8} (h : LS a b) (k : LS b c) : LS a c := ⟨h.1.trans k.1, fun i => (h.2 i).trans (k.2 i)⟩
theorem g_ext {a b : List S8} (hl : a.length = b.length) (h : ∀ i, g a i = g b i) : a = b := by
  apply List.ext_getElem hl
  intro i h1 h2
  have := h i
  unfold g at this
  rw [List.getD_eq_getElem?_getD, List.getElem?_eq_getElem h1, List.getD_eq_getElem?_getD, List.getElem?_eq_getElem h2] at this
  exact this
theorem LS.anti {a b : List S8} (h : LS a b) (k : LS b a) : a = b := g_ext h.1 fun i => (h.2 i).anti (k.2 i)
theorem g_set (a : List S8) (n i : Nat) (v : S8) : g (a.set n v) i = if i = n ∧ n < a.length then v else g a i := by
  unfold g
  rw [List.getD_eq_getElem?_getD, List.getElem?_set]
  by_cases h : n = i
  · subst h
    by_cases hl : n < a.length
    · rw [if_pos rfl, if_pos hl, if_pos ⟨rfl, hl⟩]
      rfl
    · rw [if_pos rfl, if_neg hl, if_neg (fun e => hl e.2), List.getD_eq_getElem?_getD, List.getElem?_eq_none (by omega)]
  · rw [if_neg h, if_neg (fun e => h e.1.symm), List.getD_eq_getElem?_getD]
theorem g_rep (M i : Nat) : g (List.replicate M 0) i = 0 := by
  unfold g
  rw [List.getD_eq_getElem?_getD, List.getElem?_replicate]
  split <;> rfl
theorem g_out {a : List S8} {i : Nat} (h : a.length ≤ i) : g a i = 0 := by
  unfold g
  rw [List.getD_eq_getElem?_getD, List.getElem?_eq_none h]
  rfl
def tot (l : List S8) : Nat := (l.map pc).sum
theorem tot_cons (x : S8) (l : List S8) : tot (x :: l) = pc x + tot l := by simp [tot]
theorem tot_le : ∀ {a b : List S8}, LS a b → tot a ≤ tot b ∧ (a ≠ b → tot a < tot b) := by
  intro a
  induction a with
  | nil =>
    intro b h
    have : b = [] := List.length_eq_zero_iff.1 h.1.symm
    subst this
    exact ⟨Nat.le_refl _, fun h => absurd rfl h⟩
  | cons x a ih =>
    intro b h
    cases b with
    | nil => cases h.1
    | cons y b =>
      have ht : LS a b := ⟨by have := h.1; simpa using this, fun i => h.2 (i + 1)⟩
      have h0 : Sub x y := h.2 0
      obtain ⟨i1, i2⟩ := ih ht
      obtain ⟨p1, p2⟩ := pc_le h0
      rw [tot_cons, tot_cons]
      refine ⟨by omega, fun hne => ?_⟩
      by_cases hxy : x = y
      · subst hxy
        have := i2 fun e => hne (by rw [e])
        omega
      · have := p2 hxy
        omega
theorem tot_8 : ∀ l : List S8, tot l ≤ 8 * l.length
  | [] => Nat.le_refl _
  | x :: l => by
    have := tot_8 l
    have := pc_8 x
    rw [tot_cons, List.length_cons]
    omega
section
variable (nx : Int → List Int) (N : Nat) (st us : Nat → S8)
def lor (out : List S8) (k : Nat) : S8 := (nx k).foldl (fun n t => n ||| g out t.toNat) 0
theorem fold_or_bit (out : List S8) (i : Nat) : ∀ (l : List Int) (n : S8), (l.foldl (fun n t => n ||| g out t.toNat) n).getLsbD i = true ↔ n.getLsbD i = true ∨ ∃ t ∈ l, (g out t.toNat).getLsbD i = true
  | [], n => by simp
  | t :: l, n => by
    rw [List.foldl_cons, fold_or_bit out i l, BitVec.getLsbD_or, Bool.or_eq_true]
    simp only [List.mem_cons, exists_eq_or_imp]
    exact or_assoc
theorem lor_bit (out : List S8) (k i : Nat) : (lor nx out k).getLsbD i = true ↔ ∃ t ∈ nx k, (g out t.toNat).getLsbD i = true := by
  unfold lor
  rw [fold_or_bit]
  simp
def lst (out : List S8) (k : Nat) : S8 := lor nx out k &&& ~~~ st k ||| us k
theorem lst_bit (out : List S8) (k i : Nat) : (lst nx st us out k).getLsbD i = true ↔ ((∃ t ∈ nx k, (g out t.toNat).getLsbD i = true) ∧ (st k).getLsbD i = false) ∨ (us k).getLsbD i = true := by
  unfold lst
  rw [BitVec.getLsbD_or, Bool.or_eq_true, not_bit, lor_bit]
theorem lst_mono {a b : List S8} (h : ∀ i, Sub (g a i) (g b i)) (k : Nat) : Sub (lst nx st us a k) (lst nx st us b k) := by
  intro i hi
  rw [lst_bit] at hi ⊢
  exact hi.imp (fun ⟨⟨t, ht, hb⟩, hs⟩ => ⟨⟨t, ht, h _ i hb⟩, hs⟩) id
def Pre (o : List S8) : Prop := o.length = N + 1 ∧ ∀ k, k < N → Sub (lst nx st us o k) (g o k)
structure LInv (out : List S8) : Prop where
  len : out.length = N + 1
  last : g out N = 0
  up : ∀ k, k < N → Sub (g out k) (lst nx st us out k)
  least : ∀ o, Pre nx N st us o → LS out o
def LFix (out : List S8) : Prop := ∀ k, k < N → g out k = lst nx st us out k
theorem LInv.start : LInv nx N st us (List.replicate (N + 1) 0) :=
  ⟨by simp, g_rep .., fun k _ => by rw [g_rep]; exact Sub.zero _, fun o ho => ⟨by simp [ho.1], fun i => by rw [g_rep]; exact Sub.zero _⟩⟩
variable {nx N st us}
theorem LInv.ls {out : List S8} (h : LInv nx N st us out) {k : Nat} (hk : k < N) : LS out (out.set k (lst nx st us out k)) := by
  refine ⟨by simp, fun i => ?_⟩
  rw [g_set]
  split
  · rename_i e
    rw [e.1]
    exact h.up k hk
  · exact Sub.refl _
theorem LInv.set {out : List S8} (h : LInv nx N st us out) {k : Nat} (hk : k < N) : LInv nx N st us (out.set k (lst nx st us out k)) := by
  have hm : ∀ j, Sub (lst nx st us out j) (lst nx st us (out.set k (lst nx st us out k)) j) := fun j => lst_mono _ _ _ (h.ls hk).2 j
  refine ⟨by rw [List.length_set, h.len], ?_, fun j hj => ?_, fun o ho => ⟨by rw [List.length_set, h.len, ho.1], fun j => ?_⟩⟩
  · rw [g_set, if_neg (by omega)]
    exact h.last
  · rw [g_set]
    split
    · rename_i e
      rw [e.1]
      exact hm k
    · exact (h.up j hj).trans (hm j)
  · rw [g_set]
    split
    · rename_i e
      rw [e.1]
      exact (lst_mono _ _ _ (h.least o ho).2 k).trans (ho.2 k hk)
    · exact (h.least o ho).2 j
variable (nx N st us)
def sw : Nat → List S8 → List S8
  | 0, out => out
  | k + 1, out => sw k (out.set k (lst nx st us out k))
def rnd : Nat → List S8
  | 0 => List.replicate (N + 1) 0
  | r + 1 => sw nx st us N (rnd r)
variable {nx N st us}
theorem sw_inv : ∀ (k : Nat) (out : List S8), k ≤ N → LInv nx N st us out → LInv nx N st us (sw nx st us k out) ∧ LS out (sw nx st us k out)
  | 0, out, _, h => ⟨h, LS.refl _⟩
  | k + 1, out, hk, h => by
    obtain ⟨a, b⟩ := sw_inv k (out.set k (lst nx st us out k)) (by omega) (h.set hk)
    exact ⟨a, (h.ls hk).trans b⟩
variable (nx N st us)
def lv : List S8 := rnd nx N st us (8 * N + 1)
variable {nx N st us}
end
section
variable (nx : Int → List Int) (N : Nat) (F : Nat → S8 → S8)
def Sol (s : List S8) : Prop := s.length = N + 1 ∧ ∀ k, k ≤ N → ∀ t ∈ nx k, Sub (g s t.toNat) (F k (g s k))
structure GInv (l : List S8) : Prop where
  len : l.length = N + 1
  great : ∀ s, Sol nx N F s → LS s l
variable {nx N F}
theorem GInv.eq {a b : List S8} (h : GInv nx N F a) (k : GInv nx N F b) (fa : Sol nx N F a) (fb : Sol nx N F b) : a = b := (k.great a fa).anti (h.great b fb)
theorem GInv.start : GInv nx N F (List.replicate (N + 1) 255) := by
  refine ⟨by simp, fun s hs => ⟨by simp [hs.1], fun i => ?_⟩⟩
  by_cases hi : i < N + 1
  · have e : g (List.replicate (N + 1) (255 : S8)) i = 255 := by
      unfold g
      rw [List.getD_eq_getElem?_getD, List.getElem?_replicate, if_pos hi]
      rfl
    rw [e]
    exact Sub.all _
  · rw [g_out (by rw [hs.1]; omega)]
    exact Sub.zero _
def cut (l : List S8) (n : S8) (t : Nat) : List S8 := l.set t (g l t &&& n)
theorem cut_get (l : List S8) (n : S8) (t i : Nat) : g (cut l n t) i = if i = t ∧ t < l.length then g l t &&& n else g l i := g_set ..
theorem cut_ls (l : List S8) (n : S8) (t : Nat) : LS (cut l n t) l := by
  refine ⟨by simp [cut], fun i => ?_⟩
  rw [cut_get]
  split
  · rename_i e
    rw [e.1]
    exact (sub_and_r.1 (Sub.refl _)).1
  · exact Sub.refl _
theorem GInv.cut {l : List S8} (h : GInv nx N F l) {n : S8} {k : Nat} (hk : k ≤ N) {t : Int} (ht : t ∈ nx k) (hn : ∀ s, Sol nx N F s → Sub (F k (g s k)) n) : GInv nx N F (cut l n t.toNat) := by
  refine ⟨by rw [← h.len]; exact (cut_ls ..).1, fun s hs => ⟨by rw [hs.1, ← h.len]; exact (cut_ls ..).1.symm, fun i => ?_⟩⟩
  rw [cut_get]
  split
  · rename_i e
    rw [e.1]
    exact sub_and_r.2 ⟨(h.great s hs).2 _, (hs.2 k hk t ht).trans (hn s hs)⟩
  · exact (h.great s hs).2 i
end
end Go.Proofs.YtfkfpcciacplkaaDoor.B8

namespace Go.Proofs.YtfkfpcciacplkaaDoor.B8
open Go.Proofs.YtfkfpcciacplkaaDoor.FP
set_option linter.unusedVariables false
theorem cut_of_sub {l : List S8} {n : S8} {t : Nat} (h : Sub (g l t) n) : cut l n t = l :=
  g_ext (by simp [cut]) fun i => by
    rw [cut_get]
    split
    · rename_i e
      rw [e.1, and_eq.2 h]
    · rfl
theorem cut_sub {l : List S8} (n : S8) {t : Nat} (h : t < l.length) : Sub (g (cut l n t) t) n := by
  rw [cut_get, if_pos ⟨rfl, h⟩]
  exact (sub_and_r.1 (Sub.refl _)).2
section
variable {nx : Int → List Int} {N : Nat} {F : Nat → S8 → S8} (hI : InR nx (N + 1)) (hF : ∀ k a b, Sub a b → Sub (F k a) (F k b))
variable (nx N F) in
structure WI (l : List S8) (todo : List Int) : Prop where
  inv : GInv nx N F l
  range : ∀ k ∈ todo, 0 ≤ k ∧ k ≤ N
  ok : ∀ k : Nat, k ≤ N → (k : Int) ∉ todo → ∀ t ∈ nx k, Sub (g l t.toNat) (F k (g l k))
variable (nx N F) in
structure WJ (l : List S8) (todo : List Int) (k : Nat) (n : S8) (j : Nat) : Prop where
  inv : GInv nx N F l
  range : ∀ k ∈ todo, 0 ≤ k ∧ k ≤ N
  kn : k ≤ N
  bound : ∀ s, Sol nx N F s → Sub (F k (g s k)) n
  ok : ∀ i : Nat, i ≤ N → i ≠ k → (i : Int) ∉ todo → ∀ t ∈ nx i, Sub (g l t.toNat) (F i (g l i))
  own : (k : Int) ∉ todo → n = F k (g l k)
  did : ∀ t ∈ (nx k).take j, Sub (g l t.toNat) n
theorem WI.start : WI nx N F (List.replicate (N + 1) 255) ((List.range (N + 1)).map fun (i : Nat) => (i : Int)) := by
  refine ⟨GInv.start, fun k hk => ?_, fun k hk hn => absurd (List.mem_map.2 ⟨k, List.mem_range.2 (by have : k ≤ N := hk; omega), rfl⟩) hn⟩
  obtain ⟨i, hi, rfl⟩ := List.mem_map.1 hk
  have := List.mem_range.1 hi
  omega
theorem WI.done {l : List S8} (h : WI nx N F l []) : Sol nx N F l := ⟨h.inv.len, fun k hk => h.ok k hk (by simp)⟩
include hF in
theorem WI.pop {l : List S8} {todo : List Int} {k : Nat} (h : WI nx N F l ((k : Int) :: todo)) : WJ nx N F l todo k (F k (g l k)) 0 := by
  refine ⟨h.inv, fun i hi => h.range i (List.mem_cons_of_mem _ hi), ?_, fun s hs => hF _ _ _ ((h.inv.great s hs).2 k), fun i hi hne hn => h.ok i hi ?_, fun _ => rfl, fun t ht => by simp at ht⟩
  · have := h.range k (List.mem_cons_self ..)
    omega
  · intro hm
    rcases List.mem_cons.1 hm with e | hm
    · exact hne (by omega)
    · exact hn hm
section
variable {l : List S8} {todo : List Int} {k j : Nat} {n : S8} (h : WJ nx N F l todo k n j)
include h
theorem WJ.skip (hj : j < (nx k).length) (e : g l (nx k)[j].toNat &&& n = g l (nx k)[j].toNat) : WJ nx N F l todo k n (j + 1) := by
  refine ⟨h.inv, h.range, h.kn, h.bound, h.ok, h.own, fun t ht => ?_⟩
  rw [List.take_add_one, List.getElem?_eq_getElem hj, Option.toList_some, List.mem_append, List.mem_singleton] at ht
  rcases ht with ht | rfl
  · exact h.did t ht
  · exact and_eq.1 e
include hI in
theorem WJ.cut (hj : j < (nx k).length) : WJ nx N F (cut l n (nx k)[j].toNat) (todo ++ [(nx k)[j]]) k n (j + 1) := by
  have hm : (nx k)[j] ∈ nx k := List.getElem_mem hj
  have hr := hI _ _ hm
  have ec : (((nx k)[j].toNat : Nat) : Int) = (nx k)[j] := by omega
  have hls := cut_ls l n (nx k)[j].toNat
  have hout : ∀ i : Nat, (i : Int) ∉ todo ++ [(nx k)[j]] → g (B8.cut l n (nx k)[j].toNat) i = g l i ∧ (i : Int) ∉ todo := by
    intro i hi
    rw [List.mem_append, List.mem_singleton, not_or] at hi
    refine ⟨?_, hi.1⟩
    rw [cut_get, if_neg fun e => hi.2 (by rw [e.1, ec])]
  refine ⟨h.inv.cut h.kn hm h.bound, fun i hi => ?_, h.kn, h.bound, fun i hi hne hn t ht => ?_, fun hn => ?_, fun t ht => ?_⟩
  · rcases List.mem_append.1 hi with hi | hi
    · exact h.range i hi
    · rw [List.mem_singleton] at hi
      subst hi
      omega
  · obtain ⟨e1, e2⟩ := hout i hn
    rw [e1]
    exact (hls.2 _).trans (h.ok i hi hne e2 t ht)
  · obtain ⟨e1, e2⟩ := hout k hn
    rw [e1]
    exact h.own e2
  · rw [List.take_add_one, List.getElem?_eq_getElem hj, Option.toList_some, List.mem_append, List.mem_singleton] at ht
    rcases ht with ht | rfl
    · exact (hls.2 _).trans (h.did t ht)
    · exact cut_sub n (by rw [h.inv.len]; omega)
theorem WJ.done (hj : (nx k).length ≤ j) : WI nx N F l todo := by
  refine ⟨h.inv, h.range, fun i hi hn t ht => ?_⟩
  by_cases e : i = k
  · subst e
    rw [← h.own hn]
    exact h.did t (by rw [List.take_of_length_le hj]; exact ht)
  · exact h.ok i hi e hn t ht
end
def lft (l : List S8) (todo : List Int) : Nat := 2 * tot l + todo.length
theorem lft_pop (l : List S8) (todo : List Int) (k : Int) : lft l todo < lft l (k :: todo) := by
  unfold lft
  rw [List.length_cons]
  omega
theorem tot_cut {l : List S8} {n : S8} {t : Nat} (ht : t < l.length) (h : g l t &&& n ≠ g l t) : tot (cut l n t) < tot l := by
  refine (tot_le (cut_ls l n t)).2 fun e => h ?_
  have := cut_get l n t t
  rw [e, if_pos ⟨rfl, ht⟩] at this
  exact this.symm
theorem lft_cut {l : List S8} {todo : List Int} {n : S8} {t : Nat} {x : Int} (ht : t < l.length) (h : g l t &&& n ≠ g l t) : lft (cut l n t) (todo ++ [x]) < lft l todo := by
  have := tot_cut ht h
  unfold lft
  rw [List.length_append, List.length_singleton]
  omega
variable (nx F) in
def jc (l : List S8) (n : S8) (ts : List Int) (j : Nat) : List S8 := (ts.take j).foldl (fun l t => cut l n t.toNat) l
variable (nx F) in
def kc (l : List S8) : Nat → List S8
  | 0 => l
  | k + 1 => jc (kc l k) (F k (g (kc l k) k)) (nx k) (nx k).length
variable (nx N F) in
def rc : Nat → List S8
  | 0 => List.replicate (N + 1) 255
  | r + 1 => kc nx F (rc r) N
theorem fold_ls (n : S8) : ∀ (ts : List Int) (l : List S8), LS (ts.foldl (fun l t => cut l n t.toNat) l) l
  | [], l => LS.refl l
  | t :: ts, l => (fold_ls n ts _).trans (cut_ls l n _)
theorem fold_sub (n : S8) : ∀ (ts : List Int) (l : List S8), (∀ t ∈ ts, t.toNat < l.length) → ∀ t ∈ ts, Sub (g (ts.foldl (fun l t => cut l n t.toNat) l) t.toNat) n
  | [], _, _, t, ht => by cases ht
  | x :: ts, l, hl, t, ht => by
    rw [List.foldl_cons]
    rcases List.mem_cons.1 ht with rfl | ht
    · exact ((fold_ls n ts _).2 _).trans (cut_sub n (hl _ (List.mem_cons_self ..)))
    · exact fold_sub n ts _ (fun y hy => by rw [(cut_ls l n x.toNat).1]; exact hl y (List.mem_cons_of_mem _ hy)) t ht
theorem fold_id (n : S8) : ∀ (ts : List Int) (l : List S8), (∀ t ∈ ts, Sub (g l t.toNat) n) → ts.foldl (fun l t => cut l n t.toNat) l = l
  | [], _, _ => rfl
  | x :: ts, l, h => by
    rw [List.foldl_cons, cut_of_sub (h x (List.mem_cons_self ..))]
    exact fold_id n ts l fun t ht => h t (List.mem_cons_of_mem _ ht)
theorem fold_inv (n : S8) {k : Nat} (hk : k ≤ N) (hn : ∀ s, Sol nx N F s → Sub (F k (g s k)) n) : ∀ (ts : List Int) (l : List S8), (∀ t ∈ ts, t ∈ nx k) → GInv nx N F l → GInv nx N F (ts.foldl (fun l t => cut l n t.toNat) l)
  | [], _, _, h => h
  | x :: ts, l, ht, h => fold_inv n hk hn ts _ (fun t hm => ht t (List.mem_cons_of_mem _ hm)) (h.cut hk (ht x (List.mem_cons_self ..)) hn)
theorem kc_ls (l : List S8) : ∀ k, LS (kc nx F l k) l
  | 0 => LS.refl l
  | k + 1 => (fold_ls ..).trans (kc_ls l k)
theorem kc_le (l : List S8) (k : Nat) : ∀ d, LS (kc nx F l (k + d)) (kc nx F l k)
  | 0 => LS.refl _
  | d + 1 => (fold_ls ..).trans (kc_le l k d)
include hF in
theorem kc_inv {l : List S8} (h : GInv nx N F l) : ∀ k, k ≤ N → GInv nx N F (kc nx F l k)
  | 0, _ => h
  | k + 1, hk => by
    have ih := kc_inv h k (by omega)
    exact fold_inv _ (by omega) (fun s hs => hF _ _ _ ((ih.great s hs).2 k)) _ _ (fun t ht => List.mem_of_mem_take ht) ih
include hF in
theorem rc_inv : ∀ r, GInv nx N F (rc nx N F r)
  | 0 => GInv.start
  | r + 1 => kc_inv hF (rc_inv r) N (Nat.le_refl _)
theorem kc_id {l : List S8} (h : Sol nx N F l) : ∀ k, k ≤ N → kc nx F l k = l
  | 0, _ => rfl
  | k + 1, hk => by
    have ih := kc_id h k (by omega)
    show jc (kc nx F l k) (F k (g (kc nx F l k) k)) (nx k) (nx k).length = l
    rw [ih]
    exact fold_id _ _ _ fun t ht => h.2 k (by omega) t (List.mem_of_mem_take ht)
variable (hN : nx N = [])
include hI hN in
theorem kc_sol {l : List S8} (hl : l.length = N + 1) (he : ∀ i, i < N → g (kc nx F l N) i = g l i) : Sol nx N F (kc nx F l N) := by
  refine ⟨by rw [(kc_ls l N).1, hl], fun k hk t ht => ?_⟩
  rcases Nat.lt_or_eq_of_le hk with hlt | rfl
  · have hmid : g (kc nx F l k) k = g l k := by
      obtain ⟨d, hd⟩ : ∃ d, N = k + d := ⟨N - k, by omega⟩
      refine Sub.anti ((kc_ls l k).2 k) ?_
      rw [← he k hlt]
      have := (kc_le (nx := nx) (F := F) l k d).2 k
      rwa [← hd] at this
    have h1 : Sub (g (kc nx F l (k + 1)) t.toNat) (F k (g (kc nx F l k) k)) := by
      refine fold_sub _ ((nx k).take (nx k).length) (kc nx F l k) (fun t ht => ?_) t (by rw [List.take_length]; exact ht)
      have := hI _ _ (List.mem_of_mem_take ht)
      rw [(kc_ls l k).1, hl]
      omega
    obtain ⟨d, hd⟩ : ∃ d, N = k + 1 + d := ⟨N - (k + 1), by omega⟩
    have h2 := (kc_le (nx := nx) (F := F) l (k + 1) d).2 t.toNat
    rw [← hd] at h2
    rw [he k hlt, ← hmid]
    exact h2.trans h1
  · rw [hN] at ht
    cases ht
theorem take_ls {a b : List S8} (h : LS a b) (N : Nat) : LS (a.take N) (b.take N) := by
  refine ⟨by rw [List.length_take, List.length_take, h.1], fun i => ?_⟩
  by_cases hi : i < N
  · have e : ∀ l : List S8, g (l.take N) i = g l i := fun l => by
      unfold g
      rw [List.getD_eq_getElem?_getD, List.getD_eq_getElem?_getD, List.getElem?_take, if_pos hi]
    rw [e, e]
    exact h.2 i
  · rw [g_out (by rw [List.length_take]; omega)]
    exact Sub.zero _
theorem take_eq {a b : List S8} {N : Nat} (h : a.take N = b.take N) (i : Nat) (hi : i < N) : g a i = g b i := by
  have e : ∀ l : List S8, g (l.take N) i = g l i := fun l => by
    unfold g
    rw [List.getD_eq_getElem?_getD, List.getD_eq_getElem?_getD, List.getElem?_take, if_pos hi]
  rw [← e a, ← e b, h]
include hI hF hN in
theorem rc_all : ∀ r, Sol nx N F (rc nx N F r) ∨ tot ((rc nx N F r).take N) + r ≤ 8 * N
  | 0 => .inr (by have := tot_8 ((rc nx N F 0).take N); rw [List.length_take, (rc_inv hF 0).len] at this; omega)
  | r + 1 => by
    rcases rc_all r with h | h
    · left
      show Sol nx N F (kc nx F (rc nx N F r) N)
      rw [kc_id h N (Nat.le_refl _)]
      exact h
    · have hls := take_ls (kc_ls (nx := nx) (F := F) (rc nx N F r) N) N
      by_cases e : (kc nx F (rc nx N F r) N).take N = (rc nx N F r).take N
      · exact .inl (kc_sol hI hN (rc_inv hF r).len (take_eq e))
      · right
        have := (tot_le hls).2 e
        show tot ((kc nx F (rc nx N F r) N).take N) + (r + 1) ≤ 8 * N
        omega
variable (nx N F) in
def fr : List S8 := rc nx N F (8 * N + 1)
include hF in
theorem fr_inv : GInv nx N F (fr nx N F) := rc_inv hF _
include hI hF hN in
theorem fr_sol : Sol nx N F (fr nx N F) := (rc_all hI hF hN (8 * N + 1)).resolve_right (by omega)
include hI hF hN in
theorem fr_of {l : List S8} (h : GInv nx N F l) (s : Sol nx N F l) : l = fr nx N F := h.eq (fr_inv hF) s (fr_sol hI hF hN)
end
end Go.Proofs.YtfkfpcciacplkaaDoor.B8

namespace Go.Proofs.YtfkfpcciacplkaaDoor.ZP
open Go.RowKit Go.Proofs.YtfkfpcciacplkaaDoorW.PrintWords Go.Proofs.YtfkfpcciacplkaaDoor.F Go.Proofs.YtfkfpcciacplkaaDoor.PL Go.Proofs.YtfkfpcciacplkaaDoor.NX Go.Proofs.YtfkfpcciacplkaaDoor.FP Go.Proofs.YtfkfpcciacplkaaDoor.B8 Go.Proofs.YtfkfpcciacplkaaDoor.FSF
set_option linter.unusedVariables false
def own (a : Int) : S8 := BitVec.twoPow 8 a.toNat
theorem own_bit (a : Int) (i : Nat) : (own a).getLsbD i = true ↔ a.toNat = i ∧ i < 8 := by
  unfold own
  rw [BitVec.getLsbD_twoPow, Bool.and_eq_true, decide_eq_true_iff, decide_eq_true_iff]
  omega
theorem iv_own (n : Nat) (h : n < 8) : iv (own (n : Int)) = 2 ^ n := by
  unfold iv own
  rw [BitVec.toNat_twoPow, Int.toNat_natCast, Nat.mod_eq_of_lt (Nat.pow_lt_pow_right (by decide) h)]
  exact Int.natCast_pow 2 n
theorem pow_lt {n : Nat} (h : n < 8) : (2 : Int) ^ n < 256 := by
  have h1 : 2 ^ n < 2 ^ 8 := Nat.pow_lt_pow_right (by decide) h
  have h2 : ((2 ^ n : Nat) : Int) = (2 : Int) ^ n := Int.natCast_pow 2 n
  rw [← h2]
  exact Int.ofNat_lt.2 h1
theorem own_out {a : Int} (h : a > 7) : own a = 0 := by
  refine BitVec.eq_of_getLsbD_eq fun i hi => ?_
  rw [Bool.eq_iff_iff, own_bit]
  simp
  omega
theorem shl_own {a : Int} (h : 0 ≤ a) : shl .u8 1 a = iv (own a) := by
  obtain ⟨n, rfl⟩ := Int.eq_ofNat_of_zero_le h
  unfold shl
  rw [IntKind.wrap_u8, Int.toNat_natCast]
  by_cases hn : n < 8
  · rw [iv_own n hn, show min n IntKind.u8.bits = n from Nat.min_eq_left (Nat.le_of_lt hn), Int.one_mul]
    have := pow_lt hn
    have : (0 : Int) ≤ 2 ^ n := Int.pow_nonneg (by decide)
    omega
  · rw [own_out (by omega), show min n IntKind.u8.bits = 8 from Nat.min_eq_right (by show 8 ≤ n; omega)]
    rfl
theorem shr_nat (z : S8) {b : Int} (h : 0 ≤ b) : shr .u8 (iv z) b = ((z.toNat / 2 ^ b.toNat : Nat) : Int) := by
  unfold shr iv
  by_cases hb : b.toNat ≤ 8
  · rw [show min b.toNat IntKind.u8.bits = b.toNat from Nat.min_eq_left hb]
    have e : ((2 ^ b.toNat : Nat) : Int) = (2 : Int) ^ b.toNat := Int.natCast_pow 2 _
    rw [← e]
    rfl
  · have h8 : z.toNat < 2 ^ 8 := z.isLt
    have h9 : z.toNat < 2 ^ b.toNat := Nat.lt_of_lt_of_le h8 (Nat.pow_le_pow_right (by decide) (by omega))
    rw [show min b.toNat IntKind.u8.bits = 8 from Nat.min_eq_right (by show 8 ≤ b.toNat; omega), Nat.div_eq_of_lt h9]
    exact Int.ediv_eq_zero_of_lt (Int.natCast_nonneg _) (Int.ofNat_lt.2 h8)
theorem bit_mod (z : S8) (n : Nat) : z.toNat / 2 ^ n % 2 = if z.getLsbD n then 1 else 0 := by
  have e : z.getLsbD n = decide (z.toNat / 2 ^ n % 2 = 1) := by
    show z.toNat.testBit n = _
    exact Nat.testBit_eq_decide_div_mod_eq
  rw [e]
  by_cases h : z.toNat / 2 ^ n % 2 = 1
  · rw [decide_eq_true h, if_pos rfl, h]
  · rw [decide_eq_false h, if_neg (by decide)]
    omega
theorem shr_and (z : S8) {b : Int} (h : 0 ≤ b) : (bits .and .u8 (shr .u8 (iv z) b) 1 == 1) = z.getLsbD b.toNat := by
  have hm : z.toNat / 2 ^ b.toNat < 256 := Nat.lt_of_le_of_lt (Nat.div_le_self ..) z.isLt
  have e : bits .and .u8 (shr .u8 (iv z) b) (2 ^ 1 - 1) = shr .u8 (iv z) b % 2 ^ 1 := by
    refine bits_mask .u8 8 (by decide) wraps_u8 1 (by decide) _ ?_ ?_
    · rw [shr_nat z h]
      exact Int.natCast_nonneg _
    · rw [shr_nat z h]
      exact Int.ofNat_lt.2 hm
  have e1 : bits .and .u8 (shr .u8 (iv z) b) 1 = ((z.toNat / 2 ^ b.toNat % 2 : Nat) : Int) := by
    rw [show (1 : Int) = 2 ^ 1 - 1 from rfl, e, shr_nat z h]
    rfl
  rw [e1, bit_mod]
  cases z.getLsbD b.toNat <;> rfl
def outI (safe : Bool) (x : S68) (z : S8) : S8 :=
  let s := if safe then 0 else z
  if x.f0 = 5 ∨ x.f0 = 6 ∨ (x.f0 = 7 ∧ s.getLsbD x.f2.toNat = true) then s ||| own x.f1
  else if x.f0 = 7 ∨ x.f0 = 10 ∨ x.f0 = 12 then s &&& ~~~ own x.f1 else s
def outB (code : List S68) (a : Int) (z : S8) : S8 := if 0 ≤ a ∧ a < code.length then outI (sf code a) (rd_T68 code a) z else z
theorem outI_bit (safe : Bool) (x : S68) (z : S8) (i : Nat) : (outI safe x z).getLsbD i = true ↔
    (if x.f0 = 5 ∨ x.f0 = 6 then ((safe = false ∧ z.getLsbD i = true) ∨ (own x.f1).getLsbD i = true)
      else if x.f0 = 7 then (if (own x.f1).getLsbD i = true then (safe = false ∧ z.getLsbD x.f2.toNat = true) else (safe = false ∧ z.getLsbD i = true))
      else if x.f0 = 10 ∨ x.f0 = 12 then ((safe = false ∧ z.getLsbD i = true) ∧ (own x.f1).getLsbD i = false) else (safe = false ∧ z.getLsbD i = true)) := by
  have hs : ∀ j, (if safe then (0 : S8) else z).getLsbD j = true ↔ safe = false ∧ z.getLsbD j = true := by
    intro j
    cases safe <;> simp
  unfold outI
  simp only
  by_cases h5 : x.f0 = 5 ∨ x.f0 = 6
  · rw [if_pos (h5.elim .inl fun h => .inr (.inl h)), if_pos h5, BitVec.getLsbD_or, Bool.or_eq_true, hs]
  · rw [if_neg h5]
    by_cases h7 : x.f0 = 7
    · rw [if_pos h7]
      by_cases hb : (if safe then (0 : S8) else z).getLsbD x.f2.toNat = true
      · rw [if_pos (.inr (.inr ⟨h7, hb⟩)), BitVec.getLsbD_or, Bool.or_eq_true, hs]
        rw [hs] at hb
        by_cases ho : (own x.f1).getLsbD i = true
        · rw [if_pos ho]
          exact ⟨fun _ => hb, fun _ => .inr ho⟩
        · rw [if_neg ho]
          exact ⟨fun h => h.resolve_right ho, .inl⟩
      · rw [if_neg (by rintro (h | h | h); exact h5 (.inl h); exact h5 (.inr h); exact hb h.2), if_pos (.inl h7), not_bit, hs]
        rw [hs] at hb
        by_cases ho : (own x.f1).getLsbD i = true
        · rw [if_pos ho, ho]
          exact ⟨fun h => (by cases h.2), fun h => absurd h hb⟩
        · rw [if_neg ho]
          exact ⟨fun h => h.1, fun h => ⟨h, by simpa using ho⟩⟩
    · rw [if_neg h7]
      by_cases h10 : x.f0 = 10 ∨ x.f0 = 12
      · rw [if_neg (by rintro (h | h | h); exact h5 (.inl h); exact h5 (.inr h); exact h7 h.1), if_pos (.inr h10), if_pos h10, not_bit, hs]
      · rw [if_neg (by rintro (h | h | h); exact h5 (.inl h); exact h5 (.inr h); exact h7 h.1), if_neg (by rintro (h | h); exact h7 h; exact h10 h), if_neg h10, hs]
theorem outI_mono (safe : Bool) (x : S68) {a b : S8} (h : Sub a b) : Sub (outI safe x a) (outI safe x b) := by
  have hk : ∀ j, (safe = false ∧ a.getLsbD j = true) → (safe = false ∧ b.getLsbD j = true) := fun j hj => ⟨hj.1, h j hj.2⟩
  intro i hi
  rw [outI_bit] at hi ⊢
  split
  · rename_i h5
    rw [if_pos h5] at hi
    exact hi.imp (hk i) id
  · rename_i h5
    rw [if_neg h5] at hi
    split
    · rename_i h7
      rw [if_pos h7] at hi
      split
      · rename_i ho
        rw [if_pos ho] at hi
        exact hk _ hi
      · rename_i ho
        rw [if_neg ho] at hi
        exact hk _ hi
    · rename_i h7
      rw [if_neg h7] at hi
      split
      · rename_i h10
        rw [if_pos h10] at hi
        exact ⟨hk i hi.1, hi.2⟩
      · rename_i h10
        rw [if_neg h10] at hi
        exact hk i hi
theorem outB_mono (code : List S68) (k : Int) {a b : S8} (h : Sub a b) : Sub (outB code k a) (outB code k b) := by
  unfold outB
  split
  · exact outI_mono _ _ h
  · exact h
theorem outI_safe (safe : Bool) (x : S68) (z : S8) : outI safe x z = outI false x (if safe then 0 else z) := by cases safe <;> rfl
abbrev FB (code : List S68) (k : Nat) (z : S8) : S8 := outB code k z
def frB (code : List S68) : List S8 := fr (nxt code) code.length (FB code)
def frI (code : List S68) : List Int := (frB code).map iv
theorem FB_mono (code : List S68) : ∀ k a b, Sub a b → Sub (FB code k a) (FB code k b) := fun k _ _ h => outB_mono code k h
theorem nxt_last (code : List S68) : nxt code ((code.length : Nat) : Int) = [] := by unfold nxt; rw [if_neg (by omega)]
end Go.Proofs.YtfkfpcciacplkaaDoor.ZP

namespace Go.Proofs.YtfkfpcciacplkaaDoor.ZP
open Go.RowKit Go.Proofs.YtfkfpcciacplkaaDoorW.PrintWords Go.Proofs.YtfkfpcciacplkaaDoor.F Go.Proofs.YtfkfpcciacplkaaDoor.PL Go.Proofs.YtfkfpcciacplkaaDoor.NX Go.Proofs.YtfkfpcciacplkaaDoor.FP Go.Proofs.YtfkfpcciacplkaaDoor.B8 Go.Proofs.YtfkfpcciacplkaaDoor.FSF
set_option linter.unusedVariables false
set_option linter.unusedSimpArgs false
set_option maxHeartbeats 4000000 in
set_option maxRecDepth 100000 in
theorem Out_c (p : Pg) (w : World) (h : p.On w) (a : Int) (z : S8) : Calls Tryd.prog 101 #[p.v, .int .i64 a, .int .u8 (iv z)] w fun e w' => e = .returned (.int .u8 (iv (outB p.code a z))) ∧ Below w.heap.size w w' := by
  have hmax := Kd.C_max h.hC
  have hC := h.hC
  have SF := Aside0.mk (fun W (hW : Below w.heap.size w W) => Safe_c p W (h.below hW) a)
  have HWF := h.hw
  clear h
  obtain ⟨A0, c0, ts, la, gl, A3, c3, code⟩ := p
  simp only at hmax hC
  change WfC code at HWF
  change Aside0 (∀ W, Below w.heap.size w W → Calls Tryd.prog 61 #[.agg #[.slice A0 ts.length c0, .string la, .string gl, .slice A3 code.length c3], .int .i64 a] W fun e w' => e = .returned (.bool (sf code a)) ∧ Below W.heap.size W w') at SF
  show Calls _ _ #[.agg #[.slice A0 ts.length c0, .string la, .string gl, .slice A3 code.length c3], .int .i64 a, _] _ fun e w' => e = .returned (.int .u8 (iv (outB code a z))) ∧ _
  by_cases hr : 0 ≤ a ∧ a < code.length
  · obtain ⟨an, rfl⟩ := Int.eq_ofNat_of_zero_le hr.1
    have hwf := HWF.rd an (by omega)
    obtain ⟨ad, rfl, hy⟩ := at_box hC an (by omega)
    rw [show outB code an z = outI (sf code an) (rd_T68 code an) z from if_pos hr, outI_safe]
    obtain ⟨⟨x0, x1, x2, x3, x4⟩, hx⟩ : ∃ x, x = rd_T68 code an := ⟨_, rfl⟩
    rw [← hx] at hy hwf ⊢
    have HY := Aside0.mk hy
    obtain ⟨b, hb⟩ : ∃ b, b = sf code an := ⟨_, rfl⟩
    rw [← hb] at SF ⊢
    have h0 : ¬ (an : Int) < 0 := by omega
    have h1 : ¬ (an : Int) ≥ code.length := by omega
    have g1 := hwf.2.1.1
    have g2 := hwf.2.2.1.1
    simp only at g1 g2
    have sho : (2 : Int) ^ min x1.toNat 8 % 256 = iv (own x1) := by
      rw [← shl_own g1]
      unfold shl
      rw [Int.one_mul]
      rfl
    clear hC hx hy hr hb HWF hwf
    obtain ⟨s, hs⟩ : ∃ s : S8, s = if b then 0 else z := ⟨_, rfl⟩
    rw [← hs]
    have hshr := shr_and s g2
    have fin : ∀ v : Int, v = iv (outI false ⟨x0, x1, x2, x3, x4⟩ s) → Calls Tryd.prog 101 #[.agg #[.slice A0 ts.length c0, .string la, .string gl, .slice (some ad) code.length c3], .int .i64 an, .int .u8 (iv z)] w (fun e w' => e = .returned (.int .u8 v) ∧ Below w.heap.size w w') → Calls Tryd.prog 101 #[.agg #[.slice A0 ts.length c0, .string la, .string gl, .slice (some ad) code.length c3], .int .i64 an, .int .u8 (iv z)] w (fun e w' => e = .returned (.int .u8 (iv (outI false ⟨x0, x1, x2, x3, x4⟩ s))) ∧ Below w.heap.size w w') := fun v e h => by rw [← e]; exact h
    have q1 : x0 = 5 ∨ x0 = 6 ∨ (x0 = 7 ∧ s.getLsbD x2.toNat = true) → bits .or .u8 (iv s) ((2 : Int) ^ min x1.toNat 8 % 256) = iv (outI false ⟨x0, x1, x2, x3, x4⟩ s) := fun h => by
      rw [sho, bits_or]
      unfold outI
      simp only [Bool.false_eq_true, if_false]
      rw [if_pos h]
    have q2 : (x0 = 7 ∧ ¬ s.getLsbD x2.toNat = true) ∨ x0 = 10 ∨ x0 = 12 → bits .andNot .u8 (iv s) ((2 : Int) ^ min x1.toNat 8 % 256) = iv (outI false ⟨x0, x1, x2, x3, x4⟩ s) := fun h => by
      rw [sho, bits_not]
      unfold outI
      simp only [Bool.false_eq_true, if_false]
      rw [if_neg (by rcases h with h | h | h <;> (rintro (g | g | g) <;> first | omega | exact h.2 g.2)), if_pos (by rcases h with h | h | h <;> omega)]
    have q3 : x0 ≠ 5 ∧ x0 ≠ 6 ∧ x0 ≠ 7 ∧ x0 ≠ 10 ∧ x0 ≠ 12 → iv s = iv (outI false ⟨x0, x1, x2, x3, x4⟩ s) := fun h => by
      unfold outI
      simp only [Bool.false_eq_true, if_false]
      rw [if_neg (by rintro (g | g | g) <;> omega), if_neg (by rintro (g | g | g) <;> omega)]
    have Q1 := Aside0.mk q1
    have Q2 := Aside0.mk q2
    have Q3 := Aside0.mk q3
    clear q1 q2 q3 sho
    obtain ⟨t, ht⟩ : ∃ t : Int, iv s = t := ⟨_, rfl⟩
    have HT := Aside0.mk ht
    have hshr' : (bits .and .u8 (shr .u8 t x2) 1 == 1) = s.getLsbD x2.toNat := by rw [← ht]; exact hshr
    clear hshr
    change (bits .and .u8 (t / 2 ^ min x2.toNat 8) 1 == 1) = _ at hshr'
    rw [ht] at Q1 Q2 Q3
    have HS := Aside0.mk (show b = true → t = 0 from fun h => by rw [← ht, hs, h]; rfl)
    have HS' := Aside0.mk (show b = false → iv z = t from fun h => by rw [← ht, hs, h]; rfl)
    clear ht hs
    by_cases c5 : x0 = 5
    · refine fin _ (Q1.out (.inl c5)) ?_
      clear fin hshr'
      subst c5
      cases b with
      | true =>
        obtain rfl := HS.out rfl
        try rw [Int.zero_ediv] at hshr'
        go_enter Tryd.func101, Tryd.ntmps101
        go_wp2_with (go_at_call 61; (with_reducible refine (SF.out _ (below_alloc (Below.refl _ _) _)).mono ?_); rintro e w1 ⟨rfl, hb1⟩; have R0 := (hb1.block w.heap.size (by simp)).trans (heap_alloc_new w _); have kR := fun j => cell_of_row w1 w.heap.size j _ _ _ R0; obtain ⟨y0, y1, y2, y3, y4⟩ := HY.out w1 (below_step (below_alloc (Below.refl _ _) _) hb1); have HB := Aside0.mk (below_step (below_alloc (Below.refl _ _) _) hb1); clear hb1 R0)
        go_ret
        exact ⟨rfl, below_alloc HB.out _⟩
      | false =>
        rw [HS'.out rfl]
        go_enter Tryd.func101, Tryd.ntmps101
        go_wp2_with (go_at_call 61; (with_reducible refine (SF.out _ (below_alloc (Below.refl _ _) _)).mono ?_); rintro e w1 ⟨rfl, hb1⟩; have R0 := (hb1.block w.heap.size (by simp)).trans (heap_alloc_new w _); have kR := fun j => cell_of_row w1 w.heap.size j _ _ _ R0; obtain ⟨y0, y1, y2, y3, y4⟩ := HY.out w1 (below_step (below_alloc (Below.refl _ _) _) hb1); have HB := Aside0.mk (below_step (below_alloc (Below.refl _ _) _) hb1); clear hb1 R0)
        go_ret
        exact ⟨rfl, below_alloc HB.out _⟩
    by_cases c6 : x0 = 6
    · refine fin _ (Q1.out (.inr (.inl c6))) ?_
      clear fin hshr' c5
      subst c6
      cases b with
      | true =>
        obtain rfl := HS.out rfl
        try rw [Int.zero_ediv] at hshr'
        go_enter Tryd.func101, Tryd.ntmps101
        go_wp2_with (go_at_call 61; (with_reducible refine (SF.out _ (below_alloc (Below.refl _ _) _)).mono ?_); rintro e w1 ⟨rfl, hb1⟩; have R0 := (hb1.block w.heap.size (by simp)).trans (heap_alloc_new w _); have kR := fun j => cell_of_row w1 w.heap.size j _ _ _ R0; obtain ⟨y0, y1, y2, y3, y4⟩ := HY.out w1 (below_step (below_alloc (Below.refl _ _) _) hb1); have HB := Aside0.mk (below_step (below_alloc (Below.refl _ _) _) hb1); clear hb1 R0)
        go_ret
        exact ⟨rfl, below_alloc HB.out _⟩
      | false =>
        rw [HS'.out rfl]
        go_enter Tryd.func101, Tryd.ntmps101
        go_wp2_with (go_at_call 61; (with_reducible refine (SF.out _ (below_alloc (Below.refl _ _) _)).mono ?_); rintro e w1 ⟨rfl, hb1⟩; have R0 := (hb1.block w.heap.size (by simp)).trans (heap_alloc_new w _); have kR := fun j => cell_of_row w1 w.heap.size j _ _ _ R0; obtain ⟨y0, y1, y2, y3, y4⟩ := HY.out w1 (below_step (below_alloc (Below.refl _ _) _) hb1); have HB := Aside0.mk (below_step (below_alloc (Below.refl _ _) _) hb1); clear hb1 R0)
        go_ret
        exact ⟨rfl, below_alloc HB.out _⟩
    by_cases c7 : x0 = 7
    · by_cases hb : s.getLsbD x2.toNat = true
      · refine fin _ (Q1.out (.inr (.inr ⟨c7, hb⟩))) ?_
        rw [hb] at hshr'
        clear fin c5 c6 hb
        subst c7
        cases b with
        | true =>
          obtain rfl := HS.out rfl
          try rw [Int.zero_ediv] at hshr'
          go_enter Tryd.func101, Tryd.ntmps101
          go_wp2_with (go_at_call 61; (with_reducible refine (SF.out _ (below_alloc (Below.refl _ _) _)).mono ?_); rintro e w1 ⟨rfl, hb1⟩; have R0 := (hb1.block w.heap.size (by simp)).trans (heap_alloc_new w _); have kR := fun j => cell_of_row w1 w.heap.size j _ _ _ R0; obtain ⟨y0, y1, y2, y3, y4⟩ := HY.out w1 (below_step (below_alloc (Below.refl _ _) _) hb1); have HB := Aside0.mk (below_step (below_alloc (Below.refl _ _) _) hb1); clear hb1 R0)
          go_ret
          exact ⟨rfl, below_alloc HB.out _⟩
        | false =>
          rw [HS'.out rfl]
          go_enter Tryd.func101, Tryd.ntmps101
          go_wp2_with (go_at_call 61; (with_reducible refine (SF.out _ (below_alloc (Below.refl _ _) _)).mono ?_); rintro e w1 ⟨rfl, hb1⟩; have R0 := (hb1.block w.heap.size (by simp)).trans (heap_alloc_new w _); have kR := fun j => cell_of_row w1 w.heap.size j _ _ _ R0; obtain ⟨y0, y1, y2, y3, y4⟩ := HY.out w1 (below_step (below_alloc (Below.refl _ _) _) hb1); have HB := Aside0.mk (below_step (below_alloc (Below.refl _ _) _) hb1); clear hb1 R0)
          go_ret
          exact ⟨rfl, below_alloc HB.out _⟩
      · refine fin _ (Q2.out (.inl ⟨c7, hb⟩)) ?_
        rw [eq_false_of_ne_true hb] at hshr'
        clear fin c5 c6 hb
        subst c7
        cases b with
        | true =>
          obtain rfl := HS.out rfl
          try rw [Int.zero_ediv] at hshr'
          go_enter Tryd.func101, Tryd.ntmps101
          go_wp2_with (go_at_call 61; (with_reducible refine (SF.out _ (below_alloc (Below.refl _ _) _)).mono ?_); rintro e w1 ⟨rfl, hb1⟩; have R0 := (hb1.block w.heap.size (by simp)).trans (heap_alloc_new w _); have kR := fun j => cell_of_row w1 w.heap.size j _ _ _ R0; obtain ⟨y0, y1, y2, y3, y4⟩ := HY.out w1 (below_step (below_alloc (Below.refl _ _) _) hb1); have HB := Aside0.mk (below_step (below_alloc (Below.refl _ _) _) hb1); clear hb1 R0)
          go_ret
          exact ⟨rfl, below_alloc HB.out _⟩
        | false =>
          rw [HS'.out rfl]
          go_enter Tryd.func101, Tryd.ntmps101
          go_wp2_with (go_at_call 61; (with_reducible refine (SF.out _ (below_alloc (Below.refl _ _) _)).mono ?_); rintro e w1 ⟨rfl, hb1⟩; have R0 := (hb1.block w.heap.size (by simp)).trans (heap_alloc_new w _); have kR := fun j => cell_of_row w1 w.heap.size j _ _ _ R0; obtain ⟨y0, y1, y2, y3, y4⟩ := HY.out w1 (below_step (below_alloc (Below.refl _ _) _) hb1); have HB := Aside0.mk (below_step (below_alloc (Below.refl _ _) _) hb1); clear hb1 R0)
          go_ret
          exact ⟨rfl, below_alloc HB.out _⟩
    by_cases c10 : x0 = 10
    · refine fin _ (Q2.out (.inr (.inl c10))) ?_
      clear fin hshr' c5 c6 c7
      subst c10
      cases b with
      | true =>
        obtain rfl := HS.out rfl
        try rw [Int.zero_ediv] at hshr'
        go_enter Tryd.func101, Tryd.ntmps101
        go_wp2_with (go_at_call 61; (with_reducible refine (SF.out _ (below_alloc (Below.refl _ _) _)).mono ?_); rintro e w1 ⟨rfl, hb1⟩; have R0 := (hb1.block w.heap.size (by simp)).trans (heap_alloc_new w _); have kR := fun j => cell_of_row w1 w.heap.size j _ _ _ R0; obtain ⟨y0, y1, y2, y3, y4⟩ := HY.out w1 (below_step (below_alloc (Below.refl _ _) _) hb1); have HB := Aside0.mk (below_step (below_alloc (Below.refl _ _) _) hb1); clear hb1 R0)
        go_ret
        exact ⟨rfl, below_alloc HB.out _⟩
      | false =>
        rw [HS'.out rfl]
        go_enter Tryd.func101, Tryd.ntmps101
        go_wp2_with (go_at_call 61; (with_reducible refine (SF.out _ (below_alloc (Below.refl _ _) _)).mono ?_); rintro e w1 ⟨rfl, hb1⟩; have R0 := (hb1.block w.heap.size (by simp)).trans (heap_alloc_new w _); have kR := fun j => cell_of_row w1 w.heap.size j _ _ _ R0; obtain ⟨y0, y1, y2, y3, y4⟩ := HY.out w1 (below_step (below_alloc (Below.refl _ _) _) hb1); have HB := Aside0.mk (below_step (below_alloc (Below.refl _ _) _) hb1); clear hb1 R0)
        go_ret
        exact ⟨rfl, below_alloc HB.out _⟩
    by_cases c12 : x0 = 12
    · refine fin _ (Q2.out (.inr (.inr c12))) ?_
      clear fin hshr' c5 c6 c7 c10
      subst c12
      cases b with
      | true =>
        obtain rfl := HS.out rfl
        try rw [Int.zero_ediv] at hshr'
        go_enter Tryd.func101, Tryd.ntmps101
        go_wp2_with (go_at_call 61; (with_reducible refine (SF.out _ (below_alloc (Below.refl _ _) _)).mono ?_); rintro e w1 ⟨rfl, hb1⟩; have R0 := (hb1.block w.heap.size (by simp)).trans (heap_alloc_new w _); have kR := fun j => cell_of_row w1 w.heap.size j _ _ _ R0; obtain ⟨y0, y1, y2, y3, y4⟩ := HY.out w1 (below_step (below_alloc (Below.refl _ _) _) hb1); have HB := Aside0.mk (below_step (below_alloc (Below.refl _ _) _) hb1); clear hb1 R0)
        go_ret
        exact ⟨rfl, below_alloc HB.out _⟩
      | false =>
        rw [HS'.out rfl]
        go_enter Tryd.func101, Tryd.ntmps101
        go_wp2_with (go_at_call 61; (with_reducible refine (SF.out _ (below_alloc (Below.refl _ _) _)).mono ?_); rintro e w1 ⟨rfl, hb1⟩; have R0 := (hb1.block w.heap.size (by simp)).trans (heap_alloc_new w _); have kR := fun j => cell_of_row w1 w.heap.size j _ _ _ R0; obtain ⟨y0, y1, y2, y3, y4⟩ := HY.out w1 (below_step (below_alloc (Below.refl _ _) _) hb1); have HB := Aside0.mk (below_step (below_alloc (Below.refl _ _) _) hb1); clear hb1 R0)
        go_ret
        exact ⟨rfl, below_alloc HB.out _⟩
    refine fin _ (Q3.out ⟨c5, c6, c7, c10, c12⟩) ?_
    have b5 : (x0 == 5) = false := beq_false_of_ne c5
    have b6 : (x0 == 6) = false := beq_false_of_ne c6
    have b7 : (x0 == 7) = false := beq_false_of_ne c7
    have b10 : (x0 == 10) = false := beq_false_of_ne c10
    have b12 : (x0 == 12) = false := beq_false_of_ne c12
    clear fin hshr'
    cases b with
    | true =>
      obtain rfl := HS.out rfl
      try rw [Int.zero_ediv] at hshr'
      go_enter Tryd.func101, Tryd.ntmps101
      go_wp2_with (go_at_call 61; (with_reducible refine (SF.out _ (below_alloc (Below.refl _ _) _)).mono ?_); rintro e w1 ⟨rfl, hb1⟩; have R0 := (hb1.block w.heap.size (by simp)).trans (heap_alloc_new w _); have kR := fun j => cell_of_row w1 w.heap.size j _ _ _ R0; obtain ⟨y0, y1, y2, y3, y4⟩ := HY.out w1 (below_step (below_alloc (Below.refl _ _) _) hb1); have HB := Aside0.mk (below_step (below_alloc (Below.refl _ _) _) hb1); clear hb1 R0)
      go_ret
      exact ⟨rfl, below_alloc HB.out _⟩
    | false =>
      rw [HS'.out rfl]
      go_enter Tryd.func101, Tryd.ntmps101
      go_wp2_with (go_at_call 61; (with_reducible refine (SF.out _ (below_alloc (Below.refl _ _) _)).mono ?_); rintro e w1 ⟨rfl, hb1⟩; have R0 := (hb1.block w.heap.size (by simp)).trans (heap_alloc_new w _); have kR := fun j => cell_of_row w1 w.heap.size j _ _ _ R0; obtain ⟨y0, y1, y2, y3, y4⟩ := HY.out w1 (below_step (below_alloc (Below.refl _ _) _) hb1); have HB := Aside0.mk (below_step (below_alloc (Below.refl _ _) _) hb1); clear hb1 R0)
      go_ret
      exact ⟨rfl, below_alloc HB.out _⟩
  · rw [show outB code a z = z from if_neg hr]
    by_cases h0 : a < 0
    · go_enter Tryd.func101, Tryd.ntmps101
      go_wp2
      go_ret
      exact ⟨rfl, below_alloc (Below.refl _ _) _⟩
    · have h1 : a ≥ (code.length : Int) := by omega
      go_enter Tryd.func101, Tryd.ntmps101
      go_wp2
      go_ret
      exact ⟨rfl, below_alloc (Below.refl _ _) _⟩
end Go.Proofs.YtfkfpcciacplkaaDoor.ZP

namespace Go.Proofs.YtfkfpcciacplkaaDoor.ZP
open Go.RowKit Go.Proofs.YtfkfpcciacplkaaDoorW.PrintWords Go.Proofs.YtfkfpcciacplkaaDoorW.PrintLast Go.Proofs.YtfkfpcciacplkaaDoorW.PrintMore Go.Proofs.YtfkfpcciacplkaaDoor.F Go.Proofs.YtfkfpcciacplkaaDoor.PL Go.Proofs.YtfkfpcciacplkaaDoor.NX Go.Proofs.YtfkfpcciacplkaaDoor.FP Go.Proofs.YtfkfpcciacplkaaDoor.B8 Go.Proofs.YtfkfpcciacplkaaDoor.FSF Go.Proofs.YtfkfpcciacplkaaDoor.FG
set_option linter.unusedVariables false
set_option linter.unusedSimpArgs false
theorem append1_q {P : Program} {ops : Array Oper} {rest : List Oper} {o : Oper} {a : Act} {Q : Exit → Act → World → Prop} {W : World} (base : Nat) (hgd : o.guard = none) (s x : Operand) (t e : TypeId) (bytes : Nat)
    (ho : o.op = .call { callee := .builtin .append, args := #[s, x], argTypes := #[t, t] })
    (ht : P.underlying t = some (.slice e)) (hinfo : (P.info? e).map (fun i => (i.zero, i.size, i.bytes)) = some (some (.int .i64 0), 1, bytes))
    (v : Value) (xs : List Int) (n : Nat) (hn : xs.length = n) (y : Int) (g : Nat) (hs : a.eval s = v) (hx : a.eval x = .slice (some ⟨g, 0, none⟩) 1 1)
    (HO : QRow W base e 1 v n (nums .i64 xs)) (HR : W.heap[g]? = some (.cells #[.int .i64 y] e (0, 0))) (hbase : base ≤ W.heap.size) (h63 : n + 1 ≤ maxLen) (hl : (n + 1) * bytes ≤ 140737488355328)
    (h : ∀ v1 w1, QRow w1 base e 1 v1 (n + 1) (nums .i64 (xs ++ [y])) → W.grownBy w1 v.ownBlock → (v1.ownBlock = v.ownBlock ∨ ∃ b, v1.ownBlock = some b ∧ W.heap.size ≤ b) → wpList P ops Q rest (a.put o.dst v1) w1) :
    wpList P ops Q (o :: rest) a W := by
  obtain ⟨i0, hi, hzz⟩ := Option.map_eq_some_iff.1 hinfo
  simp only [Prod.mk.injEq] at hzz
  obtain ⟨hz0, hz1, hz2⟩ := hzz
  obtain ⟨v1, w1, hr, hown, hg, hat⟩ := q_append (P := P) W base t o.type e i0 (.int .i64 0) 1 bytes ht hi hz0 hz1 hz2 rfl (by decide) v n (nums .i64 xs) HO ⟨g, 0, none⟩ 1 1 [.int .i64 y] rfl (World.news_of_block (cs := #[.int .i64 y]) HR) (by simp [Value.oneCell']) (by decide) h63 hl hbase
  refine wpList_plain hgd fun K hK => ?_
  unfold Oper.wp execOp
  simp only [ho, resolve, invoke, builtin, Sem.run_bind, Sem.run_pure, Result.andThen_ok, List.map_toArray, List.map_cons, List.map_nil, hs, hx, hr]
  exact hK _ _ (h v1 w1 (by simpa [nums] using hown) hg hat)
def RowU (w : World) (b : Nat) (l : List S8) : Prop := w.heap[b]? = some (.cells (l.map fun z => Value.int .u8 (iv z)).toArray 5 (0, 0))
theorem RowU.cell {w : World} {b : Nat} {l : List S8} (h : RowU w b l) (k : Nat) (hk : k < l.length) : w.cell? ⟨b, k, none⟩ = some (.int .u8 (iv (g l k))) := by
  refine (blk_cell h k).trans ?_
  simp [g, List.getElem?_eq_getElem hk, List.getD_eq_getElem?_getD]
theorem RowU.set {w : World} {b : Nat} {l : List S8} (h : RowU w b l) (k : Nat) (z : S8) : RowU (w.setCell ⟨b, k, none⟩ (.int .u8 (iv z))) b (l.set k z) := by
  refine (ST0.row_cellS (i := b) (j := k) (.int .u8 (iv z)) h).trans ?_
  simp [List.map_set]
def rowUOf (w : World) (b : Nat) : List S8 := match w.heap[b]? with
  | some (.cells cs _ _) => cs.toList.map fun v => match v with | .int _ x => bv x | _ => 0
  | _ => []
theorem RowU.of {w : World} {b : Nat} {l : List S8} (h : RowU w b l) : rowUOf w b = l := by
  unfold rowUOf
  rw [h]
  simp [List.map_map, Function.comp_def, bv_iv]
def measU (b : Nat) (v : Value) (w : World) : Nat := 2 * tot (rowUOf w b) + lenOf v
theorem measU_eq {w : World} {b : Nat} {l : List S8} (h : RowU w b l) (A : Option Addr) (todo : List Int) (n c : Nat) (hn : todo.length = n) : measU b (.slice A n c) w = lft l todo := by
  unfold measU lft
  rw [h.of, ← hn]
  rfl
structure FI (w wr : World) (pv : Array Value) (v : Value) (l : List S8) (n : Nat) (todo : List Int) : Prop where
  row : RowU wr (w.heap.size + 1) l
  q : QRow wr w.heap.size 3 1 v n (nums .i64 todo)
  len : todo.length = n
  below : Below w.heap.size w wr
  box : wr.heap[w.heap.size]? = some (.cells pv 46 (0, 0))
theorem FI.ne {w wr : World} {pv : Array Value} {v : Value} {l : List S8} {n : Nat} {todo : List Int} (h : FI w wr pv v l n todo) {k : Nat} {cs : Array Value} {t : TypeId} (hk : wr.heap[k]? = some (.cells cs t (0, 0))) (ht : t ≠ 3) : some k ≠ v.ownBlock := fun e => by
  obtain ⟨_, cs', hc⟩ := q_typed h.q k e.symm
  rw [hk] at hc
  injection hc with hc
  injection hc with _ hc _
  exact ht hc
theorem FI.grown {w wr w1 : World} {pv : Array Value} {v v1 : Value} {l : List S8} {n n' : Nat} {todo t' : List Int} (h : FI w wr pv v l n todo) {o : Obj} (hg : (wr.alloc o).grownBy w1 v.ownBlock) (hq : QRow w1 w.heap.size 3 1 v1 n' (nums .i64 t')) (hn : t'.length = n') : FI w w1 pv v1 l n' t' := by
  have mv : ∀ k, k < wr.heap.size → some k ≠ v.ownBlock → w1.heap[k]? = wr.heap[k]? := fun k hk he => (hg.block k (by simp; omega) he).trans (by show (wr.heap.push o)[k]? = _; rw [Array.getElem?_push, if_neg (Nat.ne_of_lt hk)])
  refine ⟨(mv _ (blk_lt h.row) (h.ne h.row (by decide))).trans h.row, hq, hn, ?_, (mv _ (blk_lt h.box) (h.ne h.box (by decide))).trans h.box⟩
  exact Below.grown (below_alloc h.below o) hg (Nat.le_trans h.below.size (by simp)) fun k hk => (q_typed h.q k hk).1
theorem FI.keep {w wr w1 : World} {pv : Array Value} {v : Value} {l : List S8} {n : Nat} {todo : List Int} (h : FI w wr pv v l n todo) (hb : Below wr.heap.size wr w1) : FI w w1 pv v l n todo :=
  ⟨(hb.block _ (blk_lt h.row)).trans h.row, q_move h.q fun k hk => hb.block k (q_lt h.q k hk), h.len, below_step h.below hb, (hb.block _ (blk_lt h.box)).trans h.box⟩
theorem FI.set {w wr : World} {pv : Array Value} {v : Value} {l : List S8} {n : Nat} {todo : List Int} (h : FI w wr pv v l n todo) (k : Nat) (z : S8) : FI w (wr.setCell ⟨w.heap.size + 1, k, none⟩ (.int .u8 (iv z))) pv v (l.set k z) n todo :=
  ⟨h.row.set k z, q_move h.q fun j hj => Below.heap_setCell wr _ _ j fun e => h.ne h.row (by decide) (by rw [hj]; exact congrArg some e.symm), h.len, h.below.setCell (Nat.le_succ _) _, blk_far h.box (by simp) _⟩
def pre (M k : Nat) : List S8 := List.replicate k 255 ++ List.replicate (M - k) 0
theorem pre_len {M k : Nat} (h : k ≤ M) : (pre M k).length = M := by simp [pre]; omega
theorem pre_set {M k : Nat} (h : k < M) : (pre M k).set k 255 = pre M (k + 1) := by
  obtain ⟨m, hm⟩ : ∃ m, M - k = m + 1 := ⟨M - k - 1, by omega⟩
  have hm' : M - (k + 1) = m := by omega
  unfold pre
  rw [hm, hm', List.set_append_right _ _ (by simp), List.replicate_succ (n := m), List.length_replicate, Nat.sub_self, List.set_cons_zero, List.replicate_succ' (n := k), List.append_assoc]
  rfl
theorem made_pre (M : Nat) : madeCells #[Value.int .u8 0] M = ((pre M 0).map fun z => Value.int .u8 (iv z)).toArray := by
  apply Array.ext'
  rw [toList_madeCells_one]
  simp [pre]
  exact .inr rfl
def upTo (k : Nat) : List Int := (List.range k).map fun (i : Nat) => (i : Int)
theorem upTo_succ (k : Nat) : upTo k ++ [(k : Int)] = upTo (k + 1) := by unfold upTo; rw [List.range_succ, List.map_append]; rfl
theorem upTo_len (k : Nat) : (upTo k).length = k := by simp [upTo]
theorem take_nx (l : List Int) (j : Nat) (hj : j < l.length) {w : World} {B c : Nat} {A : Option Addr} (h : w.ownsRow B 3 1 (.slice A l.length c) l.length (nums .i64 l)) : ∃ ad, A = some ad ∧ w.cell? (ad.add j) = some (.int .i64 l[j]) := by
  rcases h.2 with ⟨_, e⟩ | ⟨g, cap, cur, e, _⟩
  · omega
  · injection e with e1 _ _
    exact ⟨_, e1, h.cells (g := g) (by rw [e1]; rfl) j _ (by simp [nums, List.getElem?_eq_getElem hj])⟩
set_option maxHeartbeats 8000000 in
set_option maxRecDepth 100000 in
theorem In_c (p : Pg) (w : World) (h : p.On w) (hI : InR (nxt p.code) (p.code.length + 1)) (hsm : p.code.length ≤ 1000000) : Calls Tryd.prog 65 #[p.v] w fun e w' =>
    ∃ g c, e = .returned (.slice (some ⟨g, 0, none⟩) (p.code.length + 1) c) ∧ p.code.length + 1 ≤ c ∧ w.heap.size ≤ g ∧ RowU w' g (frB p.code) ∧ Below w.heap.size w w' := by
  have hC := h.hC
  have OUT := Aside0.mk (fun W (hW : Below w.heap.size w W) (a : Int) (z : S8) => Out_c p W (h.below hW) a z)
  clear h
  obtain ⟨A0, c0, ts, la, gl, A3, c3, code⟩ := p
  simp only at hC hI hsm
  change Aside0 (∀ W, Below w.heap.size w W → ∀ (a : Int) (z : S8), Calls Tryd.prog 101 #[.agg #[.slice A0 ts.length c0, .string la, .string gl, .slice A3 code.length c3], .int .i64 a, .int .u8 (iv z)] W fun e w' => e = .returned (.int .u8 (iv (outB code a z))) ∧ Below W.heap.size W w') at OUT
  have NX := Aside0.mk (fun W (hW : Below w.heap.size w W) (a : Int) => Next_own W A0 c0 ts la gl A3 c3 code (Kd.C_below hC hW) a)
  have HI := Aside0.mk hI
  have h2 := nxt_two code
  have hmk1 : ∀ W : World, (Instr.makeSlice 117 (.int .i64 ((code.length : Int) + 1)) (.int .i64 ((code.length : Int) + 1))).run Tryd.prog W = .ok (.slice (some ⟨W.heap.size, 0, none⟩) (code.length + 1) (code.length + 1)) (W.alloc (.cells (madeCells #[.int .u8 0] (code.length + 1)) 5)) :=
    print_make_of (P := Tryd.prog) 117 5 (.int .u8 0) 1 Tryd.underlying117 (by kernel_rfl) rfl (by decide) (code.length + 1) (by omega)
  have hmk2 : ∀ W : World, (Instr.makeSlice 93 (.int .i64 0) (.int .i64 ((code.length : Int) + 1))).run Tryd.prog W = .ok (.slice (some ⟨W.heap.size, 0, none⟩) 0 (code.length + 1)) (W.alloc (.cells (madeCells #[.int .i64 0] (code.length + 1)) 3)) := fun W => by
    obtain ⟨i0, hi, hzz⟩ := Option.map_eq_some_iff.1 info_int
    simp only [Prod.mk.injEq] at hzz
    have hr := run_make (P := Tryd.prog) W 93 3 i0 (.int .i64 0) Tryd.underlying93 hi hzz.1 .i64 .i64 (0 : Int) ((code.length + 1 : Nat) : Int) (by omega) (by omega) (by rw [hzz.2.2]; omega) (by omega)
    rw [hzz.2.1, Int.toNat_natCast, Nat.mul_one] at hr
    exact hr
  clear hC hI
  show Calls _ _ #[.agg #[.slice A0 ts.length c0, .string la, .string gl, .slice A3 code.length c3]] _ fun e w' => ∃ g c, e = .returned (.slice (some ⟨g, 0, none⟩) (code.length + 1) c) ∧ code.length + 1 ≤ c ∧ w.heap.size ≤ g ∧ RowU w' g (frB code) ∧ Below w.heap.size w w'
  go_enter Tryd.func65, Tryd.ntmps65
  go_upto_region 3 with (fail)
  obtain ⟨W0, hW0⟩ : ∃ W0 : World, W0 = ((w.alloc (.cells #[.slice A0 ts.length c0, .string la, .string gl, .slice A3 code.length c3] 46)).alloc (.cells (madeCells #[.int .u8 0] (code.length + 1)) 5)).alloc (.cells (madeCells #[.int .i64 0] (code.length + 1)) 3) := ⟨_, rfl⟩
  have HF := Aside0.mk (show FI w W0 #[.slice A0 ts.length c0, .string la, .string gl, .slice A3 code.length c3] (.slice (some ⟨w.heap.size + 1 + 1, 0, none⟩) 0 (code.length + 1)) (pre (code.length + 1) 0) 0 (upTo 0) by
    rw [hW0]
    refine ⟨?_, ?_, rfl, below_alloc (below_alloc (below_alloc (Below.refl _ _) _) _) _, ?_⟩
    · unfold RowU
      rw [made_pre]
      exact ST0.row_old _ _ _ (by simp) (ST0.row_new _ _ _ (by simp))
    · have := World.ownsRow_made (base := w.heap.size) (e := 3) (size := 1) ((w.alloc (.cells #[.slice A0 ts.length c0, .string la, .string gl, .slice A3 code.length c3] 46)).alloc (.cells (madeCells #[.int .u8 0] (code.length + 1)) 5)) (madeCells #[.int .i64 0] (code.length + 1)) (code.length + 1) (by simp; omega) (by unfold maxLen; omega) (by simp [madeCells])
      have h2 := q_of_own this
      simpa [upTo, nums] using h2
    · exact ST0.row_old _ _ _ (by simp; omega) (ST0.row_old _ _ _ (by simp) (ST0.row_new _ _ _ rfl)))
  rw [← hW0]
  clear hW0 hmk1 hmk2
  go_wp2
  go_loopw [20, 4] (fun x v wr => ∃ k : Nat, x = .int .i64 k ∧ k ≤ code.length + 1 ∧ Aside0 (FI w wr #[.slice A0 ts.length c0, .string la, .string gl, .slice A3 code.length c3] v (pre (code.length + 1) k) k (upTo k))) (fun x _ _ => code.length + 1 - (intOf x).toNat)
  case atStart => exact ⟨0, rfl, Nat.zero_le _, HF⟩
  case round =>
    clear HF
    obtain ⟨k, rfl, hk, HF⟩ := hrel
    by_cases hlt : (k : Int) < (code.length : Int) + 1
    · have k0 : (0 : Int) ≤ k := by omega
      have hpl : (pre (code.length + 1) k).length = code.length + 1 := pre_len hk
      have hc := HF.out.row.cell k (by omega)
      have hf := blk_frozen HF.out.row k
      go_upto_region 7 with (fail)
      obtain ⟨w3, hw3⟩ : ∃ w3 : World, w3 = wr.setCell ⟨w.heap.size + 1, k, none⟩ (.int .u8 255) := ⟨_, rfl⟩
      have HF3 := Aside0.mk (show FI w w3 #[.slice A0 ts.length c0, .string la, .string gl, .slice A3 code.length c3] u4 (pre (code.length + 1) (k + 1)) k (upTo k) by
        rw [hw3, ← pre_set (by omega)]
        exact HF.out.set k 255)
      rw [← hw3]
      clear hw3 hc hf HF
      have hzw := HF3.out.below.size
      go_wp2_with (at_builtin; refine append1_q w.heap.size rfl _ _ 93 3 8 rfl Tryd.underlying93 info_int u4 (upTo k) k (upTo_len k) k w3.heap.size rfl rfl (q_move HF3.out.q fun j hj => by rw [Below.heap_alloc _ _ _ (q_lt HF3.out.q j hj)]) (ST0.row_new _ _ _ rfl) (Nat.le_trans hzw (by simp)) (by unfold maxLen; omega) (by omega) ?_; intro v1 w1 hq hg hat; have HQ := Aside0.mk hq; have HG := Aside0.mk hg; clear hq hg hat)
      go_roundw
      case rel => exact ⟨k + 1, by go_num, by omega, ⟨HF3.out.grown HG.out (by rw [← upTo_succ]; exact HQ.out) (upTo_len _)⟩⟩
      case measure =>
        simp [intOf]
        omega
    · obtain rfl : k = code.length + 1 := by omega
      have e0 : pre (code.length + 1) (code.length + 1) = List.replicate (code.length + 1) 255 := by simp [pre]
      rw [e0] at HF
      have ht : lft (List.replicate (code.length + 1) (255 : S8)) (upTo (code.length + 1)) ≤ 17 * (code.length + 1) := by
        have := tot_8 (List.replicate (code.length + 1) (255 : S8))
        rw [List.length_replicate] at this
        unfold lft
        rw [upTo_len]
        omega
      have HT := Aside0.mk ht
      clear e0 ht hlt hk
      obtain ⟨n1, hn1⟩ : ∃ n1, n1 = code.length + 1 := ⟨_, rfl⟩
      have HS := Aside0.mk (show FI w wr #[.slice A0 ts.length c0, .string la, .string gl, .slice A3 code.length c3] u4 (List.replicate (code.length + 1) 255) n1 (upTo (code.length + 1)) by rw [hn1]; exact HF.out)
      clear HF hn1
      go_wp2
      go_loopw [4] (fun v wr => ∃ l todo n, Aside0 (FI w wr #[.slice A0 ts.length c0, .string la, .string gl, .slice A3 code.length c3] v l n todo ∧ WI (nxt code) code.length (FB code) l todo ∧ lft l todo ≤ 17 * (code.length + 1))) (fun v wr => measU (w.heap.size + 1) v wr)
      case atStart => exact ⟨_, _, _, ⟨HS.out, WI.start, HT.out⟩⟩
      case round =>
        clear HS HT
        obtain ⟨l, todo, n, HR⟩ := hrel
        obtain ⟨w3, hw3⟩ : ∃ w3 : World, w3 = wr := ⟨_, rfl⟩
        subst hw3
        obtain ⟨hF, hWI, hlf⟩ := HR.out
        obtain ⟨A, c, hv, hc⟩ := q_slice hF.q
        subst hv
        have hln := hF.len
        have y0 := (blk_cell hF.box 0).trans (rfl : _ = some (Value.slice A0 ts.length c0))
        have y1 := (blk_cell hF.box 1).trans (rfl : _ = some (Value.string la))
        have y2 := (blk_cell hF.box 2).trans (rfl : _ = some (Value.string gl))
        have y3 := (blk_cell hF.box 3).trans (rfl : _ = some (Value.slice A3 code.length c3))
        cases todo with
        | nil =>
          obtain rfl : n = 0 := hln.symm
          have e : l = frB code := fr_of HI.out (FB_mono code) (nxt_last code) hWI.inv hWI.done
          have HFE := Aside0.mk hF
          have HE := Aside0.mk e
          clear hF hWI hlf e HR
          go_wp2
          go_ret
          exact ⟨w.heap.size + 1, _, rfl, Nat.le_refl _, Nat.le_succ _, HE.out ▸ HFE.out.row, HFE.out.below⟩
        | cons k todo =>
          obtain ⟨m, rfl⟩ : ∃ m, n = m + 1 := ⟨todo.length, by simpa using hln.symm⟩
          have hlm : todo.length = m := by simpa using hln
          have hkr := hWI.range k (List.mem_cons_self ..)
          obtain ⟨kn, rfl⟩ := Int.eq_ofNat_of_zero_le hkr.1
          have hll : l.length = code.length + 1 := hWI.inv.len
          obtain ⟨ad, rfl, hcells⟩ := q_cells hF.q (by simp)
          have hx := hcells 0 (.int .i64 kn) (by simp [nums])
          rw [show ad.add 0 = ad by simp [Addr.add]] at hx
          have hb := hF.row.cell kn (by omega)
          have HWJ := Aside0.mk (hWI.pop (FB_mono code))
          have hlt := lft_pop l todo (kn : Int)
          have hm1 : m + 1 ≤ c := hc
          have HFF := Aside0.mk hF
          have hk2 : (kn : Int) < (code.length : Int) + 1 := by omega
          have hk0 : (0 : Int) ≤ kn := Int.natCast_nonneg _
          have hq' := q_drop (k := 1) hF.q (by omega)
          rw [show (nums .i64 ((kn : Int) :: todo)).drop (1 * 1) = nums .i64 todo by simp [nums], show m + 1 - 1 = m by omega] at hq'
          clear hcells hF hWI hln HR
          go_upto_region 12 with (fail)
          obtain ⟨A', hA'⟩ : ∃ A' : Option Addr, A' = (if c = 1 then some ad else some ⟨ad.block, ad.off + 1, none⟩) := ⟨_, rfl⟩
          have hA2 : (if c = 1 then some ad else (some ad).map (·.add (1 * 1))) = A' := by
            rw [hA']
            obtain ⟨g, off, cap, e1, e2⟩ : ∃ g off cap, ad = ⟨g, off, none⟩ ∧ c = cap := by
              rcases HFF.out.q.2 with ⟨h, _⟩ | ⟨g, off, cap, cur, he, _⟩
              · simp at h
              · injection he with h1 _ h3
                injection h1 with h1
                exact ⟨g, off * 1, cap, h1, h3⟩
            subst e1
            split <;> simp [Addr.add]
          rw [hA2] at hq'
          have hF' := Aside0.mk (show FI w w3 #[.slice A0 ts.length c0, .string la, .string gl, .slice A3 code.length c3] (.slice A' m (c - 1)) l m todo from ⟨HFF.out.row, hq', hlm, HFF.out.below, HFF.out.box⟩)
          rw [← hA']
          clear hA' hA2 hq' hx
          obtain ⟨z, hz⟩ : ∃ z : S8, outB code kn (g l kn) = z := ⟨_, rfl⟩
          have hzz := hz
          obtain ⟨y, hy⟩ : ∃ y : S8, y = g l kn := ⟨_, rfl⟩
          rw [← hy] at hb hzz
          have OZ := Aside0.mk (fun W (hW : Below w.heap.size w W) => (by have := OUT.out W hW kn y; rw [hzz] at this; exact this : Calls Tryd.prog 101 #[.agg #[.slice A0 ts.length c0, .string la, .string gl, .slice A3 code.length c3], .int .i64 kn, .int .u8 (iv y)] W fun e w' => e = .returned (.int .u8 (iv z)) ∧ Below W.heap.size W w'))
          have HWZ := Aside0.mk (show WJ (nxt code) code.length (FB code) l todo kn z 0 by rw [← hz]; exact HWJ.out)
          clear hz HWJ hy hzz
          go_still_tail 6, (by kernel_rfl)
          go_wp2_with (first
            | (go_at_call 101; (with_reducible refine (OZ.out _ ?side1).mono ?_); (case side1 => first | exact hF'.out.below | exact below_drew1 hF'.out.below); rintro e w5 ⟨rfl, hb5⟩; have HF5 := Aside0.mk (hF'.out.keep (by first | exact hb5 | exact below_step (below_drew1 (Below.refl _ _)) hb5)); have y0 := (blk_cell HF5.out.box 0).trans (rfl : _ = some (Value.slice A0 ts.length c0)); have y1 := (blk_cell HF5.out.box 1).trans (rfl : _ = some (Value.string la)); have y2 := (blk_cell HF5.out.box 2).trans (rfl : _ = some (Value.string gl)); have y3 := (blk_cell HF5.out.box 3).trans (rfl : _ = some (Value.slice A3 code.length c3)); clear hb5)
            | (go_at_call 102; (with_reducible refine (NX.out _ HF5.out.below _).mono ?_); rintro e w6 ⟨v', rfl, ho, hb6⟩; have HO6 := Aside0.mk ho; have HF6 := Aside0.mk (HF5.out.keep hb6); have hsz6 := hb6.size; have hne6 : ∀ j, v'.ownBlock = some j → (Value.slice A' m (c - 1)).ownBlock ≠ some j := (fun j hj e => by have h1 := own_base ho j hj; have h2 := q_lt HF5.out.q j e; omega); obtain ⟨An, cn, hvn⟩ := own_slice ho; subst hvn; have HNE := Aside0.mk hne6; clear ho hb6 hne6))
          have hzr := HF6.out.row
          have hB5 : w5.heap.size ≤ w6.heap.size := hsz6
          obtain ⟨B5, hB5'⟩ : ∃ B5, B5 = w5.heap.size := ⟨_, rfl⟩
          rw [← hB5'] at HO6 hB5
          have HLF := Aside0.mk (show lft l todo ≤ 17 * (code.length + 1) by omega)
          have HLT := Aside0.mk hlt
          have HFT := Aside0.mk (measU_eq HFF.out.row (some ad) ((kn : Int) :: todo) (m + 1) c (by simp [hlm]))
          obtain ⟨nn, hnn⟩ : ∃ nn, nn = (nxt code kn).length := ⟨_, rfl⟩
          have h22 := h2 kn
          rw [← hnn] at HO6 HNE h22 ⊢
          have HNN := Aside0.mk hnn
          clear hb y0 y1 y2 y3 hlf hlt hB5' hzr hnn hkr OZ
          go_loopw [50, 4] (fun x v wr => ∃ (j : Nat) (l' : List S8) (todo' : List Int) (n' : Nat), x = .int .i64 j ∧ j ≤ nn ∧ Aside0 (FI w wr #[.slice A0 ts.length c0, .string la, .string gl, .slice A3 code.length c3] v l' n' todo' ∧ WJ (nxt code) code.length (FB code) l' todo' kn z j ∧ lft l' todo' ≤ lft l todo ∧ wr.ownsRow B5 3 1 (.slice An nn cn) nn (nums .i64 (nxt code kn)) ∧ ∀ j, (Value.slice An nn cn).ownBlock = some j → v.ownBlock ≠ some j)) (fun x _ _ => nn - (intOf x).toNat)
          case atStart => exact ⟨0, l, todo, m, rfl, Nat.zero_le _, ⟨HF6.out, HWZ.out, Nat.le_refl _, HO6.out, HNE.out⟩⟩
          case round =>
            clear HF6 HWZ HF5 hF' HNE HO6
            obtain ⟨j, l', todo', n', rfl, hj, HR⟩ := hrel
            obtain ⟨w7, hw7⟩ : ∃ w7 : World, w7 = wr := ⟨_, rfl⟩
            subst hw7
            by_cases hjl : (j : Int) < nn
            · have hjn : j < (nxt code kn).length := by rw [← HNN.out]; omega
              obtain ⟨hF, hWJ, hle, hrow, hne⟩ := HR.out
              have hrow' : w7.ownsRow B5 3 1 (.slice An (nxt code kn).length cn) (nxt code kn).length (nums .i64 (nxt code kn)) := by rw [← HNN.out]; exact hrow
              obtain ⟨ad2, eA, hcell⟩ := take_nx _ j hjn hrow'
              subst eA
              have hr := HI.out _ _ (List.getElem_mem hjn)
              obtain ⟨tn, htn⟩ := Int.eq_ofNat_of_zero_le hr.1
              have hll' : l'.length = code.length + 1 := hWJ.inv.len
              have htl : tn < l'.length := by omega
              rw [htn] at hcell
              have hb := hF.row.cell tn htl
              have hfz := blk_frozen hF.row tn
              have t0 : (0 : Int) ≤ tn := Int.natCast_nonneg _
              have t1 : (tn : Int) < (code.length : Int) + 1 := by omega
              have j0 : (0 : Int) ≤ j := Int.natCast_nonneg _
              have HTN := Aside0.mk htn
              have HRA := Aside0.mk hrow
              have HNA := Aside0.mk hne
              have HFA := Aside0.mk hF
              have HWA := Aside0.mk hWJ
              have HLA := Aside0.mk hle
              obtain ⟨y, hy⟩ : ∃ y : S8, y = g l' tn := ⟨_, rfl⟩
              rw [← hy] at hb
              have HY := Aside0.mk hy
              clear hF hWJ hrow hrow' hne hle HR hr hy htn
              by_cases e : y &&& z = y
              · have e1 : (bits .and .u8 (iv y) (iv z) != iv y) = false := by rw [bits_and, e]; simp
                have HE := Aside0.mk e
                clear e
                go_upto_region 16 with (fail)
                go_still (by kernel_rfl)
                go_wp2
                refine ⟨⟨j + 1, l', todo', n', by go_num, by omega, ⟨HFA.out.keep (below_drew1 (Below.refl _ _)), HWA.out.skip hjn ?_, HLA.out, HRA.out, HNA.out⟩⟩, by simp [intOf]; omega⟩
                rw [HTN.out, Int.toNat_natCast, ← HY.out]
                exact HE.out
              · have e1 : (bits .and .u8 (iv y) (iv z) != iv y) = true := bne_iff_ne.2 (by rw [bits_and]; exact fun h => e (iv_inj h))
                have HE := Aside0.mk e
                clear e
                go_upto_region 16 with (fail)
                go_still (by kernel_rfl)
                go_upto_region 18 with (fail)
                obtain ⟨w8, hw8⟩ : ∃ w8 : World, w8 = (w7.setCell ⟨w.heap.size + 1, tn, none⟩ (.int .u8 (bits .and .u8 (iv y) (iv z)))).drew := ⟨_, rfl⟩
                have HF8 := Aside0.mk (show FI w w8 #[.slice A0 ts.length c0, .string la, .string gl, .slice A3 code.length c3] u4 (cut l' z tn) n' todo' by
                  rw [hw8, bits_and]
                  unfold cut
                  rw [← HY.out]
                  exact (HFA.out.set tn _).keep (below_drew1 (Below.refl _ _)))
                have HR8 := Aside0.mk (show w8.ownsRow B5 3 1 (.slice (some ad2) nn cn) nn (nums .i64 (nxt code kn)) by
                  rw [hw8]
                  exact own_drew (own_setCell (p := ⟨w.heap.size + 1, tn, none⟩) HRA.out (own_ne HRA.out HFA.out.row (by decide)) _))
                have hz8 : w7.heap.size ≤ w8.heap.size := by rw [hw8]; simp
                rw [← hw8]
                clear hw8 hb hfz hcell
                have hzw := HF8.out.below.size
                have hnb : n' + 1 ≤ 17000020 := by
                  have h1 := HLA.out
                  have h2 := HLF.out
                  have h3 := HF8.out.len
                  unfold lft at h1 h2
                  omega
                go_wp2_with (at_builtin; refine append1_q w.heap.size rfl _ _ 93 3 8 rfl Tryd.underlying93 info_int u4 todo' n' HF8.out.len tn w8.heap.size rfl rfl (q_move HF8.out.q fun j hj => by rw [Below.heap_alloc _ _ _ (q_lt HF8.out.q j hj)]) (ST0.row_new _ _ _ rfl) (Nat.le_trans hzw (by simp)) (by unfold maxLen; omega) (by omega) ?_; intro v1 w9 hq hg hat; have HQ := Aside0.mk hq; have HG := Aside0.mk hg; have HAT := Aside0.mk hat; clear hq hg hat)
                have hlc := lft_cut (todo := todo') (x := (tn : Int)) htl (show g l' tn &&& z ≠ g l' tn by rw [← HY.out]; exact HE.out)
                have hwc := HWA.out.cut HI.out hjn
                rw [HTN.out, Int.toNat_natCast] at hwc
                refine ⟨⟨j + 1, cut l' z tn, todo' ++ [(tn : Int)], n' + 1, by go_num, by omega, ⟨HF8.out.grown HG.out HQ.out (by rw [List.length_append, HF8.out.len]; rfl), hwc, Nat.le_trans (Nat.le_of_lt hlc) HLA.out, ?_, fun q hq e => ?_⟩⟩, by simp [intOf]; omega⟩
                · exact own_move HR8.out fun q hq => (HG.out.block q (by have := own_lt HR8.out q hq; simp; omega) fun e => HNA.out q hq e.symm).trans (Below.heap_alloc _ _ _ (own_lt HR8.out q hq))
                · rcases HAT.out with h1 | ⟨b, h1, h2⟩
                  · exact HNA.out q hq (h1 ▸ e)
                  · have h3 := own_lt HR8.out q hq
                    rw [h1] at e
                    injection e with e
                    simp at h2
                    omega
            · obtain ⟨hF, hWJ, hle, _, _⟩ := HR.out
              obtain rfl : j = nn := by omega
              have HRA := Aside0.mk (And.intro hF (And.intro hWJ hle))
              clear hF hWJ hle HR
              go_wp2
              refine ⟨⟨l', todo', n', ⟨HRA.out.1, HRA.out.2.1.done (by rw [← HNN.out]; exact Nat.le_refl _), Nat.le_trans HRA.out.2.2 HLF.out⟩⟩, ?_⟩
              obtain ⟨A4, c4, hv4, _⟩ := q_slice HRA.out.1.q
              rw [hv4]
              show measU _ _ _ < measU _ _ _
              rw [HFT.out, measU_eq HRA.out.1.row A4 todo' n' c4 HRA.out.1.len]
              exact Nat.lt_of_le_of_lt HRA.out.2.2 HLT.out
end Go.Proofs.YtfkfpcciacplkaaDoor.ZP

namespace Go.Proofs.YtfkfpcciacplkaaDoor.PF
open Go.RowKit Go.Proofs.YtfkfpcciacplkaaDoorW.PrintWords Go.Proofs.YtfkfpcciacplkaaDoor.F Go.Proofs.YtfkfpcciacplkaaDoor.PL Go.Proofs.YtfkfpcciacplkaaDoor.FP Go.Proofs.YtfkfpcciacplkaaDoor.FSF Go.Proofs.YtfkfpcciacplkaaDoor.PK Go.Proofs.YtfkfpcciacplkaaDoor.NX Go.Proofs.YtfkfpcciacplkaaDoor.FG Go.Proofs.YtfkfpcciacplkaaDoor.ZP Go.Proofs.YtfkfpcciacplkaaDoor.LK Go.Proofs.YtfkfpcciacplkaaDoor.FUL Go.Proofs.YtfkfpcciacplkaaDoor.B8
set_option linter.unusedVariables false
set_option linter.unusedSimpArgs false
def ldO : Oper := { dst := some 38, op := .load 46 (.tmp 1), type := 46, pos := "plan.go:36", after := #[{ on := 6, ground := .guard }], guard := some (6, true) }
def mvO : Oper := { dst := some 39, op := .move (.tmp 7), type := 3, pos := "plan.go:36", after := #[{ on := 6, ground := .guard }], guard := some (6, true) }
def ntO : Oper := { dst := some 41, op := .unOp .not 4 (.tmp 40), type := 4, pos := "plan.go:36", after := #[{ on := 9, ground := .data }, { on := 6, ground := .guard }], guard := some (6, true) }
attribute [local go_sem] ldO mvO ntO
theorem made_f (n i : Nat) (h : i < n) : (madeCells #[Value.bool false, .bool false, .bool false] n)[i]? = some (.bool false) := by
  unfold madeCells
  rw [Array.getElem?_map, Array.getElem?_range, if_pos h]
  have : i % 3 = 0 ∨ i % 3 = 1 ∨ i % 3 = 2 := by omega
  rcases this with e | e | e <;> simp [e]
theorem RowF.made (w : World) (n : Nat) : RowF (w.alloc (.cells (madeCells #[.bool false, .bool false, .bool false] (n * 3)) 60)) w.heap.size n fun _ => ⟨false, false, false⟩ :=
  ⟨_, ST0.row_new _ _ _ rfl, size_madeCells _ _, fun k hk => ⟨made_f _ _ (by omega), made_f _ _ (by omega), made_f _ _ (by omega)⟩⟩
theorem info_fact : (Tryd.prog.info? 60).map (fun i => (i.zero, i.size, i.bytes)) = some (some (.agg #[.bool false, .bool false, .bool false]), 3, 3) := by kernel_rfl
set_option maxHeartbeats 8000000 in
set_option maxRecDepth 100000 in
theorem None_c (p : Pg) (w : World) (h : p.On w) (hsm : p.code.length ≤ 1000000) : Calls Tryd.prog 47 #[p.v] w fun e w' => ∃ (er : Int) (v : Value), e = .returned (.tuple #[v, .int .i64 er]) ∧ (er = 0 ↔ SpP p) ∧ Below w.heap.size w w' ∧ (er = 0 → ∃ g, v = .slice (some ⟨g, 0, none⟩) p.code.length p.code.length ∧ w.heap.size ≤ g ∧ RowF w' g p.code.length fun _ => ⟨false, false, false⟩) ∧ (er ≠ 0 → v = .slice none 0 0) := by
  have CH := Aside0.mk (fun W (hW : Below w.heap.size w W) => pCheck_c p W (h.below hW))
  clear h
  generalize SpP p = SP at CH ⊢
  obtain ⟨A0, c0, ts, la, gl, A3, c3, code⟩ := p
  simp only at hsm
  change Aside0 (∀ W, Below w.heap.size w W → Calls Tryd.prog 41 #[.agg #[.slice A0 ts.length c0, .string la, .string gl, .slice A3 code.length c3]] W _) at CH
  show Calls _ _ #[.agg #[.slice A0 ts.length c0, .string la, .string gl, .slice A3 code.length c3]] _ _
  have hmk : ∀ W : World, (Instr.makeSlice 55 (.int .i64 (code.length : Int)) (.int .i64 (code.length : Int))).run Tryd.prog W = .ok (.slice (some ⟨W.heap.size, 0, none⟩) code.length code.length) (W.alloc (.cells (madeCells #[.bool false, .bool false, .bool false] (code.length * 3)) 60)) := fun W => by
    obtain ⟨i0, hi, hzz⟩ := Option.map_eq_some_iff.1 info_fact
    simp only [Prod.mk.injEq] at hzz
    have hr := run_make (P := Tryd.prog) W 55 60 i0 (.agg #[.bool false, .bool false, .bool false]) Tryd.underlying55 hi hzz.1 .i64 .i64 (code.length : Int) (code.length : Int) (by omega) (by omega) (by rw [hzz.2.2]; omega) (by omega)
    rw [hzz.2.1, Int.toNat_natCast] at hr
    exact hr
  go_enter Tryd.func47, Tryd.ntmps47
  go_wp2_with (go_at_call 41; (with_reducible refine (CH.out _ (below_alloc (Below.refl _ _) _)).mono ?_); rintro e w1 ⟨r, er, rfl, h1, h2, hb⟩; have HB := Aside0.mk (below_step (below_alloc (Below.refl _ _) _) hb); have HR := Aside0.mk ((hb.block w.heap.size (by simp)).trans (heap_alloc_new w _)); have H1 := Aside0.mk h1; have y3 := (blk_cell HR.out 3).trans (rfl : _ = some (Value.slice A3 code.length c3)); clear h1 h2 hb)
  · rename_i hz
    have hz : er ≠ 0 := bne_iff_ne.1 hz
    (try simp only [Exit.inBlock, Exit.then])
    refine bodyPost_ret (results_tmp2 rfl _ _ _) rfl ⟨2, _, rfl, ⟨fun h => absurd h (by decide), fun h => absurd (H1.out.2 h) hz⟩, HB.out, fun h => absurd h (by decide), fun _ => rfl⟩
  · rename_i hz
    have hz : er = 0 := by simpa using hz
    (try simp only [Exit.inBlock, Exit.then])
    refine bodyPost_ret (results_tmp2 rfl _ _ _) rfl ⟨0, _, rfl, ⟨fun _ => H1.out.1 hz, fun _ => rfl⟩, below_alloc HB.out _, fun _ => ⟨w1.heap.size, rfl, HB.out.size, RowF.made w1 code.length⟩, fun h => absurd rfl h⟩
noncomputable def bestF (p : Pg) (k : Nat) : Fc := if (rd_T68 p.code k).f0 = 5 then ⟨!leakB p.code p.la.size k && !loopB p.code k, decide (0 ≤ lastB p k), false⟩ else if (rd_T68 p.code k).f0 = 11 then ⟨false, false, (g (frB p.code) k).getLsbD (rd_T68 p.code k).f1.toNat⟩ else ⟨false, false, false⟩
def upF (f : Nat → Fc) (k j : Nat) : Fc := if j < k then f j else ⟨false, false, false⟩
theorem upF_lt (f : Nat → Fc) {k j : Nat} (h : j < k) : upF f k j = f j := if_pos h
theorem upF_ge (f : Nat → Fc) {k j : Nat} (h : ¬ j < k) : upF f k j = ⟨false, false, false⟩ := if_neg h
structure BI (w W : World) (pv : Array Value) (gl gi n k : Nat) (f : Nat → Fc) (fr : List S8) : Prop where
  box : W.heap[w.heap.size]? = some (.cells pv 46 (0, 0))
  inn : RowU W gi fr
  row : RowF W gl n (upF f k)
  below : Below w.heap.size w W
  h1 : w.heap.size < gl
  h2 : gl < gi
theorem BI.keep {w W W' : World} {pv : Array Value} {gl gi n k : Nat} {f : Nat → Fc} {fr : List S8} (h : BI w W pv gl gi n k f fr) (hb : Below W.heap.size W W') : BI w W' pv gl gi n k f fr :=
  ⟨(hb.block _ (blk_lt h.box)).trans h.box, (hb.block _ (blk_lt h.inn)).trans h.inn, h.row.move (hb.block _ h.row.lt), below_step h.below hb, h.h1, h.h2⟩
theorem BI.next {w W : World} {pv : Array Value} {gl gi n k : Nat} {f : Nat → Fc} {fr : List S8} (h : BI w W pv gl gi n k f fr) (hf : f k = ⟨false, false, false⟩) : BI w W pv gl gi n (k + 1) f fr := by
  refine ⟨h.box, h.inn, ?_, h.below, h.h1, h.h2⟩
  have e : upF f (k + 1) = upF f k := funext fun j => by
    by_cases h1 : j < k
    · rw [upF_lt _ h1, upF_lt _ (by omega)]
    · by_cases h2 : j = k
      · subst h2
        rw [upF_lt _ (by omega), upF_ge _ h1, hf]
      · rw [upF_ge _ h1, upF_ge _ (by omega)]
  rw [e]
  exact h.row
theorem BI.old {w W : World} {pv : Array Value} {gl gi n k : Nat} {f : Nat → Fc} {fr : List S8} (h : BI w W pv gl gi n k f fr) (hkn : k < n) : W.cell? ⟨gl, k * 3, none⟩ = some (.bool false) ∧ W.cell? ⟨gl, k * 3 + 1, none⟩ = some (.bool false) ∧ W.cell? ⟨gl, k * 3 + 2, none⟩ = some (.bool false) ∧ W.frozen? ⟨gl, k * 3, none⟩ = false ∧ W.frozen? ⟨gl, k * 3 + 1, none⟩ = false ∧ W.frozen? ⟨gl, k * 3 + 2, none⟩ = false := by
  obtain ⟨cs, hcs, hs, hy⟩ := h.row
  have hz := hy k hkn
  rw [upF_ge _ (Nat.lt_irrefl k)] at hz
  exact ⟨(blk_cell hcs _).trans hz.1, (blk_cell hcs _).trans hz.2.1, (blk_cell hcs _).trans hz.2.2, blk_frozen hcs _, blk_frozen hcs _, blk_frozen hcs _⟩
theorem far3 {W : World} {b g o i j l : Nat} {x y z : Value} {v : Option Value} (h : W.cell? ⟨b, o, none⟩ = v) (hn : b ≠ g) : (((W.setCell ⟨g, i, none⟩ x).setCell ⟨g, j, none⟩ y).setCell ⟨g, l, none⟩ z).cell? ⟨b, o, none⟩ = v := by
  refine (World.cell?_of_block (a := ⟨b, o, none⟩) ?_).trans h
  exact ((Below.heap_setCell _ _ _ b hn).trans (Below.heap_setCell _ _ _ b hn)).trans (Below.heap_setCell _ _ _ b hn)
theorem BI.put {w W W' : World} {pv : Array Value} {gl gi n k : Nat} {f : Nat → Fc} {fr : List S8} (h : BI w W pv gl gi n k f fr) (cs cs' : Array Value) (hcs : W.heap[gl]? = some (.cells cs 60 (0, 0))) (hc : W'.heap[gl]? = some (.cells cs' 60 (0, 0))) (hs : cs'.size = cs.size) (ho : ∀ i, i / 3 ≠ k → cs'[i]? = cs[i]?) (hk : cs'[k * 3]? = some (.bool (f k).st) ∧ cs'[k * 3 + 1]? = some (.bool (f k).raw) ∧ cs'[k * 3 + 2]? = some (.bool (f k).pl))
    (hb : ∀ b, b < W.heap.size → b ≠ gl → W'.heap[b]? = W.heap[b]?) (hB : Below w.heap.size w W') : BI w W' pv gl gi n (k + 1) f fr := by
  have h1 := h.h1
  have h2 := h.h2
  refine ⟨(hb _ (blk_lt h.box) (by omega)).trans h.box, (hb _ (blk_lt h.inn) (by omega)).trans h.inn, ?_, hB, h1, h2⟩
  obtain ⟨cs0, hc0, hs0, hy⟩ := h.row
  rw [hcs] at hc0
  obtain rfl : cs = cs0 := by
    injection hc0 with e
    injection e
  refine ⟨cs', hc, hs.trans hs0, fun j hj => ?_⟩
  by_cases e : j = k
  · subst e
    rw [upF_lt _ (by omega)]
    exact hk
  · have := hy j hj
    rw [ho _ (by omega), ho _ (by omega), ho _ (by omega)]
    by_cases h3 : j < k
    · rw [upF_lt _ h3] at this
      rw [upF_lt _ (by omega)]
      exact this
    · rw [upF_ge _ h3] at this
      rw [upF_ge _ (by omega)]
      exact this
theorem BI.putP {w W : World} {pv : Array Value} {gl gi n k : Nat} {f : Nat → Fc} {fr : List S8} (h : BI w W pv gl gi n k f fr) (hkn : k < n) {b : Bool} (hf : f k = ⟨false, false, b⟩) : BI w (W.setCell ⟨gl, k * 3 + 2, none⟩ (.bool b)).drew pv gl gi n (k + 1) f fr := by
  obtain ⟨cs, hcs, hs, hy⟩ := h.row
  have hz := hy k hkn
  rw [upF_ge _ (Nat.lt_irrefl k)] at hz
  refine h.put cs _ hcs (ST0.row_cellS _ hcs) (by simp) (fun i hi => ?_) ?_ (fun b hb e => Below.heap_setCell W _ _ b (fun e' => e e')) ((h.below.setCell (Nat.le_of_lt h.h1) _).drew)
  · rw [Array.getElem?_setIfInBounds_ne (by omega)]
  · rw [hf]
    exact ⟨by rw [Array.getElem?_setIfInBounds_ne (by omega)]; exact hz.1, by rw [Array.getElem?_setIfInBounds_ne (by omega)]; exact hz.2.1, by rw [Array.getElem?_setIfInBounds_self_of_lt (by omega)]⟩
theorem BI.putN {w W : World} {pv : Array Value} {gl gi n k : Nat} {f : Nat → Fc} {fr : List S8} (h : BI w W pv gl gi n k f fr) (hkn : k < n) {a b : Bool} (hf : f k = ⟨a, b, false⟩) : BI w (((W.setCell ⟨gl, k * 3, none⟩ (.bool a)).setCell ⟨gl, k * 3 + 1, none⟩ (.bool b)).setCell ⟨gl, k * 3 + 2, none⟩ (.bool false)) pv gl gi n (k + 1) f fr := by
  obtain ⟨cs, hcs, hs, hy⟩ := h.row
  have hle := Nat.le_of_lt h.h1
  refine h.put cs _ hcs (ST0.row_cellS _ (ST0.row_cellS _ (ST0.row_cellS _ hcs))) (by simp) (fun i hi => ?_) ?_ (fun b hb e => ((Below.heap_setCell _ _ _ b e).trans (Below.heap_setCell _ _ _ b e)).trans (Below.heap_setCell _ _ _ b e)) (((h.below.setCell hle _).setCell hle _).setCell hle _)
  · rw [Array.getElem?_setIfInBounds_ne (by omega), Array.getElem?_setIfInBounds_ne (by omega), Array.getElem?_setIfInBounds_ne (by omega)]
  · rw [hf]
    refine ⟨?_, ?_, ?_⟩
    · rw [Array.getElem?_setIfInBounds_ne (by omega), Array.getElem?_setIfInBounds_ne (by omega), Array.getElem?_setIfInBounds_self_of_lt (by omega)]
    · rw [Array.getElem?_setIfInBounds_ne (by omega), Array.getElem?_setIfInBounds_self_of_lt (by simp; omega)]
    · rw [Array.getElem?_setIfInBounds_self_of_lt (by simp; omega)]
theorem RowF.to {w : World} {b n : Nat} {f f' : Nat → Fc} (h : RowF w b n f) (he : ∀ j, j < n → f j = f' j) : RowF w b n f' := by
  obtain ⟨cs, hc, hs, hy⟩ := h
  exact ⟨cs, hc, hs, fun k hk => he k hk ▸ hy k hk⟩
set_option maxHeartbeats 8000000 in
set_option maxRecDepth 100000 in
theorem Best_c (p : Pg) (w : World) (h : p.On w) (hL : p.la.size ≤ 1000) (hsm : p.code.length ≤ 1000000) : Calls Tryd.prog 46 #[p.v] w fun e w' => ∃ (er : Int) (v : Value), e = .returned (.tuple #[v, .int .i64 er]) ∧ (er = 0 ↔ SpP p) ∧ Below w.heap.size w w' ∧ (er = 0 → ∃ g, v = .slice (some ⟨g, 0, none⟩) p.code.length p.code.length ∧ w.heap.size ≤ g ∧ RowF w' g p.code.length (bestF p)) ∧ (er ≠ 0 → v = .slice none 0 0) := by
  have HW := Aside0.mk h.hw
  have HC := Aside0.mk h.hC
  have NO := Aside0.mk (fun W (hW : Below w.heap.size w W) => None_c p W (h.below hW) hsm)
  have FI := Aside0.mk (fun (hs : SpP p) W (hW : Below w.heap.size w W) => In_c p W (h.below hW) (SpP.inR hs) hsm)
  have LE := Aside0.mk (fun W (hW : Below w.heap.size w W) k (hk : k < p.code.length) => Leaks_c p W (h.below hW) hL hsm k hk)
  have LO := Aside0.mk (fun (hs : SpP p) W (hW : Below w.heap.size w W) k (hk : k < p.code.length) => Loops_c p W (h.below hW) (SpP.inR hs) hsm k hk)
  have FU := Aside0.mk (fun W (hW : Below w.heap.size w W) k (hk : k < p.code.length) => Full_c p W (h.below hW) hsm k hk)
  have BF : Aside0 (∀ k : Nat, bestF p k = if (rd_T68 p.code k).f0 = 5 then ⟨!leakB p.code p.la.size k && !loopB p.code k, decide (0 ≤ lastB p k), false⟩ else if (rd_T68 p.code k).f0 = 11 then ⟨false, false, (g (frB p.code) k).getLsbD (rd_T68 p.code k).f1.toNat⟩ else ⟨false, false, false⟩) := ⟨fun k => rfl⟩
  clear h
  generalize SpP p = SP at NO FI LO ⊢
  generalize bestF p = bf at BF ⊢
  generalize leakB p.code p.la.size = lk at LE BF
  generalize loopB p.code = lo at LO BF
  generalize lastB p = la' at FU BF
  have hfl : (frB p.code).length = p.code.length + 1 := (fr_inv (FB_mono p.code)).len
  generalize frB p.code = fr at FI BF hfl
  obtain ⟨A0, c0, ts, la, gl, A3, c3, code⟩ := p
  simp only at hsm HC HW FI LE LO FU BF NO hfl ⊢
  generalize hp : Pg.v ⟨A0, c0, ts, la, gl, A3, c3, code⟩ = pv at NO FI LE LO FU ⊢
  subst hp
  clear hL
  show Calls _ _ #[.agg #[.slice A0 ts.length c0, .string la, .string gl, .slice A3 code.length c3]] _ _
  by_cases hsp : SP
  · go_enter Tryd.func46, Tryd.ntmps46
    go_upto_region 5 with (first
      | (go_at_call 47; (with_reducible refine (NO.out _ (below_alloc (Below.refl _ _) _)).mono ?_); rintro e w1 ⟨er, v, rfl, h1, hb, h2, h3⟩; obtain rfl : er = 0 := h1.2 hsp; obtain ⟨gl', rfl, hgl, hrow⟩ := h2 rfl; have HB := Aside0.mk (below_step (below_alloc (Below.refl _ _) _) hb); have HR := Aside0.mk ((hb.block w.heap.size (by simp)).trans (heap_alloc_new w _)); have HL := Aside0.mk hrow; have HG := Aside0.mk hgl; have y0 := (blk_cell HR.out 0).trans (rfl : _ = some (Value.slice A0 ts.length c0)); have y1 := (blk_cell HR.out 1).trans (rfl : _ = some (Value.string la)); have y2 := (blk_cell HR.out 2).trans (rfl : _ = some (Value.string gl)); have y3 := (blk_cell HR.out 3).trans (rfl : _ = some (Value.slice A3 code.length c3)); clear h1 h2 h3 hb hrow hgl)
      | (go_at_call 65; (with_reducible refine (FI.out hsp _ HB.out).mono ?_); rintro e w2 ⟨gi, ci, rfl, hci, hgi, hrow, hb⟩; have HB2 := Aside0.mk (below_step HB.out hb); have HR2 := Aside0.mk ((hb.block w.heap.size (blk_lt HR.out)).trans HR.out); have HL2 := Aside0.mk (HL.out.move (hb.block _ HL.out.lt)); have HI2 := Aside0.mk hrow; have HG2 := Aside0.mk hgi; have y0 := (blk_cell HR2.out 0).trans (rfl : _ = some (Value.slice A0 ts.length c0)); have y1 := (blk_cell HR2.out 1).trans (rfl : _ = some (Value.string la)); have y2 := (blk_cell HR2.out 2).trans (rfl : _ = some (Value.string gl)); have y3 := (blk_cell HR2.out 3).trans (rfl : _ = some (Value.slice A3 code.length c3)); clear hb hrow hgi hci))
    have HS := Aside0.mk (show BI w w2 #[.slice A0 ts.length c0, .string la, .string gl, .slice A3 code.length c3] gl' gi code.length 0 bf fr from ⟨HR2.out, HI2.out, HL2.out, HB2.out, by have := HG.out; simp at this; omega, by have := HL.out.lt; have := HG2.out; omega⟩)
    clear HR HR2 HI2 HL HL2 HB HB2 HG HG2
    go_wp2
    go_loopw [22] (fun x W => ∃ k : Nat, x = .int .i64 k ∧ k ≤ code.length ∧ Aside0 (BI w W #[.slice A0 ts.length c0, .string la, .string gl, .slice A3 code.length c3] gl' gi code.length k bf fr)) (fun x _ => code.length - (intOf x).toNat)
    case atStart => exact ⟨0, rfl, Nat.zero_le _, HS⟩
    case round =>
      clear HS
      obtain ⟨k, rfl, hk, HS⟩ := hrel
      by_cases hlt : (k : Int) < code.length
      · have k0 : (0 : Int) ≤ k := by omega
        have hkn : k < code.length := by omega
        obtain ⟨ad, rfl, hy⟩ := at_box HC.out k hkn
        obtain ⟨z0, z1, z2, z3, z4⟩ := hy _ HS.out.below
        have BFk := Aside0.mk (BF.out k)
        have hwx := HW.out.rd k hkn
        obtain ⟨x, hx⟩ : ∃ x, x = rd_T68 code k := ⟨_, rfl⟩
        rw [← hx] at z0 z1 z2 z3 z4 BFk hwx
        obtain ⟨x0, x1, x2, x3, x4⟩ := x
        simp only at z0 z1 z2 z3 z4 BFk hwx
        clear hx hy
        by_cases c5 : x0 = 5
        · subst c5
          rw [if_pos rfl] at BFk
          go_upto_region 10 with (fail)
          obtain ⟨W1, hW1⟩ : ∃ W1 : World, W1 = wr.alloc (.cells #[.int .u8 5, .int .u8 x1, .int .u8 x2, .int .u8 x3, .int .i64 x4] 68) := ⟨_, rfl⟩
          have HS := Aside0.mk (HS.out.keep (hW1 ▸ below_alloc (Below.refl _ _) _))
          rw [← hW1]
          clear hW1 z0 z1 z2 z3 z4
          have LEk := Aside0.mk (fun W (hW : Below w.heap.size w W) => (LE.out W hW k hkn : Calls Tryd.prog 66 #[.agg #[.slice A0 ts.length c0, .string la, .string gl, .slice (some ad) code.length c3], .int .i64 k] W fun e w' => e = .returned (.bool (lk k)) ∧ Below W.heap.size W w'))
          have LOk := Aside0.mk (fun W (hW : Below w.heap.size w W) => (LO.out hsp W hW k hkn : Calls Tryd.prog 67 #[.agg #[.slice A0 ts.length c0, .string la, .string gl, .slice (some ad) code.length c3], .int .i64 k] W fun e w' => e = .returned (.bool (lo k)) ∧ Below W.heap.size W w'))
          have FUk := Aside0.mk (fun W (hW : Below w.heap.size w W) => (FU.out W hW k hkn : Calls Tryd.prog 68 #[.agg #[.slice A0 ts.length c0, .string la, .string gl, .slice (some ad) code.length c3], .int .i64 k] W fun e w' => e = .returned (.bool (decide (0 ≤ la' k))) ∧ Below W.heap.size W w'))
          generalize lk k = bl at LEk BFk
          generalize lo k = bo at LOk BFk
          generalize decide (0 ≤ la' k) = br at FUk BFk
          have y0 := (blk_cell HS.out.box 0).trans (rfl : _ = some (Value.slice A0 ts.length c0))
          have y1 := (blk_cell HS.out.box 1).trans (rfl : _ = some (Value.string la))
          have y2 := (blk_cell HS.out.box 2).trans (rfl : _ = some (Value.string gl))
          have y3 := (blk_cell HS.out.box 3).trans (rfl : _ = some (Value.slice (some ad) code.length c3))
          have hgw : w.heap.size ≠ gl' := Nat.ne_of_lt HS.out.h1
          cases bl
          · go_region_held3 (fun W => W.cell? ⟨w.heap.size, 0, none⟩ = some (.slice A0 ts.length c0) ∧ W.cell? ⟨w.heap.size, 1, none⟩ = some (.string la) ∧ W.cell? ⟨w.heap.size, 2, none⟩ = some (.string gl) ∧ W.cell? ⟨w.heap.size, 3, none⟩ = some (.slice (some ad) code.length c3))
              (first
                | exact ⟨y0, y1, y2, y3⟩
                | go_keep
                | exact ⟨far3 y0 hgw, far3 y1 hgw, far3 y2 hgw, far3 y3 hgw⟩)
              (first
                | (go_at_call 66; (with_reducible refine (LEk.out _ ?side1).mono ?_); (case side1 => first | exact HS.out.below | exact below_drew1 HS.out.below); rintro e w4 ⟨rfl, hb⟩; have HS := Aside0.mk (HS.out.keep (by first | exact hb | exact below_step (below_drew1 (Below.refl _ _)) hb)); have y0 := (blk_cell HS.out.box 0).trans (rfl : _ = some (Value.slice A0 ts.length c0)); have y1 := (blk_cell HS.out.box 1).trans (rfl : _ = some (Value.string la)); have y2 := (blk_cell HS.out.box 2).trans (rfl : _ = some (Value.string gl)); have y3 := (blk_cell HS.out.box 3).trans (rfl : _ = some (Value.slice (some ad) code.length c3)); clear hb)
                | (go_at_call 67; (with_reducible refine (LOk.out _ ?side1).mono ?_); (case side1 => first | exact HS.out.below | exact below_drew1 HS.out.below); rintro e w4 ⟨rfl, hb⟩; have HS := Aside0.mk (HS.out.keep (by first | exact hb | exact below_step (below_drew1 (Below.refl _ _)) hb)); have y0 := (blk_cell HS.out.box 0).trans (rfl : _ = some (Value.slice A0 ts.length c0)); have y1 := (blk_cell HS.out.box 1).trans (rfl : _ = some (Value.string la)); have y2 := (blk_cell HS.out.box 2).trans (rfl : _ = some (Value.string gl)); have y3 := (blk_cell HS.out.box 3).trans (rfl : _ = some (Value.slice (some ad) code.length c3)); clear hb)
                | (go_at_call 68; (with_reducible refine (FUk.out _ ?side1).mono ?_); (case side1 => first | exact HS.out.below | exact below_drew1 HS.out.below); rintro e w4 ⟨rfl, hb⟩; have HS := Aside0.mk (HS.out.keep (by first | exact hb | exact below_step (below_drew1 (Below.refl _ _)) hb)); have y0 := (blk_cell HS.out.box 0).trans (rfl : _ = some (Value.slice A0 ts.length c0)); have y1 := (blk_cell HS.out.box 1).trans (rfl : _ = some (Value.string la)); have y2 := (blk_cell HS.out.box 2).trans (rfl : _ = some (Value.string gl)); have y3 := (blk_cell HS.out.box 3).trans (rfl : _ = some (Value.slice (some ad) code.length c3)); obtain ⟨q0, q1, q2, q3, q4, q5⟩ := HS.out.old hkn; clear hb))
            go_wp2
            exact ⟨⟨k + 1, by go_num, by omega, ⟨HS.out.putN hkn BFk.out⟩⟩, by simp [intOf]; omega⟩
          · rw [show ({ dst := some 38, op := .load 46 (.tmp 1), type := 46, pos := "plan.go:36", after := #[{ on := 6, ground := .guard }], guard := some (6, true) } : Oper) = ldO from rfl, show ({ dst := some 39, op := .move (.tmp 7), type := 3, pos := "plan.go:36", after := #[{ on := 6, ground := .guard }], guard := some (6, true) } : Oper) = mvO from rfl, show ({ dst := some 41, op := .unOp .not 4 (.tmp 40), type := 4, pos := "plan.go:36", after := #[{ on := 9, ground := .data }, { on := 6, ground := .guard }], guard := some (6, true) } : Oper) = ntO from rfl]
            go_region_held3 (fun W => W.cell? ⟨w.heap.size, 0, none⟩ = some (.slice A0 ts.length c0) ∧ W.cell? ⟨w.heap.size, 1, none⟩ = some (.string la) ∧ W.cell? ⟨w.heap.size, 2, none⟩ = some (.string gl) ∧ W.cell? ⟨w.heap.size, 3, none⟩ = some (.slice (some ad) code.length c3))
              (first
                | exact ⟨y0, y1, y2, y3⟩
                | go_keep
                | exact ⟨far3 y0 hgw, far3 y1 hgw, far3 y2 hgw, far3 y3 hgw⟩)
              (first
                | (go_at_call 66; (with_reducible refine (LEk.out _ ?side1).mono ?_); (case side1 => first | exact HS.out.below | exact below_drew1 HS.out.below); rintro e w4 ⟨rfl, hb⟩; have HS := Aside0.mk (HS.out.keep (by first | exact hb | exact below_step (below_drew1 (Below.refl _ _)) hb)); have y0 := (blk_cell HS.out.box 0).trans (rfl : _ = some (Value.slice A0 ts.length c0)); have y1 := (blk_cell HS.out.box 1).trans (rfl : _ = some (Value.string la)); have y2 := (blk_cell HS.out.box 2).trans (rfl : _ = some (Value.string gl)); have y3 := (blk_cell HS.out.box 3).trans (rfl : _ = some (Value.slice (some ad) code.length c3)); clear hb)
                | (go_at_call 67; (with_reducible refine (LOk.out _ ?side1).mono ?_); (case side1 => first | exact HS.out.below | exact below_drew1 HS.out.below); rintro e w4 ⟨rfl, hb⟩; have HS := Aside0.mk (HS.out.keep (by first | exact hb | exact below_step (below_drew1 (Below.refl _ _)) hb)); have y0 := (blk_cell HS.out.box 0).trans (rfl : _ = some (Value.slice A0 ts.length c0)); have y1 := (blk_cell HS.out.box 1).trans (rfl : _ = some (Value.string la)); have y2 := (blk_cell HS.out.box 2).trans (rfl : _ = some (Value.string gl)); have y3 := (blk_cell HS.out.box 3).trans (rfl : _ = some (Value.slice (some ad) code.length c3)); clear hb)
                | (go_at_call 68; (with_reducible refine (FUk.out _ ?side1).mono ?_); (case side1 => first | exact HS.out.below | exact below_drew1 HS.out.below); rintro e w4 ⟨rfl, hb⟩; have HS := Aside0.mk (HS.out.keep (by first | exact hb | exact below_step (below_drew1 (Below.refl _ _)) hb)); have y0 := (blk_cell HS.out.box 0).trans (rfl : _ = some (Value.slice A0 ts.length c0)); have y1 := (blk_cell HS.out.box 1).trans (rfl : _ = some (Value.string la)); have y2 := (blk_cell HS.out.box 2).trans (rfl : _ = some (Value.string gl)); have y3 := (blk_cell HS.out.box 3).trans (rfl : _ = some (Value.slice (some ad) code.length c3)); obtain ⟨q0, q1, q2, q3, q4, q5⟩ := HS.out.old hkn; clear hb))
            all_goals go_wp2
            all_goals exact ⟨⟨k + 1, by go_num, by omega, ⟨HS.out.putN hkn BFk.out⟩⟩, by simp [intOf]; omega⟩
        · by_cases c11 : x0 = 11
          · subst c11
            rw [if_neg c5, if_pos rfl] at BFk
            go_upto_region 12 with (fail)
            obtain ⟨W1, hW1⟩ : ∃ W1 : World, W1 = wr.alloc (.cells #[.int .u8 11, .int .u8 x1, .int .u8 x2, .int .u8 x3, .int .i64 x4] 68) := ⟨_, rfl⟩
            have HS1 := Aside0.mk (HS.out.keep (hW1 ▸ below_alloc (Below.refl _ _) _))
            have hbx := hW1 ▸ heap_alloc_new wr (.cells #[.int .u8 11, .int .u8 x1, .int .u8 x2, .int .u8 x3, .int .i64 x4] 68)
            have w1x := (blk_cell hbx 1).trans (rfl : _ = some (Value.int .u8 x1))
            rw [← hW1]
            clear hW1 hbx
            obtain ⟨cs, hcs, hsz, hce⟩ := HS1.out.row
            have hold : cs[k * 3 + 2]? = some (.bool false) := by have h := (hce k hkn).2.2; rwa [upF_ge _ (Nat.lt_irrefl k)] at h
            have q0 := (blk_cell hcs (k * 3 + 2)).trans hold
            have q1 := blk_frozen hcs (k * 3 + 2)
            have q2 := HS1.out.inn.cell k (by omega)
            have q3 := shr_and (g fr k) hwx.2.1.1
            obtain ⟨z, hz⟩ : ∃ z, z = g fr k := ⟨_, rfl⟩
            rw [← hz] at q2 q3 BFk
            obtain ⟨bb, hb⟩ : ∃ bb, z.getLsbD x1.toNat = bb := ⟨_, rfl⟩
            rw [hb] at q3 BFk
            obtain ⟨zi, hzi⟩ : ∃ zi, iv z = zi := ⟨_, rfl⟩
            rw [hzi] at q2 q3
            change (bits .and .u8 (zi / 2 ^ min x1.toNat 8) 1 == 1) = _ at q3
            have k1 : (k : Int) < (code.length : Int) + 1 := by omega
            have s0 : ¬ x1 < 0 := by have := hwx.2.1.1; omega
            have s1 : 0 ≤ x1 := hwx.2.1.1
            clear hz hzi hb hsz hce hold
            go_still_tail 13, (by kernel_rfl)
            go_wp2
            exact ⟨⟨k + 1, by go_num, by omega, ⟨HS1.out.putP hkn BFk.out⟩⟩, by simp [intOf]; omega⟩
          · rw [if_neg c5, if_neg c11] at BFk
            have b5 : (x0 == 5) = false := beq_eq_false_iff_ne.2 c5
            have b11 : (x0 == 11) = false := beq_eq_false_iff_ne.2 c11
            clear c5 c11 hwx
            go_wp2
            go_roundw
            case rel => exact ⟨k + 1, by go_num, by omega, ⟨(HS.out.next BFk.out).keep (below_alloc (Below.refl _ _) _)⟩⟩
            case measure =>
              simp [intOf]
              omega
      · obtain rfl : k = code.length := by omega
        go_wp2
        (try simp only [Exit.inBlock, Exit.then])
        refine bodyPost_ret (results_tmp2 rfl _ _ _) rfl ⟨0, _, rfl, ⟨fun _ => hsp, fun _ => rfl⟩, HS.out.below, fun _ => ⟨gl', rfl, Nat.le_of_lt HS.out.h1, ?_⟩, fun h => absurd rfl h⟩
        exact HS.out.row.to fun j hj => upF_lt _ hj
  · go_enter Tryd.func46, Tryd.ntmps46
    go_wp2_with (go_at_call 47; (with_reducible refine (NO.out _ (below_alloc (Below.refl _ _) _)).mono ?_); rintro e w1 ⟨er, v, rfl, h1, hb, h2, h3⟩; have hz : er ≠ 0 := (fun h => hsp (h1.1 h)); have hz' : (er != 0) = true := bne_iff_ne.2 hz; have HZ := Aside0.mk hz; obtain rfl := h3 hz; have HB := Aside0.mk (below_step (below_alloc (Below.refl _ _) _) hb); clear h1 h2 h3 hb hz)
    (try simp only [Exit.inBlock, Exit.then])
    refine bodyPost_ret (results_tmp2 rfl _ _ _) rfl ⟨er, _, rfl, ⟨fun h => absurd h HZ.out, fun h => absurd h hsp⟩, HB.out, fun h => absurd h HZ.out, fun _ => rfl⟩
end Go.Proofs.YtfkfpcciacplkaaDoor.PF

namespace Go.Proofs.YtfkfpcciacplkaaDoor.PF
open Go.RowKit Go.Proofs.YtfkfpcciacplkaaDoorW.PrintWords Go.Proofs.YtfkfpcciacplkaaDoor.F Go.Proofs.YtfkfpcciacplkaaDoor.PL Go.Proofs.YtfkfpcciacplkaaDoor.FP Go.Proofs.YtfkfpcciacplkaaDoor.FSF Go.Proofs.YtfkfpcciacplkaaDoor.PK
set_option linter.unusedVariables false
set_option linter.unusedSimpArgs false
theorem RowF.at {w : World} {b n : Nat} {f : Nat → Fc} (h : RowF w b n f) {k : Nat} (hk : k < n) : w.cell? ⟨b, k * 3, none⟩ = some (.bool (f k).st) ∧ w.cell? ⟨b, k * 3 + 1, none⟩ = some (.bool (f k).raw) ∧ w.cell? ⟨b, k * 3 + 2, none⟩ = some (.bool (f k).pl) := by
  obtain ⟨cs, hc, _, hy⟩ := h
  obtain ⟨y0, y1, y2⟩ := hy k hk
  exact ⟨(blk_cell hc _).trans y0, (blk_cell hc _).trans y1, (blk_cell hc _).trans y2⟩
def wth (f g : Fc) : Bool := (g.st || !f.st) && (g.raw || !f.raw) && (g.pl || !f.pl)
set_option maxHeartbeats 8000000 in
set_option maxRecDepth 100000 in
theorem within_c (w : World) (f g : Fc) : Calls Tryd.prog 69 #[.agg #[.bool f.st, .bool f.raw, .bool f.pl], .agg #[.bool g.st, .bool g.raw, .bool g.pl]] w fun e w' => e = .returned (.bool (wth f g)) ∧ Below w.heap.size w w' := by
  obtain ⟨a0, a1, a2⟩ := f
  obtain ⟨b0, b1, b2⟩ := g
  show Calls _ _ #[.agg #[.bool a0, .bool a1, .bool a2], .agg #[.bool b0, .bool b1, .bool b2]] _ fun e w' => e = .returned (.bool ((b0 || !a0) && (b1 || !a1) && (b2 || !a2))) ∧ _
  go_enter Tryd.func69, Tryd.ntmps69
  go_wp2
  all_goals go_ret
  all_goals exact ⟨by first | rfl | simp_all, below_alloc (below_alloc (Below.refl _ _) _) _⟩
set_option maxHeartbeats 8000000 in
set_option maxRecDepth 100000 in
theorem Fits_c (p : Pg) (w : World) (h : p.On w) (hL : p.la.size ≤ 1000) (hsm : p.code.length ≤ 1000000) (A : Option Addr) (n c : Nat) (f : Nat → Fc) (hF : FC w A n f) (hn : n ≤ 4000000) (bb : Bool) (hbb : bb = true ↔ SpP p ∧ n = p.code.length ∧ ∀ k, k < n → wth (f k) (bestF p k) = true) : Calls Tryd.prog 48 #[p.v, .slice A n c] w fun e w' => e = .returned (.bool bb) ∧ Below w.heap.size w w' := by
  have HBB := Aside0.mk hbb
  have BE := Aside0.mk (fun W (hW : Below w.heap.size w W) => Best_c p W (h.below hW) hL hsm)
  have HF := Aside0.mk hF
  clear h hL hF hbb
  generalize SpP p = SP at BE HBB ⊢
  generalize bestF p = bf at BE HBB ⊢
  obtain ⟨A0, c0, ts, la, gl, A3, c3, code⟩ := p
  simp only at hsm BE HBB ⊢
  generalize hp : Pg.v ⟨A0, c0, ts, la, gl, A3, c3, code⟩ = pv at BE ⊢
  subst hp
  show Calls _ _ #[.agg #[.slice A0 ts.length c0, .string la, .string gl, .slice A3 code.length c3], .slice A n c] _ _
  by_cases hsp : SP
  · by_cases hN : n = code.length
    · subst hN
      go_enter Tryd.func48, Tryd.ntmps48
      go_upto_region 5 with (go_at_call 46; (with_reducible refine (BE.out _ (below_alloc (Below.refl _ _) _)).mono ?_); rintro e w1 ⟨er, v, rfl, h1, hb, h2, h3⟩; obtain rfl : er = 0 := h1.2 hsp; obtain ⟨gl', rfl, hgl, hrow⟩ := h2 rfl; have HB := Aside0.mk (below_step (below_alloc (Below.refl _ _) _) hb); have HL := Aside0.mk hrow; clear h1 h2 h3 hb hrow hgl)
      go_loopw [25] (fun x W => ∃ k : Nat, x = .int .i64 k ∧ k ≤ code.length ∧ Aside0 (Below w.heap.size w W) ∧ Aside0 (RowF W gl' code.length bf) ∧ Aside0 (∀ j, j < k → wth (f j) (bf j) = true)) (fun x _ => code.length - (intOf x).toNat)
      case atStart => exact ⟨0, rfl, Nat.zero_le _, HB, HL, ⟨fun j hj => absurd hj (Nat.not_lt_zero j)⟩⟩
      case round =>
        clear HB HL
        obtain ⟨k, rfl, hk, HB, HL, HA⟩ := hrel
        by_cases hlt : (k : Int) < code.length
        · have k0 : (0 : Int) ≤ k := by omega
          have hkn : k < code.length := by omega
          obtain ⟨ad, rfl, hy⟩ := HF.out k hkn
          obtain ⟨z0, z1, z2⟩ := hy _ HB.out
          obtain ⟨y0, y1, y2⟩ := HL.out.at hkn
          have hlz := HL.out.lt
          have HFK := Aside0.mk (fun (h : wth (f k) (bf k) = true) => (fun j hj => by rcases Nat.lt_succ_iff_lt_or_eq.1 hj with h1 | h1; exact HA.out j h1; subst h1; exact h : ∀ j, j < k + 1 → wth (f j) (bf j) = true))
          have HNB := Aside0.mk (fun (h : wth (f k) (bf k) = false) => ((Bool.eq_false_iff.2 fun e => by have h2 := (HBB.out.1 e).2.2 k hkn; rw [h] at h2; cases h2) : bb = false))
          have WI := Aside0.mk (fun W => within_c W (f k) (bf k))
          generalize f k = fk at z0 z1 z2 WI HFK HNB
          generalize bf k = bk at y0 y1 y2 WI HFK HNB
          obtain ⟨a0, a1, a2⟩ := fk
          obtain ⟨b0, b1, b2⟩ := bk
          simp only at z0 z1 z2 y0 y1 y2 WI
          generalize wth ⟨a0, a1, a2⟩ ⟨b0, b1, b2⟩ = bw at WI HFK HNB
          go_upto_region 7 with (fail)
          obtain ⟨W1, hW1⟩ : ∃ W1 : World, W1 = wr.alloc (.cells #[.bool a0, .bool a1, .bool a2] 60) := ⟨_, rfl⟩
          have hb1 : Below wr.heap.size wr W1 := hW1 ▸ below_alloc (Below.refl _ _) _
          have hbx := hW1 ▸ heap_alloc_new wr (.cells #[.bool a0, .bool a1, .bool a2] 60)
          have HB := Aside0.mk (below_step HB.out hb1)
          have HL := Aside0.mk (HL.out.move (hb1.block _ HL.out.lt))
          rw [← hW1]
          have y0 := (World.cell?_of_block (a := ⟨gl', k * 3, none⟩) (hb1.block _ hlz)).trans y0
          have y1 := (World.cell?_of_block (a := ⟨gl', k * 3 + 1, none⟩) (hb1.block _ hlz)).trans y1
          have y2 := (World.cell?_of_block (a := ⟨gl', k * 3 + 2, none⟩) (hb1.block _ hlz)).trans y2
          have HX := Aside0.mk (blk_lt hbx)
          have x0 := (blk_cell hbx 0).trans (rfl : _ = some (Value.bool a0))
          have x1 := (blk_cell hbx 1).trans (rfl : _ = some (Value.bool a1))
          have x2 := (blk_cell hbx 2).trans (rfl : _ = some (Value.bool a2))
          clear hW1 hb1 hbx z0 z1 z2
          go_region_held3 (fun W => W.cell? ⟨wr.heap.size, 0, none⟩ = some (.bool a0) ∧ W.cell? ⟨wr.heap.size, 1, none⟩ = some (.bool a1) ∧ W.cell? ⟨wr.heap.size, 2, none⟩ = some (.bool a2) ∧ W.cell? ⟨gl', k * 3, none⟩ = some (.bool b0) ∧ W.cell? ⟨gl', k * 3 + 1, none⟩ = some (.bool b1) ∧ W.cell? ⟨gl', k * 3 + 2, none⟩ = some (.bool b2))
            (first
              | exact ⟨x0, x1, x2, y0, y1, y2⟩
              | go_keep)
            (first | (go_at_call 69; (with_reducible refine (WI.out _).mono ?_); rintro e w4 ⟨rfl, hb⟩; have hb := (by first | exact hb | exact below_step (below_drew1 (Below.refl _ _)) hb : Below W1.heap.size W1 w4); have x0 := (World.cell?_of_block (a := ⟨wr.heap.size, 0, none⟩) (hb.block _ HX.out)).trans x0; have x1 := (World.cell?_of_block (a := ⟨wr.heap.size, 1, none⟩) (hb.block _ HX.out)).trans x1; have x2 := (World.cell?_of_block (a := ⟨wr.heap.size, 2, none⟩) (hb.block _ HX.out)).trans x2; have y0 := (World.cell?_of_block (a := ⟨gl', k * 3, none⟩) (hb.block _ HL.out.lt)).trans y0; have y1 := (World.cell?_of_block (a := ⟨gl', k * 3 + 1, none⟩) (hb.block _ HL.out.lt)).trans y1; have y2 := (World.cell?_of_block (a := ⟨gl', k * 3 + 2, none⟩) (hb.block _ HL.out.lt)).trans y2; have HB := Aside0.mk (below_step HB.out hb); have HL := Aside0.mk (HL.out.move (hb.block _ HL.out.lt)); clear hb))
          cases bw
          · go_wp2
            go_ret
            exact ⟨by rw [HNB.out (by first | rfl | trivial)]; rfl, HB.out⟩
          · go_wp2
            go_roundw
            case rel => exact ⟨k + 1, by go_num, by omega, HB, HL, ⟨HFK.out (by first | rfl | trivial)⟩⟩
            case measure =>
              simp [intOf]
              omega
        · obtain rfl : k = code.length := by omega
          go_wp2
          go_ret
          exact ⟨by rw [HBB.out.2 ⟨hsp, by first | trivial | rfl, HA.out⟩]; rfl, HB.out⟩
    · have hN' : ((n : Int) != (code.length : Int)) = true := bne_iff_ne.2 (by omega)
      go_enter Tryd.func48, Tryd.ntmps48
      go_wp2_with (go_at_call 46; (with_reducible refine (BE.out _ (below_alloc (Below.refl _ _) _)).mono ?_); rintro e w1 ⟨er, v, rfl, h1, hb, h2, h3⟩; obtain rfl : er = 0 := h1.2 hsp; obtain ⟨gl', rfl, hgl, hrow⟩ := h2 rfl; have HB := Aside0.mk (below_step (below_alloc (Below.refl _ _) _) hb); clear h1 h2 h3 hb hrow hgl)
      go_ret
      exact ⟨by rw [show bb = false from Bool.eq_false_iff.2 fun h => hN (HBB.out.1 h).2.1]; rfl, HB.out⟩
  · go_enter Tryd.func48, Tryd.ntmps48
    go_wp2_with (go_at_call 46; (with_reducible refine (BE.out _ (below_alloc (Below.refl _ _) _)).mono ?_); rintro e w1 ⟨er, v, rfl, h1, hb, h2, h3⟩; have hz : er ≠ 0 := (fun h => hsp (h1.1 h)); have hz' : (er != 0) = true := bne_iff_ne.2 hz; obtain rfl := h3 hz; have HB := Aside0.mk (below_step (below_alloc (Below.refl _ _) _) hb); clear h1 h2 h3 hb hz)
    go_ret
    exact ⟨by rw [show bb = false from Bool.eq_false_iff.2 fun h => hsp (HBB.out.1 h).1]; rfl, HB.out⟩
end Go.Proofs.YtfkfpcciacplkaaDoor.PF

namespace Go.Proofs.YtfkfpcciacplkaaDoor.PF
open Go.RowKit Go.Proofs.YtfkfpcciacplkaaDoorW.PrintWords Go.Proofs.YtfkfpcciacplkaaDoor.F Go.Proofs.YtfkfpcciacplkaaDoor.KP Go.Proofs.YtfkfpcciacplkaaDoor.CR Go.Proofs.YtfkfpcciacplkaaDoor.SH Go.Proofs.YtfkfpcciacplkaaDoor.PL Go.Proofs.YtfkfpcciacplkaaDoor.FP Go.Proofs.YtfkfpcciacplkaaDoor.FSF Go.Proofs.YtfkfpcciacplkaaDoor.PK Go.Proofs.YtfkfpcciacplkaaDoor.NX Go.Proofs.YtfkfpcciacplkaaDoor.FG Go.Proofs.YtfkfpcciacplkaaDoor.ZP Go.Proofs.YtfkfpcciacplkaaDoor.LK Go.Proofs.YtfkfpcciacplkaaDoor.FUL Go.Proofs.YtfkfpcciacplkaaDoor.B8
set_option linter.unusedVariables false
set_option linter.unusedSectionVars false
set_option linter.unusedSimpArgs false
def TA : List ByteArray := [⟨#[105, 48]⟩]
def LA : ByteArray := ⟨#[48]⟩
def cA : List S68 := [⟨5, 0, 0, 0, 0⟩, ⟨9, 0, 0, 0, 0⟩, ⟨11, 0, 0, 0, 1⟩, ⟨5, 0, 0, 0, 0⟩]
def pA (g h : Nat) : Pg := ⟨some ⟨g, 0, none⟩, 1, TA, LA, ByteArray.empty, some ⟨h, 0, none⟩, 4, cA⟩
theorem rtA : Rt TA := by
  refine ⟨fun i h0 h1 => ?_, by decide, by decide⟩
  obtain rfl : i = 0 := by
    have : (TA.length : Int) = 1 := rfl
    omega
  refine ⟨by decide, by decide, fun j j0 j1 => ?_⟩
  have : ((rdOf ByteArray.empty TA 0).size : Int) = 2 := rfl
  obtain rfl | rfl : j = 0 ∨ j = 1 := by omega
  · exact .inl rfl
  · exact .inr (by decide)
theorem refsL : refs TA LA = true := by
  rw [refs_iff]
  refine ⟨rtA, fun j h0 h1 => ?_⟩
  have : (LA.size : Int) = 1 := rfl
  obtain rfl : j = 0 := by omega
  decide
theorem refsE : refs TA ByteArray.empty = true := by
  rw [refs_iff]
  refine ⟨rtA, fun j h0 h1 => ?_⟩
  have : ((ByteArray.empty).size : Int) = 0 := rfl
  omega
theorem atA : atv TA LA 0 = 0 := by
  unfold atv
  rw [if_pos ⟨by decide, by rw [show LA.extract (0 : Int).toNat ((0 : Int) + 1).toNat = LA from by decide]; exact refsL⟩]
  decide
theorem isA : Is TA 0 := ⟨rtA, by decide, by decide⟩
theorem szA : size TA 0 = 2 := by
  unfold size
  rw [typ_is isA]
  rfl
theorem to0 : to_ TA 0 0 = -1 := by
  unfold to_
  rw [szA, if_pos (by decide), typ_is isA]
  decide
theorem to1 : to_ TA 0 1 = 0 := by
  unfold to_
  rw [szA, if_pos (by decide), typ_is isA]
  decide
theorem pA_sp (g h : Nat) : SpP (pA g h) where
  refs := ⟨refsL, refsE⟩
  locals := by show LA.size ≤ 8; decide
  globals := by show ByteArray.empty.size ≤ 4; decide
  len := ⟨by show 1 ≤ cA.length; decide, by show cA.length ≤ 200; decide⟩
  all := fun j hj => by
    change InsAt TA LA ByteArray.empty cA j
    have h4 : j < 4 := hj
    have ha := atA
    have hz := szA
    have t0 := to0
    have t1 := to1
    obtain rfl | rfl | rfl | rfl : j = 0 ∨ j = 1 ∨ j = 2 ∨ j = 3 := by omega
    · refine ⟨5, rfl, by decide, by decide, fun h => by omega, by decide, ?_⟩
      show KindsP TA LA _ 5 0 0 0 0
      unfold KindsP
      refine ⟨fun h => ?_, fun h => ?_, fun h => ?_, fun h => ?_, fun h => ?_, fun h => ?_, fun h => ?_, fun h => ?_, fun h => ?_⟩ <;> omega
    · refine ⟨9, rfl, by decide, by decide, fun h => by omega, by decide, ?_⟩
      show KindsP TA LA _ 9 0 0 0 0
      unfold KindsP
      rw [ha, hz, t0]
      refine ⟨fun h => ?_, fun h => ?_, fun h => ?_, fun h => ?_, fun h => ?_, fun h => ?_, fun h => ?_, fun h => ?_, fun h => ?_⟩ <;> omega
    · refine ⟨11, rfl, by decide, by decide, fun h => by omega, by decide, ?_⟩
      show KindsP TA LA _ 11 0 0 0 1
      unfold KindsP
      rw [ha, hz, t1]
      refine ⟨fun h => ?_, fun h => ?_, fun h => ?_, fun h => ?_, fun h => ?_, fun h => ?_, fun h => ?_, fun h => ?_, fun h => ?_⟩ <;> omega
    · refine ⟨5, rfl, by decide, by decide, fun h => by omega, by decide, ?_⟩
      show KindsP TA LA _ 5 0 0 0 0
      unfold KindsP
      refine ⟨fun h => ?_, fun h => ?_, fun h => ?_, fun h => ?_, fun h => ?_, fun h => ?_, fun h => ?_, fun h => ?_, fun h => ?_⟩ <;> omega
theorem leak0 : leakB cA LA.size 0 = true := leakB_iff.2 ⟨2, 0, by decide, by decide, .inl rfl, rfl, by decide, .new (by decide) (by decide) rfl rfl⟩
theorem leak3 : leakB cA LA.size 3 = true := leakB_iff.2 ⟨2, 0, by decide, by decide, .inl rfl, rfl, by decide, .new (by decide) (by decide) rfl rfl⟩
theorem last0 (g h : Nat) : lastB (pA g h) 0 = 2 := by
  unfold lastB
  show (if (5 : Int) = 5 then lastG cA 0 (2 ^ (size TA (atv TA LA 0)).toNat - 1) 3 1 0 else -1) = 2
  rw [if_pos rfl, atA, szA]
  decide
theorem last3 (g h : Nat) : lastB (pA g h) 3 = -1 := by
  unfold lastB
  show (if (5 : Int) = 5 then lastG cA 0 (2 ^ (size TA (atv TA LA 0)).toNat - 1) 0 4 0 else -1) = -1
  rw [if_pos rfl]
  rfl
theorem fr2 : (g (frB cA) 2).getLsbD 0 = true := by decide +kernel
theorem best0 (g h : Nat) : bestF (pA g h) 0 = ⟨false, true, false⟩ := by
  unfold bestF
  show (if (5 : Int) = 5 then (⟨!leakB cA LA.size 0 && !loopB cA 0, decide (0 ≤ lastB (pA g h) 0), false⟩ : Fc) else _) = _
  rw [if_pos rfl, leak0, last0]
  rfl
theorem best3 (g h : Nat) : bestF (pA g h) 3 = ⟨false, false, false⟩ := by
  unfold bestF
  show (if (5 : Int) = 5 then (⟨!leakB cA LA.size 3 && !loopB cA 3, decide (0 ≤ lastB (pA g h) 3), false⟩ : Fc) else _) = _
  rw [if_pos rfl, leak3, last3]
  rfl
theorem best1 (g h : Nat) : bestF (pA g h) 1 = ⟨false, false, false⟩ := by
  unfold bestF
  exact (if_neg (by show ¬ (9 : Int) = 5; decide)).trans (if_neg (by show ¬ (9 : Int) = 11; decide))
theorem best2 (g h : Nat) : bestF (pA g h) 2 = ⟨false, false, true⟩ := by
  unfold bestF
  refine (if_neg (by show ¬ (11 : Int) = 5; decide)).trans ((if_pos (by show (11 : Int) = 11; rfl)).trans ?_)
  show (⟨false, false, (B8.g (frB cA) 2).getLsbD 0⟩ : Fc) = _
  rw [fr2]
end Go.Proofs.YtfkfpcciacplkaaDoor.PF

namespace Go.Proofs.YtfkfpcciacplkaaDoor.DO1
open Go.RowKit Go.Proofs.YtfkfpcciacplkaaDoorW.PrintWords Go.Proofs.YtfkfpcciacplkaaDoor.F Go.Proofs.YtfkfpcciacplkaaDoor.KP Go.Proofs.YtfkfpcciacplkaaDoor.CR Go.Proofs.YtfkfpcciacplkaaDoor.SH Go.Proofs.YtfkfpcciacplkaaDoor.FM Go.Proofs.YtfkfpcciacplkaaDoor.ST0 Go.Proofs.YtfkfpcciacplkaaDoor.PL
set_option linter.unusedVariables false
set_option linter.unusedSectionVars false
set_option linter.unusedSimpArgs false
attribute [local go_sem ↓] Go.wp_at_zero Go.wp_at_succ
abbrev stR (v : Value) (at_ steps : Int) : Array Value := #[.int .i64 0, .int .i64 0, .int .i64 0, .int .i64 0, .int .i64 0, .int .i64 0, .int .i64 0, .int .i64 0, .int .i64 0, .int .i64 0, .int .i64 0, .int .i64 0, .int .i64 0, .int .i64 0, .int .i64 0, .int .i64 0, .int .i64 0, .int .i64 0, .int .i64 0, .int .i64 0, .slice none 0 0, v, .int .i64 at_, .int .i64 steps]
end Go.Proofs.YtfkfpcciacplkaaDoor.DO1

namespace Go.Proofs.YtfkfpcciacplkaaDoor.TRL
open Go.RowKit Go.Proofs.YtfkfpcciacplkaaDoorW.PrintWords Go.Proofs.YtfkfpcciacplkaaDoorW.PrintLast Go.Proofs.YtfkfpcciacplkaaDoorW.PrintMore Go.Proofs.YtfkfpcciacplkaaDoor.Scan Go.Proofs.YtfkfpcciacplkaaDoor.F Go.Proofs.YtfkfpcciacplkaaDoor.T Go.Proofs.YtfkfpcciacplkaaDoor.ST0 Go.Proofs.YtfkfpcciacplkaaDoor.TRB
set_option linter.unusedVariables false
set_option linter.unusedSimpArgs false
noncomputable def lng (L : List S31) : Nat → Int
  | 0 => -1
  | i + 1 => if lng L i < 0 ∨ (rd_T31 L i).f3 > (rd_T31 L (lng L i)).f3 then i else lng L i
end Go.Proofs.YtfkfpcciacplkaaDoor.TRL

namespace Go.Proofs.YtfkfpcciacplkaaDoor.TRA
open Go.RowKit Go.Proofs.YtfkfpcciacplkaaDoorW.PrintWords Go.Proofs.YtfkfpcciacplkaaDoorW.PrintLast Go.Proofs.YtfkfpcciacplkaaDoorW.PrintMore Go.Proofs.YtfkfpcciacplkaaDoor.Scan Go.Proofs.YtfkfpcciacplkaaDoor.F Go.Proofs.YtfkfpcciacplkaaDoor.T Go.Proofs.YtfkfpcciacplkaaDoor.ST0 Go.Proofs.YtfkfpcciacplkaaDoor.TRB
set_option linter.unusedVariables false
set_option linter.unusedSimpArgs false
def th (x : S27) : S31 := ⟨x.f0, x.f1, x.f2, x.f3, x.f4⟩
end Go.Proofs.YtfkfpcciacplkaaDoor.TRA

namespace Go.Proofs.YtfkfpcciacplkaaDoor.T
open Go.RowKit Go.Proofs.YtfkfpcciacplkaaDoorW.PrintWords Go.Proofs.YtfkfpcciacplkaaDoorW.PrintLast Go.Proofs.YtfkfpcciacplkaaDoorW.PrintMore
attribute [local go_sem] max2_int min2_int max_two min_two max_three min_three max_four min_four
set_option linter.unusedVariables false
set_option linter.unusedSimpArgs false
open Go.Proofs.YtfkfpcciacplkaaDoor.F
open Go.Proofs.YtfkfpcciacplkaaDoor.TE
open Go.Proofs.YtfkfpcciacplkaaDoor.TRB
noncomputable def trace_Ended.f (l0_0 : List Int) (a0_1 : Bool) (a0_2 : Int) (a0_3 : Int) (a0_4 : Int) : Option (Bool) := if a0_1 = true then (if a0_2 = 0 then (some true) else (some (a0_2 == 9))) else (some false)
mutual
noncomputable def trace_agree.j0 : Nat → Bool → List Int → Bool → Int → Int → Int → List Int → Bool → Int → Int → Int → Option (Bool)
  | 0, _, _, _, _, _, _, _, _, _, _, _ => none
  | k + 1, x12, x103000, x103001, x103002, x103003, x103004, x104000, x104001, x104002, x104003, x104004 => if x12 = true then (if (x103000.length : Int) = (x104000.length : Int) then (if x103002 = x104002 then (some (x103003 == x104003)) else (some false)) else (some false)) else ((trace_Ended.f x103000 x103001 x103002 x103003 x103004).bind fun t107 => (if t107 = true then (if x104003 ≤ x103003 then (some (decide ((x104000.length : Int) ≤ (x103000.length : Int)))) else (some false)) else ((trace_Ended.f x104000 x104001 x104002 x104003 x104004).bind fun t108 => (if t108 = true then ((trace_agree.f k x104000 x104001 x104002 x104003 x104004 x103000 x103001 x103002 x103003 x103004).bind fun t109 => (some t109)) else (some true)))))
noncomputable def trace_agree.f : Nat → List Int → Bool → Int → Int → Int → List Int → Bool → Int → Int → Int → Option (Bool)
  | 0, _, _, _, _, _, _, _, _, _, _ => none
  | k + 1, l0_0, a0_1, a0_2, a0_3, a0_4, l1_0, a1_1, a1_2, a1_3, a1_4 => (trace_Begins.f l0_0 l1_0).bind fun t104 => (if t104 = true then ((trace_Ended.f l0_0 a0_1 a0_2 a0_3 a0_4).bind fun t105 => (if t105 = true then ((trace_Ended.f l1_0 a1_1 a1_2 a1_3 a1_4).bind fun t106 => (trace_agree.j0 k t106 l0_0 a0_1 a0_2 a0_3 a0_4 l1_0 a1_1 a1_2 a1_3 a1_4)) else (trace_agree.j0 k false l0_0 a0_1 a0_2 a0_3 a0_4 l1_0 a1_1 a1_2 a1_3 a1_4))) else (some false))
end
theorem trace_agree.mono_l : ∀ k, (∀ y0 y1 y2 y3 y4 y5 y6 y7 y8 y9, LeO (trace_agree.f k y0 y1 y2 y3 y4 y5 y6 y7 y8 y9) (trace_agree.f (k + 1) y0 y1 y2 y3 y4 y5 y6 y7 y8 y9)) ∧ (∀ y0 y1 y2 y3 y4 y5 y6 y7 y8 y9 y10, LeO (trace_agree.j0 k y0 y1 y2 y3 y4 y5 y6 y7 y8 y9 y10) (trace_agree.j0 (k + 1) y0 y1 y2 y3 y4 y5 y6 y7 y8 y9 y10))
  | 0 => ⟨fun _ _ _ _ _ _ _ _ _ _ r h => by simp [trace_agree.f] at h, fun _ _ _ _ _ _ _ _ _ _ _ r h => by simp [trace_agree.j0] at h⟩
  | k + 1 => by
    obtain ⟨ih0, ih1⟩ := trace_agree.mono_l k
    refine ⟨?_, ?_⟩
    · intro y0 y1 y2 y3 y4 y5 y6 y7 y8 y9
      unfold trace_agree.f
      repeat' first
      | (with_reducible exact ih0 _ _ _ _ _ _ _ _ _ _)
      | (with_reducible exact ih1 _ _ _ _ _ _ _ _ _ _ _)
      | (with_reducible exact LeO.refl _)
      | (with_reducible exact LeO.none _)
      | (with_reducible refine LeO.ite ?_ ?_)
      | (with_reducible refine LeO.bind ?_ (fun _ => ?_))
      | exact ih0 _ _ _ _ _ _ _ _ _ _
      | exact ih1 _ _ _ _ _ _ _ _ _ _ _
      | exact LeO.none _
      | refine LeO.ite ?_ ?_
      | refine LeO.bind ?_ (fun _ => ?_)
    · intro y0 y1 y2 y3 y4 y5 y6 y7 y8 y9 y10
      unfold trace_agree.j0
      repeat' first
      | (with_reducible exact ih0 _ _ _ _ _ _ _ _ _ _)
      | (with_reducible exact ih1 _ _ _ _ _ _ _ _ _ _ _)
      | (with_reducible exact LeO.refl _)
      | (with_reducible exact LeO.none _)
      | (with_reducible refine LeO.ite ?_ ?_)
      | (with_reducible refine LeO.bind ?_ (fun _ => ?_))
      | exact ih0 _ _ _ _ _ _ _ _ _ _
      | exact ih1 _ _ _ _ _ _ _ _ _ _ _
      | exact LeO.none _
      | refine LeO.ite ?_ ?_
      | refine LeO.bind ?_ (fun _ => ?_)
theorem trace_agree.mono : ∀ a0 a1 a2 a3 a4 a5 a6 a7 a8 a9 k, LeO (trace_agree.f k a0 a1 a2 a3 a4 a5 a6 a7 a8 a9) (trace_agree.f (k + 1) a0 a1 a2 a3 a4 a5 a6 a7 a8 a9) := by
  intro a0 a1 a2 a3 a4 a5 a6 a7 a8 a9 k
  obtain ⟨ih0, ih1⟩ := trace_agree.mono_l k
  exact ih0 a0 a1 a2 a3 a4 a5 a6 a7 a8 a9
mutual
noncomputable def trace_Agree.l0 : Nat → List (S31) → List (S31) → Int → Int → Option (Bool)
  | 0, _, _, _, _ => none
  | k + 1, x0, x7, x8, x9 => if x9 < x8 then (if 0 ≤ x9 then (if x9 < (x7.length : Int) then (if x9 ≤ (x0.length : Int) then ((some (x0.take (x9 : Int).toNat : List (S31))).bind fun y112 => (trace_Agree.l1 k x0 x7 x8 x9 y112 (y112.length : Int) 0 ((rd_T31 x7 x9).f0) ((rd_T31 x7 x9).f1) ((rd_T31 x7 x9).f2) ((rd_T31 x7 x9).f3) ((rd_T31 x7 x9).f4))) else (none)) else (none)) else (none)) else (some true)
noncomputable def trace_Agree.l1 : Nat → List (S31) → List (S31) → Int → Int → List (S31) → Int → Int → List Int → Bool → Int → Int → Int → Option (Bool)
  | 0, _, _, _, _, _, _, _, _, _, _, _, _ => none
  | k + 1, x0, x7, x8, x9, x16, x17, x18, x112000, x112001, x112002, x112003, x112004 => if x18 < x17 then (if 0 ≤ x18 then (if x18 < (x16.length : Int) then ((trace_agree.f k x112000 x112001 x112002 x112003 x112004 ((rd_T31 x16 x18).f0) ((rd_T31 x16 x18).f1) ((rd_T31 x16 x18).f2) ((rd_T31 x16 x18).f3) ((rd_T31 x16 x18).f4)).bind fun t118 => (if t118 = true then (trace_Agree.l1 k x0 x7 x8 x9 x16 x17 (wrap64 (x18 + 1)) x112000 x112001 x112002 x112003 x112004) else (some false))) else (none)) else (none)) else (trace_Agree.l0 k x0 x7 x8 (wrap64 (x9 + 1)))
end
noncomputable def trace_Agree.f (k : Nat) (l0 : List (S31)) : Option (Bool) := trace_Agree.l0 k l0 l0 (l0.length : Int) 0
noncomputable def lockstitchlaw22_few.l0 : Nat → List (S27) → List (S27) → Int → Int → Option (Bool)
  | 0, _, _, _, _ => none
  | k + 1, x0, x5, x6, x7 => if x7 < x6 then (if 0 ≤ x7 then (if x7 < (x5.length : Int) then (if (((rd_T27 x5 x7).f0).length : Int) > 60 then (some false) else (lockstitchlaw22_few.l0 k x0 x5 x6 (wrap64 (x7 + 1)))) else (none)) else (none)) else (some (decide ((x0.length : Int) ≤ 8)))
noncomputable def lockstitchlaw22_few.f (k : Nat) (l0 : List (S27)) : Option (Bool) := lockstitchlaw22_few.l0 k l0 l0 (l0.length : Int) 0
end Go.Proofs.YtfkfpcciacplkaaDoor.T

namespace Go.Proofs.YtfkfpcciacplkaaDoor.T
open Go.RowKit Go.Proofs.YtfkfpcciacplkaaDoorW.PrintWords Go.Proofs.YtfkfpcciacplkaaDoorW.PrintLast Go.Proofs.YtfkfpcciacplkaaDoorW.PrintMore
attribute [local go_sem] max2_int min2_int max_two min_two max_three min_three max_four min_four
set_option linter.unusedVariables false
set_option linter.unusedSimpArgs false
open Go.Proofs.YtfkfpcciacplkaaDoor.F
open Go.Proofs.YtfkfpcciacplkaaDoor.TE
open Go.Proofs.YtfkfpcciacplkaaDoor.TRB
noncomputable def lockstitchref22_Ended.f (l0_0 : List Int) (a0_1 : Bool) (a0_2 : Int) (a0_3 : Int) (a0_4 : Int) : Option (Bool) := if a0_1 = true then (if a0_2 = 0 then (some true) else (some (a0_2 == 9))) else (some false)
mutual
noncomputable def lockstitchref22_Begins.l0 : Nat → List Int → List Int → Int → Option (Bool)
  | 0, _, _, _ => none
  | k + 1, x0, x1, x5 => if x5 < (x0.length : Int) then (lockstitchref22_Begins.j1 k x0 x1 x5 (decide (x5 < (x1.length : Int)))) else (lockstitchref22_Begins.j1 k x0 x1 x5 false)
noncomputable def lockstitchref22_Begins.j1 : Nat → List Int → List Int → Int → Bool → Option (Bool)
  | 0, _, _, _, _ => none
  | k + 1, x0, x1, x5, x15 => if x15 = true then (if 0 ≤ x5 then (if x5 < (x0.length : Int) then (if x5 < (x1.length : Int) then (if (rd x0 x5) = (rd x1 x5) then (lockstitchref22_Begins.l0 k x0 x1 (wrap64 (x5 + 1))) else (some false)) else (none)) else (none)) else (none)) else (some true)
end
noncomputable def lockstitchref22_Begins.f (k : Nat) (l0 : List Int) (l1 : List Int) : Option (Bool) := lockstitchref22_Begins.l0 k l0 l1 0
theorem lockstitchref22_Begins.mono_l : ∀ k, (∀ y0 y1 y2, LeO (lockstitchref22_Begins.l0 k y0 y1 y2) (lockstitchref22_Begins.l0 (k + 1) y0 y1 y2)) ∧ (∀ y0 y1 y2 y3, LeO (lockstitchref22_Begins.j1 k y0 y1 y2 y3) (lockstitchref22_Begins.j1 (k + 1) y0 y1 y2 y3))
  | 0 => ⟨fun _ _ _ r h => by simp [lockstitchref22_Begins.l0] at h, fun _ _ _ _ r h => by simp [lockstitchref22_Begins.j1] at h⟩
  | k + 1 => by
    obtain ⟨ih0, ih1⟩ := lockstitchref22_Begins.mono_l k
    refine ⟨?_, ?_⟩
    · intro y0 y1 y2
      unfold lockstitchref22_Begins.l0
      repeat' first
      | (with_reducible exact ih0 _ _ _)
      | (with_reducible exact ih1 _ _ _ _)
      | (with_reducible exact LeO.refl _)
      | (with_reducible exact LeO.none _)
      | (with_reducible refine LeO.ite ?_ ?_)
      | (with_reducible refine LeO.bind ?_ (fun _ => ?_))
      | exact ih0 _ _ _
      | exact ih1 _ _ _ _
      | exact LeO.none _
      | refine LeO.ite ?_ ?_
      | refine LeO.bind ?_ (fun _ => ?_)
    · intro y0 y1 y2 y3
      unfold lockstitchref22_Begins.j1
      repeat' first
      | (with_reducible exact ih0 _ _ _)
      | (with_reducible exact ih1 _ _ _ _)
      | (with_reducible exact LeO.refl _)
      | (with_reducible exact LeO.none _)
      | (with_reducible refine LeO.ite ?_ ?_)
      | (with_reducible refine LeO.bind ?_ (fun _ => ?_))
      | exact ih0 _ _ _
      | exact ih1 _ _ _ _
      | exact LeO.none _
      | refine LeO.ite ?_ ?_
      | refine LeO.bind ?_ (fun _ => ?_)
theorem lockstitchref22_Begins.mono : ∀ a0 a1 k, LeO (lockstitchref22_Begins.f k a0 a1) (lockstitchref22_Begins.f (k + 1) a0 a1) := by
  intro a0 a1 k
  obtain ⟨ih0, ih1⟩ := lockstitchref22_Begins.mono_l k
  unfold lockstitchref22_Begins.f
  repeat' first
      | (with_reducible exact ih0 _ _ _)
      | (with_reducible exact ih1 _ _ _ _)
      | (with_reducible exact LeO.refl _)
      | (with_reducible exact LeO.none _)
      | (with_reducible refine LeO.ite ?_ ?_)
      | (with_reducible refine LeO.bind ?_ (fun _ => ?_))
      | exact ih0 _ _ _
      | exact ih1 _ _ _ _
      | exact LeO.none _
      | refine LeO.ite ?_ ?_
      | refine LeO.bind ?_ (fun _ => ?_)
noncomputable def lockstitchref22_two.j0 : Nat → Bool → List Int → Bool → Int → Int → Int → List Int → Bool → Int → Int → Int → Option (Bool)
  | 0, _, _, _, _, _, _, _, _, _, _, _ => none
  | k + 1, x28, x125000, x125001, x125002, x125003, x125004, x126000, x126001, x126002, x126003, x126004 => if x28 = true then (some false) else ((lockstitchref22_Ended.f x125000 x125001 x125002 x125003 x125004).bind fun t128 => (if t128 = true then ((lockstitchref22_Ended.f x126000 x126001 x126002 x126003 x126004).bind fun t129 => (if t129 = true then (if x125002 = x126002 then (if x125003 = x126003 then (some ((x125000.length : Int) == (x126000.length : Int))) else (some false)) else (some false)) else (some true))) else (some true)))
noncomputable def lockstitchref22_two.f (k : Nat) (l0_0 : List Int) (a0_1 : Bool) (a0_2 : Int) (a0_3 : Int) (a0_4 : Int) (l1_0 : List Int) (a1_1 : Bool) (a1_2 : Int) (a1_3 : Int) (a1_4 : Int) : Option (Bool) := (lockstitchref22_Begins.f k l0_0 l1_0).bind fun t126 => (if t126 = true then ((lockstitchref22_Ended.f l0_0 a0_1 a0_2 a0_3 a0_4).bind fun t127 => (if t127 = true then (if a1_3 > a0_3 then (lockstitchref22_two.j0 k true l0_0 a0_1 a0_2 a0_3 a0_4 l1_0 a1_1 a1_2 a1_3 a1_4) else (lockstitchref22_two.j0 k (decide ((l1_0.length : Int) > (l0_0.length : Int))) l0_0 a0_1 a0_2 a0_3 a0_4 l1_0 a1_1 a1_2 a1_3 a1_4)) else (lockstitchref22_two.j0 k false l0_0 a0_1 a0_2 a0_3 a0_4 l1_0 a1_1 a1_2 a1_3 a1_4))) else (some false))
theorem lockstitchref22_two.mono_l : ∀ k, (∀ y0 y1 y2 y3 y4 y5 y6 y7 y8 y9 y10, LeO (lockstitchref22_two.j0 k y0 y1 y2 y3 y4 y5 y6 y7 y8 y9 y10) (lockstitchref22_two.j0 (k + 1) y0 y1 y2 y3 y4 y5 y6 y7 y8 y9 y10))
  | 0 => fun _ _ _ _ _ _ _ _ _ _ _ r h => by simp [lockstitchref22_two.j0] at h
  | k + 1 => by
    have ih0 := lockstitchref22_two.mono_l k
    · intro y0 y1 y2 y3 y4 y5 y6 y7 y8 y9 y10
      unfold lockstitchref22_two.j0
      repeat' first
      | (with_reducible exact ih0 _ _ _ _ _ _ _ _ _ _ _)
      | (with_reducible exact lockstitchref22_Begins.mono _ _ _)
      | (with_reducible exact LeO.refl _)
      | (with_reducible exact LeO.none _)
      | (with_reducible refine LeO.ite ?_ ?_)
      | (with_reducible refine LeO.bind ?_ (fun _ => ?_))
      | exact ih0 _ _ _ _ _ _ _ _ _ _ _
      | exact lockstitchref22_Begins.mono _ _ _
      | exact LeO.none _
      | refine LeO.ite ?_ ?_
      | refine LeO.bind ?_ (fun _ => ?_)
theorem lockstitchref22_two.mono : ∀ a0 a1 a2 a3 a4 a5 a6 a7 a8 a9 k, LeO (lockstitchref22_two.f k a0 a1 a2 a3 a4 a5 a6 a7 a8 a9) (lockstitchref22_two.f (k + 1) a0 a1 a2 a3 a4 a5 a6 a7 a8 a9) := by
  intro a0 a1 a2 a3 a4 a5 a6 a7 a8 a9 k
  have ih0 := lockstitchref22_two.mono_l k
  unfold lockstitchref22_two.f
  repeat' first
      | (with_reducible exact ih0 _ _ _ _ _ _ _ _ _ _ _)
      | (with_reducible exact lockstitchref22_Begins.mono _ _ _)
      | (with_reducible exact LeO.refl _)
      | (with_reducible exact LeO.none _)
      | (with_reducible refine LeO.ite ?_ ?_)
      | (with_reducible refine LeO.bind ?_ (fun _ => ?_))
      | exact ih0 _ _ _ _ _ _ _ _ _ _ _
      | exact lockstitchref22_Begins.mono _ _ _
      | exact LeO.none _
      | refine LeO.ite ?_ ?_
      | refine LeO.bind ?_ (fun _ => ?_)
end Go.Proofs.YtfkfpcciacplkaaDoor.T

namespace Go.Proofs.YtfkfpcciacplkaaDoor.T
open Go.RowKit Go.Proofs.YtfkfpcciacplkaaDoorW.PrintWords Go.Proofs.YtfkfpcciacplkaaDoorW.PrintLast Go.Proofs.YtfkfpcciacplkaaDoorW.PrintMore
attribute [local go_sem] max2_int min2_int max_two min_two max_three min_three max_four min_four
set_option linter.unusedVariables false
set_option linter.unusedSimpArgs false
open Go.Proofs.YtfkfpcciacplkaaDoor.F
open Go.Proofs.YtfkfpcciacplkaaDoor.TE
open Go.Proofs.YtfkfpcciacplkaaDoor.TRB
mutual
noncomputable def lockstitchref22_Agree.l0 : Nat → List (S27) → Int → Option (Bool)
  | 0, _, _ => none
  | k + 1, x0, x3 => if x3 < (x0.length : Int) then (lockstitchref22_Agree.l1 k x0 x3 0) else (some true)
noncomputable def lockstitchref22_Agree.l1 : Nat → List (S27) → Int → Int → Option (Bool)
  | 0, _, _, _ => none
  | k + 1, x0, x3, x4 => if x4 < (x0.length : Int) then (if x3 = x4 then (lockstitchref22_Agree.l1 k x0 x3 (wrap64 (x4 + 1))) else (if 0 ≤ x3 then (if x3 < (x0.length : Int) then (if 0 ≤ x4 then ((lockstitchref22_two.f k ((rd_T27 x0 x3).f0) ((rd_T27 x0 x3).f1) ((rd_T27 x0 x3).f2) ((rd_T27 x0 x3).f3) ((rd_T27 x0 x3).f4) ((rd_T27 x0 x4).f0) ((rd_T27 x0 x4).f1) ((rd_T27 x0 x4).f2) ((rd_T27 x0 x4).f3) ((rd_T27 x0 x4).f4)).bind fun t132 => (if t132 = true then (lockstitchref22_Agree.l1 k x0 x3 (wrap64 (x4 + 1))) else (some false))) else (none)) else (none)) else (none))) else (lockstitchref22_Agree.l0 k x0 (wrap64 (x3 + 1)))
end
noncomputable def lockstitchref22_Agree.f (k : Nat) (l0 : List (S27)) : Option (Bool) := lockstitchref22_Agree.l0 k l0 0
noncomputable def lockstitchref22_Agree.T7 : Bool × List (List Nat × List Nat) := (true, [([], []), ([], []), ([0, 1], [0, 1]), ([2], [2]), ([3], [3]), ([3], [3]), ([4, 5, 3], [3, 4, 5]), ([6, 3], [3, 6]), ([3], [3]), ([3], [3]), ([8, 9, 3], [3, 8, 9]), ([10, 3], [3, 10]), ([7, 11, 3, 3], [3, 7, 11]), ([12, 3], [3, 12]), ([3, 13], [3, 13])])
noncomputable def lockstitchref22_Agree.B7 : List Nat := [0, 0, 3, 7, 15, 15, 63, 127, 15, 15, 783, 1807, 4095, 8191, 16383]
noncomputable def lockstitchref22_Longest.l0 : Nat → List (S27) → Int → Int → Option (Int)
  | 0, _, _, _ => none
  | k + 1, x0, x3, x4 => if x4 < (x0.length : Int) then (if x3 < 0 then (lockstitchref22_Longest.l0 k x0 x4 (wrap64 (x4 + 1))) else (if 0 ≤ x4 then (if 0 ≤ x3 then (if x3 < (x0.length : Int) then (if ((rd_T27 x0 x4).f3) > ((rd_T27 x0 x3).f3) then (lockstitchref22_Longest.l0 k x0 x4 (wrap64 (x4 + 1))) else (lockstitchref22_Longest.l0 k x0 x3 (wrap64 (x4 + 1)))) else (none)) else (none)) else (none))) else (some x3)
noncomputable def lockstitchref22_Longest.f (k : Nat) (l0 : List (S27)) : Option (Int) := lockstitchref22_Longest.l0 k l0 (-1) 0
end Go.Proofs.YtfkfpcciacplkaaDoor.T

namespace Go.Proofs.YtfkfpcciacplkaaDoor.T
open Go.RowKit Go.Proofs.YtfkfpcciacplkaaDoorW.PrintWords Go.Proofs.YtfkfpcciacplkaaDoorW.PrintLast Go.Proofs.YtfkfpcciacplkaaDoorW.PrintMore
attribute [local go_sem] max2_int min2_int max_two min_two max_three min_three max_four min_four
set_option linter.unusedVariables false
set_option linter.unusedSimpArgs false
open Go.Proofs.YtfkfpcciacplkaaDoor.F
open Go.Proofs.YtfkfpcciacplkaaDoor.TE
open Go.Proofs.YtfkfpcciacplkaaDoor.TRB
end Go.Proofs.YtfkfpcciacplkaaDoor.T

namespace Go.Proofs.YtfkfpcciacplkaaDoor.TRP
open Go.RowKit Go.Proofs.YtfkfpcciacplkaaDoorW.PrintWords Go.Proofs.YtfkfpcciacplkaaDoor.Scan Go.Proofs.YtfkfpcciacplkaaDoor.F Go.Proofs.YtfkfpcciacplkaaDoor.T Go.Proofs.YtfkfpcciacplkaaDoor.TRB Go.Proofs.YtfkfpcciacplkaaDoor.TRL Go.Proofs.YtfkfpcciacplkaaDoor.TRA
set_option linter.unusedVariables false
set_option linter.unusedSimpArgs false
abbrev Rs := S31
abbrev Rr := S27
noncomputable abbrev rdS := rd_T31
noncomputable abbrev rdR := rd_T27
def fin (o : Bool) (e : Int) : Bool := o && (e == 0 || e == 9)
def agB (x y : Rs) : Bool := beg x.f0 y.f0 && (if fin x.f1 x.f2 = true ∧ fin y.f1 y.f2 = true then decide (x.f0.length = y.f0.length ∧ x.f2 = y.f2 ∧ x.f3 = y.f3) else if fin x.f1 x.f2 = true then decide (y.f3 ≤ x.f3 ∧ y.f0.length ≤ x.f0.length) else if fin y.f1 y.f2 = true then decide (x.f3 ≤ y.f3 ∧ x.f0.length ≤ y.f0.length) else true)
def Ag (L : List Rs) : Prop := ∀ i j : Nat, i < L.length → j < i → agB (rdS L i) (rdS L j) = true
open Classical in
noncomputable def ag (L : List Rs) : Bool := decide (Ag L)
theorem w1 {i : Int} (h0 : 0 ≤ i) (h : i < 9223372036854775807) : wrap64 (i + 1) = i + 1 := by unfold wrap64; omega
end Go.Proofs.YtfkfpcciacplkaaDoor.TRP

namespace Go.Proofs.YtfkfpcciacplkaaDoor.TRP
open Go.RowKit Go.Proofs.YtfkfpcciacplkaaDoorW.PrintWords Go.Proofs.YtfkfpcciacplkaaDoor.Scan Go.Proofs.YtfkfpcciacplkaaDoor.F Go.Proofs.YtfkfpcciacplkaaDoor.T Go.Proofs.YtfkfpcciacplkaaDoor.TRB Go.Proofs.YtfkfpcciacplkaaDoor.TRL Go.Proofs.YtfkfpcciacplkaaDoor.TRA
set_option linter.unusedVariables false
set_option linter.unusedSimpArgs false
def twB (x y : Rs) : Bool := beg x.f0 y.f0 && (if fin x.f1 x.f2 = true then (if x.f3 < y.f3 ∨ x.f0.length < y.f0.length then false else if fin y.f1 y.f2 = true then decide (x.f2 = y.f2 ∧ x.f3 = y.f3 ∧ x.f0.length = y.f0.length) else true) else true)
def Few22 (L : List Rr) : Prop := (∀ i : Int, 0 ≤ i → i < L.length → ((rdR L i).f0.length : Int) ≤ 60) ∧ L.length ≤ 8
end Go.Proofs.YtfkfpcciacplkaaDoor.TRP

namespace Go.Proofs.YtfkfpcciacplkaaDoor.TRC
open Go.RowKit Go.Proofs.YtfkfpcciacplkaaDoorW.PrintWords Go.Proofs.YtfkfpcciacplkaaDoor.Scan Go.Proofs.YtfkfpcciacplkaaDoor.F Go.Proofs.YtfkfpcciacplkaaDoor.T Go.Proofs.YtfkfpcciacplkaaDoor.ST0 Go.Proofs.YtfkfpcciacplkaaDoor.TRB Go.Proofs.YtfkfpcciacplkaaDoor.TRL Go.Proofs.YtfkfpcciacplkaaDoor.TRA Go.Proofs.YtfkfpcciacplkaaDoor.TRP
set_option linter.unusedVariables false
set_option linter.unusedSimpArgs false
set_option linter.unusedSectionVars false
theorem C_row {α : Type} (d : Kd α) {W : World} {g : Nat} {t : TypeId} {inner : List Value} {ps : List α} (hg : W.heap[g]? = some (.cells inner.toArray t (0, 0))) (hr : Reps (d.K W) d.sz ps inner) (hm : ps.length ≤ 9223372036854775807) : d.C W (some ⟨g, 0, none⟩) ps.length ps := by
  refine ⟨rfl, hm, fun _ => ⟨⟨g, 0, none⟩, rfl, fun j p hj => ⟨(inner.drop (j * d.sz)).take d.sz, ?_, hr.2 j p hj, fun i u hu => ?_⟩⟩⟩
  · have hl := (List.getElem?_eq_some_iff.1 hj).1
    have : j * d.sz + d.sz ≤ ps.length * d.sz := by rw [← Nat.succ_mul]; exact Nat.mul_le_mul_right _ hl
    rw [List.length_take, List.length_drop, hr.1]
    omega
  · have e : (⟨g, 0, none⟩ : Addr).add (j * d.sz + i) = ⟨g, j * d.sz + i, none⟩ := by
      unfold Addr.add
      split
      · rename_i h
        rw [h]
      · simp
    rw [List.getElem?_take] at hu
    split at hu
    · rw [List.getElem?_drop] at hu
      rw [e, cell_of_row _ _ _ _ _ _ hg]
      simpa using hu
    · cases hu
def ra : Rs := ⟨[1], false, 0, 3, 0⟩
def rb : Rs := ⟨[1, 2], true, 0, 5, 0⟩
def rc : Rs := ⟨[2], false, 0, 3, 0⟩
section
variable (W : World) (g h i : Nat) (t : TypeId) (hg : W.heap[g]? = some (.cells #[.int .i64 1] t (0, 0))) (hh : W.heap[h]? = some (.cells #[.int .i64 1, .int .i64 2] t (0, 0))) (hi : W.heap[i]? = some (.cells #[.int .i64 2] t (0, 0)))
include hg hh
abbrev cA (g : Nat) : List Value := [.slice (some ⟨g, 0, none⟩) 1 1, .bool false, .int .i64 0, .int .i64 3, .int .i64 0]
abbrev cB (g : Nat) : List Value := [.slice (some ⟨g, 0, none⟩) 2 2, .bool true, .int .i64 0, .int .i64 5, .int .i64 0]
include hi
end
end Go.Proofs.YtfkfpcciacplkaaDoor.TRC

namespace Go.Proofs.YtfkfpcciacplkaaDoor.DO1
open Go.RowKit Go.Proofs.YtfkfpcciacplkaaDoorW.PrintWords Go.Proofs.YtfkfpcciacplkaaDoorW.PrintLast Go.Proofs.YtfkfpcciacplkaaDoorW.PrintMore Go.Proofs.YtfkfpcciacplkaaDoor.F Go.Proofs.YtfkfpcciacplkaaDoor.KP Go.Proofs.YtfkfpcciacplkaaDoor.CR Go.Proofs.YtfkfpcciacplkaaDoor.SH Go.Proofs.YtfkfpcciacplkaaDoor.FM Go.Proofs.YtfkfpcciacplkaaDoor.ST0 Go.Proofs.YtfkfpcciacplkaaDoor.PL Go.Proofs.YtfkfpcciacplkaaDoor.TRC Go.Proofs.YtfkfpcciacplkaaDoor.TRB Go.Proofs.YtfkfpcciacplkaaDoor.T Go.Proofs.YtfkfpcciacplkaaDoor.TRP
set_option linter.unusedVariables false
set_option linter.unusedSectionVars false
set_option linter.unusedSimpArgs false
def iP : S68 := ⟨14, 0, 0, 0, 0⟩
def pP (g h : Nat) : Pg := ⟨some ⟨g, 0, none⟩, 1, [⟨#[105]⟩], ByteArray.empty, ByteArray.empty, some ⟨h, 0, none⟩, 1, [iP]⟩
end Go.Proofs.YtfkfpcciacplkaaDoor.DO1

namespace Go.Proofs.YtfkfpcciacplkaaDoor.PF
open Go.RowKit Go.Proofs.YtfkfpcciacplkaaDoorW.PrintWords Go.Proofs.YtfkfpcciacplkaaDoorW.PrintLast Go.Proofs.YtfkfpcciacplkaaDoorW.PrintMore Go.Proofs.YtfkfpcciacplkaaDoor.F Go.Proofs.YtfkfpcciacplkaaDoor.KP Go.Proofs.YtfkfpcciacplkaaDoor.CR Go.Proofs.YtfkfpcciacplkaaDoor.SH Go.Proofs.YtfkfpcciacplkaaDoor.FM Go.Proofs.YtfkfpcciacplkaaDoor.ST0 Go.Proofs.YtfkfpcciacplkaaDoor.PL Go.Proofs.YtfkfpcciacplkaaDoor.FSF Go.Proofs.YtfkfpcciacplkaaDoor.TRC Go.Proofs.YtfkfpcciacplkaaDoor.TRB Go.Proofs.YtfkfpcciacplkaaDoor.T Go.Proofs.YtfkfpcciacplkaaDoor.TRP Go.Proofs.YtfkfpcciacplkaaDoor.DO1
set_option linter.unusedVariables false
set_option linter.unusedSectionVars false
set_option linter.unusedSimpArgs false
theorem pA_on (w : World) (g h : Nat) (s t : TypeId) (hg : w.heap[g]? = some (.cells #[.string ⟨#[105, 48]⟩] s (0, 0))) (hh : w.heap[h]? = some (.cells #[.int .u8 5, .int .u8 0, .int .u8 0, .int .u8 0, .int .i64 0, .int .u8 9, .int .u8 0, .int .u8 0, .int .u8 0, .int .i64 0, .int .u8 11, .int .u8 0, .int .u8 0, .int .u8 0, .int .i64 1, .int .u8 5, .int .u8 0, .int .u8 0, .int .u8 0, .int .i64 0] t (0, 0))) (hot : OT w) : (pA g h).On w where
  hT := C_row Kd.string hg (Kd.reps_scalar (enc := Value.string) [⟨#[105, 48]⟩]) (by show (1 : Nat) ≤ 9223372036854775807; decide)
  hc0 := Nat.le_refl _
  hC := C_row k68 hh (((((Reps.none (k68.K w) 5).snoc (k68_mk w ⟨5, 0, 0, 0, 0⟩) rfl).snoc (k68_mk w ⟨9, 0, 0, 0, 0⟩) rfl).snoc (k68_mk w ⟨11, 0, 0, 0, 1⟩) rfl).snoc (k68_mk w ⟨5, 0, 0, 0, 0⟩) rfl) (by show (4 : Nat) ≤ 9223372036854775807; decide)
  hc3 := Nat.le_refl _
  hs := fun s hs => by
    obtain rfl : s = ⟨#[105, 48]⟩ := by simpa [pA, TA] using hs
    decide
  hla := by show LA.size ≤ _; decide
  hgl := Nat.zero_le _
  hw := fun x hx => by
    have hx' : x = ⟨5, 0, 0, 0, 0⟩ ∨ x = ⟨9, 0, 0, 0, 0⟩ ∨ x = ⟨11, 0, 0, 0, 1⟩ ∨ x = ⟨5, 0, 0, 0, 0⟩ := by simpa [pA, cA] using hx
    rcases hx' with rfl | rfl | rfl | rfl <;> exact ⟨by decide, by decide, by decide, by decide, by decide⟩
  ot := hot
set_option maxHeartbeats 8000000 in
set_option maxRecDepth 100000 in
theorem alive_c (w : World) (hot : OT w) : Calls Tryd.prog 32 #[] w fun e w' => e = .returned (.bool true) ∧ Below w.heap.size w w' := by
  have HOT := Aside0.mk hot
  clear hot
  go_enter Tryd.func32, Tryd.ntmps32
  go_upto_region 2 with (fail)
  obtain ⟨W0, hW0⟩ : ∃ W0 : World, W0 = ((w.alloc (.cells #[.string ⟨#[105, 48]⟩] 9)).alloc (.cells #[.int .u8 5, .int .u8 0, .int .u8 0, .int .u8 0, .int .i64 0, .int .u8 9, .int .u8 0, .int .u8 0, .int .u8 0, .int .i64 0, .int .u8 11, .int .u8 0, .int .u8 0, .int .u8 0, .int .i64 1, .int .u8 5, .int .u8 0, .int .u8 0, .int .u8 0, .int .i64 0] 68)).alloc (.cells #[.slice (some ⟨w.heap.size, 0, none⟩) 1 1, .string ⟨#[48]⟩, .string ⟨#[]⟩, .slice (some ⟨w.heap.size + 1, 0, none⟩) 4 4] 46) := ⟨_, rfl⟩
  have r0 : W0.heap[w.heap.size]? = some (.cells #[.string ⟨#[105, 48]⟩] 9 (0, 0)) := by rw [hW0]; exact rowT
  have r1 : W0.heap[w.heap.size + 1]? = some (.cells #[.int .u8 5, .int .u8 0, .int .u8 0, .int .u8 0, .int .i64 0, .int .u8 9, .int .u8 0, .int .u8 0, .int .u8 0, .int .i64 0, .int .u8 11, .int .u8 0, .int .u8 0, .int .u8 0, .int .i64 1, .int .u8 5, .int .u8 0, .int .u8 0, .int .u8 0, .int .i64 0] 68 (0, 0)) := by rw [hW0]; exact rowT
  have HR := Aside0.mk (show W0.heap[w.heap.size + 1 + 1]? = some (.cells #[.slice (some ⟨w.heap.size, 0, none⟩) 1 1, .string ⟨#[48]⟩, .string ⟨#[]⟩, .slice (some ⟨w.heap.size + 1, 0, none⟩) 4 4] 46 (0, 0)) by rw [hW0]; exact rowT)
  have HW := Aside0.mk (show Below w.heap.size w W0 by rw [hW0]; repeat (first | exact Below.refl _ _ | refine below_alloc ?_ _))
  rw [← hW0]
  clear hW0
  have hon : (pA w.heap.size (w.heap.size + 1)).On W0 := pA_on W0 _ _ _ _ r0 r1 (OT_below HOT.out HW.out)
  have BE := Aside0.mk (show ∀ W, Below W0.heap.size W0 W → Calls Tryd.prog 46 #[.agg #[.slice (some ⟨w.heap.size, 0, none⟩) 1 1, .string ⟨#[48]⟩, .string ⟨#[]⟩, .slice (some ⟨w.heap.size + 1, 0, none⟩) 4 4]] W fun e w' => ∃ g, e = .returned (.tuple #[.slice (some ⟨g, 0, none⟩) 4 4, .int .i64 0]) ∧ Below W.heap.size W w' ∧ RowF w' g 4 (bestF (pA w.heap.size (w.heap.size + 1))) from fun W hW => (Best_c _ W (hon.below hW) (by show LA.size ≤ 1000; decide) (by show (4 : Nat) ≤ 1000000; decide)).mono fun e w' ⟨er, v, h1, h2, h3, h4, _⟩ => by
    obtain rfl := h2.2 (pA_sp _ _)
    obtain ⟨g, rfl, _, h5⟩ := h4 rfl
    exact ⟨g, h1, h3, h5⟩)
  have NO := Aside0.mk (show ∀ W, Below W0.heap.size W0 W → Calls Tryd.prog 47 #[.agg #[.slice (some ⟨w.heap.size, 0, none⟩) 1 1, .string ⟨#[48]⟩, .string ⟨#[]⟩, .slice (some ⟨w.heap.size + 1, 0, none⟩) 4 4]] W fun e w' => ∃ g, e = .returned (.tuple #[.slice (some ⟨g, 0, none⟩) 4 4, .int .i64 0]) ∧ Below W.heap.size W w' ∧ RowF w' g 4 (fun _ => ⟨false, false, false⟩) from fun W hW => (None_c _ W (hon.below hW) (by show (4 : Nat) ≤ 1000000; decide)).mono fun e w' ⟨er, v, h1, h2, h3, h4, _⟩ => by
    obtain rfl := h2.2 (pA_sp _ _)
    obtain ⟨g, rfl, _, h5⟩ := h4 rfl
    exact ⟨g, h1, h3, h5⟩)
  have SA := Aside0.mk (show ∀ W g, RowF W g 4 (bestF (pA w.heap.size (w.heap.size + 1))) → Calls Tryd.prog 33 #[.slice (some ⟨g, 0, none⟩) 4 4] W fun e w' => e = .returned (.tuple #[.int .i64 0, .int .i64 1, .int .i64 1]) ∧ Below W.heap.size W w' from fun W g h => (Saved_c W _ 4 4 _ h.fc (by decide)).mono fun e w' h => by
    rw [show cnt (fun k => (bestF (pA w.heap.size (w.heap.size + 1)) k).st) 4 = 0 by simp [cnt, best0, best1, best2, best3], show cnt (fun k => (bestF (pA w.heap.size (w.heap.size + 1)) k).raw) 4 = 1 by simp [cnt, best0, best1, best2, best3], show cnt (fun k => (bestF (pA w.heap.size (w.heap.size + 1)) k).pl) 4 = 1 by simp [cnt, best0, best1, best2, best3]] at h
    exact h)
  have FI := Aside0.mk (show ∀ W, Below W0.heap.size W0 W → ∀ g, RowF W g 4 (fun _ => ⟨false, false, false⟩) → Calls Tryd.prog 48 #[.agg #[.slice (some ⟨w.heap.size, 0, none⟩) 1 1, .string ⟨#[48]⟩, .string ⟨#[]⟩, .slice (some ⟨w.heap.size + 1, 0, none⟩) 4 4], .slice (some ⟨g, 0, none⟩) 4 4] W fun e w' => e = .returned (.bool true) ∧ Below W.heap.size W w' from fun W hW g h => Fits_c _ W (hon.below hW) (by show LA.size ≤ 1000; decide) (by show (4 : Nat) ≤ 1000000; decide) _ 4 4 _ h.fc (by decide) true ⟨fun _ => ⟨pA_sp _ _, rfl, fun k _ => by simp [wth]⟩, fun _ => rfl⟩)
  have FN := Aside0.mk (show ∀ W, Below W0.heap.size W0 W → Calls Tryd.prog 48 #[.agg #[.slice (some ⟨w.heap.size, 0, none⟩) 1 1, .string ⟨#[48]⟩, .string ⟨#[]⟩, .slice (some ⟨w.heap.size + 1, 0, none⟩) 4 4], .slice none 0 0] W fun e w' => e = .returned (.bool false) ∧ Below W.heap.size W w' from fun W hW => Fits_c _ W (hon.below hW) (by show LA.size ≤ 1000; decide) (by show (4 : Nat) ≤ 1000000; decide) none 0 0 (fun _ => ⟨false, false, false⟩) (fun k hk => absurd hk (Nat.not_lt_zero k)) (by decide) false ⟨(fun h => by cases h), (fun h => by have := h.2.1; cases this)⟩)
  have HB := Aside0.mk (Below.refl W0.heap.size W0)
  have y0 := (blk_cell HR.out 0).trans (rfl : _ = some (Value.slice (some ⟨w.heap.size, 0, none⟩) 1 1))
  have y1 := (blk_cell HR.out 1).trans (rfl : _ = some (Value.string ⟨#[48]⟩))
  have y2 := (blk_cell HR.out 2).trans (rfl : _ = some (Value.string ⟨#[]⟩))
  have y3 := (blk_cell HR.out 3).trans (rfl : _ = some (Value.slice (some ⟨w.heap.size + 1, 0, none⟩) 4 4))
  clear r0 r1 hon
  go_wp2_with (first
    | (go_at_call 46; (with_reducible refine (BE.out _ HB.out).mono ?_); rintro e w1 ⟨gb, rfl, hb, hr⟩; have HR := Aside0.mk ((hb.block _ (blk_lt HR.out)).trans HR.out); have HB := Aside0.mk (below_step HB.out hb); have y0 := (blk_cell HR.out 0).trans (rfl : _ = some (Value.slice (some ⟨w.heap.size, 0, none⟩) 1 1)); have y1 := (blk_cell HR.out 1).trans (rfl : _ = some (Value.string ⟨#[48]⟩)); have y2 := (blk_cell HR.out 2).trans (rfl : _ = some (Value.string ⟨#[]⟩)); have y3 := (blk_cell HR.out 3).trans (rfl : _ = some (Value.slice (some ⟨w.heap.size + 1, 0, none⟩) 4 4)); have HL := Aside0.mk hr; clear hb hr)
    | (go_at_call 47; (with_reducible refine (NO.out _ HB.out).mono ?_); rintro e w1 ⟨gn, rfl, hb, hr⟩; have HR := Aside0.mk ((hb.block _ (blk_lt HR.out)).trans HR.out); have HB := Aside0.mk (below_step HB.out hb); have y0 := (blk_cell HR.out 0).trans (rfl : _ = some (Value.slice (some ⟨w.heap.size, 0, none⟩) 1 1)); have y1 := (blk_cell HR.out 1).trans (rfl : _ = some (Value.string ⟨#[48]⟩)); have y2 := (blk_cell HR.out 2).trans (rfl : _ = some (Value.string ⟨#[]⟩)); have y3 := (blk_cell HR.out 3).trans (rfl : _ = some (Value.slice (some ⟨w.heap.size + 1, 0, none⟩) 4 4)); have HL := Aside0.mk (HL.out.move (hb.block _ HL.out.lt)); have HN := Aside0.mk hr; clear hb hr)
    | (go_at_call 33; (with_reducible refine (SA.out _ _ HL.out).mono ?_); rintro e w1 ⟨rfl, hb⟩; have HR := Aside0.mk ((hb.block _ (blk_lt HR.out)).trans HR.out); have HB := Aside0.mk (below_step HB.out hb); have y0 := (blk_cell HR.out 0).trans (rfl : _ = some (Value.slice (some ⟨w.heap.size, 0, none⟩) 1 1)); have y1 := (blk_cell HR.out 1).trans (rfl : _ = some (Value.string ⟨#[48]⟩)); have y2 := (blk_cell HR.out 2).trans (rfl : _ = some (Value.string ⟨#[]⟩)); have y3 := (blk_cell HR.out 3).trans (rfl : _ = some (Value.slice (some ⟨w.heap.size + 1, 0, none⟩) 4 4)); have HL := Aside0.mk (HL.out.move (hb.block _ HL.out.lt)); have HN := Aside0.mk (HN.out.move (hb.block _ HN.out.lt)); obtain ⟨l0, l1, l2⟩ := HL.out.at (k := 0) (by decide); obtain ⟨l6, l7, l8⟩ := HL.out.at (k := 2) (by decide); rw [best0] at l0 l1 l2; rw [best2] at l6 l7 l8; simp only [Nat.reduceMul, Nat.reduceAdd] at l0 l1 l2 l6 l7 l8; clear hb)
    | (go_at_call 48; (with_reducible refine (FI.out _ HB.out _ HN.out).mono ?_); rintro e w1 ⟨rfl, hb⟩; have HR := Aside0.mk ((hb.block _ (blk_lt HR.out)).trans HR.out); have HB := Aside0.mk (below_step HB.out hb); have y0 := (blk_cell HR.out 0).trans (rfl : _ = some (Value.slice (some ⟨w.heap.size, 0, none⟩) 1 1)); have y1 := (blk_cell HR.out 1).trans (rfl : _ = some (Value.string ⟨#[48]⟩)); have y2 := (blk_cell HR.out 2).trans (rfl : _ = some (Value.string ⟨#[]⟩)); have y3 := (blk_cell HR.out 3).trans (rfl : _ = some (Value.slice (some ⟨w.heap.size + 1, 0, none⟩) 4 4)); clear hb)
    | (go_at_call 48; (with_reducible refine (FN.out _ HB.out).mono ?_); rintro e w1 ⟨rfl, hb⟩; have HR := Aside0.mk ((hb.block _ (blk_lt HR.out)).trans HR.out); have HB := Aside0.mk (below_step HB.out hb); have y0 := (blk_cell HR.out 0).trans (rfl : _ = some (Value.slice (some ⟨w.heap.size, 0, none⟩) 1 1)); have y1 := (blk_cell HR.out 1).trans (rfl : _ = some (Value.string ⟨#[48]⟩)); have y2 := (blk_cell HR.out 2).trans (rfl : _ = some (Value.string ⟨#[]⟩)); have y3 := (blk_cell HR.out 3).trans (rfl : _ = some (Value.slice (some ⟨w.heap.size + 1, 0, none⟩) 4 4)); clear hb))
  go_ret
  exact ⟨rfl, below_step HW.out HB.out⟩
end Go.Proofs.YtfkfpcciacplkaaDoor.PF

namespace Go.Proofs.YtfkfpcciacplkaaDoor.PF
open Go.RowKit Go.Proofs.YtfkfpcciacplkaaDoorW.PrintWords Go.Proofs.YtfkfpcciacplkaaDoorW.PrintLast Go.Proofs.YtfkfpcciacplkaaDoorW.PrintMore Go.Proofs.YtfkfpcciacplkaaDoor.F Go.Proofs.YtfkfpcciacplkaaDoor.PL Go.Proofs.YtfkfpcciacplkaaDoor.FSF Go.Proofs.YtfkfpcciacplkaaDoor.KP Go.Proofs.YtfkfpcciacplkaaDoor.CR
set_option linter.unusedVariables false
set_option linter.unusedSectionVars false
set_option linter.unusedSimpArgs false
def kF : Kd Fc := Kd.iso (Kd.pair Kd.bool (Kd.pair Kd.bool Kd.bool)) (fun x : Fc => (x.st, x.raw, x.pl))
theorem kF_open {w : World} {x : Fc} {cs : List Value} (h : kF.K w x cs) : cs = [.bool x.st, .bool x.raw, .bool x.pl] := by
  obtain ⟨_, _, rfl, rfl, ⟨_, _, rfl, rfl, rfl⟩⟩ := h
  exact rfl
theorem kF_mkM (w w' : World) (base : Nat) (ok : Nat → Prop) (x : Fc) (cs : List Value) (h : kF.K w' x cs) : kF.M w base ok x cs := by
  rw [kF_open h]
  exact ⟨[.bool x.st], [.bool x.raw, .bool x.pl], rfl, rfl, ⟨[.bool x.raw], [.bool x.pl], rfl, rfl, rfl⟩⟩
def gF (l : List Fc) (k : Nat) : Fc := l.getD k ⟨false, false, false⟩
theorem C_FC {w : World} {A : Option Addr} {n : Nat} {l : List Fc} (h : Kd.C kF w A n l) : FC w A n (gF l) := fun k hk => by
  obtain ⟨ad, c, e, _, hK, _⟩ := Kd.C_get h ⟨false, false, false⟩ k (by omega) (by omega)
  refine ⟨ad, e, fun W hW => ?_⟩
  obtain ⟨ad', c', e', _, hK', hc⟩ := Kd.C_get (Kd.C_below h hW) ⟨false, false, false⟩ k (by omega) (by omega)
  obtain rfl := Option.some.inj (e.symm.trans e')
  obtain rfl := kF_open hK'
  rw [Int.toNat_natCast] at hc
  have hf : ∀ j, (⟨(ad.add (k * 3)).block, (ad.add (k * 3)).off + j, none⟩ : Addr) = ad.add (k * 3 + j) ∨ True := fun _ => .inr trivial
  exact ⟨hc 0 _ rfl, by rw [← add_field _ _ 1 (by omega)]; exact hc 1 _ rfl, by rw [← add_field _ _ 2 (by omega)]; exact hc 2 _ rfl⟩
theorem cnt_congr {g h : Nat → Bool} : ∀ n, (∀ k, k < n → g k = h k) → cnt g n = cnt h n
  | 0, _ => rfl
  | n + 1, e => by
    simp only [cnt]
    rw [cnt_congr n (fun k hk => e k (by omega)), e n (by omega)]
theorem cnt_add (g : Nat → Bool) (a : Nat) : ∀ b, cnt g (a + b) = cnt g a + cnt (fun k => g (a + k)) b
  | 0 => rfl
  | b + 1 => by
    show cnt g (a + b) + (g (a + b)).toNat = cnt g a + (cnt (fun k => g (a + k)) b + (g (a + b)).toNat)
    rw [cnt_add g a b]
    omega
theorem cnt_app (s : Fc → Bool) (a b : List Fc) : cnt (fun k => s (gF (a ++ b) k)) (a.length + b.length) = cnt (fun k => s (gF a k)) a.length + cnt (fun k => s (gF b k)) b.length := by
  rw [cnt_add]
  congr 1
  · refine cnt_congr _ fun k hk => ?_
    simp [gF, List.getD_eq_getElem?_getD, List.getElem?_append_left hk]
  · refine cnt_congr _ fun k hk => ?_
    simp [gF, List.getD_eq_getElem?_getD, List.getElem?_append_right (Nat.le_add_right _ _)]
set_option maxHeartbeats 8000000 in
set_option maxRecDepth 100000 in
theorem PlanSaved_walk (w : World) (A1 : Option Addr) (c1 : Nat) (a : List Fc) (hC1 : Kd.C kF w A1 a.length a) (hc1 : a.length ≤ c1) (A2 : Option Addr) (c2 : Nat) (b : List Fc) (hC2 : Kd.C kF w A2 b.length b) (hc2 : b.length ≤ c2) (hot : OT w) :
    Calls Tryd.prog 11 #[.slice A1 a.length c1, .slice A2 b.length c2] w fun e w' => e = .returned (.bool true) ∧ Below w.heap.size w w' := by
  have HC1 := Aside0.mk hC1
  have HC2 := Aside0.mk hC2
  have AL := Aside0.mk (alive_c w hot)
  clear hot hC1 hC2
  by_cases h1 : (a.length : Int) > 200
  · go_enter Tryd.func11, Tryd.ntmps11
    go_wp2_with (go_at_call 32; (with_reducible refine AL.out.mono ?_); rintro e w1 ⟨rfl, hb⟩; have HB := Aside0.mk hb; clear hb)
    go_ret
    exact ⟨rfl, HB.out⟩
  · by_cases h2 : (b.length : Int) > 200
    · go_enter Tryd.func11, Tryd.ntmps11
      go_wp2_with (go_at_call 32; (with_reducible refine AL.out.mono ?_); rintro e w1 ⟨rfl, hb⟩; have HB := Aside0.mk hb; clear hb)
      go_ret
      exact ⟨rfl, HB.out⟩
    · have SA := Aside0.mk (fun W (hW : Below w.heap.size w W) => Saved_c W A1 a.length c1 (gF a) ((C_FC HC1.out).below hW) (by omega))
      have SB := Aside0.mk (fun W (hW : Below w.heap.size w W) => Saved_c W A2 b.length c2 (gF b) ((C_FC HC2.out).below hW) (by omega))
      have n1 : ¬ (200 : Int) < a.length := h1
      have n2 : ¬ (200 : Int) < b.length := h2
      have e0 := cnt_app Fc.st a b
      have e1 := cnt_app Fc.raw a b
      have e2 := cnt_app Fc.pl a b
      have k0 := cnt_le (fun k => (gF a k).st) a.length
      have k1 := cnt_le (fun k => (gF a k).raw) a.length
      have k2 := cnt_le (fun k => (gF a k).pl) a.length
      have m0 := cnt_le (fun k => (gF b k).st) b.length
      have m1 := cnt_le (fun k => (gF b k).raw) b.length
      have m2 := cnt_le (fun k => (gF b k).pl) b.length
      have SC := Aside0.mk (fun W A c (hC : Kd.C kF W A (a.length + b.length) (a ++ b)) => (by
        have h := Saved_c W A (a.length + b.length) c (gF (a ++ b)) (C_FC hC) (by omega)
        rw [e0, e1, e2] at h
        exact h : Calls Tryd.prog 33 #[.slice A (a.length + b.length) c] W fun e w' => e = .returned (.tuple #[.int .i64 ((cnt (fun k => (gF a k).st) a.length + cnt (fun k => (gF b k).st) b.length : Nat) : Int), .int .i64 ((cnt (fun k => (gF a k).raw) a.length + cnt (fun k => (gF b k).raw) b.length : Nat) : Int), .int .i64 ((cnt (fun k => (gF a k).pl) a.length + cnt (fun k => (gF b k).pl) b.length : Nat) : Int)]) ∧ Below W.heap.size W w'))
      clear e0 e1 e2
      generalize cnt (fun k => (gF a k).st) a.length = s0 at SA SC k0
      generalize cnt (fun k => (gF a k).raw) a.length = s1 at SA SC k1
      generalize cnt (fun k => (gF a k).pl) a.length = s2 at SA SC k2
      generalize cnt (fun k => (gF b k).st) b.length = u0 at SB SC m0
      generalize cnt (fun k => (gF b k).raw) b.length = u1 at SB SC m1
      generalize cnt (fun k => (gF b k).pl) b.length = u2 at SB SC m2
      go_enter Tryd.func11, Tryd.ntmps11
      go_upto_region 7 with (first
        | (go_at_call 32; (with_reducible refine AL.out.mono ?_); rintro e w1 ⟨rfl, hb⟩; have HB := Aside0.mk hb; clear hb)
        | (go_at_call 33; (with_reducible refine (SA.out _ HB.out).mono ?_); rintro e w1 ⟨rfl, hb⟩; have HB := Aside0.mk (below_step HB.out hb); clear hb)
        | (go_at_call 33; (with_reducible refine (SB.out _ HB.out).mono ?_); rintro e w1 ⟨rfl, hb⟩; have HB := Aside0.mk (below_step HB.out hb); clear hb))
      go_wp2_with (first
        | (at_builtin; (refine Kd.R_append_rows kF (Rr := kF.K w1) w.heap.size rfl (.const (.slice none 0 0)) _ 55 60 (.agg #[.bool false, .bool false, .bool false]) 3 rfl Tryd.underlying55 info_fact rfl (by decide) (by decide) (.slice none 0 0) [] a A1 a.length c1 (fun _ => True) (fun _ => False) rfl rfl (Kd.R_nil _ _ _ _ _) (Kd.C_below HC1.out HB.out) (fun x cs h => kF_mkM _ _ _ _ x cs h) (fun _ h => h.elim) (fun _ _ => trivial) HB.out HB.out.size (by simp; omega) ?_); intro v1 w2 hR hb2 hg2 hat2; have HB := Aside0.mk hb2; rw [List.nil_append] at hR; obtain ⟨G1, g1, rfl, _, _⟩ := Kd.R_reads hR; have HO := Aside0.mk hR; clear hR hb2 hg2 hat2)
        | (at_builtin; (refine Kd.R_append_rows kF (Rr := kF.K w2) w.heap.size rfl _ _ 55 60 (.agg #[.bool false, .bool false, .bool false]) 3 rfl Tryd.underlying55 info_fact rfl (by decide) (by decide) (.slice G1 a.length g1) a b A2 b.length c2 (fun _ => True) (fun _ => False) rfl rfl HO.out (Kd.C_below HC2.out HB.out) (fun x cs h => kF_mkM _ _ _ _ x cs h) (fun _ h => h.elim) (fun _ _ => trivial) HB.out HB.out.size (by omega) ?_); intro v1 w2 hR hb2 hg2 hat2; have HB := Aside0.mk hb2; obtain ⟨G2, g2, rfl, _, hCC⟩ := Kd.R_reads hR; rw [List.length_append] at hCC; have HC := Aside0.mk hCC; clear hCC; clear hR hb2 hg2 hat2)
        | (go_at_call 33; (with_reducible refine (SC.out _ _ _ HC.out).mono ?_); rintro e w1 ⟨rfl, hb⟩; have HB := Aside0.mk (below_step HB.out hb); clear hb))
      go_ret
      exact ⟨by simp, HB.out⟩
end Go.Proofs.YtfkfpcciacplkaaDoor.PF

namespace Go.Proofs.YtfkfpcciacplkaaDoor.PF
open Go.ChangeShapes Go.ChangeAt Go.RowKit Go.WideShapes Go.Proofs.YtfkfpcciacplkaaDoorW.PrintWords Go.Proofs.YtfkfpcciacplkaaDoor.F
set_option linter.unusedVariables false
section
variable {H : Type} {enc : TypeId × Value → H} {W : World} {held : Bool} {sp : Nat → Bool}
theorem kF_mk (w : World) (x : Fc) : kF.K w x [.bool x.st, .bool x.raw, .bool x.pl] := ⟨[.bool x.st], [.bool x.raw, .bool x.pl], rfl, rfl, ⟨[.bool x.raw], [.bool x.pl], rfl, rfl, rfl⟩⟩
set_option maxRecDepth 100000 in
theorem pf_at {fuel : Nat} {cs : List Value} {x : DataW H × List MemPlace} (h : DataW.trod enc Tryd.prog W 0 sp held fuel 60 cs = some x) : ∃ s : Fc, cs = [.bool s.st, .bool s.raw, .bool s.pl] := by
  obtain ⟨xs, n, _, _, hl, hxl, hf⟩ := DataW.trod_struct Tryd.underlying60 h
  have hc5 : Tryd.prog.cellsOf 60 = 3 := by kernel_rfl
  have c1 : Tryd.prog.cellsOf 4 = 1 := by kernel_rfl
  rw [hc5] at hl
  match cs, hl with
  | [a, b, c], _ =>
    match xs, hxl with
    | [x0, x1, x2], _ =>
      obtain ⟨n0, e0, _⟩ := DataW.trod_bool Tryd.underlying4 (hf 0 _ rfl)
      obtain ⟨n1, e1, _⟩ := DataW.trod_bool Tryd.underlying4 (hf 1 _ rfl)
      obtain ⟨n2, e2, _⟩ := DataW.trod_bool Tryd.underlying4 (hf 2 _ rfl)
      have e0' : a = .bool n0 := by simpa [c1] using e0
      have e1' : b = .bool n1 := by simpa [c1] using e1
      have e2' : c = .bool n2 := by simpa [c1] using e2
      exact ⟨⟨n0, n1, n2⟩, by rw [e0', e1', e2']⟩
set_option maxRecDepth 100000 in
theorem pfs_row {fuel : Nat} {v : Value} {x : DataW H × List MemPlace} (h : DataW.trod enc Tryd.prog W 0 sp held fuel 55 [v] = some x) :
    ∃ (A : Option Addr) (c : Nat) (l : List Fc), v = .slice A l.length c ∧ l.length ≤ c ∧ Kd.C kF W A l.length l := by
  have hc5 : Tryd.prog.cellsOf 60 = 3 := by kernel_rfl
  rcases DataW.trod_slice Tryd.underlying55 h with ⟨h0, _⟩ | ⟨a, len, cap, elems, rest, n, _, h0, _, hb, hl, hm, hlen, hel, _, _⟩
  · injection h0 with h0
    exact ⟨none, 0, [], h0, Nat.le_refl _, Kd.C_nil _ _⟩
  · injection h0 with h0
    have each : ∀ i, ∃ s : Fc, i < len → ∀ j u, ([.bool s.st, .bool s.raw, .bool s.pl] : List Value)[j]? = some u → W.cell? (a.add (i * 3 + j)) = some u := by
      intro i
      by_cases hi : i < len
      · have h1 := hel i hi
        rw [List.getElem?_eq_getElem (by omega), hc5, Option.bind_eq_some_iff] at h1
        obtain ⟨cs, h2, h3⟩ := h1
        obtain ⟨s, rfl⟩ := pf_at h3
        obtain ⟨_, _, h4⟩ := World.cells?_some h2
        refine ⟨s, fun _ j u hu => ?_⟩
        have hj : j < 3 := by
          have := (List.getElem?_eq_some_iff.1 hu).1
          simpa using this
        have h5 := h4 j hj
        rw [hu] at h5
        rw [← h5]
        rw [TRO.add_add]
      · exact ⟨⟨false, false, false⟩, fun h => absurd h hi⟩
    obtain ⟨f, hf⟩ := Classical.axiomOfChoice each
    have hlm : ((List.range len).map f).length = len := by simp
    refine ⟨some a, cap, (List.range len).map f, by rw [hlm]; exact h0, by rw [hlm]; exact hl, ?_⟩
    rw [hlm]
    refine ⟨hlm, by unfold maxLen at hm; omega, fun _ => ⟨a, rfl, fun j p hp => ?_⟩⟩
    rw [List.getElem?_map] at hp
    by_cases hj : j < len
    · rw [List.getElem?_range hj] at hp
      obtain rfl := Option.some.inj hp
      exact ⟨_, rfl, kF_mk W (f j), fun i u hu => (hf j) hj i u hu⟩
    · rw [List.getElem?_eq_none (by simpa using hj)] at hp
      cases hp
end
end Go.Proofs.YtfkfpcciacplkaaDoor.PF

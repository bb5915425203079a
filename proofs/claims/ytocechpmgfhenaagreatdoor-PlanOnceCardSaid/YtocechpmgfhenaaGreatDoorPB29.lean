/- Texts of this claim, pruned to what it needs and laid together by prune.py. -/
import Derived.Test.YtocechpmgfhenaaGreatDoorPB28
import Derived.Test.YtocechpmgfhenaaGreatDoorPB26
import Derived.Outline
import Derived.Deep.LoopGhost
namespace Go.Proofs.YtocechpmgfhenaaGreatDoor.ST
open Go.RowKit Go.Proofs.YtocechpmgfhenaaGreatDoorW.PrintWords Go.Proofs.YtocechpmgfhenaaGreatDoor.Scan Go.Proofs.YtocechpmgfhenaaGreatDoor.F Go.Proofs.YtocechpmgfhenaaGreatDoor.KP Go.Proofs.YtocechpmgfhenaaGreatDoor.PL Go.Proofs.YtocechpmgfhenaaGreatDoor.ST0
set_option linter.unusedVariables false
set_option linter.unusedSectionVars false
theorem fst_eq {α β : Type} {a c : α} {b d : β} (e : (a, b) = (c, d)) : a = c := congrArg Prod.fst e
theorem stepN_pc {sz loc : Int → Int} {x : S46} {s u : PS} (e : stepN sz loc x s = some u) : u.pc = s.pc ∧ u.steps = s.steps := by
  unfold stepN at e
  by_cases o1 : x.f0 = 1
  · rw [if_pos o1] at e
    obtain rfl := Option.some.inj e
    exact ⟨rfl, rfl⟩
  rw [if_neg o1] at e
  by_cases o2 : x.f0 = 2
  · rw [if_pos o2] at e
    obtain rfl := Option.some.inj e
    exact ⟨rfl, rfl⟩
  rw [if_neg o2] at e
  by_cases o15 : x.f0 = 15
  · rw [if_pos o15] at e
    obtain rfl := Option.some.inj e
    exact ⟨rfl, rfl⟩
  rw [if_neg o15] at e
  by_cases o14 : x.f0 = 14
  · rw [if_pos o14] at e
    obtain rfl := Option.some.inj e
    exact ⟨rfl, rfl⟩
  rw [if_neg o14] at e
  by_cases o5 : x.f0 = 5
  · rw [if_pos o5] at e
    obtain rfl := Option.some.inj e
    exact ⟨rfl, rfl⟩
  rw [if_neg o5] at e
  by_cases o6 : x.f0 = 6
  · rw [if_pos o6] at e
    obtain rfl := Option.some.inj e
    exact ⟨rfl, rfl⟩
  rw [if_neg o6] at e
  by_cases o7 : x.f0 = 7
  · rw [if_pos o7] at e
    obtain rfl := Option.some.inj e
    exact ⟨rfl, rfl⟩
  rw [if_neg o7] at e
  by_cases o12 : x.f0 = 12
  · rw [if_pos o12] at e
    obtain rfl := Option.some.inj e
    exact ⟨rfl, rfl⟩
  rw [if_neg o12] at e
  by_cases o13 : x.f0 = 13
  · rw [if_pos o13] at e
    obtain rfl := Option.some.inj e
    exact ⟨rfl, rfl⟩
  rw [if_neg o13] at e
  by_cases o8 : x.f0 = 8
  · rw [if_pos o8] at e
    split at e
    · cases e
    · obtain rfl := Option.some.inj e
      exact ⟨rfl, rfl⟩
  rw [if_neg o8] at e
  by_cases o10 : x.f0 = 10
  · rw [if_pos o10] at e
    split at e
    · cases e
    · obtain rfl := Option.some.inj e
      exact ⟨rfl, rfl⟩
  rw [if_neg o10] at e
  by_cases o9 : x.f0 = 9
  · rw [if_pos o9] at e
    split at e
    · cases e
    · obtain rfl := Option.some.inj e
      exact ⟨rfl, rfl⟩
  rw [if_neg o9] at e
  split at e
  · cases e
  · obtain rfl := Option.some.inj e
    exact ⟨rfl, rfl⟩
theorem stepN_len {sz loc : Int → Int} {x : S46} {s u : PS} (e : stepN sz loc x s = some u) : u.objs.length ≤ s.objs.length + 1 ∧ u.out.length ≤ s.out.length + 1 ∧ s.objs.length ≤ u.objs.length := by
  have hp : ∀ o f v, (putF s.objs o f v).length = s.objs.length := fun o f v => by unfold putF; rw [List.length_set]
  unfold stepN at e
  by_cases o1 : x.f0 = 1
  · rw [if_pos o1] at e
    obtain rfl := Option.some.inj e
    exact ⟨Nat.le_succ _, Nat.le_succ _, Nat.le_refl _⟩
  rw [if_neg o1] at e
  by_cases o2 : x.f0 = 2
  · rw [if_pos o2] at e
    obtain rfl := Option.some.inj e
    exact ⟨Nat.le_succ _, Nat.le_succ _, Nat.le_refl _⟩
  rw [if_neg o2] at e
  by_cases o15 : x.f0 = 15
  · rw [if_pos o15] at e
    obtain rfl := Option.some.inj e
    exact ⟨Nat.le_succ _, Nat.le_succ _, Nat.le_refl _⟩
  rw [if_neg o15] at e
  by_cases o14 : x.f0 = 14
  · rw [if_pos o14] at e
    obtain rfl := Option.some.inj e
    exact ⟨Nat.le_succ _, by simp, Nat.le_refl _⟩
  rw [if_neg o14] at e
  by_cases o5 : x.f0 = 5
  · rw [if_pos o5] at e
    obtain rfl := Option.some.inj e
    exact ⟨by simp, Nat.le_succ _, by simp⟩
  rw [if_neg o5] at e
  by_cases o6 : x.f0 = 6
  · rw [if_pos o6] at e
    obtain rfl := Option.some.inj e
    exact ⟨Nat.le_succ _, Nat.le_succ _, Nat.le_refl _⟩
  rw [if_neg o6] at e
  by_cases o7 : x.f0 = 7
  · rw [if_pos o7] at e
    obtain rfl := Option.some.inj e
    exact ⟨Nat.le_succ _, Nat.le_succ _, Nat.le_refl _⟩
  rw [if_neg o7] at e
  by_cases o12 : x.f0 = 12
  · rw [if_pos o12] at e
    obtain rfl := Option.some.inj e
    exact ⟨Nat.le_succ _, Nat.le_succ _, Nat.le_refl _⟩
  rw [if_neg o12] at e
  by_cases o13 : x.f0 = 13
  · rw [if_pos o13] at e
    obtain rfl := Option.some.inj e
    exact ⟨Nat.le_succ _, Nat.le_succ _, Nat.le_refl _⟩
  rw [if_neg o13] at e
  by_cases o8 : x.f0 = 8
  · rw [if_pos o8] at e
    split at e
    · cases e
    · obtain rfl := Option.some.inj e
      exact ⟨Nat.le_succ _, Nat.le_succ _, Nat.le_refl _⟩
  rw [if_neg o8] at e
  by_cases o10 : x.f0 = 10
  · rw [if_pos o10] at e
    split at e
    · cases e
    · obtain rfl := Option.some.inj e
      exact ⟨Nat.le_succ _, Nat.le_succ _, Nat.le_refl _⟩
  rw [if_neg o10] at e
  by_cases o9 : x.f0 = 9
  · rw [if_pos o9] at e
    split at e
    · cases e
    · obtain rfl := Option.some.inj e
      exact ⟨by rw [hp]; exact Nat.le_succ _, Nat.le_succ _, by rw [hp]; exact Nat.le_refl _⟩
  rw [if_neg o9] at e
  split at e
  · cases e
  · obtain rfl := Option.some.inj e
    exact ⟨by rw [hp]; exact Nat.le_succ _, Nat.le_succ _, by rw [hp]; exact Nat.le_refl _⟩
structure SInv (ts : List ByteArray) (la gl : ByteArray) (code : List S46) (i : Nat) (s : PS) : Prop where
  pc0 : 0 ≤ s.pc
  pc1 : s.pc ≤ code.length
  wt : ∃ ty, WT (atv ts la) (atv ts gl) (size ts) (to_ ts) ty s
  objs : s.objs.length ≤ i
  out : s.out.length ≤ i
def PS0 : PS := ⟨fun _ => 0, [], [], 0, 0⟩
theorem SInv.start (ts : List ByteArray) (la gl : ByteArray) (code : List S46) : SInv ts la gl code 0 PS0 := ⟨Int.le_refl _, Int.natCast_nonneg _, ⟨[], WT.start _ _ _ _⟩, Nat.le_refl _, Nat.le_refl _⟩
theorem SInv.step {p : Pg} (h : SpP p) (hw : WfC p.code) {i : Nat} {s u : PS} (hI : SInv p.ts p.la p.gl p.code i s) (e : stepP (size p.ts) (atv p.ts p.la) p.code s = (u, false, 0)) : s.pc < p.code.length ∧ SInv p.ts p.la p.gl p.code (i + 1) u := by
  have hlt : s.pc < p.code.length := by
    rcases Int.lt_or_le s.pc p.code.length with h' | h'
    · exact h'
    · have : s.pc = p.code.length := by have := hI.pc1; omega
      unfold stepP at e
      rw [if_pos this] at e
      have := congrArg (fun p => p.2.1) e
      simp at this
  obtain ⟨ty, hty⟩ := hI.wt
  have h0 := hI.pc0
  obtain ⟨q, hq⟩ := Int.eq_ofNat_of_zero_le h0
  have hql : q < p.code.length := by omega
  have hx := hw.rd q hql
  have kk := SpP.kk h q hql
  obtain ⟨o, eo, qq⟩ := h.all q hql
  have hop := qq.op
  have hj := qq.jump
  have ho := hI.objs
  have ht := hI.out
  unfold stepP at e
  rw [if_neg (by omega), hq] at e
  by_cases hc : (rd_T46 p.code q).f0 = 3 ∨ ((rd_T46 p.code q).f0 = 4 ∧ s.n (rd_T46 p.code q).f1.toNat = 0)
  · rw [if_pos hc] at e
    obtain rfl := fst_eq e
    have := hj (by omega)
    exact ⟨hlt, this.1, this.2, ⟨ty, hty.pc _ _ _⟩, Nat.le_succ_of_le ho, Nat.le_succ_of_le ht⟩
  · rw [if_neg hc] at e
    by_cases h4 : (rd_T46 p.code q).f0 = 4
    · rw [if_pos h4] at e
      obtain rfl := fst_eq e
      exact ⟨hlt, by show (0 : Int) ≤ (q : Int) + 1; omega, by show (q : Int) + 1 ≤ _; omega, ⟨ty, hty.pc _ _ _⟩, Nat.le_succ_of_le ho, Nat.le_succ_of_le ht⟩
    · rw [if_neg h4] at e
      split at e
      · rename_i w hw'
        obtain rfl := fst_eq e
        have h5 := stepN_len hw'
        have h6 := (stepN_pc hw').1
        simp only at h5 h6
        exact ⟨hlt, by rw [h6]; omega, by rw [h6]; omega, stepN_wt kk hx.2.1.1 hx.2.2.1.1 (by omega) ⟨fun hh => hc (.inl hh), h4⟩ (hty.pc ((q : Int) + 1) (wrap64 (s.steps + 1)) s.out) hw', by omega, by omega⟩
      · have := congrArg (fun p => p.2.2) e
        simp at this
def runP (sz loc : Int → Int) (code : List S46) : Nat → PS → List Int × Int
  | 0, s => if (stepP sz loc code s).2.1 = true ∨ (stepP sz loc code s).2.2 ≠ 0 then (s.out, (stepP sz loc code s).2.2) else (s.out, 10)
  | k + 1, s => if (stepP sz loc code s).2.1 = true ∨ (stepP sz loc code s).2.2 ≠ 0 then (s.out, (stepP sz loc code s).2.2) else runP sz loc code k (stepP sz loc code s).1
structure LW (Ws wr : World) (s : PS) (cs : Array Value) : Prop where
  below : Below Ws.heap.size Ws wr
  row : wr.heap[Ws.heap.size]? = some (.cells cs 44 (0, 0))
  is : IsS wr (fun k => k ≠ Ws.heap.size) s cs
theorem LW.start (Ws : World) : LW Ws (Ws.alloc (.cells #[.int .i64 0, .int .i64 0, .int .i64 0, .int .i64 0, .int .i64 0, .int .i64 0, .int .i64 0, .int .i64 0, .int .i64 0, .int .i64 0, .int .i64 0, .int .i64 0, .int .i64 0, .int .i64 0, .int .i64 0, .int .i64 0, .int .i64 0, .int .i64 0, .int .i64 0, .int .i64 0, .slice none 0 0, .slice none 0 0, .int .i64 0, .int .i64 0] 44)) PS0 #[.int .i64 0, .int .i64 0, .int .i64 0, .int .i64 0, .int .i64 0, .int .i64 0, .int .i64 0, .int .i64 0, .int .i64 0, .int .i64 0, .int .i64 0, .int .i64 0, .int .i64 0, .int .i64 0, .int .i64 0, .int .i64 0, .int .i64 0, .int .i64 0, .int .i64 0, .int .i64 0, .slice none 0 0, .slice none 0 0, .int .i64 0, .int .i64 0] :=
  ⟨below_alloc (Below.refl _ _) _, heap_alloc_new _ _, none, [], 0, none, 0, rfl, Nat.le_refl _, Nat.le_refl _, fun W' _ => Objs.none W', fun W' _ => Kd.C_nil _ W'⟩
theorem LW.next {Ws wr w4 : World} {s u : PS} {cs cs' : Array Value} (h : LW Ws wr s cs) (hb : Below wr.heap.size wr w4) (hu : IsS w4 (fun k => k ≠ Ws.heap.size ∨ wr.heap.size ≤ k) u cs') (o : Obj) :
    LW Ws ((w4.alloc o).setRow Ws.heap.size cs') u cs' := by
  have hlt : Ws.heap.size < wr.heap.size := (Array.getElem?_eq_some_iff.1 h.row).1
  have h4 : w4.heap[Ws.heap.size]? = some (.cells cs 44 (0, 0)) := (hb.block _ hlt).trans h.row
  have hsz := hb.size
  refine ⟨below_row (below_alloc (below_step h.below hb) _) (Nat.le_refl _), ?_, ?_⟩
  · exact setRow_heap _ _ _ _ _ _ ((heap_old2 w4 o (by omega)).trans h4)
  · refine (hu.step fun k hk hl => ⟨?_, ?_⟩).mono fun k hk => (by rcases hk with hk | hk <;> omega)
    · exact (setRow_other _ _ k _ (by rcases hk with hk | hk <;> omega)).trans (heap_old2 w4 o hl)
    · simp
      omega
theorem LW.cell {Ws wr : World} {s : PS} {cs : Array Value} (h : LW Ws wr s cs) : ∃ oA hs oc tA tc, cs = stA s.n (.slice oA (hs : List Hd).length oc) (.slice tA s.out.length tc) s.pc s.steps ∧ hs.length = s.objs.length ∧
    (∀ j v, (stA s.n (.slice oA hs.length oc) (.slice tA s.out.length tc) s.pc s.steps)[j]? = some v → wr.cell? ⟨Ws.heap.size, j, none⟩ = some v) := by
  obtain ⟨oA, hs, oc, tA, tc, e, h1, h2, h3, h4⟩ := h.is
  refine ⟨oA, hs, oc, tA, tc, e, h3.now.len, fun j v hv => ?_⟩
  rw [cell_of_row _ _ j _ _ _ h.row, e]
  exact hv
theorem IsS.size {w : World} {P : Nat → Prop} {s : PS} {cs : Array Value} (h : IsS w P s cs) : cs.size = 24 := by
  obtain ⟨oA, hs, oc, tA, tc, rfl, _⟩ := h
  rfl
theorem IsS.one {w : World} {P : Nat → Prop} {s : PS} {cs : Array Value} (h : IsS w P s cs) : cs.toList.all (·.oneCell') = true := by
  obtain ⟨oA, hs, oc, tA, tc, rfl, _⟩ := h
  rfl
theorem stA_num (n : Nat → Int) (O T : Value) (pc st : Int) (k : Nat) (h : k < 20) : (stA n O T pc st)[k]? = some (.int .i64 (n k)) := (List.getElem?_toArray ..).trans (rowS n O T (.int .i64 pc) (.int .i64 st) k h)
end Go.Proofs.YtocechpmgfhenaaGreatDoor.ST

namespace Go.Proofs.YtocechpmgfhenaaGreatDoor.ST
open Go.RowKit Go.Proofs.YtocechpmgfhenaaGreatDoorW.PrintWords Go.Proofs.YtocechpmgfhenaaGreatDoor.Scan Go.Proofs.YtocechpmgfhenaaGreatDoor.F Go.Proofs.YtocechpmgfhenaaGreatDoor.KP Go.Proofs.YtocechpmgfhenaaGreatDoor.PL Go.Proofs.YtocechpmgfhenaaGreatDoor.NX Go.Proofs.YtocechpmgfhenaaGreatDoor.FP Go.Proofs.YtocechpmgfhenaaGreatDoor.FSF Go.Proofs.YtocechpmgfhenaaGreatDoor.B8 Go.Proofs.YtocechpmgfhenaaGreatDoor.ZP
set_option linter.unusedVariables false
set_option linter.unusedSectionVars false
theorem CkO.from {p : Pg} {w : World} (h : p.In w) (hs : SpP p) : CkO w p.A0 p.c0 p.ts p.la p.gl p.A3 p.c3 p.code := fun W hW => by
  refine (Check_c p W (h.below hW)).mono ?_
  rintro e w' ⟨r, er, rfl, h1, _, h2⟩
  obtain rfl := h1.2 hs
  exact ⟨⟨r, rfl⟩, h2⟩
theorem frB_sol {code : List S46} (hI : InR (nxt code) (code.length + 1)) : Sol (nxt code) code.length (FB code) (frB code) := fr_sol hI (FB_mono code) (nxt_last code)
def chP (x : S46) (s : PS) (v : Int) (a : Nat) : Int :=
  if x.f0 = 5 ∧ a = x.f1.toNat then ((s.objs.length + 1 : Nat) : Int) else if x.f0 = 6 ∧ a = x.f1.toNat then 0 else if x.f0 = 7 ∧ a = x.f1.toNat then s.n (8 + x.f2.toNat) else if (x.f0 = 10 ∨ x.f0 = 12) ∧ a = x.f1.toNat then v else s.n (8 + a)
section
variable {x : S46} {s : PS} {v : Int} {a : Nat}
theorem chP_other (h : (x.f0 = 5 ∨ x.f0 = 6 ∨ x.f0 = 7 ∨ x.f0 = 10 ∨ x.f0 = 12) → a ≠ x.f1.toNat) : chP x s v a = s.n (8 + a) := by
  unfold chP
  rw [if_neg (fun e => h (by omega) e.2), if_neg (fun e => h (by omega) e.2), if_neg (fun e => h (by omega) e.2), if_neg (fun e => h (by omega) e.2)]
theorem chP_5 (o : x.f0 = 5) (e : a = x.f1.toNat) : chP x s v a = ((s.objs.length + 1 : Nat) : Int) := if_pos ⟨o, e⟩
theorem chP_6 (o : x.f0 = 6) (e : a = x.f1.toNat) : chP x s v a = 0 := by
  unfold chP
  rw [if_neg (by omega), if_pos ⟨o, e⟩]
theorem chP_7 (o : x.f0 = 7) (e : a = x.f1.toNat) : chP x s v a = s.n (8 + x.f2.toNat) := by
  unfold chP
  rw [if_neg (by omega), if_neg (by omega), if_pos ⟨o, e⟩]
theorem chP_load (o : x.f0 = 10 ∨ x.f0 = 12) (e : a = x.f1.toNat) : chP x s v a = v := by
  unfold chP
  rw [if_neg (by omega), if_neg (by omega), if_neg (by omega), if_pos ⟨o, e⟩]
end
theorem stepN_P {sz loc : Int → Int} {x : S46} {s u : PS} (h1 : 0 ≤ x.f1) (h8 : x.f0 = 1 ∨ x.f0 = 2 ∨ x.f0 = 15 ∨ x.f0 = 8 → x.f1 < 8) (hop : 1 ≤ x.f0 ∧ x.f0 ≤ 15) (hj : x.f0 ≠ 3 ∧ x.f0 ≠ 4) (e : stepN sz loc x s = some u) (a : Nat) (ha : a < 8) :
    u.n (8 + a) = chP x s (u.n (8 + a)) a := by
  have hX : ∀ (v : Int), x.f1 < 8 → upd s.n x.f1.toNat v (8 + a) = s.n (8 + a) := fun v hl => upd_ne s.n v (by omega)
  have hG : ∀ (k : Nat) (v : Int), upd s.n (16 + k) v (8 + a) = s.n (8 + a) := fun k v => upd_ne s.n v (by omega)
  have hE : ∀ (v : Int), a = x.f1.toNat → upd s.n (8 + x.f1.toNat) v (8 + a) = v := fun v e => by rw [← e]; exact upd_same ..
  have hN : ∀ (v : Int), a ≠ x.f1.toNat → upd s.n (8 + x.f1.toNat) v (8 + a) = s.n (8 + a) := fun v e => upd_ne s.n v (by omega)
  unfold stepN at e
  by_cases o1 : x.f0 = 1
  · rw [if_pos o1] at e
    obtain rfl := Option.some.inj e
    exact (hX _ (h8 (by omega))).trans (chP_other fun o => by omega).symm
  rw [if_neg o1] at e
  by_cases o2 : x.f0 = 2
  · rw [if_pos o2] at e
    obtain rfl := Option.some.inj e
    exact (hX _ (h8 (by omega))).trans (chP_other fun o => by omega).symm
  rw [if_neg o2] at e
  by_cases o15 : x.f0 = 15
  · rw [if_pos o15] at e
    obtain rfl := Option.some.inj e
    exact (hX _ (h8 (by omega))).trans (chP_other fun o => by omega).symm
  rw [if_neg o15] at e
  by_cases o14 : x.f0 = 14
  · rw [if_pos o14] at e
    obtain rfl := Option.some.inj e
    exact (chP_other (x := x) (s := s) fun o => by omega).symm
  rw [if_neg o14] at e
  by_cases o5 : x.f0 = 5
  · rw [if_pos o5] at e
    obtain rfl := Option.some.inj e
    by_cases ea : a = x.f1.toNat
    · exact (hE _ ea).trans (chP_5 o5 ea).symm
    · exact (hN _ ea).trans (chP_other fun _ => ea).symm
  rw [if_neg o5] at e
  by_cases o6 : x.f0 = 6
  · rw [if_pos o6] at e
    obtain rfl := Option.some.inj e
    by_cases ea : a = x.f1.toNat
    · exact (hE _ ea).trans (chP_6 o6 ea).symm
    · exact (hN _ ea).trans (chP_other fun _ => ea).symm
  rw [if_neg o6] at e
  by_cases o7 : x.f0 = 7
  · rw [if_pos o7] at e
    obtain rfl := Option.some.inj e
    by_cases ea : a = x.f1.toNat
    · exact (hE _ ea).trans (chP_7 o7 ea).symm
    · exact (hN _ ea).trans (chP_other fun _ => ea).symm
  rw [if_neg o7] at e
  by_cases o12 : x.f0 = 12
  · rw [if_pos o12] at e
    obtain rfl := Option.some.inj e
    by_cases ea : a = x.f1.toNat
    · exact (chP_load (.inr o12) ea).symm
    · exact (hN _ ea).trans (chP_other fun _ => ea).symm
  rw [if_neg o12] at e
  by_cases o13 : x.f0 = 13
  · rw [if_pos o13] at e
    obtain rfl := Option.some.inj e
    exact (hG _ _).trans (chP_other fun o => by omega).symm
  rw [if_neg o13] at e
  by_cases o8 : x.f0 = 8
  · rw [if_pos o8] at e
    split at e
    · cases e
    · obtain rfl := Option.some.inj e
      exact (hX _ (h8 (by omega))).trans (chP_other fun o => by omega).symm
  rw [if_neg o8] at e
  by_cases o10 : x.f0 = 10
  · rw [if_pos o10] at e
    split at e
    · cases e
    · obtain rfl := Option.some.inj e
      by_cases ea : a = x.f1.toNat
      · exact (chP_load (.inl o10) ea).symm
      · exact (hN _ ea).trans (chP_other fun _ => ea).symm
  rw [if_neg o10] at e
  by_cases o9 : x.f0 = 9
  · rw [if_pos o9] at e
    split at e
    · cases e
    · obtain rfl := Option.some.inj e
      exact (chP_other (x := x) (s := s) fun o => by omega).symm
  rw [if_neg o9] at e
  split at e
  · cases e
  · obtain rfl := Option.some.inj e
    exact (chP_other (x := x) (s := s) fun o => by omega).symm
section
variable {p : Pg} (h : SpP p) (hw : WfC p.code)
include h hw
theorem step_next {s u : PS} (h0 : 0 ≤ s.pc) (h1 : s.pc < p.code.length) (e : stepP (size p.ts) (atv p.ts p.la) p.code s = (u, false, 0)) : u.pc ∈ nxt p.code s.pc := by
  unfold stepP at e
  rw [if_neg (by omega)] at e
  unfold nxt
  rw [if_pos ⟨h0, h1⟩]
  by_cases h3 : (rd_T46 p.code s.pc).f0 = 3
  · rw [if_pos (.inl h3)] at e
    obtain rfl := fst_eq e
    rw [if_pos h3, List.mem_singleton]
  · rw [if_neg h3]
    by_cases h4 : (rd_T46 p.code s.pc).f0 = 4
    · rw [if_pos h4]
      by_cases hz : s.n (rd_T46 p.code s.pc).f1.toNat = 0
      · rw [if_pos (.inr ⟨h4, hz⟩)] at e
        obtain rfl := fst_eq e
        show (rd_T46 p.code s.pc).f4 ∈ _
        repeat' split
        · exact List.mem_cons_self ..
        · exact List.mem_cons_of_mem _ (List.mem_cons_self ..)
        · rw [List.mem_singleton]
          omega
      · rw [if_neg (by rintro (h | h); exact h3 h; exact hz h.2), if_pos h4] at e
        obtain rfl := fst_eq e
        show s.pc + 1 ∈ _
        repeat' split
        · exact List.mem_cons_of_mem _ (List.mem_cons_self ..)
        · exact List.mem_cons_self ..
        · exact List.mem_cons_self ..
    · rw [if_neg h4]
      rw [if_neg (by rintro (h | h); exact h3 h; exact h4 h.1), if_neg h4] at e
      split at e
      · rename_i w hw'
        obtain rfl := fst_eq e
        rw [(stepN_pc hw').1, List.mem_singleton]
      · have := congrArg (fun z => z.2.2) e
        simp at this
def New (code : List S46) (old : Int) (s : PS) : Prop := ∀ a : Nat, a < 8 → (g (frB code) s.pc.toNat).getLsbD a = true → s.n (8 + a) = 0 ∨ old < s.n (8 + a)
theorem step_new {old : Int} {s u : PS} (h0 : 0 ≤ s.pc) (h1 : s.pc < p.code.length) (hold : old ≤ s.objs.length) (hn : New p.code old s) (e : stepP (size p.ts) (atv p.ts p.la) p.code s = (u, false, 0)) :
    New p.code (if sf p.code s.pc = true then (s.objs.length : Int) else old) u := by
  have hI := SpP.inR h
  have hm := step_next h hw h0 h1 e
  obtain ⟨q, hq⟩ := Int.eq_ofNat_of_zero_le h0
  rw [hq] at hm h1
  have hql : q < p.code.length := by omega
  have hsol := (frB_sol hI).2 q (by omega) u.pc hm
  have hout : FB p.code q (g (frB p.code) q) = outI (sf p.code q) (rd_T46 p.code q) (g (frB p.code) q) := if_pos ⟨by omega, by omega⟩
  rw [hout] at hsol
  have hop : 1 ≤ (rd_T46 p.code q).f0 ∧ (rd_T46 p.code q).f0 ≤ 15 := by
    obtain ⟨o, eo, qq⟩ := h.all q hql
    have := qq.op
    omega
  have hx := hw.rd q hql
  have kk := SpP.kk h q hql
  unfold New at hn
  rw [hq, Int.toNat_natCast] at hn
  rw [hq]
  unfold stepP at e
  rw [if_neg (by omega), hq] at e
  obtain ⟨x, hx'⟩ : ∃ x, x = rd_T46 p.code (q : Int) := ⟨_, rfl⟩
  have hsf : sf p.code (q : Int) = true ↔ x.f0 = 5 ∨ ((x.f0 = 3 ∨ x.f0 = 4) ∧ x.f4 ≤ q) := by
    unfold sf
    rw [decide_eq_true_iff, ← hx']
    exact ⟨fun h => h.2, fun h => ⟨⟨by omega, by omega⟩, h⟩⟩
  rw [← hx'] at e hsol hop hx kk
  intro a ha hb
  have hb' := hsol a hb
  rw [outI_bit] at hb'
  by_cases hj : x.f0 = 3 ∨ x.f0 = 4
  ·
    have hun : u.n (8 + a) = s.n (8 + a) := by
      by_cases hc : x.f0 = 3 ∨ (x.f0 = 4 ∧ s.n x.f1.toNat = 0)
      · rw [if_pos hc] at e
        obtain rfl := fst_eq e
        rfl
      · rw [if_neg hc, if_pos (by omega)] at e
        obtain rfl := fst_eq e
        rfl
    rw [if_neg (by omega), if_neg (by omega), if_neg (by omega)] at hb'
    rw [if_neg (by rw [hb'.1]; decide), hun]
    exact hn a ha hb'.2
  · rw [if_neg (by omega), if_neg (by omega)] at e
    split at e
    · rename_i w hw'
      obtain rfl := fst_eq e
      have hP := stepN_P hx.2.1.1 (fun o => kk.ia (by omega)) hop ⟨by omega, by omega⟩ hw' a ha
      have hA : (own x.f1).getLsbD a = true ↔ x.f1.toNat = a ∧ a < 8 := own_bit ..
      by_cases o5 : x.f0 = 5
      · rw [if_pos (hsf.2 (.inl o5))]
        rw [if_pos (.inl o5), (hsf.2 (.inl o5))] at hb'
        have := (hA.1 (hb'.resolve_left fun h => by cases h.1)).1
        rw [hP, chP_5 o5 this.symm]
        right
        show (s.objs.length : Int) < ((s.objs.length + 1 : Nat) : Int)
        omega
      · have hns : sf p.code (q : Int) = false := by
          cases hc : sf p.code (q : Int) with
          | false => rfl
          | true =>
            have := hsf.1 hc
            omega
        rw [if_neg (by rw [hns]; decide)]
        rw [hns] at hb'
        by_cases o6 : x.f0 = 6
        · by_cases ea : a = x.f1.toNat
          · rw [hP, chP_6 o6 ea]
            exact .inl rfl
          · rw [hP, chP_other fun _ => ea]
            rw [if_pos (.inr o6)] at hb'
            exact hn a ha (hb'.resolve_right fun h => ea (hA.1 h).1.symm).2
        · rw [if_neg (by omega)] at hb'
          by_cases o7 : x.f0 = 7
          · rw [if_pos o7] at hb'
            by_cases ea : a = x.f1.toNat
            · rw [hP, chP_7 o7 ea]
              rw [if_pos (hA.2 ⟨ea.symm, ha⟩)] at hb'
              have hbl := kk.pb (.inl o7)
              exact hn x.f2.toNat (by omega) hb'.2
            · rw [hP, chP_other fun _ => ea]
              rw [if_neg (fun h => ea (hA.1 h).1.symm)] at hb'
              exact hn a ha hb'.2
          · rw [if_neg o7] at hb'
            by_cases o10 : x.f0 = 10 ∨ x.f0 = 12
            · rw [if_pos o10] at hb'
              have ea : ¬ a = x.f1.toNat := fun ea => by
                have := hA.2 ⟨ea.symm, ha⟩
                rw [this] at hb'
                cases hb'.2
              rw [hP, chP_other fun _ => ea]
              exact hn a ha hb'.1.2
            · rw [if_neg o10] at hb'
              rw [hP, chP_other fun o => by omega]
              exact hn a ha hb'.2
    · have := congrArg (fun z => z.2.2) e
      simp at this
end
end Go.Proofs.YtocechpmgfhenaaGreatDoor.ST

namespace Go.Proofs.YtocechpmgfhenaaGreatDoor.PF
open Go.RowKit Go.Proofs.YtocechpmgfhenaaGreatDoorW.PrintWords Go.Proofs.YtocechpmgfhenaaGreatDoor.F Go.Proofs.YtocechpmgfhenaaGreatDoor.KP Go.Proofs.YtocechpmgfhenaaGreatDoor.CR Go.Proofs.YtocechpmgfhenaaGreatDoor.PL Go.Proofs.YtocechpmgfhenaaGreatDoor.FP Go.Proofs.YtocechpmgfhenaaGreatDoor.FSF Go.Proofs.YtocechpmgfhenaaGreatDoor.PK Go.Proofs.YtocechpmgfhenaaGreatDoor.NX Go.Proofs.YtocechpmgfhenaaGreatDoor.FG Go.Proofs.YtocechpmgfhenaaGreatDoor.ZP Go.Proofs.YtocechpmgfhenaaGreatDoor.LK Go.Proofs.YtocechpmgfhenaaGreatDoor.RFL Go.Proofs.YtocechpmgfhenaaGreatDoor.FUL Go.Proofs.YtocechpmgfhenaaGreatDoor.B8 Go.Proofs.YtocechpmgfhenaaGreatDoor.ST Go.Proofs.YtocechpmgfhenaaGreatDoor.ST0
set_option linter.unusedVariables false
set_option linter.unusedSimpArgs false
theorem Step_c {p : Pg} {w w3 wr : World} (h : p.In w) (hsp : SpP p) (hb0 : Below w.heap.size w w3) {k : Nat} {s u : PS} {cs : Array Value} {d : Bool} {er : Int} (hL : LW w3 wr s cs) (hI : SInv p.ts p.la p.gl p.code k s) (hk : k ≤ 1000000) (hst : stepP (size p.ts) (atv p.ts p.la) p.code s = (u, d, er)) :
    ∀ W, Below wr.heap.size wr W → Calls Tryz.prog 14 #[p.v, .agg cs] W fun e w' => ∃ cs', e = .returned (.tuple #[.agg cs', .bool d, .int .i64 er]) ∧ IsS w' (fun k => k ≠ w3.heap.size ∨ W.heap.size ≤ k) u cs' ∧ Below W.heap.size W w' := fun W hW => by
  have hb := below_step (below_step hb0 hL.below) hW
  have hp := h.below hb
  have hob := hI.objs
  have hou := hI.out
  obtain ⟨ty, hty⟩ := hI.wt
  have := Step_ps (P := fun k => k ≠ w3.heap.size) hp.hT hp.hc0 hp.hC hp.hc3 ((CkO.from h hsp).below hb) hsp hp.hl hp.hs hp.hla hp.hgl hp.hw (hL.is.below hW) hty hI.pc0 hI.pc1 (by omega) (by omega)
  rw [hst] at this
  exact this
theorem stepP_objs {sz loc : Int → Int} {code : List S46} {s u : PS} (e : stepP sz loc code s = (u, false, 0)) : s.objs.length ≤ u.objs.length := by
  unfold stepP at e
  split at e
  · cases fst_eq e
    exact Nat.le_refl _
  · split at e
    · cases fst_eq e
      exact Nat.le_refl _
    · split at e
      · cases fst_eq e
        exact Nat.le_refl _
      · split at e
        · rename_i h
          cases fst_eq e
          exact (stepN_len h).2.2
        · cases fst_eq e
          exact Nat.le_refl _
theorem best_pl {p : Pg} (hsp : SpP p) {q : Nat} (hq : q < p.code.length) {o : Int} {s : PS} (hpc : s.pc = q) (hn : New p.code o s) (h : (bestF p q).pl = true) : (rd_T46 p.code q).f0 = 11 ∧ (rd_T46 p.code q).f1 < 8 ∧ (s.n (8 + (rd_T46 p.code q).f1.toNat) = 0 ∨ o < s.n (8 + (rd_T46 p.code q).f1.toNat)) := by
  have kk := SpP.kk hsp q hq
  unfold bestF at h
  split at h
  · cases h
  · split at h
    · rename_i h11
      have h8 := kk.pa (by omega)
      refine ⟨h11, h8, ?_⟩
      rcases Int.lt_or_le (rd_T46 p.code q).f1 0 with h0 | h0
      · rw [Int.toNat_of_nonpos (by omega)] at h ⊢
        exact hn 0 (by omega) (by rw [hpc, Int.toNat_natCast]; exact h)
      · exact hn _ (by omega) (by rw [hpc, Int.toNat_natCast]; exact h)
    · cases h
set_option maxHeartbeats 16000000 in
set_option maxRecDepth 100000 in
theorem PlanPlain_walk (w : World) (p : Pg) (hp : p.On w) (hin : p.In w) (many : Int) (hm0 : 0 ≤ many) (hm1 : many ≤ 255) : Calls Tryz.prog 4 #[p.v, .int .u8 many] w fun e w' => e = .returned (.bool true) ∧ Below w.heap.size w w' := by
  obtain ⟨many, rfl⟩ := Int.eq_ofNat_of_zero_le hm0
  obtain ⟨b, hb, hS⟩ := Sound_c p w hin
  have SO := Aside0.mk hS
  have AL := Aside0.mk (fun W (hW : Below w.heap.size w W) => alive_c W (OT_below hp.ot hW))
  cases b with
  | false =>
    clear hp hin hb hS
    obtain ⟨A0, c0, ts, la, gl, A3, c3, code⟩ := p
    try simp only at SO
    show Calls _ _ #[.agg #[.slice A0 ts.length c0, .string la, .string gl, .slice A3 code.length c3], _] _ _
    go_enter Tryz.func4, Tryz.ntmps4
    go_wp2_with (first
      | (go_at_call 9; (with_reducible refine (AL.out _ HB.out).mono ?_); rintro e w1 ⟨rfl, hb⟩; have HB := Aside0.mk (below_step HB.out hb); clear hb)
      | (go_at_call 10; (with_reducible refine (SO.out _ (below_alloc (Below.refl _ _) _)).mono ?_); rintro e w2 ⟨rfl, hb⟩; have HB := Aside0.mk (below_step (below_alloc (Below.refl _ _) _) hb); clear hb))
    go_ret
    exact ⟨rfl, HB.out⟩
  | true =>
    obtain ⟨hsp, h60⟩ := hb rfl
    have BE := Aside0.mk (show ∀ W, Below w.heap.size w W → Calls Tryz.prog 11 #[p.v] W fun e w' => ∃ g, e = .returned (.tuple #[.slice (some ⟨g, 0, none⟩) p.code.length p.code.length, .int .i64 0]) ∧ Below W.heap.size W w' ∧ RowF w' g p.code.length (bestF p) ∧ W.heap.size ≤ g from fun W hW => (Best_c p W (hp.below hW) (by have := hsp.locals; omega) (by omega)).mono fun e w' ⟨er, v, h1, h2, h3, h4, _⟩ => by
      obtain rfl := h2.2 hsp
      obtain ⟨g, rfl, hg, h5⟩ := h4 rfl
      exact ⟨g, h1, h3, h5, hg⟩)
    have SF := Aside0.mk (fun W (hW : Below w.heap.size w W) k => rSafe_c p W (hin.below hW) k)
    have ST := Aside0.mk (fun w3 wr k s u cs d er (hb0 : Below w.heap.size w w3) hL hI hk hst => Step_c (wr := wr) (k := k) (s := s) (u := u) (cs := cs) (d := d) (er := er) hin hsp hb0 hL hI hk hst)
    have BP := Aside0.mk (fun (q : Nat) (hq : q < p.code.length) (o : Int) (s : PS) (hpc : s.pc = q) (hn : New p.code o s) (h : (bestF p q).pl = true) => best_pl hsp hq hpc hn h)
    have SI := Aside0.mk (fun i s u hI e => SInv.step (i := i) (s := s) (u := u) hsp hp.hw hI e)
    have SN := Aside0.mk (fun old s u h0 h1 ho hn e => step_new (old := old) (s := s) (u := u) hsp hp.hw h0 h1 ho hn e)
    have HC := Aside0.mk hp.hC
    have HWF := Aside0.mk hp.hw
    clear hp hin hb hS hsp
    generalize bestF p = bf at BE BP
    obtain ⟨A0, c0, ts, la, gl, A3, c3, code⟩ := p
    try simp only at SO BE HC h60 SF ST BP SI SN
    change Aside0 (WfC code) at HWF
    show Calls _ _ #[.agg #[.slice A0 ts.length c0, .string la, .string gl, .slice A3 code.length c3], _] _ _
    go_enter Tryz.func4, Tryz.ntmps4
    go_wp2_with (first
      | (go_at_call 10; (with_reducible refine (SO.out _ (below_alloc (Below.refl _ _) _)).mono ?_); rintro e w2 ⟨rfl, hb⟩; have HB := Aside0.mk (below_step (below_alloc (Below.refl _ _) _) hb); have HR := Aside0.mk ((hb.block w.heap.size (by simp)).trans (heap_alloc_new w _)); clear hb)
      | (go_at_call 9; (with_reducible refine (AL.out _ HB.out).mono ?_); rintro e w1 ⟨rfl, hb⟩; have HB := Aside0.mk (below_step HB.out hb); have HR := Aside0.mk ((hb.block _ (blk_lt HR.out)).trans HR.out); have y0 := (blk_cell HR.out 0).trans (rfl : _ = some (Value.slice A0 ts.length c0)); have y1 := (blk_cell HR.out 1).trans (rfl : _ = some (Value.string la)); have y2 := (blk_cell HR.out 2).trans (rfl : _ = some (Value.string gl)); have y3 := (blk_cell HR.out 3).trans (rfl : _ = some (Value.slice A3 code.length c3)); clear hb)
      | (go_at_call 11; (with_reducible refine (BE.out _ HB.out).mono ?_); rintro e w3 ⟨g, rfl, hb, hrow, hg⟩; have HB := Aside0.mk (below_step HB.out hb); have HL := Aside0.mk hrow; have HG := Aside0.mk hg; have HR := Aside0.mk ((hb.block _ (blk_lt HR.out)).trans HR.out); have y0 := (blk_cell HR.out 0).trans (rfl : _ = some (Value.slice A0 ts.length c0)); have y1 := (blk_cell HR.out 1).trans (rfl : _ = some (Value.string la)); have y2 := (blk_cell HR.out 2).trans (rfl : _ = some (Value.string gl)); have y3 := (blk_cell HR.out 3).trans (rfl : _ = some (Value.slice A3 code.length c3)); clear hb hrow hg))
    have hLW := Aside0.mk (LW.start w3)
    have hN0 := Aside0.mk (show New code 0 PS0 from fun a _ _ => .inl rfl)
    clear y0 y1 y2 y3
    go_loopw [8, 38] (fun old i wr => ∃ (k : Nat) (o : Nat) (s : PS) (cs : Array Value), i = .int .i64 k ∧ old = .int .i64 o ∧ k ≤ many ∧ LW w3 wr s cs ∧ SInv ts la gl code k s ∧ New code o s ∧ o ≤ s.objs.length) (fun _ i _ => many - (intOf i).toNat)
    case atStart => exact ⟨0, 0, PS0, _, rfl, rfl, Nat.zero_le _, hLW.out, SInv.start .., hN0.out, Nat.le_refl _⟩
    case round =>
      obtain ⟨k, o, s, cs, rfl, rfl, hk, hL, hI, hN, ho⟩ := hrel
      have hlt3 : w.heap.size < w3.heap.size := blk_lt HR.out
      obtain ⟨wr', hwr⟩ : ∃ x : World, x = wr := ⟨_, rfl⟩
      subst hwr
      have HLW := Aside0.mk hL
      have HI := Aside0.mk hI
      have HN := Aside0.mk hN
      have HB3 := Aside0.mk (below_step HB.out hL.below)
      by_cases hlt : k < many
      · have KP := Aside0.mk (fun W (hW : Below wr'.heap.size wr' W) j => cell_of_row W w.heap.size j _ _ _ ((hW.block _ (Nat.lt_of_lt_of_le hlt3 hL.below.size)).trans ((hL.below.block w.heap.size hlt3).trans HR.out)))
        obtain ⟨oA, hs, oc, tA, tc, ecs, ehs, hcell⟩ := hL.cell
        obtain ⟨q, hq⟩ := Int.eq_ofNat_of_zero_le hI.pc0
        have hpc := hI.pc1
        have kpc : wr'.cell? ⟨w3.heap.size, 22, none⟩ = some (.int .i64 s.pc) := hcell 22 _ rfl
        have kob : wr'.cell? ⟨w3.heap.size, 20, none⟩ = some (.slice oA hs.length oc) := hcell 20 _ rfl
        rw [hq] at kpc hpc
        have hql : q ≤ code.length := by omega
        have hcz := hL.is.size
        obtain ⟨u, d, er, hst⟩ : ∃ u d er, stepP (size ts) (atv ts la) code s = (u, d, er) := ⟨_, _, _, rfl⟩
        have STEP := Aside0.mk (ST.out w3 wr' k s u cs d er HB.out hL hI (by omega) hst)
        have SAFE := Aside0.mk (fun W (hW : Below wr'.heap.size wr' W) => SF.out W (below_step HB3.out hW) (q : Int))
        have HWN := Aside0.mk (show ∀ W : World, Below wr'.heap.size wr' W → W.heap[w3.heap.size]? = some (.cells cs 44 (0, 0)) from fun W hW => (hW.block _ (blk_lt hL.row)).trans hL.row)
        have HST := Aside0.mk hst
        have HQ := Aside0.mk hq
        have EH := Aside0.mk ehs
        have HCL := Aside0.mk hcell
        have HPT := Aside0.mk hL.row
        have kp := KP.out wr' (Below.refl _ _)
        clear hL hI hN hst hcell ecs ehs hpc
        obtain ⟨bs, hbs⟩ : ∃ bs, sf code q = bs := ⟨_, rfl⟩
        rw [hbs] at SAFE
        have HBS := Aside0.mk hbs
        clear hbs
        have h3 : (q < code.length ∧ (bf q).pl = true) ∨ (q < code.length ∧ (bf q).pl = false) ∨ q = code.length := by
          cases (bf q).pl with
          | true => by_cases h : q < code.length; exact .inl ⟨h, rfl⟩; exact .inr (.inr (by omega))
          | false => by_cases h : q < code.length; exact .inr (.inl ⟨h, rfl⟩); exact .inr (.inr (by omega))
        have q0 : (0 : Int) ≤ q := by omega
        refine h3.elim ?c1 fun h => h.elim ?c2 ?c3
        case' c3 =>
          intro hqe
          have hqn : ¬ (q : Int) < code.length := by omega
          clear h h3 hqe
          go_upto_region 14 with (fail)
        case' c2 =>
          rintro ⟨hqn, hpl⟩
          have q1 : (q : Int) < code.length := by omega
          obtain ⟨z0, z1, z2⟩ := (HL.out.move ((HLW.out.below.block _ HL.out.lt))).at hqn
          rw [hpl] at z2
          clear z0 z1 h h3
          go_upto_region 14 with (fail)
        case' c1 =>
          rintro ⟨hqn, hpl⟩
          have q1 : (q : Int) < code.length := by omega
          obtain ⟨z0, z1, z2⟩ := (HL.out.move ((HLW.out.below.block _ HL.out.lt))).at hqn
          obtain ⟨e11, e8, eP⟩ := BP.out q hqn o s HQ.out HN.out hpl
          obtain ⟨ad, eA, hy⟩ := at_box HC.out q hqn
          subst eA
          obtain ⟨j0, j1, j2, j3, j4⟩ := hy _ HB3.out
          have hwf := (HWF.out.rd q hqn).2.1
          obtain ⟨a, ha⟩ := Int.eq_ofNat_of_zero_le hwf.1
          rw [e11] at j0
          rw [ha] at j1 e8 eP
          rw [Int.toNat_natCast] at eP
          have kP : wr'.cell? ⟨w3.heap.size, 8 + a, none⟩ = some (.int .i64 (s.n (8 + a))) := HCL.out (8 + a) _ (stA_num _ _ _ _ _ _ (by omega))
          rw [hpl] at z2
          have a0 : (0 : Int) ≤ a := by omega
          have at8 : (a : Int).tmod 8 = a := by rw [Int.tmod_eq_emod_of_nonneg a0]; omega
          generalize s.n (8 + a) = v at kP eP
          clear hwf hy j2 j3 j4 z0 z1 ha h3
          go_upto_region 14 with (fail)
          all_goals try (exfalso; omega)
        all_goals
          cases bs with
          | true =>
            cases d with
            | true =>
              go_wp2_with (first
                | (go_at_call 13; (with_reducible refine (SAFE.out wr' (Below.refl _ _)).mono ?_); rintro e w5 ⟨rfl, hb5⟩; have b5 := HWN.out w5 hb5; have kp5 := KP.out w5 hb5; have k20 := (hb5.cell (p := ⟨w3.heap.size, 20, none⟩) (blk_lt HPT.out)).trans kob; have HB5 := Aside0.mk hb5; clear hb5)
                | (go_at_call 14; (with_reducible refine (STEP.out w5 HB5.out).mono ?_); rintro e w6 ⟨cs', rfl, hS6, hb6⟩; have hz6 := hS6.size; have ho6 := hS6.one; have b6 := HWN.out w6 (below_step HB5.out hb6); have hz36 := blk_lt b6; have HS6 := Aside0.mk hS6; have HB6 := Aside0.mk hb6; clear hS6 hb6)
                | (apply ldS; (with_reducible rfl); rfl; rfl; exact rowT; (first | rfl | assumption))
                | (apply srS; (with_reducible rfl); rfl; rfl; rfl; exact rowT; (first | rfl | assumption); (first | rfl | assumption); (first | rfl | assumption); exact setT))
              go_ret
              exact ⟨rfl, below_alloc (below_step HB3.out (below_step HB5.out HB6.out)) _⟩
            | false =>
              by_cases her : er = 0
              · subst her
                go_wp2_with (first
                  | (go_at_call 13; (with_reducible refine (SAFE.out wr' (Below.refl _ _)).mono ?_); rintro e w5 ⟨rfl, hb5⟩; have b5 := HWN.out w5 hb5; have kp5 := KP.out w5 hb5; have k20 := (hb5.cell (p := ⟨w3.heap.size, 20, none⟩) (blk_lt HPT.out)).trans kob; have HB5 := Aside0.mk hb5; clear hb5)
                  | (go_at_call 14; (with_reducible refine (STEP.out w5 HB5.out).mono ?_); rintro e w6 ⟨cs', rfl, hS6, hb6⟩; have hz6 := hS6.size; have ho6 := hS6.one; have b6 := HWN.out w6 (below_step HB5.out hb6); have hz36 := blk_lt b6; have HS6 := Aside0.mk hS6; have HB6 := Aside0.mk hb6; clear hS6 hb6)
                  | (apply ldS; (with_reducible rfl); rfl; rfl; exact rowT; (first | rfl | assumption))
                  | (apply srS; (with_reducible rfl); rfl; rfl; rfl; exact rowT; (first | rfl | assumption); (first | rfl | assumption); (first | rfl | assumption); exact setT))
                go_roundw
                case rel =>
                  have hs2 := SI.out k s u HI.out HST.out
                  have hn2 := SN.out o s u HI.out.pc0 hs2.1 (by omega) HN.out HST.out
                  rw [HQ.out, HBS.out] at hn2
                  refine ⟨k + 1, s.objs.length, u, cs', by go_num, by rw [EH.out], by omega, HLW.out.next (below_step HB5.out HB6.out) (HS6.out.mono fun k hk => hk.imp id fun h => Nat.le_trans HB5.out.size h) _, hs2.2, hn2, stepP_objs HST.out⟩
                case measure =>
                  simp [intOf]
                  omega
              · have hne : (er != 0) = true := by simpa using her
                go_wp2_with (first
                  | (go_at_call 13; (with_reducible refine (SAFE.out wr' (Below.refl _ _)).mono ?_); rintro e w5 ⟨rfl, hb5⟩; have b5 := HWN.out w5 hb5; have kp5 := KP.out w5 hb5; have k20 := (hb5.cell (p := ⟨w3.heap.size, 20, none⟩) (blk_lt HPT.out)).trans kob; have HB5 := Aside0.mk hb5; clear hb5)
                  | (go_at_call 14; (with_reducible refine (STEP.out w5 HB5.out).mono ?_); rintro e w6 ⟨cs', rfl, hS6, hb6⟩; have hz6 := hS6.size; have ho6 := hS6.one; have b6 := HWN.out w6 (below_step HB5.out hb6); have hz36 := blk_lt b6; have HS6 := Aside0.mk hS6; have HB6 := Aside0.mk hb6; clear hS6 hb6)
                  | (apply ldS; (with_reducible rfl); rfl; rfl; exact rowT; (first | rfl | assumption))
                  | (apply srS; (with_reducible rfl); rfl; rfl; rfl; exact rowT; (first | rfl | assumption); (first | rfl | assumption); (first | rfl | assumption); exact setT))
                go_ret
                exact ⟨rfl, below_alloc (below_step HB3.out (below_step HB5.out HB6.out)) _⟩
          | false =>
            cases d with
            | true =>
              go_wp2_with (first
                | (go_at_call 13; (with_reducible refine (SAFE.out wr' (Below.refl _ _)).mono ?_); rintro e w5 ⟨rfl, hb5⟩; have b5 := HWN.out w5 hb5; have kp5 := KP.out w5 hb5; have k20 := (hb5.cell (p := ⟨w3.heap.size, 20, none⟩) (blk_lt HPT.out)).trans kob; have HB5 := Aside0.mk hb5; clear hb5)
                | (go_at_call 14; (with_reducible refine (STEP.out w5 HB5.out).mono ?_); rintro e w6 ⟨cs', rfl, hS6, hb6⟩; have hz6 := hS6.size; have ho6 := hS6.one; have b6 := HWN.out w6 (below_step HB5.out hb6); have hz36 := blk_lt b6; have HS6 := Aside0.mk hS6; have HB6 := Aside0.mk hb6; clear hS6 hb6)
                | (apply ldS; (with_reducible rfl); rfl; rfl; exact rowT; (first | rfl | assumption))
                | (apply srS; (with_reducible rfl); rfl; rfl; rfl; exact rowT; (first | rfl | assumption); (first | rfl | assumption); (first | rfl | assumption); exact setT))
              go_ret
              exact ⟨rfl, below_alloc (below_step HB3.out (below_step HB5.out HB6.out)) _⟩
            | false =>
              by_cases her : er = 0
              · subst her
                go_wp2_with (first
                  | (go_at_call 13; (with_reducible refine (SAFE.out wr' (Below.refl _ _)).mono ?_); rintro e w5 ⟨rfl, hb5⟩; have b5 := HWN.out w5 hb5; have kp5 := KP.out w5 hb5; have k20 := (hb5.cell (p := ⟨w3.heap.size, 20, none⟩) (blk_lt HPT.out)).trans kob; have HB5 := Aside0.mk hb5; clear hb5)
                  | (go_at_call 14; (with_reducible refine (STEP.out w5 HB5.out).mono ?_); rintro e w6 ⟨cs', rfl, hS6, hb6⟩; have hz6 := hS6.size; have ho6 := hS6.one; have b6 := HWN.out w6 (below_step HB5.out hb6); have hz36 := blk_lt b6; have HS6 := Aside0.mk hS6; have HB6 := Aside0.mk hb6; clear hS6 hb6)
                  | (apply ldS; (with_reducible rfl); rfl; rfl; exact rowT; (first | rfl | assumption))
                  | (apply srS; (with_reducible rfl); rfl; rfl; rfl; exact rowT; (first | rfl | assumption); (first | rfl | assumption); (first | rfl | assumption); exact setT))
                go_roundw
                case rel =>
                  have hs2 := SI.out k s u HI.out HST.out
                  have hn2 := SN.out o s u HI.out.pc0 hs2.1 (by omega) HN.out HST.out
                  rw [HQ.out, HBS.out] at hn2
                  refine ⟨k + 1, o, u, cs', by go_num, rfl, by omega, HLW.out.next (below_step HB5.out HB6.out) (HS6.out.mono fun k hk => hk.imp id fun h => Nat.le_trans HB5.out.size h) _, hs2.2, hn2, Nat.le_trans ho (stepP_objs HST.out)⟩
                case measure =>
                  simp [intOf]
                  omega
              · have hne : (er != 0) = true := by simpa using her
                go_wp2_with (first
                  | (go_at_call 13; (with_reducible refine (SAFE.out wr' (Below.refl _ _)).mono ?_); rintro e w5 ⟨rfl, hb5⟩; have b5 := HWN.out w5 hb5; have kp5 := KP.out w5 hb5; have k20 := (hb5.cell (p := ⟨w3.heap.size, 20, none⟩) (blk_lt HPT.out)).trans kob; have HB5 := Aside0.mk hb5; clear hb5)
                  | (go_at_call 14; (with_reducible refine (STEP.out w5 HB5.out).mono ?_); rintro e w6 ⟨cs', rfl, hS6, hb6⟩; have hz6 := hS6.size; have ho6 := hS6.one; have b6 := HWN.out w6 (below_step HB5.out hb6); have hz36 := blk_lt b6; have HS6 := Aside0.mk hS6; have HB6 := Aside0.mk hb6; clear hS6 hb6)
                  | (apply ldS; (with_reducible rfl); rfl; rfl; exact rowT; (first | rfl | assumption))
                  | (apply srS; (with_reducible rfl); rfl; rfl; rfl; exact rowT; (first | rfl | assumption); (first | rfl | assumption); (first | rfl | assumption); exact setT))
                go_ret
                exact ⟨rfl, below_alloc (below_step HB3.out (below_step HB5.out HB6.out)) _⟩
      · go_wp2
        go_ret
        exact ⟨rfl, HB3.out⟩
end Go.Proofs.YtocechpmgfhenaaGreatDoor.PF

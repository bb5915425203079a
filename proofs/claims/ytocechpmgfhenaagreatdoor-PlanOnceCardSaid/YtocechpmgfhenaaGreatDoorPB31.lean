/- Texts of this claim, pruned to what it needs and laid together by prune.py. -/
import Derived.Test.YtocechpmgfhenaaGreatDoorProg
import Derived.Maps.OwnSet
import Derived.KernelRfl
import Derived.RowKit3
import Derived.Test.YtocechpmgfhenaaGreatDoorPB29
namespace Go.Proofs.YtocechpmgfhenaaGreatDoor.MB
open Go.RowKit Go.Maps
set_option linter.unusedVariables false
theorem plainElem_bool_inv {H : Type} {P : Program} {e : TypeId} (he : P.underlying e = some .bool) {v : Value} {z : DataW H × List MemPlace} (h : plainElem P e v = some z) : ∃ a, v = .bool a ∧ z = (.lit (.bool a), []) := by
  cases v with
  | bool x =>
    simp [plainElem, he] at h
    exact ⟨x, rfl, h.symm⟩
  | _ => simp [plainElem, he] at h
theorem keyed : Maps.Keyed Tryz.prog 3 := int_keyed Tryz.underlying3
theorem zero_bool (w : World) : (zeroValue 4).run Tryz.prog w = .ok (.bool false) w := by kernel_rfl
def SetM (w : World) (b n : Nat) (f : Int → Bool) : Prop :=
  ∃ D : DataW Unit, w.ownsMap Tryz.prog 3 (plainElem Tryz.prog 4) b n D ∧ ∀ m : Int, (Lit.int .i64 m).wf = true → D.atKey (.int .i64 m) (.lit (.bool false)) = .lit (.bool (f m))
theorem set_new (w : World) : SetM (w.alloc (.map #[] 0)) w.heap.size 0 (fun _ => false) := ⟨_, World.ownsMap_made w _ _ _, fun m _ => rfl⟩
theorem key_of {m : Int} (h : (Lit.int .i64 m).wf = true) : keyOf Tryz.prog 3 (.int .i64 m) = some (.int .i64 m) := by
  rw [keyOf_int Tryz.underlying3]
  simp [mapKey, Tryz.underlying3, h]
theorem SetM.look {w : World} {b n : Nat} {f : Int → Bool} (h : SetM w b n f) {m : Int} (hm : (Lit.int .i64 m).wf = true) : (Instr.lookup 53 (.map (some b)) (.int .i64 m) false).run Tryz.prog w = .ok (.bool (f m)) w := by
  obtain ⟨D, ho, hf⟩ := h
  obtain ⟨v, ps, hrun, hv⟩ := ho.lookup keyed Tryz.underlying53 (zero_bool w) (plainElem_bool Tryz.underlying4 false) (key_of hm)
  obtain ⟨a, rfl, hz⟩ := plainElem_bool_inv Tryz.underlying4 hv
  simp only [Prod.mk.injEq] at hz
  rw [hf m hm] at hz
  obtain rfl : f m = a := Lit.bool.inj (DataW.lit.inj hz.1)
  exact hrun
theorem SetM.put {w : World} {b n : Nat} {f : Int → Bool} (h : SetM w b n f) (hn : n < maxLen) {m : Int} (hm : (Lit.int .i64 m).wf = true) :
    ∃ w', (Instr.mapUpdate 53 (.map (some b)) (.int .i64 m) (.bool true)).run Tryz.prog w = .ok () w' ∧ SetM w' b (n + 1) (fun x => x == m || f x) ∧ w.grownBy w' (some b) := by
  obtain ⟨D, ho, hf⟩ := h
  obtain ⟨w', hrun, ho', hg⟩ := ho.update keyed Tryz.underlying53 hn (key_of hm) (plainElem_bool Tryz.underlying4 true)
  refine ⟨w', hrun, ⟨_, ho', fun x hx => ?_⟩, hg⟩
  by_cases e : x = m
  · subst e
    rw [atKey_put_same ho.isMap (by simp [WideAt.IsKeyLit])]
    simp
  · rw [atKey_put_other (fun e' => e (by injection e')), hf x hx]
    have : (x == m) = false := by simpa using e
    simp only [this, Bool.false_or]
theorem SetM.mono {w : World} {b n n' : Nat} {f : Int → Bool} (h : SetM w b n f) (hn : n ≤ n') : SetM w b n' f := by
  obtain ⟨D, ho, hf⟩ := h
  exact ⟨D, ho.mono hn, hf⟩
theorem SetM.move {w w' : World} {b n : Nat} {f : Int → Bool} (h : SetM w b n f) (hb : w'.heap[b]? = w.heap[b]?) : SetM w' b n f := by
  obtain ⟨D, ⟨es, cl, h1, h2⟩, hf⟩ := h
  exact ⟨D, ⟨es, cl, hb.trans h1, h2⟩, hf⟩
theorem SetM.lt {w : World} {b n : Nat} {f : Int → Bool} (h : SetM w b n f) : b < w.heap.size := by
  obtain ⟨D, ho, _⟩ := h
  exact ho.lt
end Go.Proofs.YtocechpmgfhenaaGreatDoor.MB

namespace Go.Proofs.YtocechpmgfhenaaGreatDoor.PF
open Go.RowKit Go.Proofs.YtocechpmgfhenaaGreatDoorW.PrintWords Go.Proofs.YtocechpmgfhenaaGreatDoor.F Go.Proofs.YtocechpmgfhenaaGreatDoor.KP Go.Proofs.YtocechpmgfhenaaGreatDoor.CR Go.Proofs.YtocechpmgfhenaaGreatDoor.PL Go.Proofs.YtocechpmgfhenaaGreatDoor.FP Go.Proofs.YtocechpmgfhenaaGreatDoor.FSF Go.Proofs.YtocechpmgfhenaaGreatDoor.PK Go.Proofs.YtocechpmgfhenaaGreatDoor.NX Go.Proofs.YtocechpmgfhenaaGreatDoor.FG Go.Proofs.YtocechpmgfhenaaGreatDoor.LK Go.Proofs.YtocechpmgfhenaaGreatDoor.RFL Go.Proofs.YtocechpmgfhenaaGreatDoor.ST Go.Proofs.YtocechpmgfhenaaGreatDoor.ST0 Go.Proofs.YtocechpmgfhenaaGreatDoor.MB
set_option linter.unusedVariables false
set_option linter.unusedSimpArgs false
def P1 (Ws : World) (k : Nat) : Prop := k ≠ Ws.heap.size ∧ k ≠ Ws.heap.size + 1
structure L1 (Ws wr : World) (s : PS) (cs : Array Value) (k : Nat) (fs : Int → Bool) : Prop where
  below : Below Ws.heap.size Ws wr
  row : wr.heap[Ws.heap.size]? = some (.cells cs 44 (0, 0))
  seen : SetM wr (Ws.heap.size + 1) k fs
  is : IsS wr (P1 Ws) s cs
abbrev S0 : Array Value := #[.int .i64 0, .int .i64 0, .int .i64 0, .int .i64 0, .int .i64 0, .int .i64 0, .int .i64 0, .int .i64 0, .int .i64 0, .int .i64 0, .int .i64 0, .int .i64 0, .int .i64 0, .int .i64 0, .int .i64 0, .int .i64 0, .int .i64 0, .int .i64 0, .int .i64 0, .int .i64 0, .slice none 0 0, .slice none 0 0, .int .i64 0, .int .i64 0]
theorem L1.start (Ws : World) : L1 Ws ((Ws.alloc (.cells S0 44)).alloc (.map #[] 0)) PS0 S0 0 (fun _ => false) := by
  refine ⟨below_alloc (LW.start Ws).below (.map #[] 0), row_old _ _ _ (by simp) (LW.start Ws).row, ?_, none, [], 0, none, 0, rfl, Nat.le_refl _, Nat.le_refl _, fun W' _ => Objs.none W', fun W' _ => Kd.C_nil _ W'⟩
  have := MB.set_new (Ws.alloc (.cells S0 44))
  simpa using this
theorem L1.cell {Ws wr : World} {s : PS} {cs : Array Value} {k : Nat} {fs : Int → Bool} (h : L1 Ws wr s cs k fs) : wr.cell? ⟨Ws.heap.size, 22, none⟩ = some (.int .i64 s.pc) := by
  obtain ⟨oA, hs, oc, tA, tc, e, _⟩ := h.is
  rw [cell_of_row _ _ 22 _ _ _ h.row, e]
  rfl
theorem L1.put {Ws wr : World} {s : PS} {cs : Array Value} {k : Nat} {fs : Int → Bool} (h : L1 Ws wr s cs k fs) (hk : k < maxLen) {m : Int} (hm : (Lit.int .i64 m).wf = true) :
    ∃ wX, (Instr.mapUpdate 53 (.map (some (Ws.heap.size + 1))) (.int .i64 m) (.bool true)).run Tryz.prog wr = .ok () wX ∧ L1 Ws wX s cs (k + 1) (fun x => x == m || fs x) := by
  have hlt := blk_lt h.row
  have hsl := h.seen.lt
  obtain ⟨wX, e1, s1, g1⟩ := h.seen.put hk hm
  have z1 := g1.size
  have hg : ∀ j, j < wr.heap.size → j ≠ Ws.heap.size + 1 → wX.heap[j]? = wr.heap[j]? := fun j hj hn => g1.block j hj fun e => hn (Option.some.inj e)
  exact ⟨wX, e1, Below.grown h.below g1 (by omega) (fun k e => by injection e; omega), (hg _ hlt (by omega)).trans h.row, s1, h.is.step fun j hj hl => ⟨hg j hl hj.2, by omega⟩⟩
theorem L1.next {Ws wr w4 : World} {s u : PS} {cs cs' : Array Value} {k : Nat} {fs : Int → Bool} (h : L1 Ws wr s cs k fs) (hb : Below wr.heap.size wr w4) (hu : IsS w4 (fun k => P1 Ws k ∨ wr.heap.size ≤ k) u cs') (o : Obj) :
    L1 Ws ((w4.alloc o).setRow Ws.heap.size cs') u cs' k fs := by
  have hlt := blk_lt h.row
  have hsl := h.seen.lt
  have h4 := (hb.block _ hlt).trans h.row
  have hsz := hb.size
  refine ⟨below_row (below_alloc (below_step h.below hb) _) (Nat.le_refl _), setRow_heap _ _ _ _ _ _ ((heap_old2 w4 o (by omega)).trans h4), h.seen.move ((setRow_other _ _ _ _ (by omega)).trans ((heap_old2 w4 o (by omega)).trans (hb.block _ hsl))), ?_⟩
  refine (hu.step fun k hk hl => ⟨?_, ?_⟩).mono fun k hk => (by unfold P1 at *; rcases hk with hk | hk <;> omega)
  · exact (setRow_other _ _ k _ (by unfold P1 at hk; rcases hk with hk | hk <;> omega)).trans (heap_old2 w4 o hl)
  · simp
    omega
end Go.Proofs.YtocechpmgfhenaaGreatDoor.PF

namespace Go.Proofs.YtocechpmgfhenaaGreatDoor.PF
open Go.RowKit Go.Proofs.YtocechpmgfhenaaGreatDoorW.PrintWords Go.Proofs.YtocechpmgfhenaaGreatDoor.F Go.Proofs.YtocechpmgfhenaaGreatDoor.KP Go.Proofs.YtocechpmgfhenaaGreatDoor.CR Go.Proofs.YtocechpmgfhenaaGreatDoor.PL Go.Proofs.YtocechpmgfhenaaGreatDoor.FP Go.Proofs.YtocechpmgfhenaaGreatDoor.FSF Go.Proofs.YtocechpmgfhenaaGreatDoor.PK Go.Proofs.YtocechpmgfhenaaGreatDoor.NX Go.Proofs.YtocechpmgfhenaaGreatDoor.FG Go.Proofs.YtocechpmgfhenaaGreatDoor.LK Go.Proofs.YtocechpmgfhenaaGreatDoor.RFL Go.Proofs.YtocechpmgfhenaaGreatDoor.ST Go.Proofs.YtocechpmgfhenaaGreatDoor.ST0
set_option linter.unusedVariables false
set_option linter.unusedSimpArgs false
theorem Step_g {p : Pg} {w wr : World} (h : p.In w) (hsp : SpP p) (hb0 : Below w.heap.size w wr) {P : Nat → Prop} {k : Nat} {s u : PS} {cs : Array Value} {d : Bool} {er : Int} (hL : IsS wr P s cs) (hI : SInv p.ts p.la p.gl p.code k s) (hk : k ≤ 1000000) (hst : stepP (size p.ts) (atv p.ts p.la) p.code s = (u, d, er)) :
    ∀ W, Below wr.heap.size wr W → Calls Tryz.prog 14 #[p.v, .agg cs] W fun e w' => ∃ cs', e = .returned (.tuple #[.agg cs', .bool d, .int .i64 er]) ∧ IsS w' (fun k => P k ∨ W.heap.size ≤ k) u cs' ∧ Below W.heap.size W w' := fun W hW => by
  have hb := below_step hb0 hW
  have hp := h.below hb
  have hob := hI.objs
  have hou := hI.out
  obtain ⟨ty, hty⟩ := hI.wt
  have := Step_ps (P := P) hp.hT hp.hc0 hp.hC hp.hc3 ((CkO.from h hsp).below hb) hsp hp.hl hp.hs hp.hla hp.hgl hp.hw (hL.below hW) hty hI.pc0 hI.pc1 (by omega) (by omega)
  rw [hst] at this
  exact this
theorem best_st {p : Pg} (hsp : SpP p) {q : Nat} (h : (bestF p q).st = true) : (rd_T46 p.code q).f0 = 5 ∧ ¬ RN (nxt p.code) q q := by
  rcases best_is p q with ⟨h5, a, b, e, hl⟩ | ⟨_, c, e⟩ | e
  · rw [e] at h
    refine ⟨h5, fun hr => ?_⟩
    have h1 := hl h
    have h2 : loopB p.code q = true := (rch_getD (SpP.inR hsp) q).2 hr
    rw [h1] at h2
    cases h2
  · rw [e] at h
    cases h
  · rw [e] at h
    cases h
set_option maxHeartbeats 16000000 in
set_option maxRecDepth 100000 in
theorem PlanOnce_walk (w : World) (p : Pg) (hp : p.On w) (hin : p.In w) (many : Int) (hm0 : 0 ≤ many) (hm1 : many ≤ 255) : Calls Tryz.prog 5 #[p.v, .int .u8 many] w fun e w' => e = .returned (.bool true) ∧ Below w.heap.size w w' := by
  obtain ⟨many, rfl⟩ := Int.eq_ofNat_of_zero_le hm0
  obtain ⟨b, hb, hS⟩ := Sound_c p w hin
  have SO := Aside0.mk hS
  have AL := Aside0.mk (fun W (hW : Below w.heap.size w W) => alive_c W (OT_below hp.ot hW))
  cases b with
  | false =>
    clear hp hin hb hS
    obtain ⟨A0, c0, ts, la, gl, A3, c3, code⟩ := p
    try simp only at SO
    show Calls _ _ #[.agg #[.slice A0 ts.length c0, .string la, .string gl, .slice A3 code.length c3], _] _ _
    go_enter Tryz.func5, Tryz.ntmps5
    go_wp2_with (first
      | (go_at_call 9; (with_reducible refine (AL.out _ HB.out).mono ?_); rintro e w1 ⟨rfl, hb⟩; have HB := Aside0.mk (below_step HB.out hb); clear hb)
      | (go_at_call 10; (with_reducible refine (SO.out _ (below_alloc (Below.refl _ _) _)).mono ?_); rintro e w2 ⟨rfl, hb⟩; have HB := Aside0.mk (below_step (below_alloc (Below.refl _ _) _) hb); clear hb))
    go_ret
    exact ⟨rfl, HB.out⟩
  | true =>
    obtain ⟨hsp, h60⟩ := hb rfl
    have BE := Aside0.mk (show ∀ W, Below w.heap.size w W → Calls Tryz.prog 11 #[p.v] W fun e w' => ∃ g, e = .returned (.tuple #[.slice (some ⟨g, 0, none⟩) p.code.length p.code.length, .int .i64 0]) ∧ Below W.heap.size W w' ∧ RowF w' g p.code.length (bestF p) ∧ W.heap.size ≤ g from fun W hW => (Best_c p W (hp.below hW) (by have := hsp.locals; omega) (by omega)).mono fun e w' ⟨er, v, h1, h2, h3, h4, _⟩ => by
      obtain rfl := h2.2 hsp
      obtain ⟨g, rfl, hg, h5⟩ := h4 rfl
      exact ⟨g, h1, h3, h5, hg⟩)
    have CK := Aside0.mk (fun W (hW : Below w.heap.size w W) => CkO.from hin hsp W hW)
    have SG := Aside0.mk (fun wr P k s u cs d er (hb0 : Below w.heap.size w wr) hL hI hk hst => Step_g (wr := wr) (P := P) (k := k) (s := s) (u := u) (cs := cs) (d := d) (er := er) hin hsp hb0 hL hI hk hst)
    have BS := Aside0.mk (fun (q : Nat) (h : (bestF p q).st = true) => best_st hsp h)
    have SI := Aside0.mk (fun i s u hI e => SInv.step (i := i) (s := s) (u := u) hsp hp.hw hI e)
    have SX := Aside0.mk (fun s u h0 h1 e => step_next (s := s) (u := u) hsp hp.hw h0 h1 e)
    have HC := Aside0.mk hp.hC
    have hmm := @run_makeMap Tryz.prog
    clear hp hin hb hS hsp
    generalize bestF p = bf at BE BS
    obtain ⟨A0, c0, ts, la, gl, A3, c3, code⟩ := p
    try simp only at SO BE HC h60 CK SG BS SI SX
    show Calls _ _ #[.agg #[.slice A0 ts.length c0, .string la, .string gl, .slice A3 code.length c3], _] _ _
    go_enter Tryz.func5, Tryz.ntmps5
    go_wp2_with (first
      | (go_at_call 10; (with_reducible refine (SO.out _ (below_alloc (Below.refl _ _) _)).mono ?_); rintro e w2 ⟨rfl, hb⟩; have HB := Aside0.mk (below_step (below_alloc (Below.refl _ _) _) hb); have HR := Aside0.mk ((hb.block w.heap.size (by simp)).trans (heap_alloc_new w _)); clear hb)
      | (go_at_call 9; (with_reducible refine (AL.out _ HB.out).mono ?_); rintro e w1 ⟨rfl, hb⟩; have HB := Aside0.mk (below_step HB.out hb); have HR := Aside0.mk ((hb.block _ (blk_lt HR.out)).trans HR.out); have y0 := (blk_cell HR.out 0).trans (rfl : _ = some (Value.slice A0 ts.length c0)); have y1 := (blk_cell HR.out 1).trans (rfl : _ = some (Value.string la)); have y2 := (blk_cell HR.out 2).trans (rfl : _ = some (Value.string gl)); have y3 := (blk_cell HR.out 3).trans (rfl : _ = some (Value.slice A3 code.length c3)); clear hb)
      | (go_at_call 11; (with_reducible refine (BE.out _ HB.out).mono ?_); rintro e w3 ⟨g, rfl, hb, hrow, hg⟩; have HB := Aside0.mk (below_step HB.out hb); have HL := Aside0.mk hrow; have HR := Aside0.mk ((hb.block _ (blk_lt HR.out)).trans HR.out); have y0 := (blk_cell HR.out 0).trans (rfl : _ = some (Value.slice A0 ts.length c0)); have y1 := (blk_cell HR.out 1).trans (rfl : _ = some (Value.string la)); have y2 := (blk_cell HR.out 2).trans (rfl : _ = some (Value.string gl)); have y3 := (blk_cell HR.out 3).trans (rfl : _ = some (Value.slice A3 code.length c3)); clear hb hrow hg)
      | (go_at_call 15; (with_reducible refine (CK.out _ HB.out).mono ?_); rintro e w4 ⟨⟨r0, rfl⟩, hb⟩; have HB := Aside0.mk (below_step HB.out hb); have HL := Aside0.mk (HL.out.move (hb.block _ HL.out.lt)); have HR := Aside0.mk ((hb.block _ (blk_lt HR.out)).trans HR.out); have y0 := (blk_cell HR.out 0).trans (rfl : _ = some (Value.slice A0 ts.length c0)); have y1 := (blk_cell HR.out 1).trans (rfl : _ = some (Value.string la)); have y2 := (blk_cell HR.out 2).trans (rfl : _ = some (Value.string gl)); have y3 := (blk_cell HR.out 3).trans (rfl : _ = some (Value.slice A3 code.length c3)); clear hb))
    have hLW := Aside0.mk (L1.start w4)
    clear y0 y1 y2 y3
    go_loopw [49] (fun i wr => ∃ (k : Nat) (s : PS) (cs : Array Value) (fs : Int → Bool), i = .int .i64 k ∧ k ≤ many ∧ L1 w4 wr s cs k fs ∧ SInv ts la gl code k s ∧ Aside0 (∀ m : Int, fs m = true → RN (nxt code) m s.pc)) (fun i _ => many - (intOf i).toNat)
    case atStart => exact ⟨0, PS0, _, _, rfl, Nat.zero_le _, hLW.out, SInv.start .., ⟨fun m h => by cases h⟩⟩
    case round =>
      obtain ⟨k, s, cs, fs, rfl, hk, hL, hI, HF⟩ := hrel
      have hlt3 : w.heap.size < w4.heap.size := blk_lt HR.out
      obtain ⟨wr', hwr⟩ : ∃ x : World, x = wr := ⟨_, rfl⟩
      subst hwr
      have HLW := Aside0.mk hL
      have HI := Aside0.mk hI
      by_cases hlt : k < many
      · obtain ⟨q, hq⟩ := Int.eq_ofNat_of_zero_le hI.pc0
        have hpc := hI.pc1
        have kpc := hL.cell
        rw [hq] at kpc hpc
        have hql : q ≤ code.length := by omega
        have HQ := Aside0.mk hq
        have kp := fun j => cell_of_row wr' w.heap.size j _ _ _ ((hL.below.block w.heap.size hlt3).trans HR.out)
        clear hL hI hpc hq
        have h3 : (q < code.length ∧ (bf q).st = true) ∨ (q < code.length ∧ (bf q).st = false) ∨ q = code.length := by
          cases (bf q).st with
          | true => by_cases h : q < code.length; exact .inl ⟨h, rfl⟩; exact .inr (.inr (by omega))
          | false => by_cases h : q < code.length; exact .inr (.inl ⟨h, rfl⟩); exact .inr (.inr (by omega))
        have q0 : (0 : Int) ≤ q := by omega
        refine h3.elim ?c1 fun h => h.elim ?c2 ?c3
        case' c3 =>
          intro hqe
          have hqn : ¬ (q : Int) < code.length := by omega
          have HV := Aside0.mk (show L1 w4 wr' s cs (k + 1) fs from ⟨HLW.out.below, HLW.out.row, HLW.out.seen.mono (Nat.le_succ _), HLW.out.is⟩)
          have HF := Aside0.mk (fun m (h : fs m = true) => (.inr (HF.out m h) : m = s.pc ∨ RN (nxt code) m s.pc))
          clear h h3 hqe
          go_upto_region 15 with (fail)
          obtain ⟨wV, hV⟩ : ∃ x : World, x = wr' := ⟨_, rfl⟩
          subst hV
        case' c2 =>
          rintro ⟨hqn, hpl⟩
          have q1 : (q : Int) < code.length := by omega
          obtain ⟨z0, z1, z2⟩ := (HL.out.move ((HLW.out.below.block _ HL.out.lt))).at hqn
          rw [hpl] at z0
          have HV := Aside0.mk (show L1 w4 wr' s cs (k + 1) fs from ⟨HLW.out.below, HLW.out.row, HLW.out.seen.mono (Nat.le_succ _), HLW.out.is⟩)
          have HF := Aside0.mk (fun m (h : fs m = true) => (.inr (HF.out m h) : m = s.pc ∨ RN (nxt code) m s.pc))
          clear z1 z2 h h3
          go_upto_region 15 with (fail)
          obtain ⟨wV, hV⟩ : ∃ x : World, x = wr' := ⟨_, rfl⟩
          subst hV
        case' c1 =>
          rintro ⟨hqn, hpl⟩
          have q1 : (q : Int) < code.length := by omega
          obtain ⟨z0, z1, z2⟩ := (HL.out.move ((HLW.out.below.block _ HL.out.lt))).at hqn
          rw [hpl] at z0
          obtain ⟨e5, hnr⟩ := BS.out q hpl
          obtain ⟨ad, eA, hy⟩ := at_box HC.out q hqn
          subst eA
          obtain ⟨j0, j1, j2, j3, j4⟩ := hy _ (below_step HB.out HLW.out.below)
          rw [e5] at j0
          have hwf : (Lit.int .i64 (q : Int)).wf = true := by
            simp [Lit.wf, IntKind.min, IntKind.max, IntKind.signed, IntKind.bits]
            omega
          have hs1 := HLW.out.seen.look hwf
          rw [show fs (q : Int) = false from Bool.eq_false_iff.2 fun h => hnr (by have := HF.out q h; rwa [HQ.out] at this)] at hs1
          obtain ⟨wV, hput, hV⟩ := HLW.out.put (by unfold maxLen; omega) hwf
          have HV := Aside0.mk hV
          have HF := Aside0.mk (fun m (h : ((fun x => x == (q : Int) || fs x) m) = true) => (show m = s.pc ∨ RN (nxt code) m s.pc by
            rcases (Bool.or_eq_true _ _).mp h with h | h
            · exact .inl (by rw [HQ.out]; exact eq_of_beq h)
            · exact .inr (HF.out m h)))
          obtain ⟨fs', hfs⟩ : ∃ fs', fs' = (fun x => x == (q : Int) || fs x) := ⟨_, rfl⟩
          rw [← hfs] at HV HF
          clear hy j1 j2 j3 j4 z1 z2 h3 hnr hV hfs
          go_upto_region 15 with (fail)
          clear hs1 hput
        all_goals
          have hL := HV.out
          have hX := (hL.below.block w.heap.size hlt3).trans HR.out
          have kp := fun j => cell_of_row wV w.heap.size j _ _ _ hX
          have kpc := hL.cell
          have hcz := hL.is.size
          obtain ⟨u, d, er, hst⟩ : ∃ u d er, stepP (size ts) (atv ts la) code s = (u, d, er) := ⟨_, _, _, rfl⟩
          have STEP := Aside0.mk (SG.out wV (P1 w4) k s u cs d er (below_step HB.out hL.below) hL.is HI.out (by omega) hst)
          have HWN := Aside0.mk (show ∀ W : World, Below wV.heap.size wV W → W.heap[w4.heap.size]? = some (.cells cs 44 (0, 0)) from fun W hW => (hW.block _ (blk_lt hL.row)).trans hL.row)
          have hrow := hL.row
          have HST := Aside0.mk hst
          have HB9 := Aside0.mk (below_step HB.out hL.below)
          clear hL hX hst
          cases d with
          | true =>
            go_wp2_with (first
              | (go_at_call 14; (with_reducible refine (STEP.out wV (Below.refl _ _)).mono ?_); rintro e w6 ⟨cs', rfl, hS6, hb6⟩; have hz6 := hS6.size; have ho6 := hS6.one; have b6 := HWN.out w6 hb6; have hz36 := blk_lt b6; have HS6 := Aside0.mk hS6; have HB6 := Aside0.mk hb6; clear hS6 hb6)
              | (apply ldS; (with_reducible rfl); rfl; rfl; exact rowT; (first | rfl | assumption))
              | (apply srS; (with_reducible rfl); rfl; rfl; rfl; exact rowT; (first | rfl | assumption); (first | rfl | assumption); (first | rfl | assumption); exact setT))
            go_ret
            exact ⟨rfl, below_alloc (below_step HB9.out HB6.out) _⟩
          | false =>
            by_cases her : er = 0
            · subst her
              go_wp2_with (first
                | (go_at_call 14; (with_reducible refine (STEP.out wV (Below.refl _ _)).mono ?_); rintro e w6 ⟨cs', rfl, hS6, hb6⟩; have hz6 := hS6.size; have ho6 := hS6.one; have b6 := HWN.out w6 hb6; have hz36 := blk_lt b6; have HS6 := Aside0.mk hS6; have HB6 := Aside0.mk hb6; clear hS6 hb6)
                | (apply ldS; (with_reducible rfl); rfl; rfl; exact rowT; (first | rfl | assumption))
                | (apply srS; (with_reducible rfl); rfl; rfl; rfl; exact rowT; (first | rfl | assumption); (first | rfl | assumption); (first | rfl | assumption); exact setT))
              go_roundw
              case rel =>
                have hs2 := SI.out k s u HI.out HST.out
                have hn2 := SX.out s u HI.out.pc0 hs2.1 HST.out
                exact ⟨k + 1, u, cs', _, by go_num, by omega, HV.out.next HB6.out HS6.out _, hs2.2, ⟨fun m h => (HF.out m h).elim (fun e => by rw [e]; exact .base hn2) fun h => .step h hn2⟩⟩
              case measure =>
                simp [intOf]
                omega
            · have hne : (er != 0) = true := by simpa using her
              go_wp2_with (first
                | (go_at_call 14; (with_reducible refine (STEP.out wV (Below.refl _ _)).mono ?_); rintro e w6 ⟨cs', rfl, hS6, hb6⟩; have hz6 := hS6.size; have ho6 := hS6.one; have b6 := HWN.out w6 hb6; have hz36 := blk_lt b6; have HS6 := Aside0.mk hS6; have HB6 := Aside0.mk hb6; clear hS6 hb6)
                | (apply ldS; (with_reducible rfl); rfl; rfl; exact rowT; (first | rfl | assumption))
                | (apply srS; (with_reducible rfl); rfl; rfl; rfl; exact rowT; (first | rfl | assumption); (first | rfl | assumption); (first | rfl | assumption); exact setT))
              go_ret
              exact ⟨rfl, below_alloc (below_step HB9.out HB6.out) _⟩
      · go_wp2
        go_ret
        exact ⟨rfl, below_step HB.out HLW.out.below⟩
end Go.Proofs.YtocechpmgfhenaaGreatDoor.PF

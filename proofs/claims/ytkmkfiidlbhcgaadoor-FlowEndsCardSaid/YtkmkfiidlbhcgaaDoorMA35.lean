/- Texts of this claim, pruned to what it needs and laid together by prune.py. -/
import Derived.Test.YtkmkfiidlbhcgaaDoorMA33
import Derived.Test.YtkmkfiidlbhcgaaDoorMA34
import Derived.OneCell
namespace Go.Proofs.YtkmkfiidlbhcgaaDoor.FG
open Go.RowKit Go.Proofs.YtkmkfiidlbhcgaaDoorW.PrintWords Go.Proofs.YtkmkfiidlbhcgaaDoorW.PrintLast Go.Proofs.YtkmkfiidlbhcgaaDoorW.PrintMore Go.Proofs.YtkmkfiidlbhcgaaDoor.F Go.Proofs.YtkmkfiidlbhcgaaDoor.Srt Go.Proofs.YtkmkfiidlbhcgaaDoor.NX Go.Proofs.YtkmkfiidlbhcgaaDoor.FP
set_option linter.unusedVariables false
set_option linter.unusedSimpArgs false
def flow_Next.f (l0_0 : List ByteArray) (a0_1 : ByteArray) (a0_2 : ByteArray) (l0_3 : List S36) (a1 : Int) : Option (List Int) := some (nxt l0_3 a1)
theorem Next_own (w : World) (A0 : Option Addr) (c0 : Nat) (ts : List ByteArray) (la gl : ByteArray) (A3 : Option Addr) (c3 : Nat) (code : List S36) (hr3 : Kd.C k36 w A3 code.length code) (a : Int) :
    Calls Tryd.prog 23 #[.agg #[.slice A0 ts.length c0, .string la, .string gl, .slice A3 code.length c3], .int .i64 a] w fun e w' => ∃ v, e = .returned v ∧ w'.ownsRow w.heap.size 3 1 v (nxt code a).length (nums .i64 (nxt code a)) ∧ Below w.heap.size w w' := by
  by_cases h : 0 ≤ a ∧ a < code.length
  · by_cases h3 : (rd_T36 code a).f0 = 3
    · have e : nxt code a = [(rd_T36 code a).f4] := by unfold nxt; rw [if_pos h, if_pos h3]
      rw [e]
      exact Next_jump w A0 c0 ts la gl A3 c3 code hr3 a h.1 h.2 h3
    · by_cases h4 : (rd_T36 code a).f0 = 4
      · have e : nxt code a = if (rd_T36 code a).f4 < a + 1 then [(rd_T36 code a).f4, a + 1] else if (rd_T36 code a).f4 > a + 1 then [a + 1, (rd_T36 code a).f4] else [a + 1] := by
          unfold nxt
          rw [if_pos h, if_neg h3, if_pos h4]
        rw [e]
        exact Next_zero w A0 c0 ts la gl A3 c3 code hr3 a h.1 h.2 h4
      · have e : nxt code a = [a + 1] := by unfold nxt; rw [if_pos h, if_neg h3, if_neg h4]
        rw [e]
        exact Next_on w A0 c0 ts la gl A3 c3 code hr3 a h.1 h.2 h3 h4
  · have e : nxt code a = [] := by unfold nxt; rw [if_neg h]
    rw [e]
    refine (Next_out w A0 c0 ts la gl A3 c3 code a h).mono ?_
    rintro e w' ⟨rfl, hb⟩
    exact ⟨_, rfl, own_nil _ _ _ _, hb⟩
theorem flow_Next.calls (A0_0 : Option Addr) (c0_0 : Nat) (l0_0 : List ByteArray) (a0_1 : ByteArray) (a0_2 : ByteArray) (A0_3 : Option Addr) (c0_3 : Nat) (l0_3 : List (S36)) (a1 : Int) (r : List Int) (w : World) (_hr0_0 : Kd.C Kd.string w A0_0 l0_0.length l0_0) (_hc0_0 : l0_0.length ≤ c0_0) (hr0_3 : Kd.C k36 w A0_3 l0_3.length l0_3) (_hc0_3 : l0_3.length ≤ c0_3) (h : flow_Next.f l0_0 a0_1 a0_2 l0_3 a1 = some r) :
    Calls Tryd.prog 23 #[.agg #[.slice A0_0 l0_0.length c0_0, .string a0_1, .string a0_2, .slice A0_3 l0_3.length c0_3], .int .i64 a1] w fun e w' => ∃ v0_ : Value, e = .returned (v0_) ∧ Kd.R (Kd.int .i64) 3 w' w.heap.size (fun _ => True) v0_ r ∧ Below w.heap.size w w' := by
  obtain rfl := Option.some.inj h
  refine (Next_own w A0_0 c0_0 l0_0 a0_1 a0_2 A0_3 c0_3 l0_3 hr0_3 a1).mono ?_
  rintro e w' ⟨v, he, ho, hb⟩
  exact ⟨v, he, Kd.R_of_own ho fun _ _ => trivial, hb⟩
def Row (w : World) (b : Nat) (hs : List Bool) : Prop := w.heap[b]? = some (.cells (hs.map Value.bool).toArray 4 (0, 0))
theorem Row.cell {w : World} {b : Nat} {hs : List Bool} (h : Row w b hs) (k : Nat) (hk : k < hs.length) : w.cell? ⟨b, k, none⟩ = some (.bool (hs.getD k false)) := by
  rw [blk_cell h k, List.getElem?_toArray, List.getElem?_map, List.getElem?_eq_getElem hk, List.getD_eq_getElem?_getD, List.getElem?_eq_getElem hk]
  rfl
theorem Row.free {w : World} {b : Nat} {hs : List Bool} (h : Row w b hs) (k : Nat) : w.frozen? ⟨b, k, none⟩ = false := blk_frozen h k
theorem Row.set {w : World} {b : Nat} {hs : List Bool} (h : Row w b hs) (k : Nat) : Row (w.setCell ⟨b, k, none⟩ (.bool true)) b (hs.set k true) := by
  unfold Row
  rw [blk_set h k _]
  congr 2
  apply Array.ext'
  simp [List.map_set]
def unb : Value → Bool
  | .bool b => b
  | _ => false
def hadOf (w : World) (b : Nat) : List Bool := match w.heap[b]? with
  | some (.cells cs _ _) => cs.toList.map unb
  | _ => []
theorem Row.had {w : World} {b : Nat} {hs : List Bool} (h : Row w b hs) : hadOf w b = hs := by
  unfold hadOf
  unfold Row at h
  rw [h]
  simp only [List.map_map]
  rw [show (unb ∘ Value.bool) = id from rfl, List.map_id]
def lenOf : Value → Nat
  | .slice _ n _ => n
  | _ => 0
def meas (b : Nat) (v : Value) (w : World) : Nat := 3 * ((hadOf w b).length - cnt (hadOf w b)) + lenOf v
theorem meas_eq {w : World} {b : Nat} {hs : List Bool} (h : Row w b hs) (A : Option Addr) (todo : List Int) (c : Nat) : meas b (.slice A todo.length c) w = left_ hs todo := by
  unfold meas left_
  rw [h.had]
  rfl
theorem append_q {P : Program} {ops : Array Oper} {rest : List Oper} {o : Oper} {a : Act} {Q : Exit → Act → World → Prop} {W : World} (base base' : Nat) (hgd : o.guard = none) (s x : Operand) (t e : TypeId) (bytes : Nat)
    (ho : o.op = .call { callee := .builtin .append, args := #[s, x], argTypes := #[t, t] })
    (ht : P.underlying t = some (.slice e)) (hinfo : (P.info? e).map (fun i => (i.zero, i.size, i.bytes)) = some (some (.int .i64 0), 1, bytes))
    (v : Value) (xs ys : List Int) (u : Value) (hs : a.eval s = v) (hx : a.eval x = u)
    (HO : QRow W base e 1 v xs.length (nums .i64 xs)) (HR : W.ownsRow base' e 1 u ys.length (nums .i64 ys)) (hbase : base ≤ W.heap.size) (h63 : xs.length + ys.length ≤ maxLen) (hl : (xs.length + ys.length) * bytes ≤ 140737488355328)
    (h : ∀ v1 w1, QRow w1 base e 1 v1 (xs ++ ys).length (nums .i64 (xs ++ ys)) → W.grownBy w1 v.ownBlock → wpList P ops Q rest (a.put o.dst v1) w1) :
    wpList P ops Q (o :: rest) a W := by
  obtain ⟨i0, hi, hzz⟩ := Option.map_eq_some_iff.1 hinfo
  simp only [Prod.mk.injEq] at hzz
  obtain ⟨hz0, hz1, hz2⟩ := hzz
  have hrun : ∃ v1 w1, (Builtin.append_ #[t, t] o.type #[v, u]).run P W = .ok v1 w1 ∧ QRow w1 base e 1 v1 (xs ++ ys).length (nums .i64 (xs ++ ys)) ∧ W.grownBy w1 v.ownBlock := by
    rcases HR.2 with ⟨rfl, h0⟩ | ⟨g, cap, cur, rfl, _, hg, hnc, _, _, hct⟩
    · obtain rfl : ys = [] := List.eq_nil_of_length_eq_zero h0
      refine ⟨v, W, ?_, by simpa using HO, World.grownBy.refl W _⟩
      obtain ⟨A, c, rfl, hc⟩ := q_slice HO
      cases A with
      | none => simp [Builtin.append_, run_underlying ht, sizeOf, typeInfo, hi, Builtin.lenOf, Builtin.firstCells, Nat.not_lt.2 hc]
      | some ad => simp [Builtin.append_, run_underlying ht, sizeOf, typeInfo, hi, Builtin.lenOf, Builtin.firstCells, hc, storeCells]
    · rcases Nat.eq_zero_or_pos ys.length with h0 | h0
      · obtain rfl : ys = [] := List.eq_nil_of_length_eq_zero h0
        refine ⟨v, W, ?_, by simpa using HO, World.grownBy.refl W _⟩
        obtain ⟨A, c, rfl, hc⟩ := q_slice HO
        cases A with
        | none => simp [Builtin.append_, run_underlying ht, sizeOf, typeInfo, hi, Builtin.lenOf, Builtin.firstCells, hc, loadCells, loadCellsFrom]
        | some ad => simp [Builtin.append_, run_underlying ht, sizeOf, typeInfo, hi, Builtin.lenOf, Builtin.firstCells, hc, storeCells, loadCells, loadCellsFrom]
      · obtain ⟨v', w', h1, h2, h3, _⟩ := q_append (P := P) W base t o.type e i0 (.int .i64 0) 1 bytes ht hi hz0 hz1 hz2 rfl (by decide) v xs.length (nums .i64 xs) HO ⟨g, 0, none⟩ ys.length cap (nums .i64 ys) (by simp [nums])
          (fun j u hu => HR.cells (g := g) rfl j _ hu) (fun u hu => by simp only [nums, List.mem_map] at hu; obtain ⟨q, _, rfl⟩ := hu; rfl) h0 h63 hl hbase
        exact ⟨v', w', h1, by simpa [nums] using h2, h3⟩
  obtain ⟨v1, w1, hr, hown, hg⟩ := hrun
  refine wpList_plain hgd fun K hK => ?_
  unfold Oper.wp execOp
  simp only [ho, resolve, invoke, builtin, Sem.run_bind, Sem.run_pure, Result.andThen_ok, List.map_toArray, List.map_cons, List.map_nil, hs, hx, hr]
  exact hK _ _ (h v1 w1 hown hg)
structure RI (nx : Int → List Int) (M : Nat) (a : Int) (w wr : World) (pv : Array Value) (b : Nat) (v : Value) (had : List Bool) (todo : List Int) : Prop where
  wl : WL nx M a had todo
  row : Row wr b had
  q : QRow wr w.heap.size 3 1 v todo.length (nums .i64 todo)
  below : Below w.heap.size w wr
  box : wr.heap[w.heap.size]? = some (.cells pv 25 (0, 0))
  far : w.heap.size < b
  small : left_ had todo ≤ 3 * M + 2
theorem Row.own {w : World} {b : Nat} {hs : List Bool} (h : Row w b hs) (base : Nat) (hb : base ≤ b) (hm : hs.length ≤ maxLen) : w.ownsRow base 4 1 (.slice (some ⟨b, 0, none⟩) hs.length hs.length) hs.length (encs Value.bool hs) :=
  ⟨by simp [encs], .inr ⟨b, hs.length, _, rfl, hb, h, Nat.le_refl _, hm, by simp, by rw [Nat.mul_one, List.take_of_length_le (by simp)]; simp [encs]⟩⟩
theorem Row.ne {w : World} {b : Nat} {hs : List Bool} (h : Row w b hs) {v : Value} {base n : Nat} {xs : List Value} (hq : QRow w base 3 1 v n xs) : v.ownBlock ≠ some b := by
  intro e
  obtain ⟨_, cs, hc⟩ := q_typed hq b e
  exact blk_ne h hc (by decide) rfl
theorem madeFalse (M : Nat) : (madeCells #[Value.bool false] M) = ((List.replicate M false).map Value.bool).toArray := by
  apply Array.ext'
  have hl := own_made_of (enc := Value.bool) (d := false) (default : World) 0 4 0 (Nat.zero_le _) (by decide)
  apply List.ext_getElem
  · simp [madeCells]
  · intro i h1 h2
    simp [madeCells, Nat.mod_one]
section
variable (w : World) (A0 : Option Addr) (c0 : Nat) (ts : List ByteArray) (la gl : ByteArray) (A3 : Option Addr) (c3 : Nat) (code : List S36) (hr3 : Kd.C k36 w A3 code.length code) (a : Int)
include hr3
omit hr3 in
set_option maxHeartbeats 1000000 in
set_option maxRecDepth 100000 in
theorem Reach_out (h : ¬ (0 ≤ a ∧ a ≤ code.length)) :
    Calls Tryd.prog 20 #[.agg #[.slice A0 ts.length c0, .string la, .string gl, .slice A3 code.length c3], .int .i64 a] w fun e w' => e = .returned (.slice none 0 0) ∧ Below w.heap.size w w' := by
  have HB := Aside0.mk (Below.refl w.heap.size w)
  by_cases h0 : a < 0
  · go_enter Tryd.func20, Tryd.ntmps20
    go_wp2
    go_ret
    exact ⟨rfl, below_alloc HB.out _⟩
  · have h1 : a > (code.length : Int) := by omega
    go_enter Tryd.func20, Tryd.ntmps20
    go_wp2
    go_ret
    exact ⟨rfl, below_alloc HB.out _⟩
set_option maxHeartbeats 2000000 in
set_option maxRecDepth 100000 in
theorem Reach_in (h0 : 0 ≤ a) (h1 : a ≤ code.length) (hI : InR (nxt code) (code.length + 1)) (hsm : code.length ≤ 1000000) :
    Calls Tryd.prog 20 #[.agg #[.slice A0 ts.length c0, .string la, .string gl, .slice A3 code.length c3], .int .i64 a] w fun e w' => ∃ v, e = .returned v ∧ w'.ownsRow w.heap.size 4 1 v (rch (nxt code) (code.length + 1) a).length (encs Value.bool (rch (nxt code) (code.length + 1) a)) ∧ Below w.heap.size w w' := by
  have hmk : ∀ W : World, (Instr.makeSlice 28 (.int .i64 ((code.length : Int) + 1)) (.int .i64 ((code.length : Int) + 1))).run Tryd.prog W = .ok (.slice (some ⟨W.heap.size, 0, none⟩) (code.length + 1) (code.length + 1)) (W.alloc (.cells (madeCells #[.bool false] (code.length + 1)) 4)) := by
    intro W
    have h := print_make_of (P := Tryd.prog) 28 4 (.bool false) 1 Tryd.underlying28 (by kernel_rfl) rfl (by decide) (code.length + 1) (by omega) W
    have e : ((code.length + 1 : Nat) : Int) = (code.length : Int) + 1 := by push_cast; rfl
    rw [e] at h
    exact h
  have HR := Aside0.mk hr3
  have h0' : ¬ a < 0 := by omega
  have h1' : ¬ a > (code.length : Int) := by omega
  have HI := Aside0.mk hI
  clear hr3 hI
  go_enter Tryd.func20, Tryd.ntmps20
  go_wp2_with (first
    | (go_at_call 23; (with_reducible refine (Next_own _ A0 c0 ts la gl A3 c3 code (Kd.C_alloc (Kd.C_alloc HR.out _) _) a).mono ?_); rintro e w2 ⟨v, rfl, ho, hb⟩; have HO := Aside0.mk ho; have HB := Aside0.mk hb; clear ho hb))
  have hW : (((w.alloc (.cells #[.slice A0 ts.length c0, .string la, .string gl, .slice A3 code.length c3] 25)).alloc (.cells (madeCells #[.bool false] (code.length + 1)) 4)).heap.size) = w.heap.size + 1 + 1 := by simp
  have HB2 := HB.out
  have HO2 := HO.out
  have hrow0 : Row w2 (w.heap.size + 1) (List.replicate (code.length + 1) false) := by
    have h := (HB2.block (w.heap.size + 1) (by rw [hW]; omega))
    unfold Row
    rw [h, ← madeFalse]
    have := heap_alloc_new (w.alloc (.cells #[.slice A0 ts.length c0, .string la, .string gl, .slice A3 code.length c3] 25)) (.cells (madeCells #[.bool false] (code.length + 1)) 4)
    simpa using this
  have hbox0 : w2.heap[w.heap.size]? = some (.cells #[.slice A0 ts.length c0, .string la, .string gl, .slice A3 code.length c3] 25 (0, 0)) := by
    have h := (HB2.block w.heap.size (by rw [hW]; omega))
    rw [h, Below.heap_alloc _ _ _ (by simp)]
    exact heap_alloc_new w _
  have HRI := Aside0.mk (show RI (nxt code) (code.length + 1) a w w2 #[.slice A0 ts.length c0, .string la, .string gl, .slice A3 code.length c3] (w.heap.size + 1) v (List.replicate (code.length + 1) false) (nxt code a) from
    ⟨WL.start _ _ _, hrow0, q_lower (q_of_own HO2) (by rw [hW]; omega), below_step (below_alloc (below_alloc (Below.refl _ _) _) _) HB2, hbox0, by omega, by have := nxt_two code a; unfold left_; simp; omega⟩)
  clear hrow0 hbox0 HB2 HO2 hW HO HB hmk
  go_loopw [6] (fun v wr => ∃ had todo, RI (nxt code) (code.length + 1) a w wr #[.slice A0 ts.length c0, .string la, .string gl, .slice A3 code.length c3] (w.heap.size + 1) v had todo) (fun v wr => meas (w.heap.size + 1) v wr)
  case atStart => exact ⟨_, _, HRI.out⟩
  case round =>
    obtain ⟨had, todo, hRI⟩ := hrel
    obtain ⟨w3, hw3⟩ : ∃ w3 : World, w3 = wr := ⟨_, rfl⟩
    subst hw3
    obtain ⟨A, c, hv, hc⟩ := q_slice hRI.q
    subst hv
    have hlen := hRI.wl.len
    have HRR := Aside0.mk hRI
    have y0 := (blk_cell hRI.box 0).trans (rfl : _ = some (Value.slice A0 ts.length c0))
    have y1 := (blk_cell hRI.box 1).trans (rfl : _ = some (Value.string la))
    have y2 := (blk_cell hRI.box 2).trans (rfl : _ = some (Value.string gl))
    have y3 := (blk_cell hRI.box 3).trans (rfl : _ = some (Value.slice A3 code.length c3))
    clear hRI
    cases todo with
    | nil =>
      have hd := HRR.out.wl.done HI.out
      have ho := Row.own HRR.out.row w.heap.size (by omega) (by rw [hlen]; unfold maxLen; omega)
      rw [hd] at ho hlen
      rw [hlen] at ho
      have HOO := Aside0.mk ho
      clear hd ho
      go_wp2
      go_ret
      refine ⟨_, rfl, ?_, HRR.out.below⟩
      rw [hlen]
      exact HOO.out
    | cons k todo =>
      have hkr := HRR.out.wl.range HI.out
      obtain ⟨kn, rfl⟩ : ∃ n : Nat, k = n := ⟨k.toNat, by omega⟩
      obtain ⟨ad, rfl, hcells⟩ := q_cells HRR.out.q (by simp)
      have hx := hcells 0 (.int .i64 kn) (by simp [nums])
      rw [show ad.add 0 = ad by simp [Addr.add]] at hx
      clear hcells
      have hb := HRR.out.row.cell kn (by omega)
      have hfree := HRR.out.row.free kn
      have hm1 : (todo.length + 1 : Nat) ≤ c := hc
      go_upto_region 8 with fail
      have hq' := q_drop (k := 1) HRR.out.q (by simp)
      rw [show (nums .i64 ((kn : Int) :: todo)).drop (1 * 1) = nums .i64 todo by simp [nums], show ((kn : Int) :: todo).length - 1 = todo.length by simp] at hq'
      obtain ⟨A', hA'⟩ : ∃ A' : Option Addr, A' = (if c = 1 then some ad else some ⟨ad.block, ad.off + 1, none⟩) := ⟨_, rfl⟩
      have hA2 : (if c = 1 then some ad else (some ad).map (·.add (1 * 1))) = A' := by
        rw [hA']
        obtain ⟨g, off, cap, e1, e2⟩ : ∃ g off cap, ad = ⟨g, off, none⟩ ∧ c = cap := by
          rcases HRR.out.q.2 with ⟨h, _⟩ | ⟨g, off, cap, cur, he, _⟩
          · simp at h
          · injection he with h1 _ h3
            injection h1 with h1
            exact ⟨g, off * 1, cap, h1, h3⟩
        subst e1
        split <;> simp [Addr.add]
      rw [hA2] at hq'
      have HQ := Aside0.mk hq'
      rw [← hA']
      clear hA' hA2 hq' hx
      cases hbk : had.getD kn false with
      | true =>
        rw [hbk] at hb
        have HBK := Aside0.mk hbk
        clear hbk
        go_wp2
        go_roundw
        case rel => exact ⟨had, todo, HRR.out.wl.skip (by rw [Int.toNat_natCast]; exact HBK.out), HRR.out.row, HQ.out, HRR.out.below, HRR.out.box, HRR.out.far, Nat.le_trans (Nat.le_of_lt (left_skip had todo kn)) HRR.out.small⟩
        case measure =>
          have e1 := meas_eq HRR.out.row A' todo (c - 1)
          have e2 := meas_eq HRR.out.row (some ad) ((kn : Int) :: todo) c
          have h := left_skip had todo kn
          rw [← e1, ← e2] at h
          exact h
      | false =>
        rw [hbk] at hb
        have HBK := Aside0.mk hbk
        clear hbk
        go_upto_region 10 with fail
        obtain ⟨w4, hw4⟩ : ∃ w4 : World, w4 = w3.setCell ⟨w.heap.size + 1, kn, none⟩ (.bool true) := ⟨_, rfl⟩
        rw [← hw4]
        have HRow4 := Aside0.mk (show Row w4 (w.heap.size + 1) (had.set kn true) by rw [hw4]; exact HRR.out.row.set kn)
        have HBox4 := Aside0.mk (show w4.heap[w.heap.size]? = some (.cells #[.slice A0 ts.length c0, .string la, .string gl, .slice A3 code.length c3] 25 (0, 0)) by rw [hw4]; exact blk_far HRR.out.box (by simp) _)
        have HQ4 := Aside0.mk (show QRow w4 w.heap.size 3 1 (.slice A' todo.length (c - 1)) todo.length (nums .i64 todo) by
          rw [hw4]
          refine q_move HQ.out fun k hk => Below.heap_setCell w3 _ _ k fun e => HRR.out.row.ne HQ.out (by rw [hk]; exact congrArg some e))
        have HB4 := Aside0.mk (show Below w.heap.size w w4 by rw [hw4]; exact HRR.out.below.setCell (Nat.le_succ _) _)
        clear hw4 y0 y1 y2 y3 hb hfree
        have y0 := (blk_cell HBox4.out 0).trans (rfl : _ = some (Value.slice A0 ts.length c0))
        have y1 := (blk_cell HBox4.out 1).trans (rfl : _ = some (Value.string la))
        have y2 := (blk_cell HBox4.out 2).trans (rfl : _ = some (Value.string gl))
        have y3 := (blk_cell HBox4.out 3).trans (rfl : _ = some (Value.slice A3 code.length c3))
        have h2 := nxt_two code kn
        have hleft : todo.length ≤ 3 * (code.length + 1) + 2 := by
          have := HRR.out.small
          unfold left_ at this
          rw [List.length_cons] at this
          omega
        go_wp2_with (first
          | (go_at_call 23; (with_reducible refine (Next_own _ A0 c0 ts la gl A3 c3 code (Kd.C_below HR.out HB4.out) kn).mono ?_); rintro e w5 ⟨v', rfl, ho, hb⟩; have HO5 := Aside0.mk ho; have HB5 := Aside0.mk hb; clear ho hb)
          | (at_builtin; refine append_q w.heap.size w4.heap.size rfl _ _ 31 3 8 rfl Tryd.underlying31 info_int (.slice A' todo.length (c - 1)) todo (nxt code kn) v' rfl rfl (q_move HQ4.out fun k hk => HB5.out.block k (q_lt HQ4.out k hk)) HO5.out (Nat.le_trans HB4.out.size HB5.out.size) (by unfold maxLen; omega) (by omega) ?_; intro v1 w6 hq6 hg6; have HQ6 := Aside0.mk hq6; have HG6 := Aside0.mk hg6; clear hq6 hg6))
        have HQ5 := Aside0.mk (show QRow w5 w.heap.size 3 1 (.slice A' todo.length (c - 1)) todo.length (nums .i64 todo) from q_move HQ4.out fun k hk => HB5.out.block k (q_lt HQ4.out k hk))
        have HRow5 := Aside0.mk (show Row w5 (w.heap.size + 1) (had.set kn true) from (HB5.out.block _ (blk_lt HRow4.out)).trans HRow4.out)
        have HBox5 := Aside0.mk ((HB5.out.block _ (blk_lt HBox4.out)).trans HBox4.out)
        have hkb := HRR.out.wl.len
        have HRow6 := Aside0.mk (show Row w6 (w.heap.size + 1) (had.set kn true) from (HG6.out.block _ (blk_lt HRow5.out) (fun e => HRow5.out.ne HQ5.out e.symm)).trans HRow5.out)
        go_roundw
        case rel =>
          refine ⟨had.set kn true, todo ++ nxt code kn, ?_, HRow6.out, HQ6.out, ?_, ?_, HRR.out.far, ?_⟩
          · have := HRR.out.wl.mark HI.out
            rwa [Int.toNat_natCast] at this
          · exact Below.grown (below_step HB4.out HB5.out) HG6.out (Nat.le_trans HB4.out.size HB5.out.size) fun k hk => (q_typed HQ5.out k hk).1
          · refine (HG6.out.block _ (blk_lt HBox5.out) fun e => ?_).trans HBox5.out
            obtain ⟨_, cs, hc'⟩ := q_typed HQ5.out _ e.symm
            exact blk_ne HBox5.out hc' (by decide) rfl
          · refine Nat.le_trans (Nat.le_of_lt ?_) HRR.out.small
            have := left_mark (k := (kn : Int)) (todo := todo) (l := nxt code kn) (had := had) (by rw [Int.toNat_natCast]; omega) (by rw [Int.toNat_natCast]; exact HBK.out) h2
            rwa [Int.toNat_natCast] at this
        case measure =>
          obtain ⟨A6, c6, hv6, _⟩ := q_slice HQ6.out
          subst hv6
          have e1 := meas_eq HRow6.out A6 (todo ++ nxt code kn) c6
          have e2 := meas_eq HRR.out.row (some ad) ((kn : Int) :: todo) c
          have h := left_mark (k := (kn : Int)) (todo := todo) (l := nxt code kn) (had := had) (by rw [Int.toNat_natCast]; omega) (by rw [Int.toNat_natCast]; exact HBK.out) h2
          rw [Int.toNat_natCast, ← e1, ← e2] at h
          exact h
end
end Go.Proofs.YtkmkfiidlbhcgaaDoor.FG

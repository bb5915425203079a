/- Texts of this claim, pruned to what it needs and laid together by prune.py. -/
import Derived.Test.YtkmkfiidlbhcgaaDoorME32
import Derived.Test.YtkmkfiidlbhcgaaDoorME33
import Derived.Test.YtkmkfiidlbhcgaaDoorME1
import Derived.SliceStrings
import Derived.ProofKit
import Derived.OpenShut
import Derived.ShutString
import Derived.ChangeOld
import Derived.SizedLaws
import Derived.Test.YtkmkfiidlbhcgaaDoorME30
import Derived.ChangeArms
namespace Go.Proofs.YtkmkfiidlbhcgaaDoor.LL
open Go.RowKit Go.Proofs.YtkmkfiidlbhcgaaDoorW.PrintWords Go.Proofs.YtkmkfiidlbhcgaaDoorW.PrintMore Go.Proofs.YtkmkfiidlbhcgaaDoor.Scan Go.Proofs.YtkmkfiidlbhcgaaDoor.F Go.Proofs.YtkmkfiidlbhcgaaDoor.FM Go.Proofs.YtkmkfiidlbhcgaaDoor.H Go.Proofs.YtkmkfiidlbhcgaaDoor.TT Go.Proofs.YtkmkfiidlbhcgaaDoor.NX Go.Proofs.YtkmkfiidlbhcgaaDoor.FP Go.Proofs.YtkmkfiidlbhcgaaDoor.FL Go.Proofs.YtkmkfiidlbhcgaaDoor.B8 Go.Proofs.YtkmkfiidlbhcgaaDoor.V Go.Proofs.YtkmkfiidlbhcgaaDoor.LB Go.Proofs.YtkmkfiidlbhcgaaDoor.LG Go.Proofs.YtkmkfiidlbhcgaaDoor.GL Go.Proofs.YtkmkfiidlbhcgaaDoor.L8More
set_option linter.unusedVariables false
set_option linter.unusedSectionVars false
theorem shr_nat (z : S8) {b : Int} (h : 0 ≤ b) : shr .u8 (iv z) b = ((z.toNat / 2 ^ b.toNat : Nat) : Int) := by
  unfold shr iv
  by_cases hb : b.toNat ≤ 8
  · rw [show min b.toNat IntKind.u8.bits = b.toNat from Nat.min_eq_left hb]
    have e : ((2 ^ b.toNat : Nat) : Int) = (2 : Int) ^ b.toNat := Int.natCast_pow 2 _
    rw [← e]
    rfl
  · have h8 : z.toNat < 2 ^ 8 := z.isLt
    have h9 : z.toNat < 2 ^ b.toNat := Nat.lt_of_lt_of_le h8 (Nat.pow_le_pow_right (by decide) (by omega))
    rw [show min b.toNat IntKind.u8.bits = 8 from Nat.min_eq_right (by show 8 ≤ b.toNat; omega), Nat.div_eq_of_lt h9]
    exact Int.ediv_eq_zero_of_lt (Int.natCast_nonneg _) (Int.ofNat_lt.2 h8)
theorem shr_one (z : S8) {b : Int} (h : 0 ≤ b) (hb : z.getLsbD b.toNat = true) : Int.tmod (shr .u8 (iv z) b) 2 = 1 := by
  rw [shr_nat z h, Int.tmod_eq_emod_of_nonneg (Int.natCast_nonneg _)]
  have e : z.getLsbD b.toNat = decide (z.toNat / 2 ^ b.toNat % 2 = 1) := by
    show z.toNat.testBit b.toNat = _
    exact Nat.testBit_eq_decide_div_mod_eq
  rw [e] at hb
  have := of_decide_eq_true hb
  omega
section
variable {code : List S36} {q : Nat} (hq : q < code.length) (h14 : (rd_T36 code q).f0 = 14) (x : Int)
include hq h14
theorem set_rd (i : Int) (hi : 0 ≤ i) : rd_T36 (code.set q (⟨15, 7, x, x, 0⟩ : S36)) i = if i = (q : Int) then ⟨15, 7, x, x, 0⟩ else rd_T36 code i := by
  obtain ⟨n, rfl⟩ := Int.eq_ofNat_of_zero_le hi
  unfold rd_T36
  rw [Int.toNat_natCast, List.getD_eq_getElem?_getD, List.getElem?_set]
  by_cases e : q = n
  · subst e
    rw [if_pos rfl, if_pos hq, if_pos rfl]
    rfl
  · rw [if_neg e, if_neg (by omega), List.getD_eq_getElem?_getD]
theorem set_nxt (a : Int) : nxt (code.set q (⟨15, 7, x, x, 0⟩ : S36)) a = nxt code a := by
  unfold nxt
  rw [List.length_set]
  by_cases h : 0 ≤ a ∧ a < code.length
  · rw [if_pos h, if_pos h, set_rd hq h14 x a h.1]
    by_cases e : a = (q : Int)
    · subst e
      rw [if_pos rfl, h14]
      simp only
      rw [if_neg (by omega), if_neg (by omega), if_neg (by omega), if_neg (by omega)]
    · rw [if_neg e]
  · rw [if_neg h, if_neg h]
theorem set_wf (hw : WfC code) (hx0 : 0 ≤ x) (hx1 : x ≤ 255) : WfC (code.set q (⟨15, 7, x, x, 0⟩ : S36)) := by
  intro y hy
  rcases List.mem_or_eq_of_mem_set hy with h | rfl
  · exact hw y h
  · have w15 : WfI 15 7 x x 0 := ⟨by omega, by omega, ⟨hx0, hx1⟩, ⟨hx0, hx1⟩, by omega, by omega⟩
    exact w15
theorem lv_more (i : Nat) : Sub (g (lvB code) i) (g (lvB (code.set q (⟨15, 7, x, x, 0⟩ : S36))) i) := by
  refine ((lv_inv (nxt code) code.length (stB code) (usB code)).least (lvB (code.set q (⟨15, 7, x, x, 0⟩ : S36))) ⟨by rw [lvB_len, List.length_set], fun k hk => ?_⟩).2 i
  rw [lv_step (code.set q (⟨15, 7, x, x, 0⟩ : S36)) k (by rw [List.length_set]; exact hk)]
  intro j hj
  rw [lst_bit] at hj ⊢
  rw [set_nxt hq h14 x]
  have hr := set_rd hq h14 x (k : Int) (Int.natCast_nonneg k)
  by_cases e : (k : Int) = (q : Int)
  · obtain rfl : k = q := by omega
    rw [if_pos rfl] at hr
    have e1 : stB (code.set k (⟨15, 7, x, x, 0⟩ : S36)) k = 0 := by unfold stB; rw [hr]; rfl
    have e2 : usB code k = 0 := by
      unfold usB usesB
      rw [if_neg (by omega), if_neg (by omega), if_neg (by omega), if_neg (by omega)]
    rw [e2] at hj
    rcases hj with ⟨h, _⟩ | h
    · rw [e1]
      exact .inl ⟨h, by simp⟩
    · simp at h
  · rw [if_neg e] at hr
    have e1 : stB (code.set q (⟨15, 7, x, x, 0⟩ : S36)) k = stB code k := by unfold stB; rw [hr]
    have e2 : usB (code.set q (⟨15, 7, x, x, 0⟩ : S36)) k = usB code k := by unfold usB; rw [hr]
    rw [e1, e2]
    exact hj
theorem lv_use (hx0 : 0 ≤ x) (hx1 : x ≤ 7) : (g (lvB (code.set q (⟨15, 7, x, x, 0⟩ : S36))) q).getLsbD x.toNat = true := by
  rw [lv_step (code.set q (⟨15, 7, x, x, 0⟩ : S36)) q (by rw [List.length_set]; exact hq), lst_bit]
  right
  unfold usB
  rw [set_rd hq h14 x (q : Int) (Int.natCast_nonneg q), if_pos rfl]
  show (own x ||| own x).getLsbD x.toNat = true
  rw [BitVec.getLsbD_or, Bool.or_eq_true]
  exact .inl ((own_bit _ _).2 ⟨rfl, by omega⟩)
end
section
variable (ts : List ByteArray) (hl : (ts.length : Int) ≤ 9223372036854775807) (hs : ∀ s ∈ ts, (s.size : Int) ≤ 9223372036854775807) (la gl : ByteArray) (hla : Fit la) (hgl : Fit gl) (code : List S36) (hc : (code.length : Int) ≤ 9223372036854775807) (hw : WfC code)
include hl hs hla hgl hc hw
theorem LiveMore_pure (a : Int) (h0 : 0 ≤ a) (h1 : a ≤ 255) (y : Int) (hy0 : 0 ≤ y) (hy1 : y ≤ 255) : Ev (fun k => lockstitchlaw08_LiveMore.f k ts la gl code a y) true := by
  obtain ⟨b, hb, hsp⟩ := sound_tot ts hl hs la gl hla hgl code hc hw
  refine ev_bind alive_ev (Ev.congr (fun k => if_pos rfl) (ev_bind hb ?_))
  have T : Ev (fun k => lockstitchlaw08_LiveMore.j0 k a y true ts la gl code) true := ev_step (fun k => lockstitchlaw08_LiveMore.j0.eq_2 ..) (Ev.congr (fun k => if_pos rfl) ev_const)
  cases b with
  | false => exact Ev.congr (fun k => if_neg (by decide)) T
  | true =>
    have h := hsp rfl
    have hsm := h.small
    have hps := h.pos
    have hloc := h.locals
    refine Ev.congr (fun k => if_pos rfl) ?_
    by_cases hz : la.size = 0
    · rw [show (((la.size : Int) == 0)) = true from beq_iff_eq.2 (by omega)]
      exact T
    rw [show (((la.size : Int) == 0)) = false from beq_eq_false_iff_ne.2 (by omega)]
    obtain ⟨an, rfl⟩ := Int.eq_ofNat_of_zero_le h0
    have ewa : wrap64 ((an : Nat) : Int) = (an : Int) := by unfold wrap64; omega
    have etm : Int.tmod (an : Int) (code.length : Int) = ((an % code.length : Nat) : Int) := by
      rw [Int.tmod_eq_emod_of_nonneg h0]
      rfl
    have hlt : an % code.length < code.length := Nat.mod_lt _ hps
    obtain ⟨q, hq⟩ : ∃ q, q = an % code.length := ⟨_, rfl⟩
    rw [← hq] at etm hlt
    have e256 : (la.size : Int) % 256 = (la.size : Int) := by omega
    obtain ⟨yn, rfl⟩ := Int.eq_ofNat_of_zero_le hy0
    obtain ⟨x, hx⟩ : ∃ x : Nat, x = yn % la.size := ⟨_, rfl⟩
    have eym : Int.tmod (yn : Int) (la.size : Int) = (x : Int) := by
      rw [Int.tmod_eq_emod_of_nonneg hy0, hx]
      rfl
    have hx7 : x < la.size := by rw [hx]; exact Nat.mod_lt _ (by omega)
    have z0 : (0 : Int) ≤ (q : Int) := Int.natCast_nonneg q
    have z1 : (q : Int) < (code.length : Int) := by omega
    have zn : ¬ (code.length : Int) = 0 := by omega
    refine ev_step (fun k => lockstitchlaw08_LiveMore.j0.eq_2 ..) (Ev.congr (fun k => if_neg (by decide)) ?_)
    rw [ewa, etm, e256, eym, Int.toNat_natCast]
    refine Ev.congr (fun k => if_neg zn) (Ev.congr (fun k => if_pos z0) (Ev.congr (fun k => if_pos z1) ?_))
    by_cases h14 : (rd_T36 code q).f0 = 14
    · have zl : ([] : List S36).length + code.length < 8796093022208 := by simp; omega
      have zs : ¬ (la.size : Int) = 0 := by omega
      have hI' : InR (nxt (code.set q (⟨15, 7, (x : Int), (x : Int), 0⟩ : S36))) ((code.set q (⟨15, 7, (x : Int), (x : Int), 0⟩ : S36)).length + 1) := by
        intro k m hm
        rw [set_nxt hlt h14] at hm
        rw [List.length_set]
        exact SP.inR h k m hm
      have hin' : Ev (fun _ => live_In.f ts la gl (code.set q (⟨15, 7, (x : Int), (x : Int), 0⟩ : S36))) (lvI (code.set q (⟨15, 7, (x : Int), (x : Int), 0⟩ : S36))) :=
        ev_all fun _ => if_pos ⟨hI', by rw [List.length_set]; omega, set_wf hlt h14 x hw (by omega) (by omega)⟩
      have l1 := lvI_len code
      have l2 := lvI_len (code.set q (⟨15, 7, (x : Int), (x : Int), 0⟩ : S36))
      rw [List.length_set] at l2
      have ze : ((lvI code).length : Int) = ((lvI (code.set q (⟨15, 7, (x : Int), (x : Int), 0⟩ : S36))).length : Int) := by omega
      have zq : (q : Int) < ((lvI (code.set q (⟨15, 7, (x : Int), (x : Int), 0⟩ : S36))).length : Int) := by omega
      have zx : (0 : Int) ≤ (x : Int) := Int.natCast_nonneg x
      have L : ∀ (d i : Nat), i + d = (lvI code).length → Ev (fun k => lockstitchlaw08_LiveMore.l0 k (lvI code) (lvI (code.set q (⟨15, 7, (x : Int), (x : Int), 0⟩ : S36))) ((lvI code).length : Int) (i : Int)) true := by
        intro d
        induction d with
        | zero =>
          intro i hi
          exact ev_step (fun k => lockstitchlaw08_LiveMore.l0.eq_2 ..) (Ev.congr (fun k => if_neg (by omega)) ev_const)
        | succ d ih =>
          intro i hi
          have ih := ih (i + 1) (by omega)
          have y1 : (i : Int) < ((lvI code).length : Int) := by omega
          have y2 : (i : Int) < ((lvI (code.set q (⟨15, 7, (x : Int), (x : Int), 0⟩ : S36))).length : Int) := by omega
          have y0 : (0 : Int) ≤ (i : Int) := Int.natCast_nonneg i
          have ee : bits .andNot .u8 (rd (lvI code) (i : Int)) (rd (lvI (code.set q (⟨15, 7, (x : Int), (x : Int), 0⟩ : S36))) (i : Int)) = 0 := by
            rw [rd_lv, rd_lv, bits_not, not_zero.2 (lv_more hlt h14 x i)]
            rfl
          refine ev_step (fun k => lockstitchlaw08_LiveMore.l0.eq_2 ..) (Ev.congr (fun k => if_pos y1) (Ev.congr (fun k => if_pos y0) (Ev.congr (fun k => if_pos y1) (Ev.congr (fun k => if_pos y2) (Ev.congr (fun k => if_pos ee) ?_)))))
          rw [w1 (n := (lvI code).length) (by omega) (by omega)]
          exact ih
      have hbit : (Int.tmod (shr .u8 (rd (lvI (code.set q (⟨15, 7, (x : Int), (x : Int), 0⟩ : S36))) (q : Int)) (x : Int)) 2 == 0) = false := by
        rw [rd_lv, shr_one _ zx (lv_use hlt h14 x zx (by omega))]
        rfl
      refine Ev.congr (fun k => if_pos h14) (Ev.congr (fun k => if_pos zl) (ev_bind ev_const ?_))
      rw [List.nil_append]
      refine Ev.congr (fun k => if_neg zs) (Ev.congr (fun k => if_pos z1) (ev_bind (in_ev h hw) (ev_bind hin' (Ev.congr (fun k => if_pos ze) (Ev.congr (fun k => if_pos zq) (Ev.congr (fun k => if_pos zx) ?_))))))
      rw [hbit]
      exact ev_step (fun k => lockstitchlaw08_LiveMore.j1.eq_2 ..) (Ev.congr (fun k => if_neg (by decide)) (L _ 0 (Nat.zero_add _)))
    · exact Ev.congr (fun k => if_neg h14) ev_const
end
end Go.Proofs.YtkmkfiidlbhcgaaDoor.LL

namespace Go.Proofs.YtkmkfiidlbhcgaaDoor.Rw
open Go.RowKit Go.Proofs.YtkmkfiidlbhcgaaDoorW.PrintWords
def IsStrs (w : World) (a : Option Addr) (len cap : Nat) (zs : List ByteArray) : Prop :=
  (a = none ∧ len = 0 ∧ cap = 0 ∧ zs = []) ∨
  ∃ x, a = some x ∧ len ≤ cap ∧ cap ≤ maxLen ∧ zs.length = cap ∧ (∀ i, i < zs.length → w.cell? (x.add i) = some (.string (zs.getD i ByteArray.empty))) ∧ ∀ s ∈ zs, s.size ≤ maxLen
theorem strs_C {w : World} {a : Option Addr} {len cap : Nat} {zs : List ByteArray} (h : IsStrs w a len cap zs) :
    ∃ l0 : List ByteArray, len = l0.length ∧ l0.length ≤ cap ∧ Kd.C Kd.string w a l0.length l0 ∧ ∀ s ∈ l0, (s.size : Int) ≤ 9223372036854775807 := by
  rcases h with ⟨rfl, rfl, rfl, rfl⟩ | ⟨x, rfl, hl, hm, hz, hc, hs⟩
  · exact ⟨[], rfl, Nat.le_refl _, Kd.C_nil _ _, fun s hs => by cases hs⟩
  · have hlen : (zs.take len).length = len := by rw [List.length_take]; omega
    refine ⟨zs.take len, hlen.symm, by omega, Kd.C_of_reads (d := ByteArray.empty) ⟨rfl, ?_, fun _ => ⟨x, rfl, fun j hj => ?_⟩⟩, fun s h => ?_⟩
    · rw [hlen]; unfold maxLen at hm; omega
    · rw [hlen] at hj
      rw [hc j (by omega)]
      congr 2
      rw [List.getD_eq_getElem?_getD, List.getD_eq_getElem?_getD, List.getElem?_take, if_pos hj]
    · have := hs s (List.mem_of_mem_take h)
      unfold maxLen at this
      omega
end Go.Proofs.YtkmkfiidlbhcgaaDoor.Rw

namespace Go.Proofs.YtkmkfiidlbhcgaaDoor.Rw
open Go.ChangeShapes Go.ChangeAt Go.RowKit Go.WideShapes Go.Proofs.YtkmkfiidlbhcgaaDoorW.PrintWords Go.Proofs.YtkmkfiidlbhcgaaDoor.F Go.Proofs.YtkmkfiidlbhcgaaDoor.TT
theorem wf_u8 {n : Int} (h : (Lit.int .u8 n).wf = true) : 0 ≤ n ∧ n ≤ 255 := by
  simp [Lit.wf, IntKind.min, IntKind.max, IntKind.signed, IntKind.bits] at h
  omega
theorem wf_i64 {n : Int} (h : (Lit.int .i64 n).wf = true) : -9223372036854775808 ≤ n ∧ n ≤ 9223372036854775807 := by
  simp [Lit.wf, IntKind.min, IntKind.max, IntKind.signed, IntKind.bits] at h
  omega
theorem add_add (a : Addr) (i j : Nat) : (a.add i).add j = a.add (i + j) := by
  unfold Addr.add
  by_cases h1 : i = 0 <;> by_cases h2 : j = 0 <;> simp [h1, h2, Nat.add_assoc]
section
variable {H : Type} {enc : TypeId × Value → H} {W : World} {held : Bool} {sp : Nat → Bool}
set_option maxRecDepth 100000 in
theorem ins_at {fuel : Nat} {cs : List Value} {x : DataW H × List MemPlace} (h : DataW.trod enc Tryd.prog W 0 sp held fuel 36 cs = some x) :
    ∃ s : S36, cs = [.int .u8 s.f0, .int .u8 s.f1, .int .u8 s.f2, .int .u8 s.f3, .int .i64 s.f4] ∧ WfI s.f0 s.f1 s.f2 s.f3 s.f4 := by
  obtain ⟨xs, n, _, _, hl, hxl, hf⟩ := DataW.trod_struct Tryd.underlying36 h
  have hc5 : Tryd.prog.cellsOf 36 = 5 := by kernel_rfl
  have c1 : Tryd.prog.cellsOf 5 = 1 := by kernel_rfl
  have c2 : Tryd.prog.cellsOf 2 = 1 := by kernel_rfl
  rw [hc5] at hl
  match cs, hl with
  | [a, b, c, d, e], _ =>
    match xs, hxl with
    | [x0, x1, x2, x3, x4], _ =>
      obtain ⟨n0, e0, _, w0⟩ := DataW.trod_int Tryd.underlying5 (hf 0 _ rfl)
      obtain ⟨n1, e1, _, w1⟩ := DataW.trod_int Tryd.underlying5 (hf 1 _ rfl)
      obtain ⟨n2, e2, _, w2⟩ := DataW.trod_int Tryd.underlying5 (hf 2 _ rfl)
      obtain ⟨n3, e3, _, w3⟩ := DataW.trod_int Tryd.underlying5 (hf 3 _ rfl)
      obtain ⟨n4, e4, _, w4⟩ := DataW.trod_int Tryd.underlying2 (hf 4 _ rfl)
      have e0' : a = .int .u8 n0 := by simpa [c1, c2] using e0
      have e1' : b = .int .u8 n1 := by simpa [c1, c2] using e1
      have e2' : c = .int .u8 n2 := by simpa [c1, c2] using e2
      have e3' : d = .int .u8 n3 := by simpa [c1, c2] using e3
      have e4' : e = .int .i64 n4 := by simpa [c1, c2] using e4
      exact ⟨⟨n0, n1, n2, n3, n4⟩, by rw [e0', e1', e2', e3', e4'], wf_u8 w0, wf_u8 w1, wf_u8 w2, wf_u8 w3, wf_i64 w4⟩
set_option maxRecDepth 100000 in
theorem ins_row {fuel : Nat} {v : Value} {x : DataW H × List MemPlace} (h : DataW.trod enc Tryd.prog W 0 sp held fuel 23 [v] = some x) :
    ∃ (A : Option Addr) (c : Nat) (code : List S36), v = .slice A code.length c ∧ code.length ≤ c ∧ Kd.C k36 W A code.length code ∧ WfC code := by
  have hc5 : Tryd.prog.cellsOf 36 = 5 := by kernel_rfl
  rcases DataW.trod_slice Tryd.underlying23 h with ⟨h0, _⟩ | ⟨a, len, cap, elems, rest, n, _, h0, _, hb, hl, hm, hlen, hel, _, _⟩
  · injection h0 with h0
    exact ⟨none, 0, [], h0, Nat.le_refl _, Kd.C_nil _ _, fun x hx => by cases hx⟩
  · injection h0 with h0
    have each : ∀ i, ∃ s : S36, i < len → (∀ j u, ([.int .u8 s.f0, .int .u8 s.f1, .int .u8 s.f2, .int .u8 s.f3, .int .i64 s.f4] : List Value)[j]? = some u → W.cell? (a.add (i * 5 + j)) = some u) ∧ WfI s.f0 s.f1 s.f2 s.f3 s.f4 := by
      intro i
      by_cases hi : i < len
      · have h1 := hel i hi
        rw [List.getElem?_eq_getElem (by omega), hc5, Option.bind_eq_some_iff] at h1
        obtain ⟨cs, h2, h3⟩ := h1
        obtain ⟨s, rfl, hw⟩ := ins_at h3
        obtain ⟨_, _, h4⟩ := World.cells?_some h2
        refine ⟨s, fun _ => ⟨fun j u hu => ?_, hw⟩⟩
        have hj : j < 5 := by
          have := (List.getElem?_eq_some_iff.1 hu).1
          simpa using this
        have h5 := h4 j hj
        rw [hu] at h5
        rw [← h5]
        rw [add_add]
      · exact ⟨z36, fun h => absurd h hi⟩
    obtain ⟨f, hf⟩ := Classical.axiomOfChoice each
    have hlm : ((List.range len).map f).length = len := by simp
    refine ⟨some a, cap, (List.range len).map f, by rw [hlm]; exact h0, by rw [hlm]; exact hl, ?_, fun s hs => ?_⟩
    · rw [hlm]
      refine ⟨hlm, by unfold maxLen at hm; omega, fun _ => ⟨a, rfl, fun j p hp => ?_⟩⟩
      rw [List.getElem?_map] at hp
      by_cases hj : j < len
      · rw [List.getElem?_range hj] at hp
        obtain rfl := Option.some.inj hp
        exact ⟨_, rfl, k36_mk W (f j), fun i u hu => ((hf j) hj).1 i u hu⟩
      · rw [List.getElem?_eq_none (by simpa using hj)] at hp
        cases hp
    · obtain ⟨j, hj, rfl⟩ := List.mem_map.1 hs
      exact ((hf j) (List.mem_range.1 hj)).2
set_option maxRecDepth 100000 in
theorem open_prog {r : Reach} {b0 : Nat} {v : Value} {d : DataW H} {ps : List MemPlace} (hval : Value.okWide Tryd.prog W r b0 25 v) (hd : DataW.Trod enc Tryd.prog W 0 (fun _ => true) held 25 v d ps) :
    ∃ (A0 : Option Addr) (c0 : Nat) (ts : List ByteArray) (la gl : ByteArray) (A3 : Option Addr) (c3 : Nat) (code : List S36),
      v = .agg #[.slice A0 ts.length c0, .string la, .string gl, .slice A3 code.length c3] ∧ ts.length ≤ c0 ∧ Kd.C Kd.string W A0 ts.length ts ∧ (∀ s ∈ ts, (s.size : Int) ≤ 9223372036854775807) ∧
      Fit la ∧ Fit gl ∧ code.length ≤ c3 ∧ Kd.C k36 W A3 code.length code ∧ WfC code := by
  obtain ⟨cs, rfl, hn⟩ := okWide_struct Tryd.underlying25 hval
  have hc4 : Tryd.prog.cellsOf 25 = 4 := by kernel_rfl
  have c1 : Tryd.prog.cellsOf 9 = 1 := by kernel_rfl
  have c2 : Tryd.prog.cellsOf 22 = 1 := by kernel_rfl
  have c3' : Tryd.prog.cellsOf 23 = 1 := by kernel_rfl
  rw [hc4] at hn
  obtain ⟨fuel, hf⟩ := hd
  obtain ⟨xs, n, _, _, _, hxl, hfl⟩ := DataW.trod_struct Tryd.underlying25 hf
  obtain ⟨l⟩ := cs
  match l, hn with
  | [a, b, c, e], _ =>
    match xs, hxl with
    | [x0, x1, x2, x3], _ =>
      have f0 : DataW.trod enc Tryd.prog W 0 (fun _ => true) held n 22 [a] = some x0 := by simpa [c2, Value.cells] using hfl 0 _ rfl
      have f1 : DataW.trod enc Tryd.prog W 0 (fun _ => true) held n 9 [b] = some x1 := by simpa [c1, Value.cells] using hfl 1 _ rfl
      have f2 : DataW.trod enc Tryd.prog W 0 (fun _ => true) held n 9 [c] = some x2 := by simpa [c1, Value.cells] using hfl 2 _ rfl
      have f3 : DataW.trod enc Tryd.prog W 0 (fun _ => true) held n 23 [e] = some x3 := by simpa [c3', Value.cells] using hfl 3 _ rfl
      obtain ⟨s1, e1, _, w1⟩ := DataW.trod_string Tryd.underlying9 f1
      obtain ⟨s2, e2, _, w2⟩ := DataW.trod_string Tryd.underlying9 f2
      obtain ⟨A3, c3, code, e3, hc3, hC3, hw⟩ := ins_row f3
      injection e1 with e1
      injection e2 with e2
      have hS : ∃ A len cap zs, a = .slice A len cap ∧ IsStrs W A len cap zs := by
        rcases open_strings Tryd.underlying22 Tryd.underlying9 c1 f0 with ⟨hcs, _⟩ | ⟨x, l, c, zs, hcs, _, hl, hm, hz, _, hcell, hwz⟩
        · injection hcs with hcs
          exact ⟨none, 0, 0, [], hcs, .inl ⟨rfl, rfl, rfl, rfl⟩⟩
        · injection hcs with hcs
          exact ⟨some x, l, c, zs, hcs, .inr ⟨x, rfl, hl, hm, by simpa using hz, hcell, hwz⟩⟩
      obtain ⟨A0, len0, cap0, zs, e0, hz⟩ := hS
      obtain ⟨ts, rfl, hc0, hC0, hS0⟩ := strs_C hz
      subst e0 e1 e2 e3
      unfold maxLen at w1 w2
      exact ⟨A0, cap0, ts, s1, s2, A3, c3, code, rfl, hc0, hC0, hS0, by unfold Fit; omega, by unfold Fit; omega, hc3, hC3, hw⟩
end
end Go.Proofs.YtkmkfiidlbhcgaaDoor.Rw

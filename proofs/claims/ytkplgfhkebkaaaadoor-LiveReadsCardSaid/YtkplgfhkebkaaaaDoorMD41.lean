/- Texts of this claim, pruned to what it needs and laid together by prune.py. -/
import Derived.Test.YtkplgfhkebkaaaaDoorMD39
import Derived.Test.YtkplgfhkebkaaaaDoorMD40
import Derived.Test.YtkplgfhkebkaaaaDoorMD28
import Derived.Test.YtkplgfhkebkaaaaDoorMD37
import Derived.Test.YtkplgfhkebkaaaaDoorProg
import Derived.Below
import Derived.Deep.Draws
import Derived.Deep.AppendLies
import Derived.Maps.AppendAt
import Derived.OwnWalk
import Derived.Laws.BytesArg
import Derived.Laws.MakeOwn
import Derived.Laws.OwnMore
import Derived.Deep.OwnRows
import Derived.Tactics
import Derived.Lib.ConvBytes
import Derived.Laws.Slices
import Derived.WalkKit
import Derived.KernelRfl
import Derived.RowKit3
import Derived.Deep.LoopGhost
import Derived.Deep.QuietTactic
import Derived.BigQuiet
import Derived.WideLaws
import Derived.Deep.DeepCutAuto
import Derived.Deep.CutBlock
import Derived.Deep.RegionHeld3
import Derived.Laws.Rows
import Derived.Lib.AppendStr
import Derived.ArgAppend
import Derived.Laws.IdiomCopy
import Derived.OrdersHeld
import Derived.Laws.BitsLemmas
import Derived.RowKit
import Derived.Test.YtkplgfhkebkaaaaDoorMD1
import Derived.Test.YtkplgfhkebkaaaaDoorMD3
import Derived.Test.YtkplgfhkebkaaaaDoorMD15
import Derived.Test.YtkplgfhkebkaaaaDoorMD16
import Derived.Test.YtkplgfhkebkaaaaDoorMD4
import Derived.Test.YtkplgfhkebkaaaaDoorMD5
import Derived.Test.YtkplgfhkebkaaaaDoorMD6
import Derived.Test.YtkplgfhkebkaaaaDoorMD7
import Derived.Test.YtkplgfhkebkaaaaDoorMD8
import Derived.Test.YtkplgfhkebkaaaaDoorMD9
import Derived.Test.YtkplgfhkebkaaaaDoorMD10
import Derived.Test.YtkplgfhkebkaaaaDoorMD11
import Derived.Test.YtkplgfhkebkaaaaDoorMD17
import Derived.Test.YtkplgfhkebkaaaaDoorMD18
import Derived.Test.YtkplgfhkebkaaaaDoorMD19
import Derived.Test.YtkplgfhkebkaaaaDoorMD20
import Derived.Test.YtkplgfhkebkaaaaDoorMD21
import Derived.Test.YtkplgfhkebkaaaaDoorMD22
import Derived.Test.YtkplgfhkebkaaaaDoorMD23
import Derived.Test.YtkplgfhkebkaaaaDoorMD12
import Derived.Test.YtkplgfhkebkaaaaDoorMD13
import Derived.Test.YtkplgfhkebkaaaaDoorMD33
import Derived.Deep.MidRow
import Derived.Laws.CopyRow
import Derived.Laws.StructEq
namespace Go.Proofs.YtkplgfhkebkaaaaDoor.LL
open Go.RowKit Go.Proofs.YtkplgfhkebkaaaaDoorW.PrintWords Go.Proofs.YtkplgfhkebkaaaaDoorW.PrintMore Go.Proofs.YtkplgfhkebkaaaaDoor.Scan Go.Proofs.YtkplgfhkebkaaaaDoor.F Go.Proofs.YtkplgfhkebkaaaaDoor.FM Go.Proofs.YtkplgfhkebkaaaaDoor.H Go.Proofs.YtkplgfhkebkaaaaDoor.TT Go.Proofs.YtkplgfhkebkaaaaDoor.NX Go.Proofs.YtkplgfhkebkaaaaDoor.FP Go.Proofs.YtkplgfhkebkaaaaDoor.FL Go.Proofs.YtkplgfhkebkaaaaDoor.B8 Go.Proofs.YtkplgfhkebkaaaaDoor.V Go.Proofs.YtkplgfhkebkaaaaDoor.LB Go.Proofs.YtkplgfhkebkaaaaDoor.LG Go.Proofs.YtkplgfhkebkaaaaDoor.GL
set_option linter.unusedVariables false
theorem in_ev {ts : List ByteArray} {la gl : ByteArray} {code : List S47} (h : SP ts la gl code) (hw : WfC code) : Ev (fun _ => live_In.f ts la gl code) (lvI code) :=
  ev_all fun _ => if_pos ⟨SP.inR h, by have := h.small; omega, hw⟩
theorem lvB_len (code : List S47) : (lvB code).length = code.length + 1 := (lv_inv ..).len
theorem lvI_len (code : List S47) : (lvI code).length = code.length + 1 := by
  unfold lvI
  rw [List.length_map, lvB_len]
theorem rd_lv (code : List S47) (i : Nat) : rd (lvI code) (i : Int) = iv (g (lvB code) i) := rd_iv ..
theorem lv_step (code : List S47) (k : Nat) (hk : k < code.length) : g (lvB code) k = lst (nxt code) (stB code) (usB code) (lvB code) k := lv_fix (nxt code) code.length (stB code) (usB code) k hk
def a0 : List S47 := [⟨5, 0, 0, 0, 0⟩, ⟨8, 0, 0, 0, 0⟩]
theorem a0_inR : InR (nxt a0) (a0.length + 1) := by
  intro k m hm
  by_cases h : 0 ≤ k ∧ k < a0.length
  · have hl : a0.length = 2 := rfl
    rw [hl] at h ⊢
    obtain rfl | rfl : k = 0 ∨ k = 1 := by omega
    · have e : nxt a0 0 = [1] := by decide
      rw [e, List.mem_singleton] at hm
      omega
    · have e : nxt a0 1 = [2] := by decide
      rw [e, List.mem_singleton] at hm
      omega
  · have e : nxt a0 k = [] := by unfold nxt; rw [if_neg h]
    rw [e] at hm
    cases hm
theorem wf_small {a b c d : Int} (ha : 0 ≤ a ∧ a ≤ 15) (hb : 0 ≤ b ∧ b ≤ 15) (hc : 0 ≤ c ∧ c ≤ 15) (hd : 0 ≤ d ∧ d ≤ 15) : WfI a b c d 0 := ⟨by omega, by omega, by omega, by omega, by omega, by omega⟩
theorem a0_wf : WfC a0 := by
  intro x hx
  simp only [a0, List.mem_cons, List.not_mem_nil, or_false] at hx
  rcases hx with rfl | rfl
  · exact wf_small (by decide) (by decide) (by decide) (by decide)
  · exact wf_small (by decide) (by decide) (by decide) (by decide)
theorem a0_lv : lvI a0 = [0, 1, 0] := by decide +kernel
theorem alive_ev : Ev (fun k => lockstitchlaw08_alive.f k) true := by
  have e : live_In.f [(⟨#[105]⟩ : ByteArray)] (⟨#[48]⟩ : ByteArray) (⟨#[]⟩ : ByteArray) a0 = some [0, 1, 0] := by
    rw [← a0_lv]
    exact if_pos ⟨a0_inR, by decide, a0_wf⟩
  have u : Ev (fun k => live_Uses.f k 11 1 2 0 0) 6 := uses_ev (wf_small (by decide) (by decide) (by decide) (by decide))
  have s : Ev (fun k => live_Sets.f k 7 3 0 0 0) 8 := sets_ev (wf_small (by decide) (by decide) (by decide) (by decide))
  refine ev_bind (ev_all fun _ => e) (Ev.congr (fun k => if_pos (by decide)) (Ev.congr (fun k => if_pos (by decide)) (Ev.congr (fun k => if_pos (by decide)) (Ev.congr (fun k => if_pos (by decide)) (Ev.congr (fun k => if_pos (by decide)) (Ev.congr (fun k => if_pos (by decide)) (Ev.congr (fun k => if_pos (by decide)) ?_)))))))
  exact ev_bind u (Ev.congr (fun k => if_pos rfl) (ev_bind s ev_const))
end Go.Proofs.YtkplgfhkebkaaaaDoor.LL

namespace Go.Proofs.YtkplgfhkebkaaaaDoor.ST
open Go.RowKit Go.Proofs.YtkplgfhkebkaaaaDoorW.PrintWords Go.Proofs.YtkplgfhkebkaaaaDoor.Scan Go.Proofs.YtkplgfhkebkaaaaDoor.F Go.Proofs.YtkplgfhkebkaaaaDoor.KP Go.Proofs.YtkplgfhkebkaaaaDoor.TT Go.Proofs.YtkplgfhkebkaaaaDoor.NX Go.Proofs.YtkplgfhkebkaaaaDoor.FP Go.Proofs.YtkplgfhkebkaaaaDoor.FL Go.Proofs.YtkplgfhkebkaaaaDoor.B8 Go.Proofs.YtkplgfhkebkaaaaDoor.LB
set_option linter.unusedVariables false
set_option linter.unusedSectionVars false
structure Alk (L : S8) (s t : PS) : Prop where
  x : ∀ k : Nat, k < 8 → s.n k = t.n k
  gs : ∀ k : Nat, k < 4 → s.n (16 + k) = t.n (16 + k)
  p : ∀ a : Nat, a < 8 → L.getLsbD a = true → s.n (8 + a) = t.n (8 + a)
  objs : s.objs = t.objs
  out : s.out = t.out
  pc : s.pc = t.pc
  steps : s.steps = t.steps
section
variable {L L' : S8} {s t : PS}
theorem Alk.weak (h : Alk L s t) (hL : ∀ a, a < 8 → L'.getLsbD a = true → L.getLsbD a = true) : Alk L' s t := ⟨h.x, h.gs, fun a ha hb => h.p a ha (hL a ha hb), h.objs, h.out, h.pc, h.steps⟩
theorem Alk.setX (h : Alk L s t) {k : Nat} (hk : k < 8) {v w : Int} (e : v = w) : Alk L { s with n := upd s.n k v } { t with n := upd t.n k w } := by
  subst e
  refine ⟨fun j hj => ?_, fun j hj => ?_, fun a ha hb => ?_, h.objs, h.out, h.pc, h.steps⟩
  · show upd s.n k v j = upd t.n k v j
    unfold upd
    split
    · rfl
    · exact h.x j hj
  · exact (upd_ne s.n v (by omega)).trans ((h.gs j hj).trans (upd_ne t.n v (by omega)).symm)
  · exact (upd_ne s.n v (by omega)).trans ((h.p a ha hb).trans (upd_ne t.n v (by omega)).symm)
theorem Alk.setG (h : Alk L s t) {k : Nat} (hk : k < 4) {v w : Int} (e : v = w) : Alk L { s with n := upd s.n (16 + k) v } { t with n := upd t.n (16 + k) w } := by
  subst e
  refine ⟨fun j hj => (upd_ne s.n v (by omega)).trans ((h.x j hj).trans (upd_ne t.n v (by omega)).symm), fun j hj => ?_, fun a ha hb => (upd_ne s.n v (by omega)).trans ((h.p a ha hb).trans (upd_ne t.n v (by omega)).symm), h.objs, h.out, h.pc, h.steps⟩
  show upd s.n (16 + k) v (16 + j) = upd t.n (16 + k) v (16 + j)
  unfold upd
  split
  · rfl
  · exact h.gs j hj
theorem Alk.setP (h : Alk L s t) {k : Nat} (hk : k < 8) {v w : Int} (e : v = w) (hL : ∀ a, a < 8 → L'.getLsbD a = true → a ≠ k → L.getLsbD a = true) : Alk L' { s with n := upd s.n (8 + k) v } { t with n := upd t.n (8 + k) w } := by
  subst e
  refine ⟨fun j hj => (upd_ne s.n v (by omega)).trans ((h.x j hj).trans (upd_ne t.n v (by omega)).symm), fun j hj => (upd_ne s.n v (by omega)).trans ((h.gs j hj).trans (upd_ne t.n v (by omega)).symm), fun a ha hb => ?_, h.objs, h.out, h.pc, h.steps⟩
  show upd s.n (8 + k) v (8 + a) = upd t.n (8 + k) v (8 + a)
  unfold upd
  split
  · rfl
  · exact h.p a ha (hL a ha hb (by omega))
theorem Alk.objs' (h : Alk L s t) {l m : List (List Int)} (e : l = m) : Alk L { s with objs := l } { t with objs := m } := ⟨h.x, h.gs, h.p, e, h.out, h.pc, h.steps⟩
theorem Alk.out' (h : Alk L s t) {l m : List Int} (e : l = m) : Alk L { s with out := l } { t with out := m } := ⟨h.x, h.gs, h.p, h.objs, e, h.pc, h.steps⟩
theorem Alk.pc' (h : Alk L s t) (p : Int) {a b : Int} (e : a = b) : Alk L { s with pc := p, steps := a } { t with pc := p, steps := b } := ⟨h.x, h.gs, h.p, h.objs, h.out, rfl, e⟩
end
section
variable {loc glb sz : Int → Int} {to_ : Int → Int → Int} {x : S47} (hx : KK loc glb sz to_ x) (h1 : 0 ≤ x.f1) (h2 : 0 ≤ x.f2) (h3 : 0 ≤ x.f3) (hop : 1 ≤ x.f0 ∧ x.f0 ≤ 15) (hj : x.f0 ≠ 3 ∧ x.f0 ≠ 4)
include hx h1 h2 h3 hop hj
theorem stepN_alk {L L' : S8} {s t : PS} (h : Alk L s t) (hu : Sub (usesB x.f0 x.f1 x.f2 x.f3) L) (hL : ∀ a, a < 8 → L'.getLsbD a = true → (setsB x.f0 x.f1).getLsbD a = true ∨ L.getLsbD a = true) :
    (stepN sz loc x s = none ∧ stepN sz loc x t = none) ∨ ∃ u w, stepN sz loc x s = some u ∧ stepN sz loc x t = some w ∧ Alk L' u w := by
  have hO : ∀ a : Int, 0 ≤ a → a < 8 → (own a).getLsbD a.toNat = true := fun a h0 h8 => (own_bit _ _).2 ⟨rfl, by omega⟩
  have hw0 : setsB x.f0 x.f1 = 0 → ∀ a, a < 8 → L'.getLsbD a = true → L.getLsbD a = true := fun e a ha hb => (hL a ha hb).resolve_left fun hh => by rw [e] at hh; simp at hh
  have hw1 : setsB x.f0 x.f1 = own x.f1 → ∀ a, a < 8 → L'.getLsbD a = true → a ≠ x.f1.toNat → L.getLsbD a = true := fun e a ha hb hne => (hL a ha hb).resolve_left fun hh => by rw [e] at hh; exact hne ((own_bit _ _).1 hh).1.symm
  have hs0 : ¬ (x.f0 = 5 ∨ x.f0 = 6 ∨ x.f0 = 7 ∨ x.f0 = 10 ∨ x.f0 = 12) → setsB x.f0 x.f1 = 0 := fun e => if_neg e
  have hs1 : x.f0 = 5 ∨ x.f0 = 6 ∨ x.f0 = 7 ∨ x.f0 = 10 ∨ x.f0 = 12 → setsB x.f0 x.f1 = own x.f1 := fun e => if_pos e
  have uB : x.f0 = 7 ∨ x.f0 = 8 ∨ x.f0 = 10 ∨ x.f0 = 13 → x.f2 < 8 → s.n (8 + x.f2.toNat) = t.n (8 + x.f2.toNat) := fun o hl => h.p _ (by omega) (hu _ (by rw [show usesB x.f0 x.f1 x.f2 x.f3 = own x.f2 from if_pos o]; exact hO _ h2 hl))
  have uA9 : x.f0 = 9 → x.f1 < 8 → s.n (8 + x.f1.toNat) = t.n (8 + x.f1.toNat) := fun o hl => h.p _ (by omega) (hu _ (by rw [show usesB x.f0 x.f1 x.f2 x.f3 = own x.f1 by unfold usesB; rw [if_neg (by omega), if_pos o]]; exact hO _ h1 hl))
  have e11 : x.f0 = 11 → usesB x.f0 x.f1 x.f2 x.f3 = own x.f1 ||| own x.f2 := fun o => by unfold usesB; rw [if_neg (by omega), if_neg (by omega), if_pos o]
  have e15 : x.f0 = 15 → usesB x.f0 x.f1 x.f2 x.f3 = own x.f2 ||| own x.f3 := fun o => by unfold usesB; rw [if_neg (by omega), if_neg (by omega), if_neg (by omega), if_pos o]
  have X : ∀ a : Int, 0 ≤ a → a < 8 → s.n a.toNat = t.n a.toNat := fun a h0 h8 => h.x _ (by omega)
  unfold stepN
  by_cases o1 : x.f0 = 1
  · rw [if_pos o1, if_pos o1]
    have := hx.ia (by omega)
    exact .inr ⟨_, _, rfl, rfl, (h.weak (hw0 (hs0 (by omega)))).setX (by omega) rfl⟩
  rw [if_neg o1, if_neg o1]
  by_cases o2 : x.f0 = 2
  · rw [if_pos o2, if_pos o2]
    have := hx.ia (by omega)
    exact .inr ⟨_, _, rfl, rfl, (h.weak (hw0 (hs0 (by omega)))).setX (by omega) (by rw [X _ h2 (hx.ib (by omega)), X _ h3 (hx.ic o2)])⟩
  rw [if_neg o2, if_neg o2]
  by_cases o15 : x.f0 = 15
  · rw [if_pos o15, if_pos o15]
    have ha := hx.ia (by omega)
    have hb := hx.pb (by omega)
    have hc := hx.pc o15
    have eb : s.n (8 + x.f2.toNat) = t.n (8 + x.f2.toNat) := h.p _ (by omega) (hu _ (by rw [e15 o15, BitVec.getLsbD_or, Bool.or_eq_true]; exact .inl (hO _ h2 hb)))
    have ec : s.n (8 + x.f3.toNat) = t.n (8 + x.f3.toNat) := h.p _ (by omega) (hu _ (by rw [e15 o15, BitVec.getLsbD_or, Bool.or_eq_true]; exact .inr (hO _ h3 hc)))
    exact .inr ⟨_, _, rfl, rfl, (h.weak (hw0 (hs0 (by omega)))).setX (by omega) (by rw [eb, ec])⟩
  rw [if_neg o15, if_neg o15]
  by_cases o14 : x.f0 = 14
  · rw [if_pos o14, if_pos o14]
    exact .inr ⟨_, _, rfl, rfl, (h.weak (hw0 (hs0 (by omega)))).out' (by rw [h.out, X _ h1 (hx.ia (by omega))])⟩
  rw [if_neg o14, if_neg o14]
  by_cases o5 : x.f0 = 5
  · rw [if_pos o5, if_pos o5]
    have ha := hx.pa (by omega)
    have eo : s.objs ++ [List.replicate (sz (loc x.f1)).toNat (0 : Int)] = t.objs ++ [List.replicate (sz (loc x.f1)).toNat 0] := by rw [h.objs]
    have ev : ((s.objs.length + 1 : Nat) : Int) = ((t.objs.length + 1 : Nat) : Int) := by rw [h.objs]
    exact .inr ⟨_, _, rfl, rfl, (h.objs' eo).setP (by omega) ev (hw1 (hs1 (by omega)))⟩
  rw [if_neg o5, if_neg o5]
  by_cases o6 : x.f0 = 6
  · rw [if_pos o6, if_pos o6]
    have ha := hx.pa (by omega)
    exact .inr ⟨_, _, rfl, rfl, h.setP (by omega) rfl (hw1 (hs1 (by omega)))⟩
  rw [if_neg o6, if_neg o6]
  by_cases o7 : x.f0 = 7
  · rw [if_pos o7, if_pos o7]
    have ha := hx.pa (by omega)
    have hb := hx.pb (by omega)
    exact .inr ⟨_, _, rfl, rfl, h.setP (by omega) (uB (by omega) hb) (hw1 (hs1 (by omega)))⟩
  rw [if_neg o7, if_neg o7]
  by_cases o12 : x.f0 = 12
  · rw [if_pos o12, if_pos o12]
    have ha := hx.pa (by omega)
    have hb := hx.gb o12
    exact .inr ⟨_, _, rfl, rfl, h.setP (by omega) (h.gs _ (by omega)) (hw1 (hs1 (by omega)))⟩
  rw [if_neg o12, if_neg o12]
  by_cases o13 : x.f0 = 13
  · rw [if_pos o13, if_pos o13]
    have ha := hx.ga o13
    have hb := hx.pb (by omega)
    exact .inr ⟨_, _, rfl, rfl, (h.weak (hw0 (hs0 (by omega)))).setG (by omega) (uB (by omega) hb)⟩
  rw [if_neg o13, if_neg o13]
  by_cases o8 : x.f0 = 8
  · rw [if_pos o8, if_pos o8]
    have ha := hx.ia (by omega)
    have hb := hx.pb (by omega)
    have e := uB (by omega) hb
    rw [e]
    by_cases hz : t.n (8 + x.f2.toNat) = 0
    · rw [if_pos hz, if_pos hz]
      exact .inl ⟨rfl, rfl⟩
    · rw [if_neg hz, if_neg hz]
      exact .inr ⟨_, _, rfl, rfl, (h.weak (hw0 (hs0 (by omega)))).setX (by omega) (by rw [h.objs])⟩
  rw [if_neg o8, if_neg o8]
  by_cases o10 : x.f0 = 10
  · rw [if_pos o10, if_pos o10]
    have ha := hx.pa (by omega)
    have hb := hx.pb (by omega)
    have e := uB (by omega) hb
    rw [e]
    by_cases hz : t.n (8 + x.f2.toNat) = 0
    · rw [if_pos hz, if_pos hz]
      exact .inl ⟨rfl, rfl⟩
    · rw [if_neg hz, if_neg hz]
      exact .inr ⟨_, _, rfl, rfl, h.setP (by omega) (by rw [h.objs]) (hw1 (hs1 (by omega)))⟩
  rw [if_neg o10, if_neg o10]
  by_cases o9 : x.f0 = 9
  · rw [if_pos o9, if_pos o9]
    have ha := hx.pa (by omega)
    have e := uA9 o9 ha
    rw [e]
    by_cases hz : t.n (8 + x.f1.toNat) = 0
    · rw [if_pos hz, if_pos hz]
      exact .inl ⟨rfl, rfl⟩
    · rw [if_neg hz, if_neg hz]
      exact .inr ⟨_, _, rfl, rfl, (h.weak (hw0 (hs0 (by omega)))).objs' (by rw [h.objs, X _ h2 (hx.ib (by omega))])⟩
  rw [if_neg o9, if_neg o9]
  have o11 : x.f0 = 11 := by omega
  have ha := hx.pa (by omega)
  have hb := hx.pb (by omega)
  have ea : s.n (8 + x.f1.toNat) = t.n (8 + x.f1.toNat) := h.p _ (by omega) (hu _ (by rw [e11 o11, BitVec.getLsbD_or, Bool.or_eq_true]; exact .inl (hO _ h1 ha)))
  have eb : s.n (8 + x.f2.toNat) = t.n (8 + x.f2.toNat) := h.p _ (by omega) (hu _ (by rw [e11 o11, BitVec.getLsbD_or, Bool.or_eq_true]; exact .inr (hO _ h2 hb)))
  rw [ea]
  by_cases hz : t.n (8 + x.f1.toNat) = 0
  · rw [if_pos hz, if_pos hz]
    exact .inl ⟨rfl, rfl⟩
  · rw [if_neg hz, if_neg hz]
    exact .inr ⟨_, _, rfl, rfl, (h.weak (hw0 (hs0 (by omega)))).objs' (by rw [h.objs, eb])⟩
end
end Go.Proofs.YtkplgfhkebkaaaaDoor.ST

namespace Go.Proofs.YtkplgfhkebkaaaaDoor.ST
open Go.RowKit Go.Proofs.YtkplgfhkebkaaaaDoorW.PrintWords Go.Proofs.YtkplgfhkebkaaaaDoor.Scan Go.Proofs.YtkplgfhkebkaaaaDoor.F Go.Proofs.YtkplgfhkebkaaaaDoor.KP Go.Proofs.YtkplgfhkebkaaaaDoor.TT Go.Proofs.YtkplgfhkebkaaaaDoor.NX Go.Proofs.YtkplgfhkebkaaaaDoor.FP Go.Proofs.YtkplgfhkebkaaaaDoor.FL Go.Proofs.YtkplgfhkebkaaaaDoor.B8 Go.Proofs.YtkplgfhkebkaaaaDoor.LB
set_option linter.unusedVariables false
set_option linter.unusedSectionVars false
section
variable {ts : List ByteArray} {la gl : ByteArray} {code : List S47} (h : SP ts la gl code) (hl : (ts.length : Int) ≤ 9223372036854775807) (hs : ∀ s ∈ ts, (s.size : Int) ≤ 9223372036854775807) (hla : Fit la) (hgl : Fit gl) (hw : WfC code)
include h hl hs hla hgl hw
theorem step_alk {s t : PS} (h0 : 0 ≤ s.pc) (h1 : s.pc < code.length) (hA : Alk (g (lvB code) s.pc.toNat) s t) :
    (∃ u w, stepP (size ts) (atv ts la) code s = (u, false, 0) ∧ stepP (size ts) (atv ts la) code t = (w, false, 0) ∧ Alk (g (lvB code) u.pc.toNat) u w) ∨
      (stepP (size ts) (atv ts la) code s = (s, false, 9) ∧ stepP (size ts) (atv ts la) code t = (t, false, 9)) := by
  obtain ⟨q, hq⟩ := Int.eq_ofNat_of_zero_le h0
  have hql : q < code.length := by omega
  have hpt : t.pc = (q : Int) := by rw [← hA.pc, hq]
  have hstep := LL.lv_step code q hql
  have hx := hw.rd q hql
  have kk := SP.kk h hl hs hla hgl hw q hql
  have hop := (h.all q hql).op
  have hL : ∀ m ∈ nxt code (q : Int), ∀ a, a < 8 → (g (lvB code) m.toNat).getLsbD a = true → (setsB (rd_T47 code q).f0 (rd_T47 code q).f1).getLsbD a = true ∨ (g (lvB code) q).getLsbD a = true := by
    intro m hm a _ hb
    by_cases hst : (setsB (rd_T47 code q).f0 (rd_T47 code q).f1).getLsbD a = true
    · exact .inl hst
    · right
      rw [hstep, lst_bit]
      exact .inl ⟨⟨m, hm, hb⟩, by simpa [stB] using hst⟩
  have hu : Sub (usesB (rd_T47 code q).f0 (rd_T47 code q).f1 (rd_T47 code q).f2 (rd_T47 code q).f3) (g (lvB code) q) := fun i hi => by
    rw [hstep, lst_bit]
    exact .inr hi
  rw [hq, Int.toNat_natCast] at hA
  have hn : ∀ {u : PS}, stepP (size ts) (atv ts la) code s = (u, false, 0) → u.pc ∈ nxt code (q : Int) := fun e => by
    have := step_next h hl hs hla hgl hw h0 h1 e
    rwa [hq] at this
  have esteps : wrap64 (s.steps + 1) = wrap64 (t.steps + 1) := by rw [hA.steps]
  by_cases hc : (rd_T47 code q).f0 = 3 ∨ ((rd_T47 code q).f0 = 4 ∧ s.n (rd_T47 code q).f1.toNat = 0)
  · have hct : (rd_T47 code q).f0 = 3 ∨ ((rd_T47 code q).f0 = 4 ∧ t.n (rd_T47 code q).f1.toNat = 0) := hc.imp id fun ⟨o, z⟩ => ⟨o, by rw [← hA.x _ (by have := kk.ia (by omega); have := hx.2.1.1; omega)]; exact z⟩
    have es : stepP (size ts) (atv ts la) code s = ({ s with pc := (rd_T47 code q).f4, steps := wrap64 (s.steps + 1) }, false, 0) := by
      unfold stepP
      rw [if_neg (by omega), hq, if_pos hc]
    have et : stepP (size ts) (atv ts la) code t = ({ t with pc := (rd_T47 code q).f4, steps := wrap64 (t.steps + 1) }, false, 0) := by
      unfold stepP
      rw [if_neg (by omega), hpt, if_pos hct]
    have hm := hn es
    refine .inl ⟨_, _, es, et, (hA.weak fun a ha hb => (hL _ hm a ha hb).resolve_left fun hh => ?_).pc' _ esteps⟩
    rw [show setsB (rd_T47 code q).f0 (rd_T47 code q).f1 = 0 from if_neg (by omega)] at hh
    simp at hh
  · have hct : ¬ ((rd_T47 code q).f0 = 3 ∨ ((rd_T47 code q).f0 = 4 ∧ t.n (rd_T47 code q).f1.toNat = 0)) := fun hh => hc (hh.imp id fun ⟨o, z⟩ => ⟨o, by rw [hA.x _ (by have := kk.ia (by omega); have := hx.2.1.1; omega)]; exact z⟩)
    by_cases h4 : (rd_T47 code q).f0 = 4
    · have es : stepP (size ts) (atv ts la) code s = ({ s with pc := (q : Int) + 1, steps := wrap64 (s.steps + 1) }, false, 0) := by
        unfold stepP
        rw [if_neg (by omega), hq, if_neg hc, if_pos h4]
      have et : stepP (size ts) (atv ts la) code t = ({ t with pc := (q : Int) + 1, steps := wrap64 (t.steps + 1) }, false, 0) := by
        unfold stepP
        rw [if_neg (by omega), hpt, if_neg hct, if_pos h4]
      have hm := hn es
      refine .inl ⟨_, _, es, et, (hA.weak fun a ha hb => (hL _ hm a ha hb).resolve_left fun hh => ?_).pc' _ esteps⟩
      rw [show setsB (rd_T47 code q).f0 (rd_T47 code q).f1 = 0 from if_neg (by omega)] at hh
      simp at hh
    · have hA' : Alk (g (lvB code) q) { s with pc := (q : Int) + 1, steps := wrap64 (s.steps + 1) } { t with pc := (q : Int) + 1, steps := wrap64 (t.steps + 1) } := hA.pc' _ esteps
      have hm1 : nxt code (q : Int) = [(q : Int) + 1] := by
        unfold nxt
        rw [if_pos ⟨by omega, by omega⟩, if_neg (fun hh => hc (.inl hh)), if_neg h4]
      have es : stepP (size ts) (atv ts la) code s = match stepN (size ts) (atv ts la) (rd_T47 code q) { s with pc := (q : Int) + 1, steps := wrap64 (s.steps + 1) } with | some u => (u, false, 0) | none => (s, false, 9) := by
        unfold stepP
        rw [if_neg (by omega), hq, if_neg hc, if_neg h4]
        rfl
      have et : stepP (size ts) (atv ts la) code t = match stepN (size ts) (atv ts la) (rd_T47 code q) { t with pc := (q : Int) + 1, steps := wrap64 (t.steps + 1) } with | some u => (u, false, 0) | none => (t, false, 9) := by
        unfold stepP
        rw [if_neg (by omega), hpt, if_neg hct, if_neg h4]
        rfl
      rcases stepN_alk (L' := g (lvB code) (q + 1)) kk hx.2.1.1 hx.2.2.1.1 hx.2.2.2.1.1 hop ⟨fun hh => hc (.inl hh), h4⟩ hA' hu (fun a ha hb => hL ((q : Int) + 1) (by rw [hm1]; exact List.mem_cons_self ..) a ha (by rw [show ((q : Int) + 1).toNat = q + 1 by omega]; exact hb)) with ⟨n1, n2⟩ | ⟨u, w, n1, n2, hAu⟩
      · rw [n1] at es
        rw [n2] at et
        exact .inr ⟨es, et⟩
      · rw [n1] at es
        rw [n2] at et
        have hpc : u.pc = (q : Int) + 1 := (stepN_pc n1).1
        exact .inl ⟨u, w, es, et, by rw [hpc, show ((q : Int) + 1).toNat = q + 1 by omega]; exact hAu⟩
theorem step_range {s u : PS} (h0 : 0 ≤ s.pc) (h1 : s.pc < code.length) (e : stepP (size ts) (atv ts la) code s = (u, false, 0)) : 0 ≤ u.pc ∧ u.pc ≤ code.length := by
  have := SP.inR h _ _ (step_next h hl hs hla hgl hw h0 h1 e)
  omega
theorem step_wt {ty : List Int} {s u : PS} (h0 : 0 ≤ s.pc) (h1 : s.pc < code.length) (ht : WT (atv ts la) (atv ts gl) (size ts) (to_ ts) ty s) (e : stepP (size ts) (atv ts la) code s = (u, false, 0)) :
    ∃ ty', WT (atv ts la) (atv ts gl) (size ts) (to_ ts) ty' u := by
  obtain ⟨q, hq⟩ := Int.eq_ofNat_of_zero_le h0
  have hql : q < code.length := by omega
  have hx := hw.rd q hql
  have kk := SP.kk h hl hs hla hgl hw q hql
  have hop := (h.all q hql).op
  unfold stepP at e
  rw [if_neg (by omega), hq] at e
  by_cases hc : (rd_T47 code q).f0 = 3 ∨ ((rd_T47 code q).f0 = 4 ∧ s.n (rd_T47 code q).f1.toNat = 0)
  · rw [if_pos hc] at e
    obtain rfl := fst_eq e
    exact ⟨ty, ht.pc _ _ _⟩
  · rw [if_neg hc] at e
    by_cases h4 : (rd_T47 code q).f0 = 4
    · rw [if_pos h4] at e
      obtain rfl := fst_eq e
      exact ⟨ty, ht.pc _ _ _⟩
    · rw [if_neg h4] at e
      split at e
      · rename_i w hw'
        obtain rfl := fst_eq e
        exact stepN_wt kk hx.2.1.1 hx.2.2.1.1 hop ⟨fun hh => hc (.inl hh), h4⟩ (ht.pc ((q : Int) + 1) (wrap64 (s.steps + 1)) s.out) hw'
      · have := congrArg (fun p => p.2.2) e
        simp at this
end
end Go.Proofs.YtkplgfhkebkaaaaDoor.ST

namespace Go.Proofs.YtkplgfhkebkaaaaDoor.ST
open Go.RowKit Go.Proofs.YtkplgfhkebkaaaaDoorW.PrintWords Go.Proofs.YtkplgfhkebkaaaaDoor.Scan Go.Proofs.YtkplgfhkebkaaaaDoor.F Go.Proofs.YtkplgfhkebkaaaaDoor.KP Go.Proofs.YtkplgfhkebkaaaaDoor.TT Go.Proofs.YtkplgfhkebkaaaaDoor.NX Go.Proofs.YtkplgfhkebkaaaaDoor.FP Go.Proofs.YtkplgfhkebkaaaaDoor.FL Go.Proofs.YtkplgfhkebkaaaaDoor.B8 Go.Proofs.YtkplgfhkebkaaaaDoor.LB
set_option linter.unusedVariables false
set_option linter.unusedSectionVars false
def jmp (code : List S47) (s : PS) : PS := { s with pc := if (rd_T47 code s.pc).f0 = 3 ∨ ((rd_T47 code s.pc).f0 = 4 ∧ s.n (rd_T47 code s.pc).f1.toNat = 0) then (rd_T47 code s.pc).f4 else s.pc + 1, steps := wrap64 (s.steps + 1) }
theorem stepP_jmp {sz loc : Int → Int} {code : List S47} {s : PS} (h : s.pc ≠ code.length) (hj : (rd_T47 code s.pc).f0 = 3 ∨ (rd_T47 code s.pc).f0 = 4) : stepP sz loc code s = (jmp code s, false, 0) := by
  unfold stepP jmp
  rw [if_neg h]
  by_cases hc : (rd_T47 code s.pc).f0 = 3 ∨ ((rd_T47 code s.pc).f0 = 4 ∧ s.n (rd_T47 code s.pc).f1.toNat = 0)
  · rw [if_pos hc, if_pos hc]
  · rw [if_neg hc, if_neg hc, if_pos (hj.resolve_left fun e => hc (.inl e))]
theorem stepP_no {sz loc : Int → Int} {code : List S47} {s : PS} (h : s.pc ≠ code.length) (h3 : (rd_T47 code s.pc).f0 ≠ 3) (h4 : (rd_T47 code s.pc).f0 ≠ 4) :
    stepP sz loc code s = match stepN sz loc (rd_T47 code s.pc) { s with pc := s.pc + 1, steps := wrap64 (s.steps + 1) } with | some u => (u, false, 0) | none => (s, false, 9) := by
  unfold stepP
  rw [if_neg h, if_neg (by rintro (e | e); exact h3 e; exact h4 e.1), if_neg h4]
  rfl
section
variable {ts : List ByteArray} {la gl : ByteArray} {code : List S47} (h : SP ts la gl code) (hl : (ts.length : Int) ≤ 9223372036854775807) (hs : ∀ s ∈ ts, (s.size : Int) ≤ 9223372036854775807) (hla : Fit la) (hgl : Fit gl) (hw : WfC code)
include h hl hs hla hgl hw
theorem step_reads {s t : PS} (h0 : 0 ≤ s.pc) (h1 : s.pc < code.length) (hA : Alk (usesB (rd_T47 code s.pc).f0 (rd_T47 code s.pc).f1 (rd_T47 code s.pc).f2 (rd_T47 code s.pc).f3) s t) :
    (∃ u w, stepP (size ts) (atv ts la) code s = (u, false, 0) ∧ stepP (size ts) (atv ts la) code t = (w, false, 0) ∧
        Alk (setsB (rd_T47 code s.pc).f0 (rd_T47 code s.pc).f1) u w ∧ ∀ a : Nat, a < 8 → (setsB (rd_T47 code s.pc).f0 (rd_T47 code s.pc).f1).getLsbD a = false → u.n (8 + a) = s.n (8 + a) ∧ w.n (8 + a) = t.n (8 + a)) ∨
      (stepP (size ts) (atv ts la) code s = (s, false, 9) ∧ stepP (size ts) (atv ts la) code t = (t, false, 9)) := by
  obtain ⟨q, hq⟩ := Int.eq_ofNat_of_zero_le h0
  have hql : q < code.length := by omega
  have hpt : t.pc = s.pc := hA.pc.symm
  have hx := hw.rd q hql
  have kk := SP.kk h hl hs hla hgl hw q hql
  have hop := (h.all q hql).op
  rw [← hq] at hx kk hop
  have hne : s.pc ≠ code.length := by omega
  by_cases hj : (rd_T47 code s.pc).f0 = 3 ∨ (rd_T47 code s.pc).f0 = 4
  · have es := stepP_jmp (sz := size ts) (loc := atv ts la) hne hj
    have et := stepP_jmp (sz := size ts) (loc := atv ts la) (s := t) (by rw [hpt]; exact hne) (by rw [hpt]; exact hj)
    refine .inl ⟨_, _, es, et, ?_, fun a _ _ => ⟨rfl, rfl⟩⟩
    refine ⟨hA.x, hA.gs, fun a ha hb => ?_, hA.objs, hA.out, ?_, by show wrap64 (s.steps + 1) = wrap64 (t.steps + 1); rw [hA.steps]⟩
    · rw [show setsB (rd_T47 code s.pc).f0 (rd_T47 code s.pc).f1 = 0 from if_neg (by omega)] at hb
      simp at hb
    · unfold jmp
      rw [hpt]
      by_cases h4 : (rd_T47 code s.pc).f0 = 4
      · have hn := hA.x (rd_T47 code s.pc).f1.toNat (by have := kk.ia (by omega); have := hx.2.1.1; omega)
        rw [hn]
      · have h3 := hj.resolve_right h4
        rw [if_pos (.inl h3), if_pos (.inl h3)]
  · have h3 : (rd_T47 code s.pc).f0 ≠ 3 := fun e => hj (.inl e)
    have h4 : (rd_T47 code s.pc).f0 ≠ 4 := fun e => hj (.inr e)
    have es := stepP_no (sz := size ts) (loc := atv ts la) hne h3 h4
    have et := stepP_no (sz := size ts) (loc := atv ts la) (s := t) (by rw [hpt]; exact hne) (by rw [hpt]; exact h3) (by rw [hpt]; exact h4)
    rw [hpt] at et
    have hA' : Alk (usesB (rd_T47 code s.pc).f0 (rd_T47 code s.pc).f1 (rd_T47 code s.pc).f2 (rd_T47 code s.pc).f3) { s with pc := s.pc + 1, steps := wrap64 (s.steps + 1) } { t with pc := s.pc + 1, steps := wrap64 (t.steps + 1) } := hA.pc' _ (by rw [hA.steps])
    rcases stepN_alk (L' := setsB (rd_T47 code s.pc).f0 (rd_T47 code s.pc).f1) kk hx.2.1.1 hx.2.2.1.1 hx.2.2.2.1.1 hop ⟨h3, h4⟩ hA' (Sub.refl _) (fun a _ hb => .inl hb) with ⟨n1, n2⟩ | ⟨u, w, n1, n2, hAu⟩
    · rw [n1] at es
      rw [n2] at et
      exact .inr ⟨es, et⟩
    · rw [n1] at es
      rw [n2] at et
      refine .inl ⟨u, w, es, et, hAu, fun a ha hb => ?_⟩
      have p1 := stepN_P hx.2.1.1 (fun o => kk.ia (by omega)) hop ⟨h3, h4⟩ n1 a ha
      have p2 := stepN_P hx.2.1.1 (fun o => kk.ia (by omega)) hop ⟨h3, h4⟩ n2 a ha
      have hno : ((rd_T47 code s.pc).f0 = 5 ∨ (rd_T47 code s.pc).f0 = 6 ∨ (rd_T47 code s.pc).f0 = 7 ∨ (rd_T47 code s.pc).f0 = 10 ∨ (rd_T47 code s.pc).f0 = 12) → a ≠ (rd_T47 code s.pc).f1.toNat := fun o e => by
        rw [show setsB (rd_T47 code s.pc).f0 (rd_T47 code s.pc).f1 = own (rd_T47 code s.pc).f1 from if_pos o, (own_bit _ _).2 ⟨e.symm, ha⟩] at hb
        cases hb
      exact ⟨p1.trans (chP_other hno), p2.trans (chP_other hno)⟩
end
structure Seen (code : List S47) (seen since : Int → Bool) (pc : Int) : Prop where
  rn : ∀ m, seen m = true → RN (nxt code) m pc
  lt : ∀ m, since m = true → m < pc
end Go.Proofs.YtkplgfhkebkaaaaDoor.ST

namespace Go.Proofs.YtkplgfhkebkaaaaDoor.ST
open Go.RowKit Go.Proofs.YtkplgfhkebkaaaaDoorW.PrintWords Go.Proofs.YtkplgfhkebkaaaaDoor.Scan Go.Proofs.YtkplgfhkebkaaaaDoor.F Go.Proofs.YtkplgfhkebkaaaaDoor.FM Go.Proofs.YtkplgfhkebkaaaaDoor.H Go.Proofs.YtkplgfhkebkaaaaDoor.KP Go.Proofs.YtkplgfhkebkaaaaDoor.TT Go.Proofs.YtkplgfhkebkaaaaDoor.NX Go.Proofs.YtkplgfhkebkaaaaDoor.FP Go.Proofs.YtkplgfhkebkaaaaDoor.FL Go.Proofs.YtkplgfhkebkaaaaDoor.B8 Go.Proofs.YtkplgfhkebkaaaaDoor.LB
set_option linter.unusedVariables false
set_option linter.unusedSectionVars false
section
variable {ts : List ByteArray} {la gl : ByteArray} {code : List S47} (hl : (ts.length : Int) ≤ 9223372036854775807) (hsz : ∀ s ∈ ts, (s.size : Int) ≤ 9223372036854775807) (hla : Fit la) (hgl : Fit gl) (hc : (code.length : Int) ≤ 9223372036854775807) (hw : WfC code)
include hl hsz hla hgl hc hw
theorem sound_chk : ∃ b, Ev (fun k => lockstitchlaw07_Sound.f k ts la gl code) b ∧ (b = true → SP ts la gl code ∧ ∃ ck, Ev (fun k => lockstitchref05_Check.f k ts la gl code) (ck, 0)) := by
  obtain ⟨q, hq⟩ : Tot (fun k => lockstitchlaw04_Few.f k ts la gl code) := few_l0 ts hl la gl code ts.length 0 _ (Nat.zero_add _)
  cases q with
  | false => exact ⟨false, ev_bind hq (Ev.congr (fun k => if_neg (by decide)) ev_const), fun e => by cases e⟩
  | true =>
    by_cases h : (code.length : Int) > 60
    · exact ⟨false, ev_bind hq (Ev.congr (fun k => if_pos rfl) (Ev.congr (fun k => if_pos h) ev_const)), fun e => by cases e⟩
    · obtain ⟨r, h1, h2⟩ := check_tot ts hl hsz la gl hla hgl code hc hw
      refine ⟨_, ev_bind hq (Ev.congr (fun k => if_pos rfl) (Ev.congr (fun k => if_neg h) (ev_bind h1 ev_const))), fun e => ?_⟩
      have e0 : r.2 = 0 := beq_iff_eq.1 e
      obtain ⟨a, b, c, d⟩ := h2 e0
      exact ⟨⟨a, by omega, b, c, d⟩, r.1, by rw [← e0]; exact h1⟩
end
theorem uses_used {x0 x1 x2 x3 : Int} {q : Nat} (hq : (q : Int) < 8) (h : ((x0 = 8 ∨ x0 = 10) ∧ x2 = q) ∨ ((x0 = 9 ∨ x0 = 11) ∧ x1 = q)) : (usesB x0 x1 x2 x3).getLsbD q = true := by
  unfold usesB
  rcases h with ⟨h, e⟩ | ⟨h, e⟩
  · rw [if_pos (by omega)]
    exact (own_bit _ _).2 ⟨by omega, by omega⟩
  · rw [if_neg (by omega)]
    by_cases h9 : x0 = 9
    · rw [if_pos h9]
      exact (own_bit _ _).2 ⟨by omega, by omega⟩
    · rw [if_neg h9, if_pos (by omega), BitVec.getLsbD_or, (own_bit x1 q).2 ⟨by omega, by omega⟩]
      rfl
section
variable {w : World} {A0 : Option Addr} {c0 : Nat} {ts : List ByteArray} {la gl : ByteArray} {A3 : Option Addr} {c3 : Nat} {code : List S47} {P : Nat → Prop}
  (hT : Kd.C Kd.string w A0 ts.length ts) (hc0 : ts.length ≤ c0) (hC : Kd.C k47 w A3 code.length code) (hc3 : code.length ≤ c3) {kc : Nat} {ck : Int} (hK : lockstitchref05_Check.f kc ts la gl code = some (ck, 0)) (htab : TB w)
  (hsp : SP ts la gl code) (hl : (ts.length : Int) ≤ 9223372036854775807) (hsz : ∀ s ∈ ts, (s.size : Int) ≤ 9223372036854775807) (hla : Fit la) (hgl : Fit gl) (hw : WfC code)
  {s : PS} {cs : Array Value} (hS : IsS w P s cs) {ty : List Int} {s0 : PS} (hW : WT (atv ts la) (atv ts gl) (size ts) (to_ ts) ty s0) (hob : s0.objs = s.objs) (hU : ∀ q : Nat, (usesB (rd_T47 code s.pc).f0 (rd_T47 code s.pc).f1 (rd_T47 code s.pc).f2 (rd_T47 code s.pc).f3).getLsbD q = true → s0.n (8 + q) = s.n (8 + q)) (h0 : 0 ≤ s.pc) (h1 : s.pc ≤ code.length) (hn1 : s.objs.length ≤ 1000000) (hn2 : s.out.length ≤ 1000000)
include hT hc0 hC hc3 hK htab hsp hl hsz hla hgl hw hS hW hob hU h0 h1 hn1 hn2
theorem Step_pu : Calls Tryd.prog 12 #[.agg #[.slice A0 ts.length c0, .string la, .string gl, .slice A3 code.length c3], .agg cs] w fun e w' =>
    ∃ cs', e = .returned (.tuple #[.agg cs', .bool (stepP (size ts) (atv ts la) code s).2.1, .int .i64 (stepP (size ts) (atv ts la) code s).2.2]) ∧ IsS w' (fun k => P k ∨ w.heap.size ≤ k) (stepP (size ts) (atv ts la) code s).1 cs' ∧ Below w.heap.size w w' := by
  obtain ⟨oA, hs, oc, tA, tc, rfl, hoc, htc, hO, hTo⟩ := hS
  obtain ⟨p, hp⟩ := Int.eq_ofNat_of_zero_le h0
  obtain ⟨n, objs, out, pc, st⟩ := s
  simp only at hp hoc htc hO hTo hn1 hn2 h0 h1 hob hU ⊢
  subst hp
  have hLoc : ∀ a : Int, 0 ≤ a → a ≤ 255 → Ev (fun k => lockstitchref05_Local.f k ts la gl code a) (atv ts la a) := fun a ha0 ha1 => ev_bind (at_ev ts hl hsz la hla a ha0 ha1) ev_const
  have hSz : ∀ x : Int, Ev (fun k => lockstitchref03_Size.f k ts x) (size ts x) := fun x => ref_Size_ev ts hl hsz x
  have hlen := hO.now.len
  have hWl := hW.len
  rw [hob] at hWl
  by_cases he : (p : Int) = code.length
  · have e : stepP (size ts) (atv ts la) code ⟨n, objs, out, p, st⟩ = (⟨n, objs, out, p, st⟩, true, 0) := if_pos he
    rw [e]
    exact ps_end hT hc0 hC hc3 hK htab hLoc hSz hO hoc hTo htc (by omega)
  have hpl : p < code.length := by omega
  have hx := hw.rd p hpl
  have kk := SP.kk hsp hl hsz hla hgl hw p hpl
  have hop := (hsp.all p hpl).op
  obtain ⟨⟨o0, _⟩, ⟨a0, a9⟩, ⟨b0, b9⟩, ⟨c0', c9⟩, _⟩ := hx
  obtain ⟨a, ha⟩ := Int.eq_ofNat_of_zero_le a0
  obtain ⟨b, hb⟩ := Int.eq_ofNat_of_zero_le b0
  obtain ⟨c, hc⟩ := Int.eq_ofNat_of_zero_le c0'
  obtain ⟨N, hN⟩ : ∃ N, (rd_T47 code p).f4 = N := ⟨_, rfl⟩
  have kia := kk.ia
  have kib := kk.ib
  have kic := kk.ic
  have kpa := kk.pa
  have kpb := kk.pb
  have kpc := kk.pc
  have kga := kk.ga
  have kgb := kk.gb
  rw [ha] at kia kpa kga
  rw [hb] at kib kpb kgb
  rw [hc] at kic kpc
  have FLD : ∀ {q : Nat} {t : Int}, (q : Int) < 8 → (usesB (rd_T47 code p).f0 (rd_T47 code p).f1 (rd_T47 code p).f2 (rd_T47 code p).f3).getLsbD q = true → atv ts la (q : Int) = t → ¬ n (8 + q) = 0 → 0 ≤ N → N < size ts t → ∃ o f : Nat, n (8 + q) = (o : Int) + 1 ∧ N = (f : Int) ∧ o < hs.length ∧ f < (objs.getD o []).length ∧ (objs.getD o []).length ≤ 1000000 := by
    intro q t hq hu et hz hN0 hN1
    have := (hW.ps q (by omega)).resolve_left (by rw [hU q hu]; exact hz)
    rw [hU q hu] at this
    obtain ⟨g1, g2, g3⟩ := this
    rw [et] at g3
    have hol := hW.os (n (8 + q) - 1).toNat (by rw [hob]; omega)
    rw [hob] at hol
    rw [g3] at hol
    have h6 := typ_le ts t
    have hs6 : size ts t ≤ 6 := by unfold size; omega
    exact ⟨(n (8 + q) - 1).toNat, N.toNat, by omega, by omega, by omega, by omega, by omega⟩
  unfold stepP
  simp only
  rw [if_neg he]
  by_cases o3 : (rd_T47 code p).f0 = 3
  · rw [if_pos (.inl o3)]
    simp only
    rw [hN]
    exact ps_jump hT hc0 hC hc3 hK htab hLoc hSz hO hoc hTo htc a b c N hpl o3 ha hb hc hN
  by_cases o4 : (rd_T47 code p).f0 = 4
  · have hx8 := kia (by omega)
    by_cases hz : n a = 0
    · rw [if_pos (.inr ⟨o4, by rw [ha]; simpa using hz⟩)]
      simp only
      rw [hN]
      exact ps_zero hT hc0 hC hc3 hK htab hLoc hSz hO hoc hTo htc a b c N hpl o4 ha hb hc hN hx8 hz
    · rw [if_neg (by rintro (e | e); exact o3 e; exact hz (by have := e.2; rw [ha] at this; simpa using this)), if_pos o4]
      simp only
      exact ps_pass hT hc0 hC hc3 hK htab hLoc hSz hO hoc hTo htc a b c N hpl o4 ha hb hc hN hx8 hz
  rw [if_neg (by rintro (e | e); exact o3 e; exact o4 e.1), if_neg o4]
  unfold stepN
  simp only
  rw [ha, hb, hc, hN]
  simp only [Int.toNat_natCast]
  by_cases g1 : (rd_T47 code p).f0 = 1
  · rw [if_pos g1]
    exact ps_set hT hc0 hC hc3 hK htab hLoc hSz hO hoc hTo htc a b c N hpl g1 ha hb hc hN (kia (by omega))
  rw [if_neg g1]
  by_cases g2 : (rd_T47 code p).f0 = 2
  · rw [if_pos g2]
    exact ps_add hT hc0 hC hc3 hK htab hLoc hSz hO hoc hTo htc a b c N hpl g2 ha hb hc hN (kia (by omega)) (kib (by omega)) (kic (by omega))
  rw [if_neg g2]
  by_cases g15 : (rd_T47 code p).f0 = 15
  · rw [if_pos g15]
    by_cases hh : n (8 + b) = n (8 + c)
    · rw [if_pos hh]
      exact ps_same_eq hT hc0 hC hc3 hK htab hLoc hSz hO hoc hTo htc a b c N hpl g15 ha hb hc hN (kia (by omega)) (kpb (by omega)) (kpc (by omega)) hh
    · rw [if_neg hh]
      exact ps_same_ne hT hc0 hC hc3 hK htab hLoc hSz hO hoc hTo htc a b c N hpl g15 ha hb hc hN (kia (by omega)) (kpb (by omega)) (kpc (by omega)) hh
  rw [if_neg g15]
  by_cases g14 : (rd_T47 code p).f0 = 14
  · rw [if_pos g14]
    exact ps_print hT hc0 hC hc3 hK htab hLoc hSz hO hoc hTo htc a b c N hpl g14 ha hb hc hN (kia (by omega)) hn2
  rw [if_neg g14]
  by_cases g5 : (rd_T47 code p).f0 = 5
  · rw [if_pos g5]
    obtain ⟨k1, e1⟩ := ev_at (hLoc (a : Int) (by omega) (by omega))
    obtain ⟨k2, e2⟩ := ev_at (hSz (atv ts la (a : Int)))
    have h6 := typ_le ts (atv ts la (a : Int))
    have en : size ts (atv ts la (a : Int)) = (((size ts (atv ts la (a : Int))).toNat : Nat) : Int) := by unfold size; omega
    rw [en] at e2
    have e5 : ((objs.length + 1 : Nat) : Int) = (hs.length : Int) + 1 := by omega
    rw [e5]
    exact ps_new hT hc0 hC hc3 hK htab hLoc hSz hO hoc hTo htc a b c N hpl g5 ha hb hc hN (kpa (by omega)) (by omega) (size ts (atv ts la (a : Int))).toNat k1 k2 _ (by unfold size; omega) e1 e2
  rw [if_neg g5]
  by_cases g6 : (rd_T47 code p).f0 = 6
  · rw [if_pos g6]
    exact ps_nil hT hc0 hC hc3 hK htab hLoc hSz hO hoc hTo htc a b c N hpl g6 ha hb hc hN (kpa (by omega))
  rw [if_neg g6]
  by_cases g7 : (rd_T47 code p).f0 = 7
  · rw [if_pos g7]
    exact ps_move hT hc0 hC hc3 hK htab hLoc hSz hO hoc hTo htc a b c N hpl g7 ha hb hc hN (kpa (by omega)) (kpb (by omega))
  rw [if_neg g7]
  by_cases g12 : (rd_T47 code p).f0 = 12
  · rw [if_pos g12]
    exact ps_loadG hT hc0 hC hc3 hK htab hLoc hSz hO hoc hTo htc a b c N hpl g12 ha hb hc hN (kpa (by omega)) (kgb (by omega))
  rw [if_neg g12]
  by_cases g13 : (rd_T47 code p).f0 = 13
  · rw [if_pos g13]
    exact ps_storeG hT hc0 hC hc3 hK htab hLoc hSz hO hoc hTo htc a b c N hpl g13 ha hb hc hN (kga (by omega)) (kpb (by omega))
  rw [if_neg g13]
  by_cases g8 : (rd_T47 code p).f0 = 8
  · rw [if_pos g8]
    by_cases hz : n (8 + b) = 0
    · rw [if_pos hz]
      exact ps_none8 hT hc0 hC hc3 hK htab hLoc hSz hO hoc hTo htc a b c N hpl g8 ha hb hc hN (kpb (by omega)) hz
    · rw [if_neg hz]
      obtain ⟨_, k2, k3⟩ := kk.loadI g8
      rw [hb, hN] at k3
      rw [hN] at k2
      obtain ⟨o, f, q1, q2, q3, q4, _⟩ := FLD (kpb (by omega)) (uses_used (kpb (by omega)) (.inl ⟨by omega, hb⟩)) rfl hz k2 k3
      have ef : fld objs (n (8 + b)) N = (objs.getD o []).getD f 0 := by unfold fld; rw [q1, q2]; simp
      rw [ef]
      exact ps_loadI hT hc0 hC hc3 hK htab hLoc hSz hO hoc hTo htc a b c o f hpl g8 ha hb hc (hN.trans q2) q3 q4 q1 (kia (by omega)) (kpb (by omega))
  rw [if_neg g8]
  by_cases g10 : (rd_T47 code p).f0 = 10
  · rw [if_pos g10]
    by_cases hz : n (8 + b) = 0
    · rw [if_pos hz]
      exact ps_none10 hT hc0 hC hc3 hK htab hLoc hSz hO hoc hTo htc a b c N hpl g10 ha hb hc hN (kpb (by omega)) hz
    · rw [if_neg hz]
      obtain ⟨k2, k3, _⟩ := kk.loadP g10
      rw [hb, hN] at k3
      rw [hN] at k2
      obtain ⟨o, f, q1, q2, q3, q4, _⟩ := FLD (kpb (by omega)) (uses_used (kpb (by omega)) (.inl ⟨by omega, hb⟩)) rfl hz k2 k3
      have ef : fld objs (n (8 + b)) N = (objs.getD o []).getD f 0 := by unfold fld; rw [q1, q2]; simp
      rw [ef]
      exact ps_loadP hT hc0 hC hc3 hK htab hLoc hSz hO hoc hTo htc a b c o f hpl g10 ha hb hc (hN.trans q2) q3 q4 q1 (kpa (by omega)) (kpb (by omega))
  rw [if_neg g10]
  by_cases g9 : (rd_T47 code p).f0 = 9
  · rw [if_pos g9]
    by_cases hz : n (8 + a) = 0
    · rw [if_pos hz]
      exact ps_none9 hT hc0 hC hc3 hK htab hLoc hSz hO hoc hTo htc a b c N hpl g9 ha hb hc hN (kpa (by omega)) hz
    · rw [if_neg hz]
      obtain ⟨k2, k3, _⟩ := kk.storeI g9
      rw [ha, hN] at k3
      rw [hN] at k2
      obtain ⟨o, f, q1, q2, q3, q4, q5⟩ := FLD (kpa (by omega)) (uses_used (kpa (by omega)) (.inr ⟨by omega, ha⟩)) rfl hz k2 k3
      have ef : ∀ v, putF objs (n (8 + a)) N v = objs.set o ((objs.getD o []).set f v) := fun v => by unfold putF; rw [q1, q2]; simp
      rw [ef]
      exact ps_storeI hT hc0 hC hc3 hK htab hLoc hSz hO hoc hTo htc a b c o f hpl g9 ha hb hc (hN.trans q2) q3 q4 (by omega) q5 q1 (kpa (by omega)) (kib (by omega))
  rw [if_neg g9]
  have g11 : (rd_T47 code p).f0 = 11 := by omega
  by_cases hz : n (8 + a) = 0
  · rw [if_pos hz]
    exact ps_none11 hT hc0 hC hc3 hK htab hLoc hSz hO hoc hTo htc a b c N hpl g11 ha hb hc hN (kpa (by omega)) hz
  · rw [if_neg hz]
    obtain ⟨k2, k3, _⟩ := kk.storeP g11
    rw [ha, hN] at k3
    rw [hN] at k2
    obtain ⟨o, f, q1, q2, q3, q4, q5⟩ := FLD (kpa (by omega)) (uses_used (kpa (by omega)) (.inr ⟨by omega, ha⟩)) rfl hz k2 k3
    have ef : ∀ v, putF objs (n (8 + a)) N v = objs.set o ((objs.getD o []).set f v) := fun v => by unfold putF; rw [q1, q2]; simp
    rw [ef]
    exact ps_storeP hT hc0 hC hc3 hK htab hLoc hSz hO hoc hTo htc a b c o f hpl g11 ha hb hc (hN.trans q2) q3 q4 (by omega) q5 q1 (kpa (by omega)) (kpb (by omega))
end
section
variable {w : World} {A0 : Option Addr} {c0 : Nat} {ts : List ByteArray} {la gl : ByteArray} {A3 : Option Addr} {c3 : Nat} {code : List S47} {P : Nat → Prop}
  (hT : Kd.C Kd.string w A0 ts.length ts) (hc0 : ts.length ≤ c0) (hC : Kd.C k47 w A3 code.length code) (hc3 : code.length ≤ c3) {kc : Nat} {ck : Int} (hK : lockstitchref05_Check.f kc ts la gl code = some (ck, 0)) (htab : TB w)
  (hsp : SP ts la gl code) (hl : (ts.length : Int) ≤ 9223372036854775807) (hsz : ∀ s ∈ ts, (s.size : Int) ≤ 9223372036854775807) (hla : Fit la) (hgl : Fit gl) (hw : WfC code)
  {s : PS} {cs : Array Value} (hS : IsS w P s cs) {ty : List Int} (hW : WT (atv ts la) (atv ts gl) (size ts) (to_ ts) ty s) (h0 : 0 ≤ s.pc) (h1 : s.pc ≤ code.length) (hn1 : s.objs.length ≤ 1000000) (hn2 : s.out.length ≤ 1000000)
include hT hc0 hC hc3 hK htab hsp hl hsz hla hgl hw hS hW h0 h1 hn1 hn2
theorem Step_ps : Calls Tryd.prog 12 #[.agg #[.slice A0 ts.length c0, .string la, .string gl, .slice A3 code.length c3], .agg cs] w fun e w' =>
    ∃ cs', e = .returned (.tuple #[.agg cs', .bool (stepP (size ts) (atv ts la) code s).2.1, .int .i64 (stepP (size ts) (atv ts la) code s).2.2]) ∧ IsS w' (fun k => P k ∨ w.heap.size ≤ k) (stepP (size ts) (atv ts la) code s).1 cs' ∧ Below w.heap.size w w' :=
  Step_pu hT hc0 hC hc3 hK htab hsp hl hsz hla hgl hw hS hW rfl (fun _ _ => rfl) h0 h1 hn1 hn2
end
end Go.Proofs.YtkplgfhkebkaaaaDoor.ST

namespace Go.Proofs.YtkplgfhkebkaaaaDoor.ST
open Go.RowKit Go.Proofs.YtkplgfhkebkaaaaDoorW.PrintWords Go.Proofs.YtkplgfhkebkaaaaDoor.Scan Go.Proofs.YtkplgfhkebkaaaaDoor.F Go.Proofs.YtkplgfhkebkaaaaDoor.FM Go.Proofs.YtkplgfhkebkaaaaDoor.H Go.Proofs.YtkplgfhkebkaaaaDoor.KP Go.Proofs.YtkplgfhkebkaaaaDoor.TT Go.Proofs.YtkplgfhkebkaaaaDoor.NX Go.Proofs.YtkplgfhkebkaaaaDoor.FP Go.Proofs.YtkplgfhkebkaaaaDoor.FL
set_option linter.unusedVariables false
set_option linter.unusedSectionVars false
theorem stepN_len {sz loc : Int → Int} {x : S47} {s u : PS} (e : stepN sz loc x s = some u) : u.objs.length ≤ s.objs.length + 1 ∧ u.out.length ≤ s.out.length + 1 ∧ s.objs.length ≤ u.objs.length := by
  have hp : ∀ o f v, (putF s.objs o f v).length = s.objs.length := fun o f v => by unfold putF; rw [List.length_set]
  unfold stepN at e
  by_cases o1 : x.f0 = 1
  · rw [if_pos o1] at e
    obtain rfl := Option.some.inj e
    exact ⟨Nat.le_succ _, Nat.le_succ _, Nat.le_refl _⟩
  rw [if_neg o1] at e
  by_cases o2 : x.f0 = 2
  · rw [if_pos o2] at e
    obtain rfl := Option.some.inj e
    exact ⟨Nat.le_succ _, Nat.le_succ _, Nat.le_refl _⟩
  rw [if_neg o2] at e
  by_cases o15 : x.f0 = 15
  · rw [if_pos o15] at e
    obtain rfl := Option.some.inj e
    exact ⟨Nat.le_succ _, Nat.le_succ _, Nat.le_refl _⟩
  rw [if_neg o15] at e
  by_cases o14 : x.f0 = 14
  · rw [if_pos o14] at e
    obtain rfl := Option.some.inj e
    exact ⟨Nat.le_succ _, by simp, Nat.le_refl _⟩
  rw [if_neg o14] at e
  by_cases o5 : x.f0 = 5
  · rw [if_pos o5] at e
    obtain rfl := Option.some.inj e
    exact ⟨by simp, Nat.le_succ _, by simp⟩
  rw [if_neg o5] at e
  by_cases o6 : x.f0 = 6
  · rw [if_pos o6] at e
    obtain rfl := Option.some.inj e
    exact ⟨Nat.le_succ _, Nat.le_succ _, Nat.le_refl _⟩
  rw [if_neg o6] at e
  by_cases o7 : x.f0 = 7
  · rw [if_pos o7] at e
    obtain rfl := Option.some.inj e
    exact ⟨Nat.le_succ _, Nat.le_succ _, Nat.le_refl _⟩
  rw [if_neg o7] at e
  by_cases o12 : x.f0 = 12
  · rw [if_pos o12] at e
    obtain rfl := Option.some.inj e
    exact ⟨Nat.le_succ _, Nat.le_succ _, Nat.le_refl _⟩
  rw [if_neg o12] at e
  by_cases o13 : x.f0 = 13
  · rw [if_pos o13] at e
    obtain rfl := Option.some.inj e
    exact ⟨Nat.le_succ _, Nat.le_succ _, Nat.le_refl _⟩
  rw [if_neg o13] at e
  by_cases o8 : x.f0 = 8
  · rw [if_pos o8] at e
    split at e
    · cases e
    · obtain rfl := Option.some.inj e
      exact ⟨Nat.le_succ _, Nat.le_succ _, Nat.le_refl _⟩
  rw [if_neg o8] at e
  by_cases o10 : x.f0 = 10
  · rw [if_pos o10] at e
    split at e
    · cases e
    · obtain rfl := Option.some.inj e
      exact ⟨Nat.le_succ _, Nat.le_succ _, Nat.le_refl _⟩
  rw [if_neg o10] at e
  by_cases o9 : x.f0 = 9
  · rw [if_pos o9] at e
    split at e
    · cases e
    · obtain rfl := Option.some.inj e
      exact ⟨by rw [hp]; exact Nat.le_succ _, Nat.le_succ _, by rw [hp]; exact Nat.le_refl _⟩
  rw [if_neg o9] at e
  split at e
  · cases e
  · obtain rfl := Option.some.inj e
    exact ⟨by rw [hp]; exact Nat.le_succ _, Nat.le_succ _, by rw [hp]; exact Nat.le_refl _⟩
structure SInv (ts : List ByteArray) (la gl : ByteArray) (code : List S47) (i : Nat) (s : PS) : Prop where
  pc0 : 0 ≤ s.pc
  pc1 : s.pc ≤ code.length
  wt : ∃ ty, WT (atv ts la) (atv ts gl) (size ts) (to_ ts) ty s
  objs : s.objs.length ≤ i
  out : s.out.length ≤ i
def PS0 : PS := ⟨fun _ => 0, [], [], 0, 0⟩
theorem SInv.start (ts : List ByteArray) (la gl : ByteArray) (code : List S47) : SInv ts la gl code 0 PS0 := ⟨Int.le_refl _, Int.natCast_nonneg _, ⟨[], WT.start _ _ _ _⟩, Nat.le_refl _, Nat.le_refl _⟩
section
variable {ts : List ByteArray} {la gl : ByteArray} {code : List S47} (h : SP ts la gl code) (hl : (ts.length : Int) ≤ 9223372036854775807) (hs : ∀ s ∈ ts, (s.size : Int) ≤ 9223372036854775807) (hla : Fit la) (hgl : Fit gl) (hw : WfC code)
include h hl hs hla hgl hw
theorem SInv.step {i : Nat} {s u : PS} (hI : SInv ts la gl code i s) (e : stepP (size ts) (atv ts la) code s = (u, false, 0)) : s.pc < code.length ∧ SInv ts la gl code (i + 1) u ∧ s.objs.length ≤ u.objs.length := by
  have hlt : s.pc < code.length := by
    rcases Int.lt_or_le s.pc code.length with h' | h'
    · exact h'
    · have : s.pc = code.length := by have := hI.pc1; omega
      unfold stepP at e
      rw [if_pos this] at e
      have := congrArg (fun p => p.2.1) e
      simp at this
  obtain ⟨ty, hty⟩ := hI.wt
  have hr := step_range h hl hs hla hgl hw hI.pc0 hlt e
  refine ⟨hlt, ⟨hr.1, hr.2, step_wt h hl hs hla hgl hw hI.pc0 hlt hty e, ?_, ?_⟩, ?_⟩
  all_goals
    have ho := hI.objs
    have ht := hI.out
    unfold stepP at e
    rw [if_neg (by omega)] at e
    split at e
    · obtain rfl := fst_eq e
      simp only
      omega
    · split at e
      · obtain rfl := fst_eq e
        simp only
        omega
      · split at e
        · rename_i v hv
          obtain rfl := fst_eq e
          have := stepN_len hv
          simp only at this
          omega
        · have := congrArg (fun p => p.2.2) e
          simp at this
end
structure LW (Ws wr : World) (s : PS) (cs : Array Value) : Prop where
  below : Below Ws.heap.size Ws wr
  row : wr.heap[Ws.heap.size]? = some (.cells cs 34 (0, 0))
  is : IsS wr (fun k => k ≠ Ws.heap.size) s cs
theorem LW.start (Ws : World) : LW Ws (Ws.alloc (.cells #[.int .i64 0, .int .i64 0, .int .i64 0, .int .i64 0, .int .i64 0, .int .i64 0, .int .i64 0, .int .i64 0, .int .i64 0, .int .i64 0, .int .i64 0, .int .i64 0, .int .i64 0, .int .i64 0, .int .i64 0, .int .i64 0, .int .i64 0, .int .i64 0, .int .i64 0, .int .i64 0, .slice none 0 0, .slice none 0 0, .int .i64 0, .int .i64 0] 34)) PS0 #[.int .i64 0, .int .i64 0, .int .i64 0, .int .i64 0, .int .i64 0, .int .i64 0, .int .i64 0, .int .i64 0, .int .i64 0, .int .i64 0, .int .i64 0, .int .i64 0, .int .i64 0, .int .i64 0, .int .i64 0, .int .i64 0, .int .i64 0, .int .i64 0, .int .i64 0, .int .i64 0, .slice none 0 0, .slice none 0 0, .int .i64 0, .int .i64 0] :=
  ⟨below_alloc (Below.refl _ _) _, heap_alloc_new _ _, none, [], 0, none, 0, rfl, Nat.le_refl _, Nat.le_refl _, fun W' _ => Objs.none W', fun W' _ => Kd.C_nil _ W'⟩
theorem LW.next {Ws wr w4 : World} {s u : PS} {cs cs' : Array Value} (h : LW Ws wr s cs) (hb : Below wr.heap.size wr w4) (hu : IsS w4 (fun k => k ≠ Ws.heap.size ∨ wr.heap.size ≤ k) u cs') (o : Obj) :
    LW Ws ((w4.alloc o).setRow Ws.heap.size cs') u cs' := by
  have hlt : Ws.heap.size < wr.heap.size := (Array.getElem?_eq_some_iff.1 h.row).1
  have h4 : w4.heap[Ws.heap.size]? = some (.cells cs 34 (0, 0)) := (hb.block _ hlt).trans h.row
  have hsz := hb.size
  refine ⟨below_row (below_alloc (below_step h.below hb) _) (Nat.le_refl _), ?_, ?_⟩
  · exact setRow_heap _ _ _ _ _ _ ((heap_old2 w4 o (by omega)).trans h4)
  · refine (hu.step fun k hk hl => ⟨?_, ?_⟩).mono fun k hk => (by rcases hk with hk | hk <;> omega)
    · exact (setRow_other _ _ k _ (by rcases hk with hk | hk <;> omega)).trans (heap_old2 w4 o hl)
    · simp
      omega
theorem LW.cell {Ws wr : World} {s : PS} {cs : Array Value} (h : LW Ws wr s cs) : ∃ oA hs oc tA tc, cs = stA s.n (.slice oA (hs : List Hd).length oc) (.slice tA s.out.length tc) s.pc s.steps ∧ hs.length = s.objs.length ∧
    (∀ j v, (stA s.n (.slice oA hs.length oc) (.slice tA s.out.length tc) s.pc s.steps)[j]? = some v → wr.cell? ⟨Ws.heap.size, j, none⟩ = some v) := by
  obtain ⟨oA, hs, oc, tA, tc, e, h1, h2, h3, h4⟩ := h.is
  refine ⟨oA, hs, oc, tA, tc, e, h3.now.len, fun j v hv => ?_⟩
  rw [cell_of_row _ _ j _ _ _ h.row, e]
  exact hv
theorem IsS.size {w : World} {P : Nat → Prop} {s : PS} {cs : Array Value} (h : IsS w P s cs) : cs.size = 24 := by
  obtain ⟨oA, hs, oc, tA, tc, rfl, _⟩ := h
  rfl
theorem IsS.one {w : World} {P : Nat → Prop} {s : PS} {cs : Array Value} (h : IsS w P s cs) : cs.toList.all (·.oneCell') = true := by
  obtain ⟨oA, hs, oc, tA, tc, rfl, _⟩ := h
  rfl
theorem stA_num (n : Nat → Int) (O T : Value) (pc st : Int) (k : Nat) (h : k < 20) : (stA n O T pc st)[k]? = some (.int .i64 (n k)) := (List.getElem?_toArray ..).trans (rowS n O T (.int .i64 pc) (.int .i64 st) k h)
end Go.Proofs.YtkplgfhkebkaaaaDoor.ST

namespace Go.Proofs.YtkplgfhkebkaaaaDoor.T0
open Go.RowKit Go.Proofs.YtkplgfhkebkaaaaDoorW.PrintWords Go.Proofs.YtkplgfhkebkaaaaDoorW.PrintLast Go.Proofs.YtkplgfhkebkaaaaDoorW.PrintMore
attribute [local go_sem] max2_int min2_int max_two min_two max_three min_three max_four min_four
set_option linter.unusedVariables false
set_option linter.unusedSimpArgs false
def errW : Option Int → Value
  | none => .nilIface
  | some c => .iface 0 (.int .i64 c)
theorem errW_none : errW none = .nilIface := rfl
theorem errW_some (c : Int) : errW (some c) = .iface 0 (.int .i64 c) := rfl
end Go.Proofs.YtkplgfhkebkaaaaDoor.T0

namespace Go.Proofs.YtkplgfhkebkaaaaDoor.T0
open Go.RowKit Go.Proofs.YtkplgfhkebkaaaaDoorW.PrintWords Go.Proofs.YtkplgfhkebkaaaaDoorW.PrintLast Go.Proofs.YtkplgfhkebkaaaaDoorW.PrintMore
attribute [local go_sem] max2_int min2_int max_two min_two max_three min_three max_four min_four
set_option linter.unusedVariables false
set_option linter.unusedSimpArgs false
def lockstitchref06_Nums.l0 : Nat → List Int → List Int → Int → Option (Bool)
  | 0, _, _, _ => none
  | k + 1, x0, x1, x5 => if x5 < (x0.length : Int) then (if 0 ≤ x5 then (if x5 < (x1.length : Int) then (if (rd x0 x5) = (rd x1 x5) then (lockstitchref06_Nums.l0 k x0 x1 (wrap64 (x5 + 1))) else (some false)) else (none)) else (none)) else (some true)
def lockstitchref06_Nums.f (k : Nat) (l0 : List Int) (l1 : List Int) : Option (Bool) := if (l0.length : Int) = (l1.length : Int) then (lockstitchref06_Nums.l0 k l0 l1 0) else (some false)
set_option maxHeartbeats 8000000 in
set_option maxRecDepth 100000 in
theorem lockstitchref06_Nums.calls (k : Nat) (A0 : Option Addr) (c0 : Nat) (l0 : List Int) (A1 : Option Addr) (c1 : Nat) (l1 : List Int) (r : Bool) (w : World) (hr0 : Kd.C (Kd.int .i64) w A0 l0.length l0) (hc0 : l0.length ≤ c0) (hr1 : Kd.C (Kd.int .i64) w A1 l1.length l1) (hc1 : l1.length ≤ c1) (h : lockstitchref06_Nums.f k l0 l1 = some r) :
    Calls Tryd.prog 16 #[.slice A0 l0.length c0, .slice A1 l1.length c1] w fun e w' => e = .returned (.bool r) ∧ Drawn0 w w' := by
  have HR0 := Aside0.mk hr0
  have HC0 := Aside0.mk hc0
  clear hr0 hc0
  have HR1 := Aside0.mk hr1
  have HC1 := Aside0.mk hc1
  clear hr1 hc1
  have H : (if (l0.length : Int) = (l1.length : Int) then (lockstitchref06_Nums.l0 k l0 l1 0) else (some false)) = some r := h
  clear h
  by_cases c3 : (l0.length : Int) = (l1.length : Int)
  · rw [if_pos c3] at H
    have c3b0 : ((l0.length : Int) == (l1.length : Int)) = true := beq_iff_eq.mpr c3
    have c3b1 : ((l0.length : Int) != (l1.length : Int)) = false := bne_eq_false_iff_eq.mpr c3
    have c3b2 : (l0.length == l1.length) = true := by first | simpa using c3 | (simp at c3 ⊢; omega)
    clear c3
    have H' := Aside0.mk H
    clear H
    go_enter Tryd.func16, Tryd.ntmps16
    go_wp2
    repeat (go_quiet (fail); try go_wp2)
    go_loopg [5] k (fun kq v5 w' => ∃ (x5_1 : Int), v5 = .int .i64 x5_1 ∧ Aside0 (lockstitchref06_Nums.l0 kq l0 l1 x5_1 = some r) ∧ Aside0 (kq ≤ k) ∧ Drawn0 w w')
    case atStart => exact ⟨(0), (by first | rfl | (simp; done) | (simp [*]; done)), H', ⟨Nat.le_refl _⟩, by repeat (first | exact Drawn0.refl _ | apply Drawn0.step)⟩
    case round =>
      clear H'
      try clear c1
      try clear p2
      try clear c3
      try clear c3b0
      try clear c3b1
      try clear c3b2
      obtain ⟨x5_1, rfl, HA, HK1, ⟨m1, rfl⟩⟩ := hrel
      cases gk with
      | zero => exact absurd HA.out (by simp [lockstitchref06_Nums.l0])
      | succ k1 =>
        have H := HA.out
        clear HA
        simp only [lockstitchref06_Nums.l0] at H
        by_cases c4 : x5_1 < (l0.length : Int)
        · rw [if_pos c4] at H
          have c4b0 : decide (x5_1 < (l0.length : Int)) = true := decide_eq_true c4
          clear c4
          by_cases c5 : 0 ≤ x5_1
          · rw [if_pos c5] at H
            have c5b0 : decide (0 ≤ x5_1) = true := decide_eq_true c5
            clear c5
            by_cases c6 : x5_1 < (l1.length : Int)
            · rw [if_pos c6] at H
              have c6b0 : decide (x5_1 < (l1.length : Int)) = true := decide_eq_true c6
              clear c6
              by_cases c7 : (rd l0 x5_1) = (rd l1 x5_1)
              · rw [if_pos c7] at H
                have c7b0 : ((rd l0 x5_1) == (rd l1 x5_1)) = true := beq_iff_eq.mpr c7
                have c7b1 : ((rd l0 x5_1) != (rd l1 x5_1)) = false := bne_eq_false_iff_eq.mpr c7
                clear c7
                have H' := Aside0.mk H
                clear H
                have p101 : 0 ≤ (x5_1 : Int) := of_decide_eq_true (by first | (with_reducible assumption) | assumption)
                have q101 : x5_1 < (l0.length : Int) := of_decide_eq_true (by first | (with_reducible assumption) | assumption)
                obtain ⟨ad101, e101, hx101_0⟩ := Kd.at_int HR0.out x5_1 p101 q101
                cases e101
                replace p101 := eq_true p101
                replace q101 := eq_true q101
                have p102 : 0 ≤ (x5_1 : Int) := of_decide_eq_true (by first | (with_reducible assumption) | assumption)
                have q102 : x5_1 < (l1.length : Int) := of_decide_eq_true (by first | (with_reducible assumption) | assumption)
                obtain ⟨ad102, e102, hx102_0⟩ := Kd.at_int HR1.out x5_1 p102 q102
                cases e102
                replace p102 := eq_true p102
                replace q102 := eq_true q102
                go_wp2
                repeat (go_quiet (fail); try go_wp2)
                go_roundg k1
                case measure => have := HK1.out; omega
                case rel => exact ⟨(wrap64 (x5_1 + 1)), (by first | rfl | (simp; done) | (simp [*]; done)), H', ⟨by have := HK1.out; omega⟩, by repeat (first | exact Drawn0.refl _ | apply Drawn0.step)⟩
              · rw [if_neg c7] at H
                have c7b0 : ((rd l0 x5_1) == (rd l1 x5_1)) = false := beq_eq_false_iff_ne.mpr c7
                have c7b1 : ((rd l0 x5_1) != (rd l1 x5_1)) = true := bne_iff_ne.mpr c7
                obtain rfl := Option.some.inj H
                have p101 : 0 ≤ (x5_1 : Int) := of_decide_eq_true (by first | (with_reducible assumption) | assumption)
                have q101 : x5_1 < (l0.length : Int) := of_decide_eq_true (by first | (with_reducible assumption) | assumption)
                obtain ⟨ad101, e101, hx101_0⟩ := Kd.at_int HR0.out x5_1 p101 q101
                cases e101
                replace p101 := eq_true p101
                replace q101 := eq_true q101
                have p102 : 0 ≤ (x5_1 : Int) := of_decide_eq_true (by first | (with_reducible assumption) | assumption)
                have q102 : x5_1 < (l1.length : Int) := of_decide_eq_true (by first | (with_reducible assumption) | assumption)
                obtain ⟨ad102, e102, hx102_0⟩ := Kd.at_int HR1.out x5_1 p102 q102
                cases e102
                replace p102 := eq_true p102
                replace q102 := eq_true q102
                go_wp2
                repeat (go_quiet (fail); try go_wp2)
                go_ret
                exact ⟨by first | rfl | (simp; done) | (simp [*]; done), by repeat (first | exact Drawn0.refl _ | apply Drawn0.step)⟩
            · rw [if_neg c6] at H
              exact absurd H (by simp)
          · rw [if_neg c5] at H
            exact absurd H (by simp)
        · rw [if_neg c4] at H
          have c4b0 : decide (x5_1 < (l0.length : Int)) = false := decide_eq_false c4
          clear c4
          obtain rfl := Option.some.inj H
          go_wp2
          repeat (go_quiet (fail); try go_wp2)
          go_ret
          exact ⟨by first | rfl | (simp; done) | (simp [*]; done), by repeat (first | exact Drawn0.refl _ | apply Drawn0.step)⟩
  · rw [if_neg c3] at H
    have c3b0 : ((l0.length : Int) == (l1.length : Int)) = false := beq_eq_false_iff_ne.mpr c3
    have c3b1 : ((l0.length : Int) != (l1.length : Int)) = true := bne_iff_ne.mpr c3
    have c3b2 : (l0.length == l1.length) = false := by first | simpa using c3 | (simp at c3 ⊢; omega)
    obtain rfl := Option.some.inj H
    go_enter Tryd.func16, Tryd.ntmps16
    go_wp2
    repeat (go_quiet (fail); try go_wp2)
    go_ret
    exact ⟨by first | rfl | (simp; done) | (simp [*]; done), by repeat (first | exact Drawn0.refl _ | apply Drawn0.step)⟩
end Go.Proofs.YtkplgfhkebkaaaaDoor.T0

namespace Go.Proofs.YtkplgfhkebkaaaaDoor.T0
open Go.RowKit Go.Proofs.YtkplgfhkebkaaaaDoorW.PrintWords Go.Proofs.YtkplgfhkebkaaaaDoorW.PrintLast Go.Proofs.YtkplgfhkebkaaaaDoorW.PrintMore
attribute [local go_sem] max2_int min2_int max_two min_two max_three min_three max_four min_four
set_option linter.unusedVariables false
set_option linter.unusedSimpArgs false
end Go.Proofs.YtkplgfhkebkaaaaDoor.T0

namespace Go.Proofs.YtkplgfhkebkaaaaDoor.ST
open Go.RowKit Go.Proofs.YtkplgfhkebkaaaaDoorW.PrintWords Go.Proofs.YtkplgfhkebkaaaaDoor.Scan Go.Proofs.YtkplgfhkebkaaaaDoor.F Go.Proofs.YtkplgfhkebkaaaaDoor.KP Go.Proofs.YtkplgfhkebkaaaaDoor.TT Go.Proofs.YtkplgfhkebkaaaaDoor.NX Go.Proofs.YtkplgfhkebkaaaaDoor.FP Go.Proofs.YtkplgfhkebkaaaaDoor.FL Go.Proofs.YtkplgfhkebkaaaaDoor.B8 Go.Proofs.YtkplgfhkebkaaaaDoor.LB
set_option linter.unusedVariables false
set_option linter.unusedSectionVars false
theorem nums_l (l : List Int) (hl : (l.length : Int) ≤ 9223372036854775807) : ∀ (n : Nat) (i : Nat), i + n = l.length → Ev (fun k => T0.lockstitchref06_Nums.l0 k l l i) true := by
  intro n
  induction n with
  | zero =>
    intro i hi
    refine ev_step (fun k => ?_) ev_const
    rw [T0.lockstitchref06_Nums.l0, if_neg (by omega)]
  | succ n ih =>
    intro i hi
    refine ev_step (fun k => ?_) (ih (i + 1) (by omega))
    rw [T0.lockstitchref06_Nums.l0, if_pos (by omega), if_pos (by omega), if_pos (by omega), if_pos rfl, show wrap64 ((i : Int) + 1) = (i : Int) + 1 by unfold wrap64; omega]
    rfl
theorem nums_ev (l : List Int) (hl : (l.length : Int) ≤ 9223372036854775807) : Ev (fun k => T0.lockstitchref06_Nums.f k l l) true :=
  Ev.congr (fun k => if_pos rfl) (nums_l l hl l.length 0 (by omega))
def mask (z : S8) (t : PS) : PS := { t with n := fun k => if 8 ≤ k ∧ k < 16 ∧ z.getLsbD (k - 8) = false then 0 else t.n k }
theorem mask_lo (z : S8) (t : PS) {k : Nat} (h : k < 8) : (mask z t).n k = t.n k := if_neg (by omega)
theorem mask_hi (z : S8) (t : PS) {k : Nat} (h : 16 ≤ k) : (mask z t).n k = t.n k := if_neg (by omega)
theorem mask_in (z : S8) (t : PS) {a : Nat} (h : z.getLsbD a = true) : (mask z t).n (8 + a) = t.n (8 + a) := if_neg (by
  rintro ⟨_, _, h3⟩
  rw [show 8 + a - 8 = a from by omega, h] at h3
  cases h3)
theorem mask_out (z : S8) (t : PS) {a : Nat} (ha : a < 8) (h : z.getLsbD a = false) : (mask z t).n (8 + a) = 0 := if_pos ⟨by omega, by omega, by rw [show 8 + a - 8 = a from by omega, h]⟩
theorem Alk.mask {z : S8} {s t : PS} (h : Alk z s t) : Alk z s (mask z t) :=
  ⟨fun k hk => (h.x k hk).trans (mask_lo z t hk).symm, fun k hk => (h.gs k hk).trans (mask_hi z t (by omega)).symm, fun a ha hb => (h.p a ha hb).trans (mask_in z t hb).symm, h.objs, h.out, h.pc, h.steps⟩
theorem WT.mask {loc glb sz : Int → Int} {tof : Int → Int → Int} {ty : List Int} {t : PS} (h : WT loc glb sz tof ty t) (z : S8) : WT loc glb sz tof ty (mask z t) := by
  refine ⟨h.len, fun a ha => ?_, fun a ha => Pt.cast (mask_hi z t (by omega)) (h.gs a ha), h.os, h.fs⟩
  cases hb : z.getLsbD a with
  | true => exact Pt.cast (mask_in z t hb) (h.ps a ha)
  | false => exact .inl (mask_out z t ha hb)
theorem SInv.mask {ts : List ByteArray} {la gl : ByteArray} {code : List S47} {i : Nat} {t : PS} (h : SInv ts la gl code i t) (z : S8) : SInv ts la gl code i (mask z t) := by
  obtain ⟨ty, hty⟩ := h.wt
  exact ⟨h.pc0, h.pc1, ⟨ty, hty.mask z⟩, h.objs, h.out⟩
theorem Alk.none {z : S8} {s t : PS} (h : Alk z s t) : Alk 0 s t := h.weak fun a _ hb => (by simp at hb)
theorem Alk.same (z : S8) (s : PS) : Alk z s s := ⟨fun _ _ => rfl, fun _ _ => rfl, fun _ _ _ => rfl, rfl, rfl, rfl, rfl⟩
section
variable {ts : List ByteArray} {la gl : ByteArray} {code : List S47} (h : SP ts la gl code) (hl : (ts.length : Int) ≤ 9223372036854775807) (hs : ∀ s ∈ ts, (s.size : Int) ≤ 9223372036854775807) (hla : Fit la) (hgl : Fit gl) (hw : WfC code)
include h hl hs hla hgl hw
theorem live_pair {s t : PS} (h0 : 0 ≤ s.pc) (h1 : s.pc ≤ code.length) (hA : Alk (g (lvB code) s.pc.toNat) s t) :
    ∃ u v d er, stepP (size ts) (atv ts la) code s = (u, d, er) ∧ stepP (size ts) (atv ts la) code t = (v, d, er) ∧ Alk 0 u v ∧ (d = false → er = 0 → Alk (g (lvB code) u.pc.toNat) u v) := by
  rcases Int.lt_or_le s.pc code.length with h' | h'
  · rcases step_alk h hl hs hla hgl hw h0 h' hA with ⟨u, v, e1, e2, e3⟩ | ⟨e1, e2⟩
    · exact ⟨u, v, false, 0, e1, e2, e3.none, fun _ _ => e3⟩
    · exact ⟨s, t, false, 9, e1, e2, hA.none, fun _ e => (by cases e)⟩
  · have e : s.pc = code.length := by omega
    have e' : t.pc = code.length := by rw [← hA.pc, e]
    refine ⟨s, t, true, 0, ?_, ?_, hA.none, fun e _ => (by cases e)⟩
    · unfold stepP
      rw [if_pos e]
    · unfold stepP
      rw [if_pos e']
end
end Go.Proofs.YtkplgfhkebkaaaaDoor.ST

namespace Go.Proofs.YtkplgfhkebkaaaaDoor.ST
open Go.RowKit Go.Proofs.YtkplgfhkebkaaaaDoorW.PrintWords Go.Proofs.YtkplgfhkebkaaaaDoor.Scan Go.Proofs.YtkplgfhkebkaaaaDoor.F Go.Proofs.YtkplgfhkebkaaaaDoor.FM Go.Proofs.YtkplgfhkebkaaaaDoor.H Go.Proofs.YtkplgfhkebkaaaaDoor.KP Go.Proofs.YtkplgfhkebkaaaaDoor.TT Go.Proofs.YtkplgfhkebkaaaaDoor.NX Go.Proofs.YtkplgfhkebkaaaaDoor.FP Go.Proofs.YtkplgfhkebkaaaaDoor.FL
set_option linter.unusedVariables false
set_option linter.unusedSectionVars false
theorem IsS.bound2 {w : World} {P : Nat → Prop} {s : PS} {cs : Array Value} (h : IsS w P s cs) : IsS w (fun k => P k ∧ k < w.heap.size) s cs := by
  obtain ⟨oA, hs, oc, tA, tc, e, h1, h2, h3, h4⟩ := h
  exact ⟨oA, hs, oc, tA, tc, e, h1, h2, h3.bound, h4.bound⟩
def PT (Ws wr : World) (k : Nat) : Prop := k ≠ Ws.heap.size ∧ k ≠ Ws.heap.size + 1 ∧ k < wr.heap.size
structure LT (Ws wr : World) (s : PS) (cs : Array Value) (t : PS) (ct : Array Value) : Prop where
  below : Below Ws.heap.size Ws wr
  rs : wr.heap[Ws.heap.size]? = some (.cells cs 34 (0, 0))
  rt : wr.heap[Ws.heap.size + 1]? = some (.cells ct 34 (0, 0))
  is : IsS wr (PT Ws wr) s cs
  it : IsS wr (PT Ws wr) t ct
abbrev cs0 : Array Value := #[.int .i64 0, .int .i64 0, .int .i64 0, .int .i64 0, .int .i64 0, .int .i64 0, .int .i64 0, .int .i64 0, .int .i64 0, .int .i64 0, .int .i64 0, .int .i64 0, .int .i64 0, .int .i64 0, .int .i64 0, .int .i64 0, .int .i64 0, .int .i64 0, .int .i64 0, .int .i64 0, .slice none 0 0, .slice none 0 0, .int .i64 0, .int .i64 0]
theorem LT.start (Ws : World) : LT Ws ((Ws.alloc (.cells cs0 34)).alloc (.cells cs0 34)) PS0 cs0 PS0 cs0 := by
  have hI : ∀ (w : World) (P : Nat → Prop), IsS w P PS0 cs0 := fun w P => ⟨none, [], 0, none, 0, rfl, Nat.le_refl _, Nat.le_refl _, fun W' _ => Objs.none W', fun W' _ => Kd.C_nil _ W'⟩
  refine ⟨below_alloc (below_alloc (Below.refl _ _) _) _, row_old _ _ _ (by simp) (row_new _ _ _ rfl), row_new _ _ _ (by simp), hI _ _, hI _ _⟩
section
variable {Ws wr : World} {s : PS} {cs : Array Value} {t : PS} {ct : Array Value}
theorem LT.lt (h : LT Ws wr s cs t ct) : Ws.heap.size + 1 < wr.heap.size := (Array.getElem?_eq_some_iff.1 h.rt).1
theorem LT.nums (h : LT Ws wr s cs t ct) {w1 : World} (hb : Below wr.heap.size wr w1) {n : Nat → Int} {ct' : Array Value} (hc : ∀ oA hs oc tA tc, ct = stA t.n (.slice oA (hs : List Hd).length oc) (.slice tA t.out.length tc) t.pc t.steps → ct' = stA n (.slice oA hs.length oc) (.slice tA t.out.length tc) t.pc t.steps) :
    LT Ws (w1.setRow (Ws.heap.size + 1) ct') s cs { t with n := n } ct' := by
  have hlt := h.lt
  have z1 := hb.size
  have zr : (w1.setRow (Ws.heap.size + 1) ct').heap.size = w1.heap.size := by simp [World.setRow]
  have hk : ∀ k, PT Ws wr k → k < wr.heap.size → (w1.setRow (Ws.heap.size + 1) ct').heap[k]? = wr.heap[k]? ∧ k < (w1.setRow (Ws.heap.size + 1) ct').heap.size := fun k hp hl =>
    ⟨(setRow_other _ _ _ _ hp.2.1).trans (hb.block _ hl), by omega⟩
  have hm : ∀ k, PT Ws wr k → PT Ws (w1.setRow (Ws.heap.size + 1) ct') k := fun k hp => ⟨hp.1, hp.2.1, by have := hp.2.2; omega⟩
  refine ⟨below_row (below_step h.below hb) (by omega), (setRow_other _ _ _ _ (by omega)).trans ((hb.block _ (by omega)).trans h.rs), setRow_heap _ _ _ _ _ _ ((hb.block _ hlt).trans h.rt), (h.is.step hk).mono hm, ?_⟩
  have hit := (h.it.step hk).mono hm
  obtain ⟨oA, hs, oc, tA, tc, e, h1, h2, h3, h4⟩ := hit
  exact ⟨oA, hs, oc, tA, tc, hc _ _ _ _ _ e, h1, h2, h3, h4⟩
theorem LT.next (h : LT Ws wr s cs t ct) {W w2 W3 w4 w5 : World} {u v : PS} {cu cv : Array Value} (hW : Below wr.heap.size wr W) (h2 : Below W.heap.size W w2) (h3 : Below w2.heap.size w2 W3) (h4 : Below W3.heap.size W3 w4) (h5 : Below w4.heap.size w4 w5)
    (hu : IsS w2 (fun k => PT Ws wr k ∨ W.heap.size ≤ k) u cu) (hv : IsS w4 (fun k => PT Ws wr k ∨ W3.heap.size ≤ k) v cv) :
    LT Ws ((w5.setRow Ws.heap.size cu).setRow (Ws.heap.size + 1) cv) u cu v cv := by
  have hlt := h.lt
  have zW := hW.size
  have z2 := h2.size
  have z3 := h3.size
  have z4 := h4.size
  have z5 := h5.size
  have zr : ((w5.setRow Ws.heap.size cu).setRow (Ws.heap.size + 1) cv).heap.size = w5.heap.size := by simp [World.setRow]
  have hB5 := below_step hW (below_step h2 (below_step h3 (below_step h4 h5)))
  have hB2 := below_step h3 (below_step h4 h5)
  refine ⟨below_row (below_row (below_step h.below hB5) (Nat.le_refl _)) (by omega), (setRow_other _ _ _ _ (by omega)).trans (setRow_heap _ _ _ _ _ _ ((hB5.block _ (by omega)).trans h.rs)), setRow_heap _ _ _ _ _ _ ((setRow_other _ _ _ _ (by omega)).trans ((hB5.block _ hlt).trans h.rt)), ?_, ?_⟩
  · refine (hu.bound2.step fun k hk hl => ⟨?_, by omega⟩).mono fun k hk => ⟨?_, ?_, ?_⟩
    · exact (setRow_other _ _ _ _ (by rcases hk.1 with hk | hk; exact hk.2.1; omega)).trans ((setRow_other _ _ _ _ (by rcases hk.1 with hk | hk; exact hk.1; omega)).trans (hB2.block _ hl))
    · rcases hk.1 with hk | hk
      · exact hk.1
      · omega
    · rcases hk.1 with hk | hk
      · exact hk.2.1
      · omega
    · have := hk.2
      omega
  · refine (hv.bound2.step fun k hk hl => ⟨?_, by omega⟩).mono fun k hk => ⟨?_, ?_, ?_⟩
    · exact (setRow_other _ _ _ _ (by rcases hk.1 with hk | hk; exact hk.2.1; omega)).trans ((setRow_other _ _ _ _ (by rcases hk.1 with hk | hk; exact hk.1; omega)).trans (h5.block _ hl))
    · rcases hk.1 with hk | hk
      · exact hk.1
      · omega
    · rcases hk.1 with hk | hk
      · exact hk.2.1
      · omega
    · have := hk.2
      omega
end
end Go.Proofs.YtkplgfhkebkaaaaDoor.ST

namespace Go.Proofs.YtkplgfhkebkaaaaDoor.ST
open Go.RowKit Go.Proofs.YtkplgfhkebkaaaaDoorW.PrintWords Go.Proofs.YtkplgfhkebkaaaaDoor.Scan Go.Proofs.YtkplgfhkebkaaaaDoor.F Go.Proofs.YtkplgfhkebkaaaaDoor.FM Go.Proofs.YtkplgfhkebkaaaaDoor.H Go.Proofs.YtkplgfhkebkaaaaDoor.KP Go.Proofs.YtkplgfhkebkaaaaDoor.TT Go.Proofs.YtkplgfhkebkaaaaDoor.NX Go.Proofs.YtkplgfhkebkaaaaDoor.FP Go.Proofs.YtkplgfhkebkaaaaDoor.FL Go.Proofs.YtkplgfhkebkaaaaDoor.B8 Go.Proofs.YtkplgfhkebkaaaaDoor.LB
set_option linter.unusedVariables false
set_option linter.unusedSectionVars false
def putAt (cs : Array Value) : Nat → List Value → Array Value
  | _, [] => cs
  | o, v :: r => putAt (cs.setIfInBounds o v) (o + 1) r
theorem setCells_row {g : Nat} {t : TypeId} : ∀ (vs : List Value) (w : World) (cs : Array Value) (o : Nat), w.heap[g]? = some (.cells cs t (0, 0)) → w.setCells g o vs = w.setRow g (putAt cs o vs)
  | [], w, cs, o, hg => (setRow_self w g cs t _ hg).symm
  | v :: r, w, cs, o, hg => by
    have h1 := heap_setCell_same w g o cs t v hg
    have h2 := setCells_row r _ _ (o + 1) h1
    show (w.setCell ⟨g, o, none⟩ v).setCells g (o + 1) r = w.setRow g (putAt (cs.setIfInBounds o v) (o + 1) r)
    rw [h2, setCell_eq_setRow w g o cs t (0, 0) v hg, setRow_setRow]
def v8 (n : Nat → Int) : List Value := [.int .i64 (n 0), .int .i64 (n 1), .int .i64 (n 2), .int .i64 (n 3), .int .i64 (n 4), .int .i64 (n 5), .int .i64 (n 6), .int .i64 (n 7)]
theorem bit_val (z : S8) (m : Nat) : (iv z / 2 ^ m).tmod 2 = if z.getLsbD m then 1 else 0 := by
  have h1 := ZB.shr_tmod z (b := (m : Int)) (by omega)
  rw [ZB.shr_nat z (by omega), Int.toNat_natCast] at h1
  have e : iv z / 2 ^ m = ((z.toNat / 2 ^ m : Nat) : Int) := by
    unfold iv
    simp
  rw [e, h1]
def qm (z : S8) (n : Nat → Int) (m : Nat) : Nat → Int := fun j => if j < m ∧ z.getLsbD j = false then 0 else n j
theorem qm_zero (z : S8) (n : Nat → Int) : qm z n 0 = n := by
  funext j
  exact if_neg (by omega)
theorem qm_keep {z : S8} {n : Nat → Int} {m : Nat} (h : z.getLsbD m = true) : qm z n (m + 1) = qm z n m := by
  funext j
  unfold qm
  by_cases e : j = m
  · subst e
    rw [if_neg (by rw [h]; simp), if_neg (by omega)]
  · by_cases e2 : j < m
    · simp [e2, show j < m + 1 from by omega]
    · simp [e2, show ¬ j < m + 1 from by omega]
theorem qm_cut {z : S8} {n : Nat → Int} {m : Nat} (h : z.getLsbD m = false) : qm z n (m + 1) = upd (qm z n m) m 0 := by
  funext j
  unfold qm upd
  by_cases e : j = m
  · subst e
    rw [if_pos ⟨by omega, h⟩, if_pos rfl]
  · rw [if_neg e]
    by_cases e2 : j < m
    · simp [e2, show j < m + 1 from by omega]
    · simp [e2, show ¬ j < m + 1 from by omega]
theorem v8_set (n : Nat → Int) {m : Nat} (h : m < 8) (v : Int) : (v8 n).toArray.setIfInBounds m (.int .i64 v) = (v8 (upd n m v)).toArray := by
  obtain rfl | rfl | rfl | rfl | rfl | rfl | rfl | rfl : m = 0 ∨ m = 1 ∨ m = 2 ∨ m = 3 ∨ m = 4 ∨ m = 5 ∨ m = 6 ∨ m = 7 := by omega
  all_goals rfl
theorem qm_mask (z : S8) (t : PS) {j : Nat} (h : j < 8) : qm z (fun j => t.n (8 + j)) 8 j = (mask z t).n (8 + j) := by
  unfold qm
  cases hb : z.getLsbD j with
  | true => rw [if_neg (by simp)]; exact (mask_in z t hb).symm
  | false => rw [if_pos ⟨h, rfl⟩]; exact (mask_out z t h hb).symm
theorem put_mask (z : S8) (t : PS) (O T : Value) (pc st : Int) : putAt (stA t.n O T pc st) 8 (v8 fun j => (mask z t).n (8 + j)) = stA (mask z t).n O T pc st := by
  have lo : ∀ k, k < 8 → t.n k = (mask z t).n k := fun k hk => (mask_lo z t hk).symm
  have hi : ∀ k, 16 ≤ k → t.n k = (mask z t).n k := fun k hk => (mask_hi z t hk).symm
  have e : ∀ n : Nat → Int, (∀ k, k < 8 → t.n k = n k) → (∀ k, 16 ≤ k → t.n k = n k) → putAt (stA t.n O T pc st) 8 (v8 fun j => n (8 + j)) = stA n O T pc st := fun n h1 h2 => by
    unfold stA
    rw [h1 0 (by omega), h1 1 (by omega), h1 2 (by omega), h1 3 (by omega), h1 4 (by omega), h1 5 (by omega), h1 6 (by omega), h1 7 (by omega), h2 16 (by omega), h2 17 (by omega), h2 18 (by omega), h2 19 (by omega)]
    simp only [putAt, v8, List.setIfInBounds_toArray, List.set_cons_succ, List.set_cons_zero, Nat.reduceAdd]
  exact e _ lo hi
theorem sizeP : (Tryd.prog.info? 29).map (·.size) = some 8 := by kernel_rfl
theorem sizeX : (Tryd.prog.info? 28).map (·.size) = some 8 := by kernel_rfl
theorem sizeG : (Tryd.prog.info? 30).map (·.size) = some 4 := by kernel_rfl
theorem range_row {w : World} {g : Nat} {cs : Array Value} {t : TypeId} {fr : Nat × Nat} (hg : w.heap[g]? = some (.cells cs t fr)) {o : Nat} {vs : List Value} (hc : ∀ j v, vs[j]? = some v → cs[o + j]? = some v) : w.rangeAt g o vs := fun j v hv =>
  (cell_of_row w g (o + j) _ _ _ hg).trans (hc j v hv)
section
variable {ops : Array Oper} {rest : List Oper} {o : Oper} {a : Act} {w w' : World} {Q : Exit → Act → World → Prop} {x y : Operand} {g off : Nat} {cs old : Array Value} {T : TypeId} {fr : Nat × Nat} {vs : List Value}
theorem ldP (ho : o.op = .load 29 x) (hgd : o.guard = none) (hx : a.eval x = .pointer (some ⟨g, off, none⟩)) (hg : w.heap[g]? = some (.cells cs T fr)) (hc : ∀ j v, vs[j]? = some v → cs[off + j]? = some v) (hl : vs.length = 8)
    (h : wpList Tryd.prog ops Q rest (a.put o.dst (.agg vs.toArray)) w) : wpList Tryd.prog ops Q (o :: rest) a w :=
  wpList_load_mid hgd 29 x ho g off hx vs _ (range_row hg hc) Tryd.underlying29 rfl (by rw [sizeP, hl]) h
theorem srP (ho : o.op = .store 29 x y) (hgd : o.guard = none) (hx : a.eval x = .pointer (some ⟨g, off, none⟩)) (hy : a.eval y = .agg vs.toArray) (hg : w.heap[g]? = some (.cells old T (0, 0)))
    (hl : vs.length = 8) (hf : off + 8 ≤ old.size) (h1 : vs.all (·.oneCell') = true) (hw : w.setRow g (putAt old off vs) = w')
    (h : wpList Tryd.prog ops Q rest (a.put o.dst undef) w') : wpList Tryd.prog ops Q (o :: rest) a w := by
  refine wpList_store_mid hgd 29 x y ho g off vs.toArray hx hy (fun j hj => ?_) (by rw [sizeP]; simp [hl]) (by simpa using h1) ?_
  · have hj8 : j < 8 := by simpa [hl] using hj
    refine ⟨?_, ?_⟩
    · rw [cell_of_row w g (off + j) _ _ _ hg, Array.getElem?_eq_getElem (by omega)]
      rfl
    · exact frozen_of_row w g (off + j) _ _ hg
  · subst hw
    rw [show vs.toArray.toList = vs from by simp, setCells_row vs w old off hg]
    exact h
theorem srQ (ho : o.op = .store 29 x y) (hgd : o.guard = none) (hx : a.eval x = .pointer (some ⟨g, 0, none⟩)) (hy : a.eval y = .agg cs) (hg : w.heap[g]? = some (.cells old 29 (0, 0)))
    (hs : cs.size = 8) (hs' : old.size = 8) (h1 : cs.toList.all (·.oneCell') = true) (hw : w.setRow g cs = w')
    (h : wpList Tryd.prog ops Q rest (a.put o.dst undef) w') : wpList Tryd.prog ops Q (o :: rest) a w := by
  subst hw
  exact wpList_store_row hgd 29 x y ho g cs hx hy 29 old hg (by rw [sizeP, hs]) (by rw [hs, hs']) (by rw [← Array.all_toList]; exact h1) h
end
end Go.Proofs.YtkplgfhkebkaaaaDoor.ST

namespace Go.Proofs.YtkplgfhkebkaaaaDoor.ST
open Go
set_option linter.unusedVariables false
theorem szI (w : World) : (sizeOf 3).run Tryd.prog w = .ok 1 w := by kernel_rfl
theorem szL (w : World) : (sizeOf 2).run Tryd.prog w = .ok 1 w := by kernel_rfl
def v4 (n : Nat → Int) : List Value := [.int .i64 (n 0), .int .i64 (n 1), .int .i64 (n 2), .int .i64 (n 3)]
theorem ptL (w : World) (n : Nat → Int) : ∀ i, i < 8 → (part 2 (v8 n).toArray i).run Tryd.prog w = .ok (.int .i64 (n i)) w := by
  intro i hi
  obtain rfl | rfl | rfl | rfl | rfl | rfl | rfl | rfl : i = 0 ∨ i = 1 ∨ i = 2 ∨ i = 3 ∨ i = 4 ∨ i = 5 ∨ i = 6 ∨ i = 7 := by omega
  all_goals kernel_rfl
theorem ptG (w : World) (n : Nat → Int) : ∀ i, i < 4 → (part 3 (v4 n).toArray i).run Tryd.prog w = .ok (.int .i64 (n i)) w := by
  intro i hi
  obtain rfl | rfl | rfl | rfl : i = 0 ∨ i = 1 ∨ i = 2 ∨ i = 3 := by omega
  all_goals kernel_rfl
theorem eqX (w : World) (n : Nat → Int) (d : Nat) : (Op.equalIn (d + 2) 28 (.agg (v8 n).toArray) (.agg (v8 n).toArray)).run Tryd.prog w = .ok true w := by
  have h := fun i hi => ptL w n i hi
  have he := fun a => run_equalIn_int (P := Tryd.prog) w d 2 .i64 _ a a Tryd.underlying2
  unfold Op.equalIn
  simp only [Sem.run_bind, run_underlying Tryd.underlying28, Result.andThen_ok, szL]
  simp [Std.Legacy.Range.forIn_eq_forIn_range', Std.Legacy.Range.size, List.range'_succ, List.range', Sem.run_bind, h, he]
theorem eqG (w : World) (n : Nat → Int) (d : Nat) : (Op.equalIn (d + 2) 30 (.agg (v4 n).toArray) (.agg (v4 n).toArray)).run Tryd.prog w = .ok true w := by
  have h := fun i hi => ptG w n i hi
  have he := fun a => run_equalIn_int (P := Tryd.prog) w d 3 .i64 _ a a Tryd.underlying3
  unfold Op.equalIn
  simp only [Sem.run_bind, run_underlying Tryd.underlying30, Result.andThen_ok, szI]
  simp [Std.Legacy.Range.forIn_eq_forIn_range', Std.Legacy.Range.size, List.range'_succ, List.range', Sem.run_bind, h, he]
theorem eqX0 (w : World) (n : Nat → Int) : (Op.equalIn 10000 28 (.agg (v8 n).toArray) (.agg (v8 n).toArray)).run Tryd.prog w = .ok true w := eqX w n 9998
theorem eqG0 (w : World) (n : Nat → Int) : (Op.equalIn 10000 30 (.agg (v4 n).toArray) (.agg (v4 n).toArray)).run Tryd.prog w = .ok true w := eqG w n 9998
theorem IsS.x8 {w : World} {P : Nat → Prop} {s : PS} {cs : Array Value} (h : IsS w P s cs) : ∀ j v, (v8 s.n)[j]? = some v → cs[0 + j]? = some v := fun j v hv => by
  obtain ⟨oA, hs, oc, tA, tc, ecs, _⟩ := h
  have hj : j < 8 := (List.getElem?_eq_some_iff.1 hv).1
  rw [ecs, stA_num _ _ _ _ _ _ (by omega), ← hv]
  obtain rfl | rfl | rfl | rfl | rfl | rfl | rfl | rfl : j = 0 ∨ j = 1 ∨ j = 2 ∨ j = 3 ∨ j = 4 ∨ j = 5 ∨ j = 6 ∨ j = 7 := by omega
  all_goals rfl
theorem IsS.g4 {w : World} {P : Nat → Prop} {s : PS} {cs : Array Value} (h : IsS w P s cs) : ∀ j v, (v4 fun j => s.n (16 + j))[j]? = some v → cs[16 + j]? = some v := fun j v hv => by
  obtain ⟨oA, hs, oc, tA, tc, ecs, _⟩ := h
  have hj : j < 4 := (List.getElem?_eq_some_iff.1 hv).1
  rw [ecs, stA_num _ _ _ _ _ _ (by omega), ← hv]
  obtain rfl | rfl | rfl | rfl : j = 0 ∨ j = 1 ∨ j = 2 ∨ j = 3 := by omega
  all_goals rfl
theorem IsS.pcv {w : World} {P : Nat → Prop} {s : PS} {cs : Array Value} (h : IsS w P s cs) : cs[22]? = some (.int .i64 s.pc) := by
  obtain ⟨oA, hs, oc, tA, tc, ecs, _⟩ := h
  rw [ecs]
  rfl
theorem IsS.outv {w : World} {P : Nat → Prop} {s : PS} {cs : Array Value} (h : IsS w P s cs) : ∃ tA tc, cs[21]? = some (.slice tA s.out.length tc) ∧ s.out.length ≤ tc ∧ OutF w P tA s.out := by
  obtain ⟨oA, hs, oc, tA, tc, ecs, h1, h2, h3, h4⟩ := h
  exact ⟨tA, tc, by rw [ecs]; rfl, h2, h4⟩
section
variable {ops : Array Oper} {rest : List Oper} {o : Oper} {a : Act} {w : World} {Q : Exit → Act → World → Prop} {x : Operand} {g off : Nat} {cs : Array Value} {T : TypeId} {fr : Nat × Nat} {vs : List Value}
theorem ldX (ho : o.op = .load 28 x) (hgd : o.guard = none) (hx : a.eval x = .pointer (some ⟨g, off, none⟩)) (hg : w.heap[g]? = some (.cells cs T fr)) (hc : ∀ j v, vs[j]? = some v → cs[off + j]? = some v) (hl : vs.length = 8)
    (h : wpList Tryd.prog ops Q rest (a.put o.dst (.agg vs.toArray)) w) : wpList Tryd.prog ops Q (o :: rest) a w :=
  wpList_load_mid hgd 28 x ho g off hx vs _ (range_row hg hc) Tryd.underlying28 rfl (by rw [sizeX, hl]) h
theorem ldXg (ho : o.op = .load 28 x) (hgd : Region.wanted o (yielded ops a.tmps) = true) (hx : a.eval x = .pointer (some ⟨g, off, none⟩)) (hg : w.heap[g]? = some (.cells cs T fr)) (hc : ∀ j v, vs[j]? = some v → cs[off + j]? = some v) (hl : vs.length = 8)
    (h : wpList Tryd.prog ops Q rest (a.put o.dst (.agg vs.toArray)) w) : wpList Tryd.prog ops Q (o :: rest) a w := by
  unfold wpList
  rw [if_pos hgd]
  exact .inl (wp_load_mid 28 x ho g off hx vs _ (range_row hg hc) Tryd.underlying28 rfl (by rw [sizeX, hl]) h)
theorem ldGg (ho : o.op = .load 30 x) (hgd : Region.wanted o (yielded ops a.tmps) = true) (hx : a.eval x = .pointer (some ⟨g, off, none⟩)) (hg : w.heap[g]? = some (.cells cs T fr)) (hc : ∀ j v, vs[j]? = some v → cs[off + j]? = some v) (hl : vs.length = 4)
    (h : wpList Tryd.prog ops Q rest (a.put o.dst (.agg vs.toArray)) w) : wpList Tryd.prog ops Q (o :: rest) a w := by
  unfold wpList
  rw [if_pos hgd]
  exact .inl (wp_load_mid 30 x ho g off hx vs _ (range_row hg hc) Tryd.underlying30 rfl (by rw [sizeG, hl]) h)
end
theorem v8_alike {n m : Nat → Int} (h : ∀ k, k < 8 → n k = m k) : v8 n = v8 m := by
  unfold v8
  rw [h 0 (by omega), h 1 (by omega), h 2 (by omega), h 3 (by omega), h 4 (by omega), h 5 (by omega), h 6 (by omega), h 7 (by omega)]
theorem v4_alike {n m : Nat → Int} (h : ∀ k, k < 4 → n k = m k) : v4 n = v4 m := by
  unfold v4
  rw [h 0 (by omega), h 1 (by omega), h 2 (by omega), h 3 (by omega)]
end Go.Proofs.YtkplgfhkebkaaaaDoor.ST

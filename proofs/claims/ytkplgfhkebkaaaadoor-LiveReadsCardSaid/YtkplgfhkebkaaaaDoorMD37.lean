/- Texts of this claim, pruned to what it needs and laid together by prune.py. -/
import Derived.Test.YtkplgfhkebkaaaaDoorMD35
import Derived.Test.YtkplgfhkebkaaaaDoorMD36
import Derived.Test.YtkplgfhkebkaaaaDoorMD28
namespace Go.Proofs.YtkplgfhkebkaaaaDoor.ZL
open Go.RowKit Go.Proofs.YtkplgfhkebkaaaaDoorW.PrintWords Go.Proofs.YtkplgfhkebkaaaaDoorW.PrintMore Go.Proofs.YtkplgfhkebkaaaaDoor.Scan Go.Proofs.YtkplgfhkebkaaaaDoor.F Go.Proofs.YtkplgfhkebkaaaaDoor.FM Go.Proofs.YtkplgfhkebkaaaaDoor.H Go.Proofs.YtkplgfhkebkaaaaDoor.TT Go.Proofs.YtkplgfhkebkaaaaDoor.NX Go.Proofs.YtkplgfhkebkaaaaDoor.FP Go.Proofs.YtkplgfhkebkaaaaDoor.FL Go.Proofs.YtkplgfhkebkaaaaDoor.B8 Go.Proofs.YtkplgfhkebkaaaaDoor.V Go.Proofs.YtkplgfhkebkaaaaDoor.LB Go.Proofs.YtkplgfhkebkaaaaDoor.Z Go.Proofs.YtkplgfhkebkaaaaDoor.ZB Go.Proofs.YtkplgfhkebkaaaaDoor.ZG Go.Proofs.YtkplgfhkebkaaaaDoor.GZ
set_option linter.unusedVariables false
set_option linter.unusedSectionVars false
theorem in_ev {ts : List ByteArray} {la gl : ByteArray} {code : List S47} (h : SP ts la gl code) (hw : WfC code) : Ev (fun _ => fresh_In.f ts la gl code) (frI code) :=
  ev_all fun _ => if_pos ⟨SP.inR h, by have := h.small; omega, hw⟩
def b0 : List S47 := [⟨5, 0, 0, 0, 0⟩, ⟨5, 1, 0, 0, 0⟩]
theorem b0_inR : InR (nxt b0) (b0.length + 1) := by
  intro k m hm
  by_cases h : 0 ≤ k ∧ k < b0.length
  · have hl : b0.length = 2 := rfl
    rw [hl] at h ⊢
    obtain rfl | rfl : k = 0 ∨ k = 1 := by omega
    · have e : nxt b0 0 = [1] := by decide
      rw [e, List.mem_singleton] at hm
      omega
    · have e : nxt b0 1 = [2] := by decide
      rw [e, List.mem_singleton] at hm
      omega
  · have e : nxt b0 k = [] := by unfold nxt; rw [if_neg h]
    rw [e] at hm
    cases hm
theorem wf_small {a b c d : Int} (ha : 0 ≤ a ∧ a ≤ 15) (hb : 0 ≤ b ∧ b ≤ 15) (hc : 0 ≤ c ∧ c ≤ 15) (hd : 0 ≤ d ∧ d ≤ 15) : WfI a b c d 0 := ⟨by omega, by omega, by omega, by omega, by omega, by omega⟩
theorem b0_wf : WfC b0 := by
  intro x hx
  simp only [b0, List.mem_cons, List.not_mem_nil, or_false] at hx
  rcases hx with rfl | rfl
  · exact wf_small (by decide) (by decide) (by decide) (by decide)
  · exact wf_small (by decide) (by decide) (by decide) (by decide)
theorem b0_fr : frI b0 = [255, 1, 2] := by decide +kernel
theorem b0_out : iv (outB b0 0 6) = 1 := by decide +kernel
theorem alive_ev : Ev (fun k => lockstitchlaw09_alive.f k) true := by
  have e : fresh_In.f [(⟨#[105]⟩ : ByteArray)] (⟨#[48, 48]⟩ : ByteArray) (⟨#[]⟩ : ByteArray) b0 = some [255, 1, 2] := by
    rw [← b0_fr]
    exact if_pos ⟨b0_inR, by decide, b0_wf⟩
  have u : Ev (fun k => fresh_Out.f k [(⟨#[105]⟩ : ByteArray)] (⟨#[48, 48]⟩ : ByteArray) (⟨#[]⟩ : ByteArray) b0 0 6) 1 := by
    have := out_ev (ts := [(⟨#[105]⟩ : ByteArray)]) (la := (⟨#[48, 48]⟩ : ByteArray)) (gl := (⟨#[]⟩ : ByteArray)) b0_wf 0 6
    rw [b0_out] at this
    exact this
  refine ev_bind ev_const (ev_bind ev_const (ev_bind (ev_all fun _ => e) (Ev.congr (fun k => if_pos (by decide)) (Ev.congr (fun k => if_pos (by decide)) (Ev.congr (fun k => if_pos (by decide)) (Ev.congr (fun k => if_pos (by decide)) (Ev.congr (fun k => if_pos (by decide)) (Ev.congr (fun k => if_pos (by decide)) (Ev.congr (fun k => if_pos (by decide)) ?_)))))))))
  exact ev_bind u ev_const
theorem own_lt {ts : List ByteArray} {la gl : ByteArray} {code : List S47} (h : SP ts la gl code) (hl : (ts.length : Int) ≤ 9223372036854775807) (hs : ∀ s ∈ ts, (s.size : Int) ≤ 9223372036854775807) (hla : Fit la) (hw : WfC code) (q : Nat) (hq : q < code.length)
    (ho : (rd_T47 code q).f0 = 5 ∨ (rd_T47 code q).f0 = 6 ∨ (rd_T47 code q).f0 = 7 ∨ (rd_T47 code q).f0 = 10 ∨ (rd_T47 code q).f0 = 12) : (rd_T47 code q).f1 < 8 := by
  have f := (kinds_kf ts hl hs la gl hla code (hw.rd q hq) (h.all q hq).kinds).a (by omega)
  have := h.locals
  omega
end Go.Proofs.YtkplgfhkebkaaaaDoor.ZL

namespace Go.Proofs.YtkplgfhkebkaaaaDoor.ST
open Go.RowKit Go.Proofs.YtkplgfhkebkaaaaDoorW.PrintWords Go.Proofs.YtkplgfhkebkaaaaDoor.Scan Go.Proofs.YtkplgfhkebkaaaaDoor.F Go.Proofs.YtkplgfhkebkaaaaDoor.KP Go.Proofs.YtkplgfhkebkaaaaDoor.TT Go.Proofs.YtkplgfhkebkaaaaDoor.NX Go.Proofs.YtkplgfhkebkaaaaDoor.FP Go.Proofs.YtkplgfhkebkaaaaDoor.FL Go.Proofs.YtkplgfhkebkaaaaDoor.B8 Go.Proofs.YtkplgfhkebkaaaaDoor.LB Go.Proofs.YtkplgfhkebkaaaaDoor.ZB Go.Proofs.YtkplgfhkebkaaaaDoor.ZL
set_option linter.unusedVariables false
set_option linter.unusedSectionVars false
theorem fst_eq {α β : Type} {a c : α} {b d : β} (e : (a, b) = (c, d)) : a = c := congrArg Prod.fst e
theorem stepN_pc {sz loc : Int → Int} {x : S47} {s u : PS} (e : stepN sz loc x s = some u) : u.pc = s.pc ∧ u.steps = s.steps := by
  unfold stepN at e
  by_cases o1 : x.f0 = 1
  · rw [if_pos o1] at e
    obtain rfl := Option.some.inj e
    exact ⟨rfl, rfl⟩
  rw [if_neg o1] at e
  by_cases o2 : x.f0 = 2
  · rw [if_pos o2] at e
    obtain rfl := Option.some.inj e
    exact ⟨rfl, rfl⟩
  rw [if_neg o2] at e
  by_cases o15 : x.f0 = 15
  · rw [if_pos o15] at e
    obtain rfl := Option.some.inj e
    exact ⟨rfl, rfl⟩
  rw [if_neg o15] at e
  by_cases o14 : x.f0 = 14
  · rw [if_pos o14] at e
    obtain rfl := Option.some.inj e
    exact ⟨rfl, rfl⟩
  rw [if_neg o14] at e
  by_cases o5 : x.f0 = 5
  · rw [if_pos o5] at e
    obtain rfl := Option.some.inj e
    exact ⟨rfl, rfl⟩
  rw [if_neg o5] at e
  by_cases o6 : x.f0 = 6
  · rw [if_pos o6] at e
    obtain rfl := Option.some.inj e
    exact ⟨rfl, rfl⟩
  rw [if_neg o6] at e
  by_cases o7 : x.f0 = 7
  · rw [if_pos o7] at e
    obtain rfl := Option.some.inj e
    exact ⟨rfl, rfl⟩
  rw [if_neg o7] at e
  by_cases o12 : x.f0 = 12
  · rw [if_pos o12] at e
    obtain rfl := Option.some.inj e
    exact ⟨rfl, rfl⟩
  rw [if_neg o12] at e
  by_cases o13 : x.f0 = 13
  · rw [if_pos o13] at e
    obtain rfl := Option.some.inj e
    exact ⟨rfl, rfl⟩
  rw [if_neg o13] at e
  by_cases o8 : x.f0 = 8
  · rw [if_pos o8] at e
    split at e
    · cases e
    · obtain rfl := Option.some.inj e
      exact ⟨rfl, rfl⟩
  rw [if_neg o8] at e
  by_cases o10 : x.f0 = 10
  · rw [if_pos o10] at e
    split at e
    · cases e
    · obtain rfl := Option.some.inj e
      exact ⟨rfl, rfl⟩
  rw [if_neg o10] at e
  by_cases o9 : x.f0 = 9
  · rw [if_pos o9] at e
    split at e
    · cases e
    · obtain rfl := Option.some.inj e
      exact ⟨rfl, rfl⟩
  rw [if_neg o9] at e
  split at e
  · cases e
  · obtain rfl := Option.some.inj e
    exact ⟨rfl, rfl⟩
def chP (x : S47) (s : PS) (v : Int) (a : Nat) : Int :=
  if x.f0 = 5 ∧ a = x.f1.toNat then ((s.objs.length + 1 : Nat) : Int) else if x.f0 = 6 ∧ a = x.f1.toNat then 0 else if x.f0 = 7 ∧ a = x.f1.toNat then s.n (8 + x.f2.toNat) else if (x.f0 = 10 ∨ x.f0 = 12) ∧ a = x.f1.toNat then v else s.n (8 + a)
section
variable {x : S47} {s : PS} {v : Int} {a : Nat}
theorem chP_other (h : (x.f0 = 5 ∨ x.f0 = 6 ∨ x.f0 = 7 ∨ x.f0 = 10 ∨ x.f0 = 12) → a ≠ x.f1.toNat) : chP x s v a = s.n (8 + a) := by
  unfold chP
  rw [if_neg (fun e => h (by omega) e.2), if_neg (fun e => h (by omega) e.2), if_neg (fun e => h (by omega) e.2), if_neg (fun e => h (by omega) e.2)]
theorem chP_5 (o : x.f0 = 5) (e : a = x.f1.toNat) : chP x s v a = ((s.objs.length + 1 : Nat) : Int) := if_pos ⟨o, e⟩
theorem chP_6 (o : x.f0 = 6) (e : a = x.f1.toNat) : chP x s v a = 0 := by
  unfold chP
  rw [if_neg (by omega), if_pos ⟨o, e⟩]
theorem chP_7 (o : x.f0 = 7) (e : a = x.f1.toNat) : chP x s v a = s.n (8 + x.f2.toNat) := by
  unfold chP
  rw [if_neg (by omega), if_neg (by omega), if_pos ⟨o, e⟩]
theorem chP_load (o : x.f0 = 10 ∨ x.f0 = 12) (e : a = x.f1.toNat) : chP x s v a = v := by
  unfold chP
  rw [if_neg (by omega), if_neg (by omega), if_neg (by omega), if_pos ⟨o, e⟩]
end
theorem stepN_P {sz loc : Int → Int} {x : S47} {s u : PS} (h1 : 0 ≤ x.f1) (h8 : x.f0 = 1 ∨ x.f0 = 2 ∨ x.f0 = 15 ∨ x.f0 = 8 → x.f1 < 8) (hop : 1 ≤ x.f0 ∧ x.f0 ≤ 15) (hj : x.f0 ≠ 3 ∧ x.f0 ≠ 4) (e : stepN sz loc x s = some u) (a : Nat) (ha : a < 8) :
    u.n (8 + a) = chP x s (u.n (8 + a)) a := by
  have hX : ∀ (v : Int), x.f1 < 8 → upd s.n x.f1.toNat v (8 + a) = s.n (8 + a) := fun v hl => upd_ne s.n v (by omega)
  have hG : ∀ (k : Nat) (v : Int), upd s.n (16 + k) v (8 + a) = s.n (8 + a) := fun k v => upd_ne s.n v (by omega)
  have hE : ∀ (v : Int), a = x.f1.toNat → upd s.n (8 + x.f1.toNat) v (8 + a) = v := fun v e => by rw [← e]; exact upd_same ..
  have hN : ∀ (v : Int), a ≠ x.f1.toNat → upd s.n (8 + x.f1.toNat) v (8 + a) = s.n (8 + a) := fun v e => upd_ne s.n v (by omega)
  unfold stepN at e
  by_cases o1 : x.f0 = 1
  · rw [if_pos o1] at e
    obtain rfl := Option.some.inj e
    exact (hX _ (h8 (by omega))).trans (chP_other fun o => by omega).symm
  rw [if_neg o1] at e
  by_cases o2 : x.f0 = 2
  · rw [if_pos o2] at e
    obtain rfl := Option.some.inj e
    exact (hX _ (h8 (by omega))).trans (chP_other fun o => by omega).symm
  rw [if_neg o2] at e
  by_cases o15 : x.f0 = 15
  · rw [if_pos o15] at e
    obtain rfl := Option.some.inj e
    exact (hX _ (h8 (by omega))).trans (chP_other fun o => by omega).symm
  rw [if_neg o15] at e
  by_cases o14 : x.f0 = 14
  · rw [if_pos o14] at e
    obtain rfl := Option.some.inj e
    exact (chP_other (x := x) (s := s) fun o => by omega).symm
  rw [if_neg o14] at e
  by_cases o5 : x.f0 = 5
  · rw [if_pos o5] at e
    obtain rfl := Option.some.inj e
    by_cases ea : a = x.f1.toNat
    · exact (hE _ ea).trans (chP_5 o5 ea).symm
    · exact (hN _ ea).trans (chP_other fun _ => ea).symm
  rw [if_neg o5] at e
  by_cases o6 : x.f0 = 6
  · rw [if_pos o6] at e
    obtain rfl := Option.some.inj e
    by_cases ea : a = x.f1.toNat
    · exact (hE _ ea).trans (chP_6 o6 ea).symm
    · exact (hN _ ea).trans (chP_other fun _ => ea).symm
  rw [if_neg o6] at e
  by_cases o7 : x.f0 = 7
  · rw [if_pos o7] at e
    obtain rfl := Option.some.inj e
    by_cases ea : a = x.f1.toNat
    · exact (hE _ ea).trans (chP_7 o7 ea).symm
    · exact (hN _ ea).trans (chP_other fun _ => ea).symm
  rw [if_neg o7] at e
  by_cases o12 : x.f0 = 12
  · rw [if_pos o12] at e
    obtain rfl := Option.some.inj e
    by_cases ea : a = x.f1.toNat
    · exact (chP_load (.inr o12) ea).symm
    · exact (hN _ ea).trans (chP_other fun _ => ea).symm
  rw [if_neg o12] at e
  by_cases o13 : x.f0 = 13
  · rw [if_pos o13] at e
    obtain rfl := Option.some.inj e
    exact (hG _ _).trans (chP_other fun o => by omega).symm
  rw [if_neg o13] at e
  by_cases o8 : x.f0 = 8
  · rw [if_pos o8] at e
    split at e
    · cases e
    · obtain rfl := Option.some.inj e
      exact (hX _ (h8 (by omega))).trans (chP_other fun o => by omega).symm
  rw [if_neg o8] at e
  by_cases o10 : x.f0 = 10
  · rw [if_pos o10] at e
    split at e
    · cases e
    · obtain rfl := Option.some.inj e
      by_cases ea : a = x.f1.toNat
      · exact (chP_load (.inl o10) ea).symm
      · exact (hN _ ea).trans (chP_other fun _ => ea).symm
  rw [if_neg o10] at e
  by_cases o9 : x.f0 = 9
  · rw [if_pos o9] at e
    split at e
    · cases e
    · obtain rfl := Option.some.inj e
      exact (chP_other (x := x) (s := s) fun o => by omega).symm
  rw [if_neg o9] at e
  split at e
  · cases e
  · obtain rfl := Option.some.inj e
    exact (chP_other (x := x) (s := s) fun o => by omega).symm
section
variable {ts : List ByteArray} {la gl : ByteArray} {code : List S47} (h : SP ts la gl code) (hl : (ts.length : Int) ≤ 9223372036854775807) (hs : ∀ s ∈ ts, (s.size : Int) ≤ 9223372036854775807) (hla : Fit la) (hgl : Fit gl) (hw : WfC code)
include h hl hs hla hgl hw
theorem step_next {s u : PS} (h0 : 0 ≤ s.pc) (h1 : s.pc < code.length) (e : stepP (size ts) (atv ts la) code s = (u, false, 0)) : u.pc ∈ nxt code s.pc := by
  unfold stepP at e
  rw [if_neg (by omega)] at e
  unfold nxt
  rw [if_pos ⟨h0, h1⟩]
  by_cases h3 : (rd_T47 code s.pc).f0 = 3
  · rw [if_pos (.inl h3)] at e
    obtain rfl := fst_eq e
    rw [if_pos h3, List.mem_singleton]
  · rw [if_neg h3]
    by_cases h4 : (rd_T47 code s.pc).f0 = 4
    · rw [if_pos h4]
      by_cases hz : s.n (rd_T47 code s.pc).f1.toNat = 0
      · rw [if_pos (.inr ⟨h4, hz⟩)] at e
        obtain rfl := fst_eq e
        show (rd_T47 code s.pc).f4 ∈ _
        repeat' split
        · exact List.mem_cons_self ..
        · exact List.mem_cons_of_mem _ (List.mem_cons_self ..)
        · rw [List.mem_singleton]
          omega
      · rw [if_neg (by rintro (h | h); exact h3 h; exact hz h.2), if_pos h4] at e
        obtain rfl := fst_eq e
        show s.pc + 1 ∈ _
        repeat' split
        · exact List.mem_cons_of_mem _ (List.mem_cons_self ..)
        · exact List.mem_cons_self ..
        · exact List.mem_cons_self ..
    · rw [if_neg h4]
      rw [if_neg (by rintro (h | h); exact h3 h; exact h4 h.1), if_neg h4] at e
      split at e
      · rename_i w hw'
        obtain rfl := fst_eq e
        rw [(stepN_pc hw').1, List.mem_singleton]
      · have := congrArg (fun p => p.2.2) e
        simp at this
def New (code : List S47) (old : Int) (s : PS) : Prop := ∀ a : Nat, a < 8 → (g (frB code) s.pc.toNat).getLsbD a = true → s.n (8 + a) = 0 ∨ old < s.n (8 + a)
end
end Go.Proofs.YtkplgfhkebkaaaaDoor.ST

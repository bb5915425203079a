/- Texts of this claim, pruned to what it needs and laid together by prune.py. -/
import Derived.Test.YtkmkfiidlbhcgaaDoorMO27
import Derived.Test.YtkmkfiidlbhcgaaDoorMO35
import Derived.Test.YtkmkfiidlbhcgaaDoorMO36
namespace Go.Proofs.YtkmkfiidlbhcgaaDoor.TT
open Go.RowKit Go.Proofs.YtkmkfiidlbhcgaaDoorW.PrintWords Go.Proofs.YtkmkfiidlbhcgaaDoor.Scan Go.Proofs.YtkmkfiidlbhcgaaDoor.F Go.Proofs.YtkmkfiidlbhcgaaDoor.KP Go.Proofs.YtkmkfiidlbhcgaaDoor.FM Go.Proofs.YtkmkfiidlbhcgaaDoor.H
structure KF (la : ByteArray) (x0 x1 x2 x3 : Int) : Prop where
  a : x0 = 5 ∨ x0 = 6 ∨ x0 = 7 ∨ x0 = 9 ∨ x0 = 10 ∨ x0 = 11 ∨ x0 = 12 → x1 < la.size
  b : x0 = 7 ∨ x0 = 8 ∨ x0 = 10 ∨ x0 = 11 ∨ x0 = 13 ∨ x0 = 15 → x2 < la.size
  c : x0 = 15 → x3 < la.size
theorem one_true {p q : Int} (h : lockstitchref05_one.f p q = some true) : 0 ≤ p ∧ 0 ≤ q := by
  obtain ⟨r, e, hr⟩ := one_ok p q 0
  rw [e] at h
  exact hr (Option.some.inj h)
section
variable (ts : List ByteArray) (hl : (ts.length : Int) ≤ 9223372036854775807) (hs : ∀ s ∈ ts, (s.size : Int) ≤ 9223372036854775807) (la gl : ByteArray) (hla : Fit la) (code : List S36)
include hl hs hla
theorem kinds_kf {x0 x1 x2 x3 x4 : Int} (hw : WfI x0 x1 x2 x3 x4) (h : Ev (fun k => lockstitchref05_kinds.f k ts la gl code x0 x1 x2 x3 x4) true) : KF la x0 x1 x2 x3 := by
  obtain ⟨a, ⟨Ka, hKa⟩, ha⟩ := local_ok ts hl hs la gl hla code x1 hw.2.1.1 hw.2.1.2
  obtain ⟨b, ⟨Kb, hKb⟩, hb⟩ := local_ok ts hl hs la gl hla code x2 hw.2.2.1.1 hw.2.2.1.2
  obtain ⟨c, ⟨Kc, hKc⟩, hc⟩ := local_ok ts hl hs la gl hla code x3 hw.2.2.2.1.1 hw.2.2.2.1.2
  obtain ⟨K, hK⟩ := h
  obtain ⟨k, hk⟩ : ∃ k, k = K + Ka + Kb + Kc := ⟨_, rfl⟩
  have e : lockstitchref05_kinds.f (k + 1) ts la gl code x0 x1 x2 x3 x4 = some true := hK (k + 1) (by omega)
  have e1 : lockstitchref05_Local.f (k + 1) ts la gl code x1 = some a := hKa (k + 1) (by omega)
  have e2 : lockstitchref05_Local.f (k + 1) ts la gl code x2 = some b := hKb (k + 1) (by omega)
  have e3 : lockstitchref05_Local.f k ts la gl code x3 = some c := hKc k (by omega)
  unfold lockstitchref05_kinds.f at e
  rw [e1] at e
  simp only [Option.bind_some] at e
  rw [e2] at e
  simp only [Option.bind_some] at e
  have e' : ∃ q, (q = true ↔ x0 = 5 ∨ x0 = 6) ∧ lockstitchref05_kinds.j0 (k + 1) a b x0 q ts la gl code x0 x1 x2 x3 x4 = some true := by
    by_cases h5 : x0 = 5
    · rw [if_pos h5] at e
      exact ⟨_, by simp [h5], e⟩
    · rw [if_neg h5] at e
      exact ⟨_, by simp [h5], e⟩
  obtain ⟨q, hq, e⟩ := e'
  rw [lockstitchref05_kinds.j0.eq_2, e3] at e
  by_cases h5 : q = true
  · rw [if_pos h5] at e
    have h0 : 0 ≤ a := of_decide_eq_true (Option.some.inj e)
    have := hq.1 h5
    exact ⟨fun _ => ha h0, fun h => by omega, fun h => by omega⟩
  · rw [if_neg h5] at e
    have hn : ¬ (x0 = 5 ∨ x0 = 6) := fun h => h5 (hq.2 h)
    have fin : (x0 = 7 ∨ x0 = 9 ∨ x0 = 10 ∨ x0 = 11 ∨ x0 = 12 → 0 ≤ a) ∧ (x0 = 7 ∨ x0 = 8 ∨ x0 = 10 ∨ x0 = 11 ∨ x0 = 13 ∨ x0 = 15 → 0 ≤ b) ∧ (x0 = 15 → 0 ≤ c) := by
      clear hq hn h5 hK hKa hKb hKc e1 e2 e3
      by_cases h7 : x0 = 7
      · subst h7
        rw [if_pos rfl] at e
        obtain ⟨t, ht, e⟩ := Option.bind_eq_some_iff.1 e
        obtain rfl := Option.some.inj e
        have := one_true ht
        omega
      rw [if_neg h7] at e
      by_cases h15 : x0 = 15
      · subst h15
        rw [if_pos rfl] at e
        simp only [Option.bind_some] at e
        obtain ⟨t, ht, e⟩ := Option.bind_eq_some_iff.1 e
        obtain rfl := Option.some.inj e
        have := one_true ht
        omega
      rw [if_neg h15] at e
      by_cases h8 : x0 = 8
      · subst h8
        rw [if_pos rfl] at e
        by_cases hb : b ≥ 0
        · omega
        · rw [if_neg hb] at e
          cases e
      rw [if_neg h8] at e
      by_cases h9 : x0 = 9
      · subst h9
        rw [if_pos rfl] at e
        by_cases hb : a ≥ 0
        · omega
        · rw [if_neg hb] at e
          cases e
      rw [if_neg h9] at e
      by_cases h10 : x0 = 10
      · subst h10
        rw [if_pos rfl] at e
        by_cases hb : b ≥ 0
        · rw [if_pos hb] at e
          obtain ⟨t, ht, e⟩ := Option.bind_eq_some_iff.1 e
          obtain ⟨u, hu, e⟩ := Option.bind_eq_some_iff.1 e
          obtain rfl := Option.some.inj e
          have := one_true hu
          omega
        · rw [if_neg hb] at e
          cases e
      rw [if_neg h10] at e
      by_cases h11 : x0 = 11
      · subst h11
        rw [if_pos rfl] at e
        by_cases hb : a ≥ 0
        · rw [if_pos hb] at e
          obtain ⟨t, ht, e⟩ := Option.bind_eq_some_iff.1 e
          obtain ⟨u, hu, e⟩ := Option.bind_eq_some_iff.1 e
          obtain rfl := Option.some.inj e
          have := one_true hu
          omega
        · rw [if_neg hb] at e
          cases e
      rw [if_neg h11] at e
      by_cases h12 : x0 = 12
      · subst h12
        rw [if_pos rfl] at e
        obtain ⟨t, ht, e⟩ := Option.bind_eq_some_iff.1 e
        obtain ⟨u, hu, e⟩ := Option.bind_eq_some_iff.1 e
        obtain rfl := Option.some.inj e
        have := one_true hu
        omega
      rw [if_neg h12] at e
      by_cases h13 : x0 = 13
      · subst h13
        rw [if_pos rfl] at e
        obtain ⟨t, ht, e⟩ := Option.bind_eq_some_iff.1 e
        obtain ⟨u, hu, e⟩ := Option.bind_eq_some_iff.1 e
        obtain rfl := Option.some.inj e
        have := one_true hu
        omega
      omega
    exact ⟨fun h => ha (fin.1 (by omega)), fun h => hb (fin.2.1 h), fun h => hc (fin.2.2 h)⟩
end
end Go.Proofs.YtkmkfiidlbhcgaaDoor.TT

namespace Go.Proofs.YtkmkfiidlbhcgaaDoor.ZL
open Go.RowKit Go.Proofs.YtkmkfiidlbhcgaaDoorW.PrintWords Go.Proofs.YtkmkfiidlbhcgaaDoorW.PrintMore Go.Proofs.YtkmkfiidlbhcgaaDoor.Scan Go.Proofs.YtkmkfiidlbhcgaaDoor.F Go.Proofs.YtkmkfiidlbhcgaaDoor.FM Go.Proofs.YtkmkfiidlbhcgaaDoor.H Go.Proofs.YtkmkfiidlbhcgaaDoor.TT Go.Proofs.YtkmkfiidlbhcgaaDoor.NX Go.Proofs.YtkmkfiidlbhcgaaDoor.FP Go.Proofs.YtkmkfiidlbhcgaaDoor.FL Go.Proofs.YtkmkfiidlbhcgaaDoor.B8 Go.Proofs.YtkmkfiidlbhcgaaDoor.V Go.Proofs.YtkmkfiidlbhcgaaDoor.LB Go.Proofs.YtkmkfiidlbhcgaaDoor.Z Go.Proofs.YtkmkfiidlbhcgaaDoor.ZB Go.Proofs.YtkmkfiidlbhcgaaDoor.ZG Go.Proofs.YtkmkfiidlbhcgaaDoor.GZ
set_option linter.unusedVariables false
set_option linter.unusedSectionVars false
theorem frB_len (code : List S36) : (frB code).length = code.length + 1 := (fr_inv (FB_mono code)).len
theorem frI_len (code : List S36) : (frI code).length = code.length + 1 := by
  unfold frI
  rw [List.length_map, frB_len]
def b0 : List S36 := [⟨5, 0, 0, 0, 0⟩, ⟨5, 1, 0, 0, 0⟩]
theorem b0_inR : InR (nxt b0) (b0.length + 1) := by
  intro k m hm
  by_cases h : 0 ≤ k ∧ k < b0.length
  · have hl : b0.length = 2 := rfl
    rw [hl] at h ⊢
    obtain rfl | rfl : k = 0 ∨ k = 1 := by omega
    · have e : nxt b0 0 = [1] := by decide
      rw [e, List.mem_singleton] at hm
      omega
    · have e : nxt b0 1 = [2] := by decide
      rw [e, List.mem_singleton] at hm
      omega
  · have e : nxt b0 k = [] := by unfold nxt; rw [if_neg h]
    rw [e] at hm
    cases hm
theorem wf_small {a b c d : Int} (ha : 0 ≤ a ∧ a ≤ 15) (hb : 0 ≤ b ∧ b ≤ 15) (hc : 0 ≤ c ∧ c ≤ 15) (hd : 0 ≤ d ∧ d ≤ 15) : WfI a b c d 0 := ⟨by omega, by omega, by omega, by omega, by omega, by omega⟩
theorem b0_wf : WfC b0 := by
  intro x hx
  simp only [b0, List.mem_cons, List.not_mem_nil, or_false] at hx
  rcases hx with rfl | rfl
  · exact wf_small (by decide) (by decide) (by decide) (by decide)
  · exact wf_small (by decide) (by decide) (by decide) (by decide)
theorem b0_fr : frI b0 = [255, 1, 2] := by decide +kernel
theorem b0_out : iv (outB b0 0 6) = 1 := by decide +kernel
theorem alive_ev : Ev (fun k => lockstitchlaw09_alive.f k) true := by
  have e : fresh_In.f [(⟨#[105]⟩ : ByteArray)] (⟨#[48, 48]⟩ : ByteArray) (⟨#[]⟩ : ByteArray) b0 = some [255, 1, 2] := by
    rw [← b0_fr]
    exact if_pos ⟨b0_inR, by decide, b0_wf⟩
  have u : Ev (fun k => fresh_Out.f k [(⟨#[105]⟩ : ByteArray)] (⟨#[48, 48]⟩ : ByteArray) (⟨#[]⟩ : ByteArray) b0 0 6) 1 := by
    have := out_ev (ts := [(⟨#[105]⟩ : ByteArray)]) (la := (⟨#[48, 48]⟩ : ByteArray)) (gl := (⟨#[]⟩ : ByteArray)) b0_wf 0 6
    rw [b0_out] at this
    exact this
  refine ev_bind ev_const (ev_bind ev_const (ev_bind (ev_all fun _ => e) (Ev.congr (fun k => if_pos (by decide)) (Ev.congr (fun k => if_pos (by decide)) (Ev.congr (fun k => if_pos (by decide)) (Ev.congr (fun k => if_pos (by decide)) (Ev.congr (fun k => if_pos (by decide)) (Ev.congr (fun k => if_pos (by decide)) (Ev.congr (fun k => if_pos (by decide)) ?_)))))))))
  exact ev_bind u ev_const
theorem idx {code : List S36} {a : Int} (h0 : 0 ≤ a) (h1 : a ≤ 255) (hp : 1 ≤ code.length) : ∃ q : Nat, q < code.length ∧ Int.tmod (wrap64 a) (code.length : Int) = (q : Int) := by
  obtain ⟨n, rfl⟩ := Int.eq_ofNat_of_zero_le h0
  have ew : wrap64 ((n : Nat) : Int) = (n : Int) := by unfold wrap64; omega
  refine ⟨n % code.length, Nat.mod_lt _ hp, ?_⟩
  rw [ew, Int.tmod_eq_emod_of_nonneg h0]
  rfl
theorem own_lt {ts : List ByteArray} {la gl : ByteArray} {code : List S36} (h : SP ts la gl code) (hl : (ts.length : Int) ≤ 9223372036854775807) (hs : ∀ s ∈ ts, (s.size : Int) ≤ 9223372036854775807) (hla : Fit la) (hw : WfC code) (q : Nat) (hq : q < code.length)
    (ho : (rd_T36 code q).f0 = 5 ∨ (rd_T36 code q).f0 = 6 ∨ (rd_T36 code q).f0 = 7 ∨ (rd_T36 code q).f0 = 10 ∨ (rd_T36 code q).f0 = 12) : (rd_T36 code q).f1 < 8 := by
  have f := (kinds_kf ts hl hs la gl hla code (hw.rd q hq) (h.all q hq).kinds).a (by omega)
  have := h.locals
  omega
end Go.Proofs.YtkmkfiidlbhcgaaDoor.ZL

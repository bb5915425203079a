/- Texts of this claim, pruned to what it needs and laid together by prune.py. -/
import Derived.Test.YtkplgfhkebkaaaaDoorMD31
import Derived.Test.YtkplgfhkebkaaaaDoorMD32
namespace Go.Proofs.YtkplgfhkebkaaaaDoor.ZB
open Go.RowKit Go.Proofs.YtkplgfhkebkaaaaDoorW.PrintWords Go.Proofs.YtkplgfhkebkaaaaDoorW.PrintMore Go.Proofs.YtkplgfhkebkaaaaDoor.Scan Go.Proofs.YtkplgfhkebkaaaaDoor.F Go.Proofs.YtkplgfhkebkaaaaDoor.TT Go.Proofs.YtkplgfhkebkaaaaDoor.NX Go.Proofs.YtkplgfhkebkaaaaDoor.FP Go.Proofs.YtkplgfhkebkaaaaDoor.FL Go.Proofs.YtkplgfhkebkaaaaDoor.B8 Go.Proofs.YtkplgfhkebkaaaaDoor.V Go.Proofs.YtkplgfhkebkaaaaDoor.LB Go.Proofs.YtkplgfhkebkaaaaDoor.Z
set_option linter.unusedVariables false
theorem shr_nat (z : S8) {b : Int} (h : 0 ≤ b) : shr .u8 (iv z) b = ((z.toNat / 2 ^ b.toNat : Nat) : Int) := by
  unfold shr iv
  by_cases hb : b.toNat ≤ 8
  · rw [show min b.toNat IntKind.u8.bits = b.toNat from Nat.min_eq_left hb]
    have e : ((2 ^ b.toNat : Nat) : Int) = (2 : Int) ^ b.toNat := Int.natCast_pow 2 _
    rw [← e]
    rfl
  · have h8 : z.toNat < 2 ^ 8 := z.isLt
    have h9 : z.toNat < 2 ^ b.toNat := Nat.lt_of_lt_of_le h8 (Nat.pow_le_pow_right (by decide) (by omega))
    rw [show min b.toNat IntKind.u8.bits = 8 from Nat.min_eq_right (by show 8 ≤ b.toNat; omega), Nat.div_eq_of_lt h9]
    exact Int.ediv_eq_zero_of_lt (Int.natCast_nonneg _) (Int.ofNat_lt.2 h8)
theorem bit_mod (z : S8) (n : Nat) : z.toNat / 2 ^ n % 2 = if z.getLsbD n then 1 else 0 := by
  have e : z.getLsbD n = decide (z.toNat / 2 ^ n % 2 = 1) := by
    show z.toNat.testBit n = _
    exact Nat.testBit_eq_decide_div_mod_eq
  rw [e]
  by_cases h : z.toNat / 2 ^ n % 2 = 1
  · rw [decide_eq_true h, if_pos rfl, h]
  · rw [decide_eq_false h, if_neg (by decide)]
    omega
theorem shr_tmod (z : S8) {b : Int} (h : 0 ≤ b) : Int.tmod (shr .u8 (iv z) b) 2 = if z.getLsbD b.toNat then 1 else 0 := by
  rw [shr_nat z h, Int.tmod_eq_emod_of_nonneg (Int.natCast_nonneg _)]
  have := bit_mod z b.toNat
  split <;> rename_i hb
  · rw [if_pos hb] at this
    omega
  · rw [if_neg hb] at this
    omega
theorem shr_and (z : S8) {b : Int} (h : 0 ≤ b) : (bits .and .u8 (shr .u8 (iv z) b) 1 == 1) = z.getLsbD b.toNat := by
  have hm : z.toNat / 2 ^ b.toNat < 256 := Nat.lt_of_le_of_lt (Nat.div_le_self ..) z.isLt
  have e : bits .and .u8 (shr .u8 (iv z) b) (2 ^ 1 - 1) = shr .u8 (iv z) b % 2 ^ 1 := by
    refine bits_mask .u8 8 (by decide) wraps_u8 1 (by decide) _ ?_ ?_
    · rw [shr_nat z h]
      exact Int.natCast_nonneg _
    · rw [shr_nat z h]
      exact Int.ofNat_lt.2 hm
  have e1 : bits .and .u8 (shr .u8 (iv z) b) 1 = ((z.toNat / 2 ^ b.toNat % 2 : Nat) : Int) := by
    rw [show (1 : Int) = 2 ^ 1 - 1 from rfl, e, shr_nat z h]
    rfl
  rw [e1, bit_mod]
  cases z.getLsbD b.toNat <;> rfl
def outI (safe : Bool) (x : S47) (z : S8) : S8 :=
  let s := if safe then 0 else z
  if x.f0 = 5 ∨ x.f0 = 6 ∨ (x.f0 = 7 ∧ s.getLsbD x.f2.toNat = true) then s ||| own x.f1
  else if x.f0 = 7 ∨ x.f0 = 10 ∨ x.f0 = 12 then s &&& ~~~ own x.f1 else s
def outB (code : List S47) (a : Int) (z : S8) : S8 := if 0 ≤ a ∧ a < code.length then outI (sf code a) (rd_T47 code a) z else z
theorem outI_safe (safe : Bool) (x : S47) (z : S8) : outI safe x z = outI false x (if safe then 0 else z) := by cases safe <;> rfl
section
variable {ts : List ByteArray} {la gl : ByteArray} {code : List S47} (hw : WfC code)
include hw
theorem out_j1 (a : Nat) (h : a < code.length) (s : S8) : Ev (fun k => fresh_Out.j1 k (a : Int) (iv s) ts la gl code) (iv (outI false (rd_T47 code a) s)) := by
  obtain ⟨_, ⟨h1, _⟩, ⟨h2, _⟩, _⟩ := hw.rd a h
  have z0 : (0 : Int) ≤ (a : Int) := Int.natCast_nonneg a
  have z1 : (a : Int) < (code.length : Int) := by omega
  obtain ⟨x, hx⟩ : ∃ x, x = rd_T47 code a := ⟨_, rfl⟩
  rw [← hx] at h1 h2
  have J : ∀ q : Bool, (q = true ↔ x.f0 = 5 ∨ x.f0 = 6 ∨ (x.f0 = 7 ∧ s.getLsbD x.f2.toNat = true)) → Ev (fun k => fresh_Out.j2 k (iv s) (iv (own x.f1)) q x.f0 x.f1 x.f2 x.f3 x.f4) (iv (outI false x s)) := by
    intro q hq
    have e : outI false x s = if q = true then s ||| own x.f1 else if x.f0 = 7 ∨ x.f0 = 10 ∨ x.f0 = 12 then s &&& ~~~ own x.f1 else s := by
      unfold outI
      simp only [Bool.false_eq_true, if_false]
      by_cases h : q = true
      · rw [if_pos (hq.1 h), if_pos h]
      · rw [if_neg (fun e => h (hq.2 e)), if_neg h]
    rw [e]
    refine ev_step (fun k => fresh_Out.j2.eq_2 ..) ?_
    by_cases hq1 : q = true
    · refine Ev.congr (fun k => if_pos hq1) ?_
      rw [if_pos hq1, ← bits_or]
      exact ev_const
    · refine Ev.congr (fun k => if_neg hq1) ?_
      rw [if_neg hq1]
      by_cases h7 : x.f0 = 7
      · refine Ev.congr (fun k => if_pos h7) ?_
        rw [if_pos (.inl h7), ← bits_not]
        exact ev_const
      · refine Ev.congr (fun k => if_neg h7) ?_
        by_cases h10 : x.f0 = 10
        · refine Ev.congr (fun k => if_pos h10) ?_
          rw [if_pos (.inr (.inl h10)), ← bits_not]
          exact ev_const
        · refine Ev.congr (fun k => if_neg h10) ?_
          by_cases h12 : x.f0 = 12
          · refine Ev.congr (fun k => if_pos h12) ?_
            rw [if_pos (.inr (.inr h12)), ← bits_not]
            exact ev_const
          · refine Ev.congr (fun k => if_neg h12) ?_
            rw [if_neg (by rintro (h | h | h); exact h7 h; exact h10 h; exact h12 h)]
            exact ev_const
  refine ev_step (fun k => fresh_Out.j1.eq_2 ..) (Ev.congr (fun k => if_pos z0) (Ev.congr (fun k => if_pos z1) ?_))
  rw [← hx]
  rw [shl_own h1]
  refine Ev.congr (fun k => if_pos h1) ?_
  by_cases h5 : x.f0 = 5
  · exact Ev.congr (fun k => if_pos h5) (J true ⟨fun _ => .inl h5, fun _ => rfl⟩)
  · refine Ev.congr (fun k => if_neg h5) ?_
    by_cases h6 : x.f0 = 6
    · exact Ev.congr (fun k => if_pos h6) (J true ⟨fun _ => .inr (.inl h6), fun _ => rfl⟩)
    · refine Ev.congr (fun k => if_neg h6) ?_
      by_cases h7 : x.f0 = 7
      · refine Ev.congr (fun k => if_pos h7) (Ev.congr (fun k => if_pos h2) (J _ ?_))
        rw [shr_and s h2]
        exact ⟨fun e => .inr (.inr ⟨h7, e⟩), fun e => e.elim (fun e => absurd e h5) fun e => e.elim (fun e => absurd e h6) fun e => e.2⟩
      · exact Ev.congr (fun k => if_neg h7) (J false ⟨fun e => (by cases e), fun e => e.elim (fun e => absurd e h5) fun e => e.elim (fun e => absurd e h6) fun e => absurd e.1 h7⟩)
theorem out_ev (a : Int) (z : S8) : Ev (fun k => fresh_Out.f k ts la gl code a (iv z)) (iv (outB code a z)) := by
  by_cases h : 0 ≤ a ∧ a < code.length
  · obtain ⟨n, rfl⟩ := Int.eq_ofNat_of_zero_le h.1
    have e : outB code (n : Int) z = outI (sf code n) (rd_T47 code n) z := if_pos h
    rw [e, outI_safe]
    refine Ev.congr (fun k => if_neg (by omega)) (ev_step (fun k => fresh_Out.j0.eq_2 ..) (Ev.congr (fun k => if_neg (by rw [decide_eq_true_iff]; omega)) (ev_bind (safe_ev ts la gl code n) ?_)))
    cases hb : sf code (n : Int) with
    | true => exact Ev.congr (fun k => if_pos rfl) (out_j1 hw n (by omega) 0)
    | false => exact Ev.congr (fun k => if_neg (by decide)) (out_j1 hw n (by omega) z)
  · have e : outB code a z = z := if_neg h
    rw [e]
    by_cases h0 : a < 0
    · exact Ev.congr (fun k => if_pos h0) (ev_step (fun k => fresh_Out.j0.eq_2 ..) (Ev.congr (fun k => if_pos rfl) ev_const))
    · exact Ev.congr (fun k => if_neg h0) (ev_step (fun k => fresh_Out.j0.eq_2 ..) (Ev.congr (fun k => if_pos (by rw [decide_eq_true_iff]; omega)) ev_const))
end
abbrev FB (code : List S47) (k : Nat) (z : S8) : S8 := outB code k z
def frB (code : List S47) : List S8 := fr (nxt code) code.length (FB code)
def frI (code : List S47) : List Int := (frB code).map iv
end Go.Proofs.YtkplgfhkebkaaaaDoor.ZB

/-
  The law KindFields: the walk.
-/
import Derived.Test.YtjmhkimffocpeaaKc
import Derived.Test.YtjmhkimffocpeaaKletters
namespace Go.Proofs.Ytjmhkimffocpeaa.KC
open Go.RowKit Go.Proofs.YtjmhkimffocpeaaW.PrintWords Go.Proofs.YtjmhkimffocpeaaW.PrintLast Go.Proofs.YtjmhkimffocpeaaW.PrintMore Go.Proofs.Ytjmhkimffocpeaa.Scan Go.Proofs.Ytjmhkimffocpeaa.K Go.Proofs.Ytjmhkimffocpeaa.KP Go.Proofs.Ytjmhkimffocpeaa.KR Go.Proofs.Ytjmhkimffocpeaa.KF Go.Proofs.Ytjmhkimffocpeaa.KG Go.Proofs.Ytjmhkimffocpeaa.KA Go.Proofs.Ytjmhkimffocpeaa.KL

theorem bit_test : ∀ k : Nat, k < 8 → ∀ m : Nat, m < 64 → ((Int.tmod (shr .u8 (m : Int) (k : Int)) 2) == 1) = m.testBit k := by decide +kernel
theorem bit_is (ts : List ByteArray) (t : Int) (k : Nat) (hk : k < 8) : ((Int.tmod (shr .u8 (mask ts t) (k : Int)) 2) == 1) = decide (0 ≤ to_ ts t k) := by
  rw [mask, mkN_eq, bit_test k hk _ (mask_small ts t), mask_bit, tb]

section
variable (w : World) (A0 : Option Addr) (c0 : Nat) (ts : List ByteArray) (hr0 : Kd.C Kd.string w A0 ts.length ts) (hc0 : ts.length ≤ c0) (hs : ∀ s ∈ ts, (s.size : Int) ≤ 9223372036854775807) (t : Int)
include hr0 hc0 hs
omit hs in
set_option maxHeartbeats 1000000 in
set_option maxRecDepth 100000 in
theorem Fields_many (hf : ¬ Few ts) : Calls Try.prog 5 #[.slice A0 ts.length c0, .int .i64 t] w fun e w' => e = .returned (.bool true) ∧ Below w.heap.size w w' := by
  have HR := Aside0.mk hr0
  have HC := Aside0.mk hc0
  have HF := Aside0.mk hf
  clear hr0 hc0 hf
  go_enter Try.func5, Try.ntmps5
  go_wp2_with (first
    | (go_at_call 10; refine (alive_c _).mono ?_; rintro e wA ⟨rfl, hb⟩; have HA := Aside0.mk (Kd.C_below HR.out hb); have HB := Aside0.mk hb; clear hb)
    | (go_at_call 11; refine (few_c _ _ _ _ (by repeat (first | exact HA.out | refine Kd.C_drewN ?_ _)) HC.out false (by simpa using HF.out)).mono ?_; rintro e wB ⟨rfl, n, rfl⟩))
  go_ret
  exact ⟨rfl, by repeat (first | exact HB.out | refine pw_below_drewN ?_ _)⟩
set_option maxHeartbeats 1000000 in
set_option maxRecDepth 100000 in
theorem Fields_wrong (hf : Few ts) (hw : right ts = false) : Calls Try.prog 5 #[.slice A0 ts.length c0, .int .i64 t] w fun e w' => e = .returned (.bool true) ∧ Below w.heap.size w w' := by
  have hi : ¬ Is ts t := fun h => by have := (right_iff ts).2 h.1; rw [hw] at this; cases this
  have hm : mask ts t = 0 := by rw [mask, typ_not hi]; rfl
  have ht : to_ ts t 0 = -1 := by unfold to_ size; rw [typ_not hi]; exact if_neg (by decide)
  have hz : (typ ts t).size = 0 := by rw [typ_not hi]; rfl
  have HR := Aside0.mk hr0
  have HC := Aside0.mk hc0
  have HS := Aside0.mk hs
  have HF := Aside0.mk hf
  have HI := Aside0.mk hw
  clear hr0 hc0 hs hf hi hw
  go_enter Try.func5, Try.ntmps5
  go_wp2_with (first
    | (go_at_call 10; refine (alive_c _).mono ?_; rintro e wA ⟨rfl, hb⟩; have HA := Aside0.mk (Kd.C_below HR.out hb); have HB := Aside0.mk hb; clear hb)
    | (go_at_call 11; refine (few_c _ _ _ _ (by repeat (first | exact HA.out | refine Kd.C_drewN ?_ _)) HC.out true (by simpa using HF.out)).mono ?_; rintro e wB ⟨rfl, n, rfl⟩)
    | (go_at_call 13; refine (rRight_c _ _ _ _ (by repeat (first | exact HA.out | refine Kd.C_drewN ?_ _)) HC.out HS.out false HI.out).mono ?_; rintro e wB ⟨rfl, n, rfl⟩)
    | (go_at_call 16; refine (Size_c _ _ _ _ (by repeat (first | exact HA.out | refine Kd.C_drewN ?_ _)) HC.out HS.out t).mono ?_; rintro e wB ⟨rfl, n, rfl⟩)
    | (go_at_call 18; refine (Mask_c _ _ _ _ (by repeat (first | exact HA.out | refine Kd.C_drewN ?_ _)) HC.out HS.out t).mono ?_; rintro e wB ⟨rfl, n, rfl⟩)
    | (go_at_call 20; refine (To_c _ _ _ _ (by repeat (first | exact HA.out | refine Kd.C_drewN ?_ _)) HC.out HS.out t _).mono ?_; rintro e wB ⟨rfl, n, rfl⟩))
  go_ret
  exact ⟨rfl, by repeat (first | exact HB.out | refine pw_below_drewN ?_ _)⟩
set_option maxHeartbeats 1000000 in
set_option maxRecDepth 100000 in
theorem Fields_low (hf : Few ts) (hw : right ts = true) (h0 : t < 0) : Calls Try.prog 5 #[.slice A0 ts.length c0, .int .i64 t] w fun e w' => e = .returned (.bool true) ∧ Below w.heap.size w w' := by
  have hi : ¬ Is ts t := fun h => by have := h.2.1; omega
  have hm : mask ts t = 0 := by rw [mask, typ_not hi]; rfl
  have ht : to_ ts t 0 = -1 := by unfold to_ size; rw [typ_not hi]; exact if_neg (by decide)
  have hz : (typ ts t).size = 0 := by rw [typ_not hi]; rfl
  have HR := Aside0.mk hr0
  have HC := Aside0.mk hc0
  have HS := Aside0.mk hs
  have HF := Aside0.mk hf
  have HI := Aside0.mk hw
  clear hr0 hc0 hs hf hi hw
  go_enter Try.func5, Try.ntmps5
  go_wp2_with (first
    | (go_at_call 10; refine (alive_c _).mono ?_; rintro e wA ⟨rfl, hb⟩; have HA := Aside0.mk (Kd.C_below HR.out hb); have HB := Aside0.mk hb; clear hb)
    | (go_at_call 11; refine (few_c _ _ _ _ (by repeat (first | exact HA.out | refine Kd.C_drewN ?_ _)) HC.out true (by simpa using HF.out)).mono ?_; rintro e wB ⟨rfl, n, rfl⟩)
    | (go_at_call 13; refine (rRight_c _ _ _ _ (by repeat (first | exact HA.out | refine Kd.C_drewN ?_ _)) HC.out HS.out true HI.out).mono ?_; rintro e wB ⟨rfl, n, rfl⟩)
    | (go_at_call 16; refine (Size_c _ _ _ _ (by repeat (first | exact HA.out | refine Kd.C_drewN ?_ _)) HC.out HS.out t).mono ?_; rintro e wB ⟨rfl, n, rfl⟩)
    | (go_at_call 18; refine (Mask_c _ _ _ _ (by repeat (first | exact HA.out | refine Kd.C_drewN ?_ _)) HC.out HS.out t).mono ?_; rintro e wB ⟨rfl, n, rfl⟩)
    | (go_at_call 20; refine (To_c _ _ _ _ (by repeat (first | exact HA.out | refine Kd.C_drewN ?_ _)) HC.out HS.out t _).mono ?_; rintro e wB ⟨rfl, n, rfl⟩))
  go_ret
  exact ⟨rfl, by repeat (first | exact HB.out | refine pw_below_drewN ?_ _)⟩
set_option maxHeartbeats 1000000 in
set_option maxRecDepth 100000 in
theorem Fields_high (hf : Few ts) (hw : right ts = true) (h0 : ¬ t < 0) (h1 : t ≥ ts.length) : Calls Try.prog 5 #[.slice A0 ts.length c0, .int .i64 t] w fun e w' => e = .returned (.bool true) ∧ Below w.heap.size w w' := by
  have hi : ¬ Is ts t := fun h => by have := h.2.2; omega
  have hm : mask ts t = 0 := by rw [mask, typ_not hi]; rfl
  have ht : to_ ts t 0 = -1 := by unfold to_ size; rw [typ_not hi]; exact if_neg (by decide)
  have hz : (typ ts t).size = 0 := by rw [typ_not hi]; rfl
  have HR := Aside0.mk hr0
  have HC := Aside0.mk hc0
  have HS := Aside0.mk hs
  have HF := Aside0.mk hf
  have HI := Aside0.mk hw
  clear hr0 hc0 hs hf hi hw
  go_enter Try.func5, Try.ntmps5
  go_wp2_with (first
    | (go_at_call 10; refine (alive_c _).mono ?_; rintro e wA ⟨rfl, hb⟩; have HA := Aside0.mk (Kd.C_below HR.out hb); have HB := Aside0.mk hb; clear hb)
    | (go_at_call 11; refine (few_c _ _ _ _ (by repeat (first | exact HA.out | refine Kd.C_drewN ?_ _)) HC.out true (by simpa using HF.out)).mono ?_; rintro e wB ⟨rfl, n, rfl⟩)
    | (go_at_call 13; refine (rRight_c _ _ _ _ (by repeat (first | exact HA.out | refine Kd.C_drewN ?_ _)) HC.out HS.out true HI.out).mono ?_; rintro e wB ⟨rfl, n, rfl⟩)
    | (go_at_call 16; refine (Size_c _ _ _ _ (by repeat (first | exact HA.out | refine Kd.C_drewN ?_ _)) HC.out HS.out t).mono ?_; rintro e wB ⟨rfl, n, rfl⟩)
    | (go_at_call 18; refine (Mask_c _ _ _ _ (by repeat (first | exact HA.out | refine Kd.C_drewN ?_ _)) HC.out HS.out t).mono ?_; rintro e wB ⟨rfl, n, rfl⟩)
    | (go_at_call 20; refine (To_c _ _ _ _ (by repeat (first | exact HA.out | refine Kd.C_drewN ?_ _)) HC.out HS.out t _).mono ?_; rintro e wB ⟨rfl, n, rfl⟩))
  go_ret
  exact ⟨rfl, by repeat (first | exact HB.out | refine pw_below_drewN ?_ _)⟩
set_option maxHeartbeats 2000000 in
set_option maxRecDepth 100000 in
theorem Fields_is (hf : Few ts) (hi : Is ts t) : Calls Try.prog 5 #[.slice A0 ts.length c0, .int .i64 t] w fun e w' => e = .returned (.bool true) ∧ Below w.heap.size w w' := by
  have h0 := hi.2.1
  have h1 := hi.2.2
  have h8 := hi.1.2.2
  have h0' : ¬ t < 0 := by omega
  have h1' : ¬ t ≥ ts.length := by omega
  have hw := (right_iff ts).2 hi.1
  obtain ⟨tn, rfl⟩ : ∃ n : Nat, t = n := ⟨t.toNat, by omega⟩
  obtain ⟨ad, ea, _⟩ := Kd.at_string hr0 tn h0 h1
  subst ea
  have hneg : to_ ts tn (-1) = -1 := by unfold to_; exact if_neg (by omega)
  have HTY := Aside0.mk (typ_is hi)
  have HR := Aside0.mk hr0
  have HC := Aside0.mk hc0
  have HS := Aside0.mk hs
  have HF := Aside0.mk hf
  have HI := Aside0.mk hw
  clear hr0 hc0 hs hf hi hw
  go_enter Try.func5, Try.ntmps5
  go_wp2_with (first
    | (go_at_call 10; refine (alive_c _).mono ?_; rintro e wA ⟨rfl, hb⟩; have HA := Aside0.mk (Kd.C_below HR.out hb); have HB := Aside0.mk hb; clear hb)
    | (go_at_call 11; refine (few_c _ _ _ _ (by repeat (first | exact HA.out | refine Kd.C_drewN ?_ _)) HC.out true (by simpa using HF.out)).mono ?_; rintro e wB ⟨rfl, n, rfl⟩)
    | (go_at_call 13; refine (rRight_c _ _ _ _ (by repeat (first | exact HA.out | refine Kd.C_drewN ?_ _)) HC.out HS.out true HI.out).mono ?_; rintro e wB ⟨rfl, n, rfl⟩)
    | (go_at_call 18; refine (Mask_c _ _ _ _ (by repeat (first | exact HA.out | refine Kd.C_drewN ?_ _)) HC.out HS.out tn).mono ?_; rintro e wB ⟨rfl, n, rfl⟩))
  go_loopw [52] (fun v wr => ∃ k : Nat, v = .int .i64 k ∧ k ≤ 8 ∧ Below w.heap.size w wr) (fun v _ => 8 - (intOf v).toNat)
  case atStart => exact ⟨0, rfl, Nat.zero_le _, by repeat (first | exact HB.out | refine pw_below_drewN ?_ _)⟩
  case round =>
    obtain ⟨k, rfl, hk, HBr⟩ := hrel
    have HB2 := Aside0.mk HBr
    have HA2 := Aside0.mk (Kd.C_below HR.out HBr)
    clear HBr
    obtain ⟨ad', e', hx⟩ := Kd.at_string HA2.out tn h0 h1
    have e'' : ad' = ad := by injection e' with e'; exact e'.symm
    subst e''
    clear e'
    rw [Int.toNat_natCast] at hx
    obtain ⟨w1, hw1⟩ : ∃ w1 : World, w1 = wr := ⟨_, rfl⟩
    subst hw1
    by_cases hk8 : k < 8
    · have hb := bit_is ts tn k hk8
      by_cases hto : 0 ≤ to_ ts tn k
      · have hlt : to_ ts tn k < ts.length := to_lt ts tn k hto
        have hlt' : ¬ to_ ts tn k ≥ ts.length := by omega
        have hsz : k < (typ ts tn).size := tb_out (k := k) (decide_eq_true hto)
        rw [HTY.out] at hsz
        have hbt := bt_range (rdOf ByteArray.empty ts tn) k
        have hv : (bt (rdOf ByteArray.empty ts tn) k - 48) % 256 = to_ ts tn k := by
          unfold to_ size at hto ⊢
          rw [HTY.out, if_pos ⟨by omega, by omega⟩] at hto ⊢
          have := dg_lt _ _ hto
          omega
        have hv' : ((bt (rdOf ByteArray.empty ts tn) k - 48) % 256 != to_ ts tn k) = false := bne_eq_false_iff_eq.2 hv
        clear hv
        rw [← bt_at (rdOf ByteArray.empty ts tn) (k : Int) (by rw [Int.toNat_natCast]; exact hsz)] at hv'
        simp only [Int.toNat_natCast] at hv'
        rw [decide_eq_true hto] at hb
        have hb' : (mask ts tn / 2 ^ k).tmod 2 = 1 := by simpa [shr, show min k 8 = k by omega, IntKind.bits] using hb
        clear hb
        go_wp2_with (first
          | (go_at_call 20; refine (To_c _ _ _ _ (by repeat (first | exact HA2.out | refine Kd.C_drewN ?_ _)) HC.out HS.out tn k).mono ?_; rintro e wB ⟨rfl, n, rfl⟩))
        go_roundw
        case rel => exact ⟨k + 1, by go_num, by omega, by repeat (first | exact HB2.out | refine pw_below_drewN ?_ _)⟩
        case measure => simp [intOf]; omega
      · rw [decide_eq_false hto] at hb
        have hb' : decide (0 ≤ to_ ts tn k) = ((mask ts tn / 2 ^ k).tmod 2 == 1) := by rw [decide_eq_false hto, ← hb]; simp [shr, show min k 8 = k by omega, IntKind.bits]
        have hn : ¬ (mask ts tn / 2 ^ k).tmod 2 = 1 := by simpa [shr, show min k 8 = k by omega, IntKind.bits] using hb
        clear hb
        have hlt' : ¬ to_ ts tn k ≥ ts.length := by omega
        go_wp2_with (first
          | (go_at_call 20; refine (To_c _ _ _ _ (by repeat (first | exact HA2.out | refine Kd.C_drewN ?_ _)) HC.out HS.out tn k).mono ?_; rintro e wB ⟨rfl, n, rfl⟩))
        go_roundw
        case rel => exact ⟨k + 1, by go_num, by omega, by repeat (first | exact HB2.out | refine pw_below_drewN ?_ _)⟩
        case measure => simp [intOf]; omega
    · have hty := HTY.out
      go_wp2
      go_quiet (first
          | (go_at_call 16; refine Calls.quiet_of ((Size_c _ _ _ _ (by repeat (first | exact HA2.out | refine Kd.C_drewN ?_ _)) HC.out HS.out tn)))
          | (go_at_call 20; refine Calls.quiet_of ((To_c _ _ _ _ (by repeat (first | exact HA2.out | refine Kd.C_drewN ?_ _)) HC.out HS.out tn (-1)))))
      go_wp2
      go_ret
      exact ⟨by simp, by repeat (first | exact HB2.out | refine pw_below_drewN ?_ _)⟩
theorem Fields_c : Calls Try.prog 5 #[.slice A0 ts.length c0, .int .i64 t] w fun e w' => e = .returned (.bool true) ∧ Below w.heap.size w w' := by
  by_cases hf : Few ts
  · rcases right_cases ts with ⟨hw, hr⟩ | ⟨hw, _⟩
    · by_cases h0 : t < 0
      · exact Fields_low w A0 c0 ts hr0 hc0 hs t hf hw h0
      · by_cases h1 : t ≥ ts.length
        · exact Fields_high w A0 c0 ts hr0 hc0 hs t hf hw h0 h1
        · exact Fields_is w A0 c0 ts hr0 hc0 hs t hf ⟨hr, by omega, by omega⟩
    · exact Fields_wrong w A0 c0 ts hr0 hc0 hs t hf hw
  · exact Fields_many w A0 c0 ts hr0 hc0 t hf
end
end Go.Proofs.Ytjmhkimffocpeaa.KC

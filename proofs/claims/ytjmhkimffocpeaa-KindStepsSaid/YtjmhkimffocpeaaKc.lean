/-
  The functions of kind and lockstitchref03 as calls in plain words; in any world in which the types lie.
-/
import Derived.Test.YtjmhkimffocpeaaKalive
namespace Go.Proofs.Ytjmhkimffocpeaa.KC
open Go.RowKit Go.Proofs.YtjmhkimffocpeaaW.PrintWords Go.Proofs.YtjmhkimffocpeaaW.PrintLast Go.Proofs.YtjmhkimffocpeaaW.PrintMore Go.Proofs.Ytjmhkimffocpeaa.Scan Go.Proofs.Ytjmhkimffocpeaa.K Go.Proofs.Ytjmhkimffocpeaa.KP Go.Proofs.Ytjmhkimffocpeaa.KR Go.Proofs.Ytjmhkimffocpeaa.KF Go.Proofs.Ytjmhkimffocpeaa.KG Go.Proofs.Ytjmhkimffocpeaa.KA Go.Proofs.Ytjmhkimffocpeaa.KL

theorem alive_c (w : World) : Calls Try.prog 10 #[] w fun e w' => e = .returned (.bool true) ∧ Below w.heap.size w w' := by
  obtain ⟨k, hk⟩ := ev_at alive_ev
  exact lockstitchlaw03_alive.calls k _ w hk
section
variable (w : World) (A0 : Option Addr) (c0 : Nat) (ts : List ByteArray) (hr0 : Kd.C Kd.string w A0 ts.length ts) (hc0 : ts.length ≤ c0)
include hr0 hc0
theorem few_c (b : Bool) (hb : b = true ↔ Few ts) : Calls Try.prog 11 #[.slice A0 ts.length c0] w fun e w' => e = .returned (.bool b) ∧ ∃ n, w' = w.drewN n := by
  classical
  obtain ⟨k, hk⟩ := ev_at (few_ev ts (by have := Kd.C_max hr0; omega))
  have e : decide (Few ts) = b := by rw [Bool.eq_iff_iff, decide_eq_true_iff, hb]
  rw [e] at hk
  exact (lockstitchlaw03_few.calls k A0 c0 ts _ w hr0 hc0 hk).mono fun e w' ⟨h1, h2⟩ => ⟨h1, h2.out⟩
variable (hs : ∀ s ∈ ts, (s.size : Int) ≤ 9223372036854775807)
include hs
theorem Right_c (b : Bool) (hb : right ts = b) : Calls Try.prog 12 #[.slice A0 ts.length c0] w fun e w' => e = .returned (.bool b) ∧ ∃ n, w' = w.drewN n := by
  obtain ⟨k, hk⟩ := ev_at (kind_Right_ev ts (by have := Kd.C_max hr0; omega) hs)
  rw [hb] at hk
  exact (kind_Right.calls k A0 c0 ts _ w hr0 hc0 hk).mono fun e w' ⟨h1, h2⟩ => ⟨h1, h2.out⟩
theorem rRight_c (b : Bool) (hb : right ts = b) : Calls Try.prog 13 #[.slice A0 ts.length c0] w fun e w' => e = .returned (.bool b) ∧ ∃ n, w' = w.drewN n := by
  obtain ⟨k, hk⟩ := ev_at (ref_Right_ev ts (by have := Kd.C_max hr0; omega) hs)
  rw [hb] at hk
  exact (lockstitchref03_Right.calls k A0 c0 ts _ w hr0 hc0 hk).mono fun e w' ⟨h1, h2⟩ => ⟨h1, h2.out⟩
theorem Refs_c (s : ByteArray) (hz : (s.size : Int) ≤ 9223372036854775807) : Calls Try.prog 14 #[.slice A0 ts.length c0, .string s] w fun e w' => e = .returned (.bool (refs ts s)) ∧ ∃ n, w' = w.drewN n := by
  obtain ⟨k, hk⟩ := ev_at (kind_Refs_ev ts s (by have := Kd.C_max hr0; omega) hs hz)
  exact (kind_Refs.calls k A0 c0 ts s _ w hr0 hc0 hk).mono fun e w' ⟨h1, h2⟩ => ⟨h1, h2.out⟩
theorem rRefs_c (s : ByteArray) (hz : (s.size : Int) ≤ 9223372036854775807) : Calls Try.prog 15 #[.slice A0 ts.length c0, .string s] w fun e w' => e = .returned (.bool (refs ts s)) ∧ ∃ n, w' = w.drewN n := by
  obtain ⟨k, hk⟩ := ev_at (ref_Refs_ev ts s (by have := Kd.C_max hr0; omega) hs hz)
  exact (lockstitchref03_Refs.calls k A0 c0 ts s _ w hr0 hc0 hk).mono fun e w' ⟨h1, h2⟩ => ⟨h1, h2.out⟩
theorem rSize_c (t : Int) : Calls Try.prog 17 #[.slice A0 ts.length c0, .int .i64 t] w fun e w' => e = .returned (.int .i64 ((typ ts t).size : Int)) ∧ ∃ n, w' = w.drewN n := by
  obtain ⟨k, hk⟩ := ev_at (ref_Size_ev ts (by have := Kd.C_max hr0; omega) hs t)
  exact (lockstitchref03_Size.calls k A0 c0 ts t _ w hr0 hc0 hk).mono fun e w' ⟨h1, h2⟩ => ⟨h1, h2.out⟩
theorem Mask_c (t : Int) : Calls Try.prog 18 #[.slice A0 ts.length c0, .int .i64 t] w fun e w' => e = .returned (.int .u8 (mask ts t)) ∧ ∃ n, w' = w.drewN n := by
  obtain ⟨k, hk⟩ := ev_at (kind_Mask_ev ts (by have := Kd.C_max hr0; omega) hs t)
  exact (kind_Mask.calls k A0 c0 ts t _ w hr0 hc0 hk).mono fun e w' ⟨h1, h2⟩ => ⟨h1, h2.out⟩
theorem rMask_c (t : Int) : Calls Try.prog 19 #[.slice A0 ts.length c0, .int .i64 t] w fun e w' => e = .returned (.int .u8 (mask ts t)) ∧ ∃ n, w' = w.drewN n := by
  obtain ⟨k, hk⟩ := ev_at (ref_Mask_ev ts (by have := Kd.C_max hr0; omega) hs t)
  exact (lockstitchref03_Mask.calls k A0 c0 ts t _ w hr0 hc0 hk).mono fun e w' ⟨h1, h2⟩ => ⟨h1, h2.out⟩
end
end Go.Proofs.Ytjmhkimffocpeaa.KC

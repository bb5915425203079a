/-
  The law KindSteps: the plain part, and the closure.
-/
import Derived.Test.YtjmhkimffocpeaaKmorew
import Derived.OneCell
namespace Go.Proofs.Ytjmhkimffocpeaa.KC
open Go.RowKit Go.Proofs.YtjmhkimffocpeaaW.PrintWords Go.Proofs.YtjmhkimffocpeaaW.PrintLast Go.Proofs.YtjmhkimffocpeaaW.PrintMore Go.Proofs.Ytjmhkimffocpeaa.Scan Go.Proofs.Ytjmhkimffocpeaa.K Go.Proofs.Ytjmhkimffocpeaa.KP Go.Proofs.Ytjmhkimffocpeaa.KR Go.Proofs.Ytjmhkimffocpeaa.KF Go.Proofs.Ytjmhkimffocpeaa.KG Go.Proofs.Ytjmhkimffocpeaa.KA Go.Proofs.Ytjmhkimffocpeaa.KL

section
variable {ts : List ByteArray} {t : Int} (hi : Is ts t)
include hi
theorem reach_is : reach ts t = t :: rest t (rnd ts (KF.start t) ts.length) ts.length := by
  rw [reach_same]
  unfold reach'
  rw [if_pos hi, outs_rest]
theorem reach_mem (x : Int) : x ∈ reach ts t ↔ RR ts t x := by
  rw [reach_is hi, List.mem_cons, rest_mem]
  constructor
  · rintro (rfl | ⟨_, j, _, rfl, h⟩)
    · exact .base
    · exact (rnd_all hi j).1 h
  · intro h
    by_cases e : x = t
    · exact .inl e
    · have hx := RR_lt hi x h
      obtain ⟨j, rfl⟩ := Int.eq_ofNat_of_zero_le hx.1
      exact .inr ⟨e, j, by omega, rfl, (rnd_all hi j).2 h⟩
theorem reach_rise (i : Nat) (h1 : 1 < i) (h2 : i < (reach ts t).length) : rdOf 0 (reach ts t) ((i : Int) - 1) < rdOf 0 (reach ts t) i := by
  have hr := rest_rises t (rnd ts (KF.start t) ts.length) ts.length
  rw [reach_is hi] at h2 ⊢
  obtain ⟨j, rfl⟩ : ∃ j, i = j + 2 := ⟨i - 2, by omega⟩
  rw [List.length_cons] at h2
  unfold rdOf
  rw [show (((j + 2 : Nat) : Int) - 1).toNat = j + 1 by omega, Int.toNat_natCast, List.getD_cons_succ, show j + 2 = (j + 1) + 1 from rfl, List.getD_cons_succ,
    List.getD_eq_getElem?_getD, List.getD_eq_getElem?_getD, List.getElem?_eq_getElem (by omega), List.getElem?_eq_getElem (by omega)]
  exact List.pairwise_iff_getElem.1 hr j (j + 1) (by omega) (by omega) (by omega)
end
theorem RR_trans {ts : List ByteArray} {a b c : Int} (h : RR ts a b) (k : RR ts b c) : RR ts a c := RR.least (fun x => RR ts a x) h (fun _ f hx hf => .step f hx hf) c k

theorem Has_c (w : World) (b : Nat) (A : Option Addr) (c : Nat) (xs : List Int) (hb : w.heap[b]? = some (.cells #[.slice A xs.length c] 32 (0, 0))) (hC : Kd.C (Kd.int .i64) w A xs.length xs) (n : Int) (hm : n ∈ xs) :
    Calls Try.prog 25 #[.int .i64 n, .pointer (some ⟨b, 0, none⟩)] w fun e w' => e = .returned (.bool true) ∧ ∃ m, w' = w.drewN m := by
  have hmax := Kd.C_max hC
  have HC := Aside0.mk hC
  have hcell := cell_of_one hb
  have HM := Aside0.mk hm
  clear hm hC hb
  go_enter Try.func25, Try.ntmps25
  go_wp2
  go_loopw [8] (fun v wr => ∃ i : Nat, v = .int .i64 i ∧ i ≤ xs.length ∧ wr = w ∧ ∀ j : Nat, j < i → rdOf 0 xs j ≠ n) (fun v _ => xs.length - (intOf v).toNat)
  case atStart => exact ⟨0, rfl, Nat.zero_le _, rfl, fun j hj => absurd hj (by omega)⟩
  case round =>
    obtain ⟨i, rfl, hi, rfl, hno⟩ := hrel
    have HNO := Aside0.mk hno
    clear hno
    by_cases hlt : i < xs.length
    · obtain ⟨ad, ea, hx⟩ := ReadsOf.at_ (Kd.reads_of_C (d := (0 : Int)) HC.out) i (by omega) (by omega)
      subst ea
      rw [Int.toNat_natCast] at hx
      by_cases he : rdOf 0 xs i = n
      · go_wp2
        go_ret
        exact ⟨by simp, 0, rfl⟩
      · go_wp2
        go_roundw
        case rel => exact ⟨i + 1, by go_num, by omega, by trivial, fun j hj => by
          rcases Nat.lt_succ_iff_lt_or_eq.1 hj with h | rfl
          · exact HNO.out j h
          · exact he⟩
        case measure => simp [intOf]; omega
    · exfalso
      obtain ⟨j, hj, e⟩ := List.getElem_of_mem HM.out
      refine HNO.out j (by omega) ?_
      unfold rdOf
      rw [Int.toNat_natCast, List.getD_eq_getElem?_getD, List.getElem?_eq_getElem hj]
      exact e
end Go.Proofs.Ytjmhkimffocpeaa.KC

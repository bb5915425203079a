/-
  kind.Reach and lockstitchref03.Reach in the print's form.
-/
import Derived.Test.YtjmhkimffocpeaaKref
namespace Go.Proofs.Ytjmhkimffocpeaa.KG
open Go.RowKit Go.Proofs.YtjmhkimffocpeaaW.PrintWords Go.Proofs.Ytjmhkimffocpeaa.Scan Go.Proofs.Ytjmhkimffocpeaa.KP Go.Proofs.Ytjmhkimffocpeaa.KR Go.Proofs.Ytjmhkimffocpeaa.KF

-- what kind.Reach answers: the last of st
open Classical in
noncomputable def reach (ts : List ByteArray) (t : Int) : List Int := if h : Is ts t ∧ ∃ k, k = (st ts t k).length then fin (st ts t h.2.choose) else []
open Classical in
noncomputable def reach' (ts : List ByteArray) (t : Int) : List Int := if Is ts t then outs t (rnd ts (KF.start t) ts.length) ts.length else []
def Short (ts : List ByteArray) : Prop := ∀ s ∈ ts, (s.size : Int) ≤ 9223372036854775807
open Classical in
noncomputable def kind_Reach.f (l0 : List ByteArray) (a1 : Int) : Option (List Int) := if Short l0 then some (reach l0 a1) else none
open Classical in
noncomputable def lockstitchref03_Reach.f (l0 : List ByteArray) (a1 : Int) : Option (List Int) := if Short l0 then some (reach' l0 a1) else none

/-- once still, st stays -/
theorem st_stay {ts : List ByteArray} {t : Int} {k : Nat} (h : k = (st ts t k).length) : ∀ j, st ts t (k + j) = st ts t k := by
  intro j
  induction j with
  | zero => rfl
  | succ j ih =>
    rw [show k + (j + 1) = (k + j) + 1 from rfl, st, if_neg, ih]
    rw [ih]
    omega
theorem st_still {ts : List ByteArray} {t : Int} {k k' : Nat} (h : k = (st ts t k).length) (h' : k' = (st ts t k').length) : k = k' := by
  have key : ∀ a b, a = (st ts t a).length → b = (st ts t b).length → a ≤ b → a = b := by
    intro a b ha hb hab
    obtain ⟨j, rfl⟩ := Nat.le.dest hab
    rw [st_stay ha j] at hb
    omega
  rcases Nat.le_total k k' with hle | hle
  · exact key k k' h h' hle
  · exact (key k' k h' h hle).symm

theorem kind_Reach.calls (A0 : Option Addr) (c0 : Nat) (l0 : List ByteArray) (a1 : Int) (r : List Int) (w : World) (hr0 : Kd.C Kd.string w A0 l0.length l0) (hc0 : l0.length ≤ c0) (h : kind_Reach.f l0 a1 = some r) :
    Calls Try.prog 23 #[.slice A0 l0.length c0, .int .i64 a1] w fun e w' => ∃ v0_ : Value, e = .returned (v0_) ∧ Kd.R (Kd.int .i64) 3 w' w.heap.size (fun _ => True) v0_ r ∧ Below w.heap.size w w' := by
  classical
  unfold kind_Reach.f at h
  split at h
  · rename_i hs
    obtain rfl := Option.some.inj h
    by_cases hi : Is l0 a1
    · refine (Reach_yes w A0 c0 l0 hr0 hc0 hs a1 hi).mono ?_
      rintro e w' ⟨v, he, ⟨k, hk, ho⟩, hb⟩
      refine ⟨v, he, ?_, hb⟩
      have hex : Is l0 a1 ∧ ∃ k, k = (st l0 a1 k).length := ⟨hi, k, hk⟩
      have e2 : reach l0 a1 = fin (st l0 a1 k) := by
        unfold reach
        rw [dif_pos hex, st_still hex.2.choose_spec hk]
      rw [e2]
      exact Kd.R_of_own ho fun _ _ => trivial
    · refine (Reach_no w A0 c0 l0 hr0 hc0 hs a1 hi).mono ?_
      rintro e w' ⟨he, n, rfl⟩
      refine ⟨_, he, ?_, pw_below_drewN (Below.refl _ _) n⟩
      have e2 : reach l0 a1 = [] := by
        unfold reach
        rw [dif_neg fun h => hi h.1]
      rw [e2]
      exact Kd.R_nil ..
  · cases h
theorem lockstitchref03_Reach.calls (A0 : Option Addr) (c0 : Nat) (l0 : List ByteArray) (a1 : Int) (r : List Int) (w : World) (hr0 : Kd.C Kd.string w A0 l0.length l0) (hc0 : l0.length ≤ c0) (h : lockstitchref03_Reach.f l0 a1 = some r) :
    Calls Try.prog 24 #[.slice A0 l0.length c0, .int .i64 a1] w fun e w' => ∃ v0_ : Value, e = .returned (v0_) ∧ Kd.R (Kd.int .i64) 3 w' w.heap.size (fun _ => True) v0_ r ∧ Below w.heap.size w w' := by
  classical
  unfold lockstitchref03_Reach.f at h
  split at h
  · rename_i hs
    obtain rfl := Option.some.inj h
    by_cases hi : Is l0 a1
    · refine (rReach_yes w A0 c0 l0 hr0 hc0 hs a1 hi).mono ?_
      rintro e w' ⟨v, he, ho, hb⟩
      refine ⟨v, he, ?_, hb⟩
      unfold reach'
      rw [if_pos hi]
      exact Kd.R_of_own ho fun _ _ => trivial
    · refine (rReach_no w A0 c0 l0 hr0 hc0 hs a1 hi).mono ?_
      rintro e w' ⟨he, n, rfl⟩
      refine ⟨_, he, ?_, pw_below_drewN (Below.refl _ _) n⟩
      unfold reach'
      rw [if_neg hi]
      exact Kd.R_nil ..
  · cases h
end Go.Proofs.Ytjmhkimffocpeaa.KG

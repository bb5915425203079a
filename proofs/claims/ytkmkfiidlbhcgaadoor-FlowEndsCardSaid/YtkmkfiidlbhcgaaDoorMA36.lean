/- Texts of this claim, pruned to what it needs and laid together by prune.py. -/
import Derived.Test.YtkmkfiidlbhcgaaDoorMA35
namespace Go.Proofs.YtkmkfiidlbhcgaaDoor.FG
open Go.RowKit Go.Proofs.YtkmkfiidlbhcgaaDoorW.PrintWords Go.Proofs.YtkmkfiidlbhcgaaDoorW.PrintLast Go.Proofs.YtkmkfiidlbhcgaaDoorW.PrintMore Go.Proofs.YtkmkfiidlbhcgaaDoor.F Go.Proofs.YtkmkfiidlbhcgaaDoor.Srt Go.Proofs.YtkmkfiidlbhcgaaDoor.NX Go.Proofs.YtkmkfiidlbhcgaaDoor.FP
set_option linter.unusedVariables false
noncomputable def reachV (code : List S36) (a : Int) : List Bool := if 0 ≤ a ∧ a ≤ code.length then rch (nxt code) (code.length + 1) a else []
open Classical in
noncomputable def flow_Reach.f (l0_0 : List ByteArray) (a0_1 : ByteArray) (a0_2 : ByteArray) (l0_3 : List S36) (a1 : Int) : Option (List Bool) := if InR (nxt l0_3) (l0_3.length + 1) ∧ l0_3.length ≤ 1000000 then some (reachV l0_3 a1) else none
theorem flow_Reach.calls (A0_0 : Option Addr) (c0_0 : Nat) (l0_0 : List ByteArray) (a0_1 : ByteArray) (a0_2 : ByteArray) (A0_3 : Option Addr) (c0_3 : Nat) (l0_3 : List (S36)) (a1 : Int) (r : List Bool) (w : World) (_hr0_0 : Kd.C Kd.string w A0_0 l0_0.length l0_0) (_hc0_0 : l0_0.length ≤ c0_0) (hr0_3 : Kd.C k36 w A0_3 l0_3.length l0_3) (_hc0_3 : l0_3.length ≤ c0_3) (h : flow_Reach.f l0_0 a0_1 a0_2 l0_3 a1 = some r) :
    Calls Tryd.prog 20 #[.agg #[.slice A0_0 l0_0.length c0_0, .string a0_1, .string a0_2, .slice A0_3 l0_3.length c0_3], .int .i64 a1] w fun e w' => ∃ v0_ : Value, e = .returned (v0_) ∧ Kd.R Kd.bool 4 w' w.heap.size (fun _ => True) v0_ r ∧ Below w.heap.size w w' := by
  unfold flow_Reach.f at h
  split at h
  · rename_i hh
    obtain rfl := Option.some.inj h
    unfold reachV
    by_cases ha : 0 ≤ a1 ∧ a1 ≤ l0_3.length
    · rw [if_pos ha]
      refine (Reach_in w A0_0 c0_0 l0_0 a0_1 a0_2 A0_3 c0_3 l0_3 hr0_3 a1 ha.1 ha.2 hh.1 hh.2).mono ?_
      rintro e w' ⟨v, he, ho, hb⟩
      exact ⟨v, he, Kd.R_of_own ho fun _ _ => trivial, hb⟩
    · rw [if_neg ha]
      refine (Reach_out w A0_0 c0_0 l0_0 a0_1 a0_2 A0_3 c0_3 l0_3 a1 ha).mono ?_
      rintro e w' ⟨he, hb⟩
      exact ⟨_, he, Kd.R_nil .., hb⟩
  · cases h
end Go.Proofs.YtkmkfiidlbhcgaaDoor.FG

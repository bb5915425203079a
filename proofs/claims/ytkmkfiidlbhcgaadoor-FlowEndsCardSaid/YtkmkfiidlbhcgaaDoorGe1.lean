/-
  What flow.Reach answers, place by place.
-/
import Derived.Test.YtkmkfiidlbhcgaaDoorMA3
import Derived.Test.YtkmkfiidlbhcgaaDoorMA40
import Derived.Test.YtkmkfiidlbhcgaaDoorMA42
namespace Go.Proofs.YtkmkfiidlbhcgaaDoor.FP
theorem RN.head {nx : Int → List Int} {a c : Int} (h : RN nx a c) : ∃ b, b ∈ nx a ∧ (c = b ∨ RN nx b c) := by
  induction h with
  | base h1 => exact ⟨_, h1, .inl rfl⟩
  | step _ h1 ih =>
    obtain ⟨b, hb, h2⟩ := ih
    refine ⟨b, hb, .inr ?_⟩
    rcases h2 with rfl | h2
    · exact .base h1
    · exact .step h2 h1
end Go.Proofs.YtkmkfiidlbhcgaaDoor.FP
namespace Go.Proofs.YtkmkfiidlbhcgaaDoor.FL
open Go.RowKit Go.Proofs.YtkmkfiidlbhcgaaDoorW.PrintWords Go.Proofs.YtkmkfiidlbhcgaaDoor.Scan Go.Proofs.YtkmkfiidlbhcgaaDoor.F Go.Proofs.YtkmkfiidlbhcgaaDoor.FM Go.Proofs.YtkmkfiidlbhcgaaDoor.H Go.Proofs.YtkmkfiidlbhcgaaDoor.TT Go.Proofs.YtkmkfiidlbhcgaaDoor.NX Go.Proofs.YtkmkfiidlbhcgaaDoor.FP Go.Proofs.YtkmkfiidlbhcgaaDoor.FG Go.Proofs.YtkmkfiidlbhcgaaDoor.G

theorem reach_ev {ts : List ByteArray} {la gl : ByteArray} {code : List S36} (h : SP ts la gl code) (a : Int) : Ev (fun _ => flow_Reach.f ts la gl code a) (reachV code a) :=
  ev_all fun _ => if_pos ⟨SP.inR h, by have := h.small; omega⟩
theorem reachV_in {code : List S36} {a : Int} (h0 : 0 ≤ a) (h1 : a ≤ code.length) : reachV code a = rch (nxt code) (code.length + 1) a := by
  unfold reachV
  rw [if_pos ⟨h0, h1⟩]
section
variable {ts : List ByteArray} {la gl : ByteArray} {code : List S36} (h : SP ts la gl code)
include h
theorem reachV_get {a : Int} (h0 : 0 ≤ a) (h1 : a ≤ code.length) (m : Int) (hm : 0 ≤ m) : rdOf false (reachV code a) m = true ↔ RN (nxt code) a m := by
  rw [reachV_in h0 h1]
  have e : ((m.toNat : Nat) : Int) = m := by omega
  have := rch_getD (a := a) (SP.inR h) m.toNat
  rw [e] at this
  exact this
end
end Go.Proofs.YtkmkfiidlbhcgaaDoor.FL

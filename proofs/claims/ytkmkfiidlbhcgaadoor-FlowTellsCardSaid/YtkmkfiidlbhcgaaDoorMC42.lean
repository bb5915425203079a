/- Texts of this claim, pruned to what it needs and laid together by prune.py. -/
import Derived.Test.YtkmkfiidlbhcgaaDoorMC31
import Derived.Test.YtkmkfiidlbhcgaaDoorMC41
namespace Go.Proofs.YtkmkfiidlbhcgaaDoor.FL
open Go.RowKit Go.Proofs.YtkmkfiidlbhcgaaDoorW.PrintWords Go.Proofs.YtkmkfiidlbhcgaaDoor.Scan Go.Proofs.YtkmkfiidlbhcgaaDoor.F Go.Proofs.YtkmkfiidlbhcgaaDoor.FM Go.Proofs.YtkmkfiidlbhcgaaDoor.H Go.Proofs.YtkmkfiidlbhcgaaDoor.TT Go.Proofs.YtkmkfiidlbhcgaaDoor.NX Go.Proofs.YtkmkfiidlbhcgaaDoor.FP Go.Proofs.YtkmkfiidlbhcgaaDoor.FG Go.Proofs.YtkmkfiidlbhcgaaDoor.G
set_option linter.unusedVariables false
def c0 : List S36 := [⟨1, 0, 0, 0, 0⟩, ⟨4, 0, 0, 0, 0⟩, ⟨14, 0, 0, 0, 0⟩]
theorem c0_inR : InR (nxt c0) (c0.length + 1) := by
  intro k m hm
  by_cases h : 0 ≤ k ∧ k < c0.length
  · have hl : c0.length = 3 := rfl
    rw [hl] at h ⊢
    obtain rfl | rfl | rfl : k = 0 ∨ k = 1 ∨ k = 2 := by omega
    · have e : nxt c0 0 = [1] := by decide
      rw [e, List.mem_singleton] at hm
      omega
    · have e : nxt c0 1 = [0, 2] := by decide
      rw [e] at hm
      simp only [List.mem_cons, List.not_mem_nil, or_false] at hm
      omega
    · have e : nxt c0 2 = [3] := by decide
      rw [e, List.mem_singleton] at hm
      omega
  · have e : nxt c0 k = [] := by unfold nxt; rw [if_neg h]
    rw [e] at hm
    cases hm
theorem c0_reach (ts : List ByteArray) (la gl : ByteArray) (a : Int) (h0 : 0 ≤ a) (h1 : a < 4) : flow_Reach.f ts la gl c0 a = some (rr (nxt c0) 4 a 4) := by
  unfold flow_Reach.f reachV
  rw [if_pos ⟨c0_inR, by decide⟩, if_pos ⟨h0, by show a ≤ ((3 : Nat) : Int); omega⟩]
  exact congrArg some (rr_rch (M := 4) c0_inR h0 h1).symm
theorem alive_ev : Ev (fun k => lockstitchlaw07_alive.f k) true := by
  have n1 : nxt c0 1 = [0, 2] := by decide
  have r0 : rr (nxt c0) 4 0 4 = [true, true, true, true] := by decide
  have r2 : rr (nxt c0) 4 2 4 = [false, false, false, true] := by decide
  have s1 : sf c0 1 = true := by decide
  have s0 : sf c0 0 = false := by decide
  have l0 : ∀ ts la gl, flow_Loops.f ts la gl c0 0 = some true := fun ts la gl => by
    unfold flow_Loops.f
    rw [c0_reach ts la gl 0 (by decide) (by decide), r0]
    rfl
  have l2 : ∀ ts la gl, flow_Loops.f ts la gl c0 2 = some false := fun ts la gl => by
    unfold flow_Loops.f
    rw [c0_reach ts la gl 2 (by decide) (by decide), r2]
    rfl
  have h1 := fun ts la gl => safe_ev ts la gl c0 1
  have h0 := fun ts la gl => safe_ev ts la gl c0 0
  rw [s1] at h1
  rw [s0] at h0
  unfold lockstitchlaw07_alive.f
  refine ev_bind ev_const (ev_bind ev_const (ev_bind (a := [0, 2]) (ev_all fun k => congrArg some n1) ?_))
  refine Ev.congr (fun k => if_pos rfl) (Ev.congr (fun k => if_pos (by decide)) (Ev.congr (fun k => if_pos rfl) (Ev.congr (fun k => if_pos (by decide)) (Ev.congr (fun k => if_pos rfl) ?_))))
  refine ev_bind (h1 _ _ _) (Ev.congr (fun k => if_pos rfl) (ev_bind (h0 _ _ _) (Ev.congr (fun k => if_neg (by decide)) ?_)))
  refine ev_bind (ev_all fun k => l0 _ _ _) (Ev.congr (fun k => if_pos rfl) (ev_bind (ev_all fun k => l2 _ _ _) (Ev.congr (fun k => if_neg (by decide)) ?_)))
  refine ev_bind (ev_all fun k => c0_reach _ _ _ 0 (by decide) (by decide)) ?_
  rw [r0]
  exact ev_const
end Go.Proofs.YtkmkfiidlbhcgaaDoor.FL

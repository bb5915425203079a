/- Texts of this claim, pruned to what it needs and laid together by prune.py. -/
import Derived.Test.YtkmkfiidlbhcgaaDoorMA31
import Derived.Test.YtkmkfiidlbhcgaaDoorMA37
namespace Go.Proofs.YtkmkfiidlbhcgaaDoor.FL
open Go.RowKit Go.Proofs.YtkmkfiidlbhcgaaDoorW.PrintWords Go.Proofs.YtkmkfiidlbhcgaaDoor.Scan Go.Proofs.YtkmkfiidlbhcgaaDoor.F Go.Proofs.YtkmkfiidlbhcgaaDoor.FM Go.Proofs.YtkmkfiidlbhcgaaDoor.H Go.Proofs.YtkmkfiidlbhcgaaDoor.TT Go.Proofs.YtkmkfiidlbhcgaaDoor.NX Go.Proofs.YtkmkfiidlbhcgaaDoor.FP Go.Proofs.YtkmkfiidlbhcgaaDoor.FG Go.Proofs.YtkmkfiidlbhcgaaDoor.G
set_option linter.unusedVariables false
theorem SP.inR {ts : List ByteArray} {la gl : ByteArray} {code : List S36} (h : SP ts la gl code) : InR (nxt code) (code.length + 1) := by
  intro k m hm
  unfold nxt at hm
  split at hm
  · rename_i hk
    obtain ⟨kn, rfl⟩ := Int.eq_ofNat_of_zero_le hk.1
    have hp := (h.all kn (by omega)).jump
    split at hm
    · rename_i h3
      have := hp (.inl h3)
      rw [List.mem_singleton] at hm
      subst hm
      omega
    · split at hm
      · rename_i h4
        have := hp (.inr h4)
        split at hm
        · simp only [List.mem_cons, List.not_mem_nil, or_false] at hm
          omega
        · split at hm
          · simp only [List.mem_cons, List.not_mem_nil, or_false] at hm
            omega
          · rw [List.mem_singleton] at hm
            omega
      · rw [List.mem_singleton] at hm
        omega
  · cases hm
theorem next_ev (ts : List ByteArray) (la gl : ByteArray) (code : List S36) (a : Int) : Ev (fun _ => flow_Next.f ts la gl code a) (nxt code a) := ev_const
def sf (code : List S36) (a : Int) : Bool := decide ((0 ≤ a ∧ a < code.length) ∧ ((rd_T36 code a).f0 = 5 ∨ ((rd_T36 code a).f0 = 3 ∨ (rd_T36 code a).f0 = 4) ∧ (rd_T36 code a).f4 ≤ a))
theorem safe_ev (ts : List ByteArray) (la gl : ByteArray) (code : List S36) (a : Int) : Ev (fun k => flow_Safe.f k ts la gl code a) (sf code a) := by
  by_cases h : 0 ≤ a ∧ a < code.length
  · refine Ev.congr (fun k => if_neg (by omega)) (ev_step (fun k => flow_Safe.j0.eq_2 ..) (Ev.congr (fun k => if_neg (by rw [decide_eq_true_iff]; omega)) (Ev.congr (fun k => if_pos h.1) (Ev.congr (fun k => if_pos h.2) ?_))))
    by_cases h5 : (rd_T36 code a).f0 = 5
    · refine Ev.congr (fun k => if_pos h5) (ev_all fun k => ?_)
      rw [show sf code a = true from decide_eq_true ⟨h, .inl h5⟩]
    · refine Ev.congr (fun k => if_neg h5) ?_
      by_cases h3 : (rd_T36 code a).f0 = 3
      · refine Ev.congr (fun k => if_pos h3) (ev_all fun k => ?_)
        unfold sf
        congr 1
        exact decide_eq_decide.2 ⟨fun e => ⟨h, .inr ⟨.inl h3, e⟩⟩, fun e => by rcases e.2 with e | e <;> omega⟩
      · refine Ev.congr (fun k => if_neg h3) ?_
        by_cases h4 : (rd_T36 code a).f0 = 4
        · refine Ev.congr (fun k => if_pos h4) (ev_all fun k => ?_)
          unfold sf
          congr 1
          exact decide_eq_decide.2 ⟨fun e => ⟨h, .inr ⟨.inr h4, e⟩⟩, fun e => by rcases e.2 with e | e <;> omega⟩
        · refine Ev.congr (fun k => if_neg h4) (ev_all fun k => ?_)
          rw [show sf code a = false from decide_eq_false fun e => by rcases e.2 with e | e <;> omega]
  · have e : sf code a = false := decide_eq_false fun e => h e.1
    rw [e]
    by_cases h0 : a < 0
    · exact Ev.congr (fun k => if_pos h0) (ev_step (fun k => flow_Safe.j0.eq_2 ..) (Ev.congr (fun k => if_pos rfl) ev_const))
    · exact Ev.congr (fun k => if_neg h0) (ev_step (fun k => flow_Safe.j0.eq_2 ..) (Ev.congr (fun k => if_pos (by rw [decide_eq_true_iff]; omega)) ev_const))
def c0 : List S36 := [⟨1, 0, 0, 0, 0⟩, ⟨4, 0, 0, 0, 0⟩, ⟨14, 0, 0, 0, 0⟩]
theorem c0_inR : InR (nxt c0) (c0.length + 1) := by
  intro k m hm
  by_cases h : 0 ≤ k ∧ k < c0.length
  · have hl : c0.length = 3 := rfl
    rw [hl] at h ⊢
    obtain rfl | rfl | rfl : k = 0 ∨ k = 1 ∨ k = 2 := by omega
    · have e : nxt c0 0 = [1] := by decide
      rw [e, List.mem_singleton] at hm
      omega
    · have e : nxt c0 1 = [0, 2] := by decide
      rw [e] at hm
      simp only [List.mem_cons, List.not_mem_nil, or_false] at hm
      omega
    · have e : nxt c0 2 = [3] := by decide
      rw [e, List.mem_singleton] at hm
      omega
  · have e : nxt c0 k = [] := by unfold nxt; rw [if_neg h]
    rw [e] at hm
    cases hm
theorem c0_reach (ts : List ByteArray) (la gl : ByteArray) (a : Int) (h0 : 0 ≤ a) (h1 : a < 4) : flow_Reach.f ts la gl c0 a = some (rr (nxt c0) 4 a 4) := by
  unfold flow_Reach.f reachV
  rw [if_pos ⟨c0_inR, by decide⟩, if_pos ⟨h0, by show a ≤ ((3 : Nat) : Int); omega⟩]
  exact congrArg some (rr_rch (M := 4) c0_inR h0 h1).symm
theorem alive_ev : Ev (fun k => lockstitchlaw07_alive.f k) true := by
  have n1 : nxt c0 1 = [0, 2] := by decide
  have r0 : rr (nxt c0) 4 0 4 = [true, true, true, true] := by decide
  have r2 : rr (nxt c0) 4 2 4 = [false, false, false, true] := by decide
  have s1 : sf c0 1 = true := by decide
  have s0 : sf c0 0 = false := by decide
  have l0 : ∀ ts la gl, flow_Loops.f ts la gl c0 0 = some true := fun ts la gl => by
    unfold flow_Loops.f
    rw [c0_reach ts la gl 0 (by decide) (by decide), r0]
    rfl
  have l2 : ∀ ts la gl, flow_Loops.f ts la gl c0 2 = some false := fun ts la gl => by
    unfold flow_Loops.f
    rw [c0_reach ts la gl 2 (by decide) (by decide), r2]
    rfl
  have h1 := fun ts la gl => safe_ev ts la gl c0 1
  have h0 := fun ts la gl => safe_ev ts la gl c0 0
  rw [s1] at h1
  rw [s0] at h0
  unfold lockstitchlaw07_alive.f
  refine ev_bind ev_const (ev_bind ev_const (ev_bind (a := [0, 2]) (ev_all fun k => congrArg some n1) ?_))
  refine Ev.congr (fun k => if_pos rfl) (Ev.congr (fun k => if_pos (by decide)) (Ev.congr (fun k => if_pos rfl) (Ev.congr (fun k => if_pos (by decide)) (Ev.congr (fun k => if_pos rfl) ?_))))
  refine ev_bind (h1 _ _ _) (Ev.congr (fun k => if_pos rfl) (ev_bind (h0 _ _ _) (Ev.congr (fun k => if_neg (by decide)) ?_)))
  refine ev_bind (ev_all fun k => l0 _ _ _) (Ev.congr (fun k => if_pos rfl) (ev_bind (ev_all fun k => l2 _ _ _) (Ev.congr (fun k => if_neg (by decide)) ?_)))
  refine ev_bind (ev_all fun k => c0_reach _ _ _ 0 (by decide) (by decide)) ?_
  rw [r0]
  exact ev_const
end Go.Proofs.YtkmkfiidlbhcgaaDoor.FL

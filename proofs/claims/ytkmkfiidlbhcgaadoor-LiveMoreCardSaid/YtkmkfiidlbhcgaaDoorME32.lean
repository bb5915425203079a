/- Texts of this claim, pruned to what it needs and laid together by prune.py. -/
import Derived.Test.YtkmkfiidlbhcgaaDoorME30
import Derived.Test.YtkmkfiidlbhcgaaDoorME31
namespace Go.Proofs.YtkmkfiidlbhcgaaDoor.TT
open Go.RowKit Go.Proofs.YtkmkfiidlbhcgaaDoorW.PrintWords Go.Proofs.YtkmkfiidlbhcgaaDoor.Scan Go.Proofs.YtkmkfiidlbhcgaaDoor.F Go.Proofs.YtkmkfiidlbhcgaaDoor.KP Go.Proofs.YtkmkfiidlbhcgaaDoor.FM Go.Proofs.YtkmkfiidlbhcgaaDoor.H
structure KF (la : ByteArray) (x0 x1 x2 x3 : Int) : Prop where
  a : x0 = 5 ∨ x0 = 6 ∨ x0 = 7 ∨ x0 = 9 ∨ x0 = 10 ∨ x0 = 11 ∨ x0 = 12 → x1 < la.size
  b : x0 = 7 ∨ x0 = 8 ∨ x0 = 10 ∨ x0 = 11 ∨ x0 = 13 ∨ x0 = 15 → x2 < la.size
  c : x0 = 15 → x3 < la.size
section
variable (ts : List ByteArray) (hl : (ts.length : Int) ≤ 9223372036854775807) (hs : ∀ s ∈ ts, (s.size : Int) ≤ 9223372036854775807) (la gl : ByteArray) (hla : Fit la) (code : List S36)
include hl hs hla
end
end Go.Proofs.YtkmkfiidlbhcgaaDoor.TT

namespace Go.Proofs.YtkmkfiidlbhcgaaDoor.LL
open Go.RowKit Go.Proofs.YtkmkfiidlbhcgaaDoorW.PrintWords Go.Proofs.YtkmkfiidlbhcgaaDoorW.PrintMore Go.Proofs.YtkmkfiidlbhcgaaDoor.Scan Go.Proofs.YtkmkfiidlbhcgaaDoor.F Go.Proofs.YtkmkfiidlbhcgaaDoor.FM Go.Proofs.YtkmkfiidlbhcgaaDoor.H Go.Proofs.YtkmkfiidlbhcgaaDoor.TT Go.Proofs.YtkmkfiidlbhcgaaDoor.NX Go.Proofs.YtkmkfiidlbhcgaaDoor.FP Go.Proofs.YtkmkfiidlbhcgaaDoor.FL Go.Proofs.YtkmkfiidlbhcgaaDoor.B8 Go.Proofs.YtkmkfiidlbhcgaaDoor.V Go.Proofs.YtkmkfiidlbhcgaaDoor.LB Go.Proofs.YtkmkfiidlbhcgaaDoor.LG Go.Proofs.YtkmkfiidlbhcgaaDoor.GL
set_option linter.unusedVariables false
theorem in_ev {ts : List ByteArray} {la gl : ByteArray} {code : List S36} (h : SP ts la gl code) (hw : WfC code) : Ev (fun _ => live_In.f ts la gl code) (lvI code) :=
  ev_all fun _ => if_pos ⟨SP.inR h, by have := h.small; omega, hw⟩
theorem lvB_len (code : List S36) : (lvB code).length = code.length + 1 := (lv_inv ..).len
theorem lvI_len (code : List S36) : (lvI code).length = code.length + 1 := by
  unfold lvI
  rw [List.length_map, lvB_len]
theorem rd_lv (code : List S36) (i : Nat) : rd (lvI code) (i : Int) = iv (g (lvB code) i) := rd_iv ..
theorem lv_step (code : List S36) (k : Nat) (hk : k < code.length) : g (lvB code) k = lst (nxt code) (stB code) (usB code) (lvB code) k := lv_fix (nxt code) code.length (stB code) (usB code) k hk
def a0 : List S36 := [⟨5, 0, 0, 0, 0⟩, ⟨8, 0, 0, 0, 0⟩]
theorem a0_inR : InR (nxt a0) (a0.length + 1) := by
  intro k m hm
  by_cases h : 0 ≤ k ∧ k < a0.length
  · have hl : a0.length = 2 := rfl
    rw [hl] at h ⊢
    obtain rfl | rfl : k = 0 ∨ k = 1 := by omega
    · have e : nxt a0 0 = [1] := by decide
      rw [e, List.mem_singleton] at hm
      omega
    · have e : nxt a0 1 = [2] := by decide
      rw [e, List.mem_singleton] at hm
      omega
  · have e : nxt a0 k = [] := by unfold nxt; rw [if_neg h]
    rw [e] at hm
    cases hm
theorem wf_small {a b c d : Int} (ha : 0 ≤ a ∧ a ≤ 15) (hb : 0 ≤ b ∧ b ≤ 15) (hc : 0 ≤ c ∧ c ≤ 15) (hd : 0 ≤ d ∧ d ≤ 15) : WfI a b c d 0 := ⟨by omega, by omega, by omega, by omega, by omega, by omega⟩
theorem a0_wf : WfC a0 := by
  intro x hx
  simp only [a0, List.mem_cons, List.not_mem_nil, or_false] at hx
  rcases hx with rfl | rfl
  · exact wf_small (by decide) (by decide) (by decide) (by decide)
  · exact wf_small (by decide) (by decide) (by decide) (by decide)
theorem a0_lv : lvI a0 = [0, 1, 0] := by decide +kernel
theorem alive_ev : Ev (fun k => lockstitchlaw08_alive.f k) true := by
  have e : live_In.f [(⟨#[105]⟩ : ByteArray)] (⟨#[48]⟩ : ByteArray) (⟨#[]⟩ : ByteArray) a0 = some [0, 1, 0] := by
    rw [← a0_lv]
    exact if_pos ⟨a0_inR, by decide, a0_wf⟩
  have u : Ev (fun k => live_Uses.f k 11 1 2 0 0) 6 := uses_ev (wf_small (by decide) (by decide) (by decide) (by decide))
  have s : Ev (fun k => live_Sets.f k 7 3 0 0 0) 8 := sets_ev (wf_small (by decide) (by decide) (by decide) (by decide))
  refine ev_bind (ev_all fun _ => e) (Ev.congr (fun k => if_pos (by decide)) (Ev.congr (fun k => if_pos (by decide)) (Ev.congr (fun k => if_pos (by decide)) (Ev.congr (fun k => if_pos (by decide)) (Ev.congr (fun k => if_pos (by decide)) (Ev.congr (fun k => if_pos (by decide)) (Ev.congr (fun k => if_pos (by decide)) ?_)))))))
  exact ev_bind u (Ev.congr (fun k => if_pos rfl) (ev_bind s ev_const))
end Go.Proofs.YtkmkfiidlbhcgaaDoor.LL

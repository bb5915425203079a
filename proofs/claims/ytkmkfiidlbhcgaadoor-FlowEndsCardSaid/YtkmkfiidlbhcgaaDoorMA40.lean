/- Texts of this claim, pruned to what it needs and laid together by prune.py. -/
import Derived.Test.YtkmkfiidlbhcgaaDoorMA38
import Derived.Test.YtkmkfiidlbhcgaaDoorMA39
namespace Go.Proofs.YtkmkfiidlbhcgaaDoor.FL
open Go.RowKit Go.Proofs.YtkmkfiidlbhcgaaDoorW.PrintWords Go.Proofs.YtkmkfiidlbhcgaaDoor.Scan Go.Proofs.YtkmkfiidlbhcgaaDoor.F Go.Proofs.YtkmkfiidlbhcgaaDoor.FM Go.Proofs.YtkmkfiidlbhcgaaDoor.H Go.Proofs.YtkmkfiidlbhcgaaDoor.TT Go.Proofs.YtkmkfiidlbhcgaaDoor.NX Go.Proofs.YtkmkfiidlbhcgaaDoor.FP Go.Proofs.YtkmkfiidlbhcgaaDoor.FG Go.Proofs.YtkmkfiidlbhcgaaDoor.G Go.Proofs.YtkmkfiidlbhcgaaDoor.L7Ahead
theorem nxt_rise (code : List S36) (a : Int) (i : Nat) (h : 0 < i) (hi : i < (nxt code a).length) : rd (nxt code a) ((i : Int) - 1) < rd (nxt code a) i := by
  have h2 := nxt_two code a
  obtain rfl : i = 1 := by omega
  unfold nxt at hi ⊢
  repeat' split at hi
  all_goals first
    | (simp at hi; done)
    | skip
  all_goals simp_all [rd]
  rw [if_neg (by omega)]
  simp
  omega
theorem nxt_safe {code : List S36} {a m : Int} (hm : m ∈ nxt code a) (h : m ≤ a) : sf code a = true := by
  unfold nxt at hm
  split at hm
  · rename_i hk
    split at hm
    · rename_i h3
      rw [List.mem_singleton] at hm
      subst hm
      exact decide_eq_true ⟨hk, .inr ⟨.inl h3, h⟩⟩
    · split at hm
      · rename_i h4
        repeat' split at hm
        all_goals simp only [List.mem_cons, List.not_mem_nil, or_false] at hm
        · exact decide_eq_true ⟨hk, .inr ⟨.inr h4, by omega⟩⟩
        · exact decide_eq_true ⟨hk, .inr ⟨.inr h4, by omega⟩⟩
        · omega
      · rw [List.mem_singleton] at hm
        omega
  · cases hm
theorem nxt_none (code : List S36) (a : Int) (h0 : 0 ≤ a) (h1 : a ≤ code.length) : (nxt code a).length = 0 ↔ a = code.length := by
  unfold nxt
  constructor
  · intro h
    by_cases hk : 0 ≤ a ∧ a < code.length
    · rw [if_pos hk] at h
      repeat' split at h
      all_goals simp at h
    · omega
  · intro h
    rw [if_neg (by omega)]
    rfl
theorem rd_mem {l : List Int} {i : Nat} (h : i < l.length) : rd l i ∈ l := by
  unfold rd
  rw [Int.toNat_natCast, List.getD_eq_getElem?_getD, List.getElem?_eq_getElem h]
  exact List.getElem_mem h
section
variable {ts : List ByteArray} {la gl : ByteArray} {code : List S36} (h : SP ts la gl code) (x : Int) (hx0 : 0 ≤ x) (hx1 : x ≤ code.length)
include h hx0 hx1
theorem ahead_l0 : ∀ (d i : Nat), i + d = (nxt code x).length → Ev (fun k => lockstitchlaw07_FlowAhead.l0 k x (nxt code x) (nxt code x) ((nxt code x).length : Int) (i : Int) ts la gl code) true := by
  have h2 := nxt_two code x
  intro d
  induction d with
  | zero =>
    intro i hi
    refine ev_step (fun k => lockstitchlaw07_FlowAhead.l0.eq_2 ..) (Ev.congr (fun k => if_neg (by omega)) (Ev.congr (fun k => if_pos ?_) (ev_all fun k => by rw [decide_eq_true (by omega : ((nxt code x).length : Int) ≤ 2)])))
    have e := nxt_none code x hx0 hx1
    rw [beq_iff_eq, Bool.eq_iff_iff, beq_iff_eq, beq_iff_eq]
    omega
  | succ d ih =>
    intro i hi
    have ih := ih (i + 1) (by omega)
    have hm := rd_mem (l := nxt code x) (i := i) (by omega)
    have hr := SP.inR h _ _ hm
    have ew : wrap64 ((i : Int) + 1) = ((i + 1 : Nat) : Int) := by unfold wrap64; omega
    have last : Ev (fun k => if rd (nxt code x) (i : Int) ≤ x then (flow_Safe.f k ts la gl code x).bind fun t => if t = true then lockstitchlaw07_FlowAhead.l0 k x (nxt code x) (nxt code x) ((nxt code x).length : Int) (wrap64 ((i : Int) + 1)) ts la gl code else some false else lockstitchlaw07_FlowAhead.l0 k x (nxt code x) (nxt code x) ((nxt code x).length : Int) (wrap64 ((i : Int) + 1)) ts la gl code) true := by
      rw [ew]
      by_cases hle : rd (nxt code x) (i : Int) ≤ x
      · have hs := safe_ev ts la gl code x
        rw [nxt_safe hm hle] at hs
        exact Ev.congr (fun k => if_pos hle) (ev_bind hs (Ev.congr (fun k => if_pos rfl) ih))
      · exact Ev.congr (fun k => if_neg hle) ih
    refine ev_step (fun k => lockstitchlaw07_FlowAhead.l0.eq_2 ..) (Ev.congr (fun k => if_pos (by omega)) (Ev.congr (fun k => if_pos (by omega)) (Ev.congr (fun k => if_pos (by omega)) (Ev.congr (fun k => if_neg (by omega)) (Ev.congr (fun k => if_neg (by omega)) ?_)))))
    by_cases hi0 : (i : Int) > 0
    · have e1 : wrap64 ((i : Int) - 1) = (i : Int) - 1 := by unfold wrap64; omega
      have hrise := nxt_rise code x i (by omega) (by omega)
      refine Ev.congr (fun k => if_pos hi0) ?_
      rw [e1]
      exact Ev.congr (fun k => if_pos (by omega)) (Ev.congr (fun k => if_pos (by omega)) (Ev.congr (fun k => if_neg (by omega)) last))
    · exact Ev.congr (fun k => if_neg hi0) last
end
theorem place (n : Nat) (hn : n ≤ 60) (a : Int) (h0 : 0 ≤ a) (h1 : a ≤ 255) : ¬ wrap64 ((n : Int) + 1) = 0 ∧ wrap64 ((n : Int) + 1) = (n : Int) + 1 ∧ 0 ≤ Int.tmod (wrap64 a) ((n : Int) + 1) ∧ Int.tmod (wrap64 a) ((n : Int) + 1) ≤ n := by
  have e1 : wrap64 ((n : Int) + 1) = (n : Int) + 1 := by unfold wrap64; omega
  have e2 : wrap64 a = a := by unfold wrap64; omega
  rw [e1, e2]
  have h3 := Int.tmod_nonneg ((n : Int) + 1) h0
  have h4 := Int.tmod_lt_of_pos a (b := (n : Int) + 1) (by omega)
  exact ⟨by omega, rfl, h3, by omega⟩
section
variable (ts : List ByteArray) (hl : (ts.length : Int) ≤ 9223372036854775807) (hs : ∀ s ∈ ts, (s.size : Int) ≤ 9223372036854775807) (la gl : ByteArray) (hla : Fit la) (hgl : Fit gl) (code : List S36) (hc : (code.length : Int) ≤ 9223372036854775807) (hw : WfC code)
include hl hs hla hgl hc hw
theorem FlowAhead_pure (a : Int) (h0 : 0 ≤ a) (h1 : a ≤ 255) : Ev (fun k => lockstitchlaw07_FlowAhead.f k ts la gl code a) true := by
  obtain ⟨b, hb, hsp⟩ := sound_tot ts hl hs la gl hla hgl code hc hw
  refine ev_bind alive_ev (Ev.congr (fun k => if_pos rfl) (ev_bind hb ?_))
  cases b with
  | false => exact Ev.congr (fun k => if_neg (by decide)) ev_const
  | true =>
    have h := hsp rfl
    obtain ⟨p0, p1, p2, p3⟩ := place code.length h.small a h0 h1
    refine Ev.congr (fun k => if_pos rfl) (Ev.congr (fun k => if_neg p0) (ev_bind (next_ev _ _ _ _ _) ?_))
    rw [p1]
    exact ahead_l0 h _ p2 p3 _ 0 (Nat.zero_add _)
end
end Go.Proofs.YtkmkfiidlbhcgaaDoor.FL

/- Texts of this claim, pruned to what it needs and laid together by prune.py. -/
import Derived.Test.YtkmkfiidlbhcgaaDoorMD31
import Derived.Test.YtkmkfiidlbhcgaaDoorMD34
import Derived.Test.YtkmkfiidlbhcgaaDoorMD33
namespace Go.Proofs.YtkmkfiidlbhcgaaDoor.ZB
open Go.RowKit Go.Proofs.YtkmkfiidlbhcgaaDoorW.PrintWords Go.Proofs.YtkmkfiidlbhcgaaDoor.Scan Go.Proofs.YtkmkfiidlbhcgaaDoor.F Go.Proofs.YtkmkfiidlbhcgaaDoor.TT Go.Proofs.YtkmkfiidlbhcgaaDoor.NX Go.Proofs.YtkmkfiidlbhcgaaDoor.FP Go.Proofs.YtkmkfiidlbhcgaaDoor.FL Go.Proofs.YtkmkfiidlbhcgaaDoor.B8 Go.Proofs.YtkmkfiidlbhcgaaDoor.V Go.Proofs.YtkmkfiidlbhcgaaDoor.LB Go.Proofs.YtkmkfiidlbhcgaaDoor.Z Go.Proofs.YtkmkfiidlbhcgaaDoor.ZE
set_option linter.unusedVariables false
set_option linter.unusedSectionVars false
section
variable {ts : List ByteArray} {la gl : ByteArray} {code : List S36} (hI : InR (nxt code) (code.length + 1)) (hsm : code.length ≤ 1000000) (hw : WfC code)
include hI hsm hw
omit hw in
theorem ref_l3 (r k : Nat) (l : List S8) (hl : l.length = code.length + 1) (n : S8) (q : List Int)
    (hq : Ev (fun m => lockstitchref09_In.l2 m ((jc l n (nxt code k) (nxt code k).length).map iv) (r : Int) ((k + 1 : Nat) : Int) ts la gl code) q) (hk : k < code.length) :
    ∀ (d j : Nat), j + d = (nxt code k).length → Ev (fun m => lockstitchref09_In.l3 m ((jc l n (nxt code k) j).map iv) (r : Int) (k : Int) (iv n) (nxt code k) (j : Int) ts la gl code) q := by
  have h2 := nxt_two code k
  intro d
  induction d with
  | zero =>
    intro j hj
    obtain rfl : j = (nxt code k).length := by omega
    have ew : wrap64 ((k : Int) + 1) = ((k + 1 : Nat) : Int) := by unfold wrap64; omega
    refine ev_step (fun m => lockstitchref09_In.l3.eq_2 ..) (Ev.congr (fun m => if_neg (by omega)) ?_)
    rw [ew]
    exact hq
  | succ d ih =>
    intro j hj
    have ih := ih (j + 1) (by omega)
    have hjl : j < (nxt code k).length := by omega
    have hrd : rd (nxt code k) j = (nxt code k)[j] := by
      unfold rd
      rw [Int.toNat_natCast, List.getD_eq_getElem?_getD, List.getElem?_eq_getElem hjl]
      rfl
    have hr := hI _ _ (List.getElem_mem hjl)
    rw [← hrd] at hr
    have hlen : (jc l n (nxt code k) j).length = code.length + 1 := by rw [← hl]; exact (fold_ls n _ l).1
    have ew : wrap64 ((j : Int) + 1) = ((j + 1 : Nat) : Int) := by unfold wrap64; omega
    have z0 : (0 : Int) ≤ (j : Int) := Int.natCast_nonneg j
    have z2 : rd (nxt code k) j < (((jc l n (nxt code k) j).map iv).length : Int) := by rw [List.length_map, hlen]; exact hr.2
    have z5 : (j : Int) < ((nxt code k).length : Int) := by omega
    refine ev_step (fun m => lockstitchref09_In.l3.eq_2 ..) (Ev.congr (fun m => if_pos z5) (Ev.congr (fun m => if_pos z0) (Ev.congr (fun m => if_pos hr.1) (Ev.congr (fun m => if_pos z2) ?_))))
    rw [ew, rd_iv, bits_and, ← List.map_set]
    rw [jc_succ _ _ _ _ hjl, ← hrd] at ih
    exact ih
theorem ref_l2' (r : Nat) (l : List S8) (hl : l.length = code.length + 1) (q : List Int)
    (hq : Ev (fun m => lockstitchref09_In.l1 m ((kc (nxt code) (FB code) l code.length).map iv) ((r + 1 : Nat) : Int) ts la gl code) q) (hr : r ≤ 8000000) :
    ∀ (d k : Nat), k + d = code.length → Ev (fun m => lockstitchref09_In.l2 m ((kc (nxt code) (FB code) l k).map iv) (r : Int) (k : Int) ts la gl code) q := by
  intro d
  induction d with
  | zero =>
    intro k hk
    obtain rfl : k = code.length := by omega
    have ew : wrap64 ((r : Int) + 1) = ((r + 1 : Nat) : Int) := by unfold wrap64; omega
    refine ev_step (fun m => lockstitchref09_In.l2.eq_2 ..) (Ev.congr (fun m => if_neg (by omega)) ?_)
    rw [ew]
    exact hq
  | succ d ih =>
    intro k hk
    have ih := ih (k + 1) (by omega)
    have hlen : (kc (nxt code) (FB code) l k).length = code.length + 1 := by rw [← hl]; exact (kc_ls l k).1
    have z0 : (0 : Int) ≤ (k : Int) := Int.natCast_nonneg k
    have z1 : (k : Int) < (code.length : Int) := by omega
    have z2 : (k : Int) < (((kc (nxt code) (FB code) l k).map iv).length : Int) := by rw [List.length_map, hlen]; omega
    refine ev_step (fun m => lockstitchref09_In.l2.eq_2 ..) (Ev.congr (fun m => if_pos z1) (Ev.congr (fun m => if_pos z0) (Ev.congr (fun m => if_pos z2) ?_)))
    rw [rd_iv, Int.toNat_natCast]
    refine ev_bind (ref_out_ev hw k _) (ev_bind (ref_next_ev ts la gl code (by omega) k) ?_)
    exact ref_l3 hI hsm r k _ hlen _ q ih (by omega) _ 0 (Nat.zero_add _)
theorem ref_l1' : ∀ (d r : Nat), r + d = 8 * code.length + 1 → Ev (fun m => lockstitchref09_In.l1 m ((rc (nxt code) code.length (FB code) r).map iv) (r : Int) ts la gl code) (frI code) := by
  have ew8 : wrap64 (8 * (code.length : Int)) = 8 * (code.length : Int) := by unfold wrap64; omega
  intro d
  induction d with
  | zero =>
    intro r hr
    obtain rfl : r = 8 * code.length + 1 := by omega
    exact ev_step (fun m => lockstitchref09_In.l1.eq_2 ..) (Ev.congr (fun m => if_neg (by omega)) ev_const)
  | succ d ih =>
    intro r hr
    have ih := ih (r + 1) (by omega)
    refine ev_step (fun m => lockstitchref09_In.l1.eq_2 ..) (Ev.congr (fun m => if_pos (by omega)) ?_)
    exact ref_l2' hI hsm hw r _ (rc_inv (FB_mono code) r).len _ ih (by omega) _ 0 (Nat.zero_add _)
omit hI hsm hw in
theorem set_pre (M k : Nat) (h : k < M) : (List.replicate k (255 : Int) ++ List.replicate (M - k) 0).set k 255 = List.replicate (k + 1) 255 ++ List.replicate (M - (k + 1)) 0 := by
  obtain ⟨m, hm⟩ : ∃ m, M - k = m + 1 := ⟨M - k - 1, by omega⟩
  have hm' : M - (k + 1) = m := by omega
  rw [hm, hm', List.set_append_right _ _ (by simp), List.replicate_succ (n := m), List.length_replicate, Nat.sub_self, List.set_cons_zero, List.replicate_succ' (n := k), List.append_assoc]
  rfl
theorem ref_l0' : ∀ (d k : Nat), k + d = code.length + 1 → Ev (fun m => lockstitchref09_In.l0 m (List.replicate k 255 ++ List.replicate (code.length + 1 - k) 0) (k : Int) ts la gl code) (frI code) := by
  intro d
  induction d with
  | zero =>
    intro k hk
    obtain rfl : k = code.length + 1 := by omega
    have h := ref_l1' (ts := ts) (la := la) (gl := gl) hI hsm hw _ 0 (Nat.zero_add _)
    have e : (rc (nxt code) code.length (FB code) 0).map iv = List.replicate (code.length + 1) 255 ++ List.replicate (code.length + 1 - (code.length + 1)) 0 := by
      rw [rc, List.map_replicate, Nat.sub_self, List.replicate_zero, List.append_nil]
      rfl
    rw [e] at h
    exact ev_step (fun m => lockstitchref09_In.l0.eq_2 ..) (Ev.congr (fun m => if_neg (by omega)) h)
  | succ d ih =>
    intro k hk
    have ih := ih (k + 1) (by omega)
    have ew : wrap64 ((k : Int) + 1) = ((k + 1 : Nat) : Int) := by unfold wrap64; omega
    have z0 : (0 : Int) ≤ (k : Int) := Int.natCast_nonneg k
    have z1 : (k : Int) ≤ (code.length : Int) := by omega
    have z2 : (k : Int) < ((List.replicate k (255 : Int) ++ List.replicate (code.length + 1 - k) 0).length : Int) := by simp; omega
    refine ev_step (fun m => lockstitchref09_In.l0.eq_2 ..) (Ev.congr (fun m => if_pos z1) (Ev.congr (fun m => if_pos z0) (Ev.congr (fun m => if_pos z2) ?_)))
    rw [ew, Int.toNat_natCast, set_pre _ _ (by omega)]
    exact ih
theorem ref_in_ev : Ev (fun k => ZE.lockstitchref09_In.f k ts la gl code) (frI code) := by
  have ew : wrap64 ((code.length : Int) + 1) = ((code.length + 1 : Nat) : Int) := by unfold wrap64; omega
  have h := ref_l0' (ts := ts) (la := la) (gl := gl) hI hsm hw _ 0 (Nat.zero_add _)
  unfold ZE.lockstitchref09_In.f
  rw [ew, Int.toNat_natCast]
  exact Ev.congr (fun k => if_pos (by omega)) (Ev.congr (fun k => if_pos (by omega)) h)
end
end Go.Proofs.YtkmkfiidlbhcgaaDoor.ZB

namespace Go.Proofs.YtkmkfiidlbhcgaaDoor.ZG
open Go.RowKit Go.Proofs.YtkmkfiidlbhcgaaDoorW.PrintWords Go.Proofs.YtkmkfiidlbhcgaaDoorW.PrintLast Go.Proofs.YtkmkfiidlbhcgaaDoorW.PrintMore Go.Proofs.YtkmkfiidlbhcgaaDoor.F Go.Proofs.YtkmkfiidlbhcgaaDoor.TT Go.Proofs.YtkmkfiidlbhcgaaDoor.NX Go.Proofs.YtkmkfiidlbhcgaaDoor.FP Go.Proofs.YtkmkfiidlbhcgaaDoor.B8 Go.Proofs.YtkmkfiidlbhcgaaDoor.Scan Go.Proofs.YtkmkfiidlbhcgaaDoor.ZB
set_option linter.unusedVariables false
open Classical in
noncomputable def fresh_In.f (l0_0 : List ByteArray) (a0_1 : ByteArray) (a0_2 : ByteArray) (l0_3 : List S36) : Option (List Int) := if InR (nxt l0_3) (l0_3.length + 1) ∧ l0_3.length ≤ 1000000 ∧ WfC l0_3 then some (frI l0_3) else none
theorem fresh_In.calls (A0_0 : Option Addr) (c0_0 : Nat) (l0_0 : List ByteArray) (a0_1 : ByteArray) (a0_2 : ByteArray) (A0_3 : Option Addr) (c0_3 : Nat) (l0_3 : List (S36)) (r : List Int) (w : World) (_hr0_0 : Kd.C Kd.string w A0_0 l0_0.length l0_0) (_hc0_0 : l0_0.length ≤ c0_0) (hr0_3 : Kd.C k36 w A0_3 l0_3.length l0_3) (_hc0_3 : l0_3.length ≤ c0_3) (h : fresh_In.f l0_0 a0_1 a0_2 l0_3 = some r) :
    Calls Tryd.prog 37 #[.agg #[.slice A0_0 l0_0.length c0_0, .string a0_1, .string a0_2, .slice A0_3 l0_3.length c0_3]] w fun e w' => ∃ v0_ : Value, e = .returned (v0_) ∧ Kd.R (Kd.int .u8) 5 w' w.heap.size (fun _ => True) v0_ r ∧ Below w.heap.size w w' := by
  unfold fresh_In.f at h
  split at h
  · rename_i hh
    obtain rfl := Option.some.inj h
    obtain ⟨k, hk⟩ := ev_at (fin_ev (ts := l0_0) (la := a0_1) (gl := a0_2) hh.1 hh.2.1 hh.2.2)
    exact ZD.fresh_In.calls k A0_0 c0_0 l0_0 a0_1 a0_2 A0_3 c0_3 l0_3 _ w _hr0_0 _hc0_0 hr0_3 _hc0_3 hk
  · cases h
open Classical in
noncomputable def lockstitchref09_In.f (l0_0 : List ByteArray) (a0_1 : ByteArray) (a0_2 : ByteArray) (l0_3 : List S36) : Option (List Int) := if InR (nxt l0_3) (l0_3.length + 1) ∧ l0_3.length ≤ 1000000 ∧ WfC l0_3 then some (frI l0_3) else none
theorem lockstitchref09_In.calls (A0_0 : Option Addr) (c0_0 : Nat) (l0_0 : List ByteArray) (a0_1 : ByteArray) (a0_2 : ByteArray) (A0_3 : Option Addr) (c0_3 : Nat) (l0_3 : List (S36)) (r : List Int) (w : World) (_hr0_0 : Kd.C Kd.string w A0_0 l0_0.length l0_0) (_hc0_0 : l0_0.length ≤ c0_0) (hr0_3 : Kd.C k36 w A0_3 l0_3.length l0_3) (_hc0_3 : l0_3.length ≤ c0_3) (h : lockstitchref09_In.f l0_0 a0_1 a0_2 l0_3 = some r) :
    Calls Tryd.prog 38 #[.agg #[.slice A0_0 l0_0.length c0_0, .string a0_1, .string a0_2, .slice A0_3 l0_3.length c0_3]] w fun e w' => ∃ v0_ : Value, e = .returned (v0_) ∧ Kd.R (Kd.int .u8) 5 w' w.heap.size (fun _ => True) v0_ r ∧ Below w.heap.size w w' := by
  unfold lockstitchref09_In.f at h
  split at h
  · rename_i hh
    obtain rfl := Option.some.inj h
    obtain ⟨k, hk⟩ := ev_at (ref_in_ev (ts := l0_0) (la := a0_1) (gl := a0_2) hh.1 hh.2.1 hh.2.2)
    exact ZE.lockstitchref09_In.calls k A0_0 c0_0 l0_0 a0_1 a0_2 A0_3 c0_3 l0_3 _ w _hr0_0 _hc0_0 hr0_3 _hc0_3 hk
  · cases h
end Go.Proofs.YtkmkfiidlbhcgaaDoor.ZG

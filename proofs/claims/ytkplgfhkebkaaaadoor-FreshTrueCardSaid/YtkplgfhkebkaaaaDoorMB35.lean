/- Texts of this claim, pruned to what it needs and laid together by prune.py. -/
import Derived.Test.YtkplgfhkebkaaaaDoorMB33
import Derived.Test.YtkplgfhkebkaaaaDoorMB34
namespace Go.Proofs.YtkplgfhkebkaaaaDoor.ZB
open Go.RowKit Go.Proofs.YtkplgfhkebkaaaaDoorW.PrintWords Go.Proofs.YtkplgfhkebkaaaaDoor.Scan Go.Proofs.YtkplgfhkebkaaaaDoor.F Go.Proofs.YtkplgfhkebkaaaaDoor.TT Go.Proofs.YtkplgfhkebkaaaaDoor.NX Go.Proofs.YtkplgfhkebkaaaaDoor.FP Go.Proofs.YtkplgfhkebkaaaaDoor.FL Go.Proofs.YtkplgfhkebkaaaaDoor.FG Go.Proofs.YtkplgfhkebkaaaaDoor.B8 Go.Proofs.YtkplgfhkebkaaaaDoor.V Go.Proofs.YtkplgfhkebkaaaaDoor.LB Go.Proofs.YtkplgfhkebkaaaaDoor.Z Go.Proofs.YtkplgfhkebkaaaaDoor.ZD
set_option linter.unusedVariables false
set_option linter.unusedSectionVars false
theorem set_pre' (M k : Nat) (h : k < M) : (List.replicate k (255 : Int) ++ List.replicate (M - k) 0).set k 255 = List.replicate (k + 1) 255 ++ List.replicate (M - (k + 1)) 0 := by
  obtain ⟨m, hm⟩ : ∃ m, M - k = m + 1 := ⟨M - k - 1, by omega⟩
  have hm' : M - (k + 1) = m := by omega
  rw [hm, hm', List.set_append_right _ _ (by simp), List.replicate_succ (n := m), List.length_replicate, Nat.sub_self, List.set_cons_zero, List.replicate_succ' (n := k), List.append_assoc]
  rfl
section
variable {ts : List ByteArray} {la gl : ByteArray} {code : List S47} (hI : InR (nxt code) (code.length + 1)) (hsm : code.length ≤ 1000000) (hw : WfC code)
include hI hsm hw
theorem wl_small {l : List S8} {todo : List Int} (h : lft l todo ≤ 17 * (code.length + 1)) : todo.length ≤ 17000017 := by
  unfold lft at h
  omega
theorem fin_l2 (k : Nat) (n : S8) (q : List Int) (B : Nat) (hB : B ≤ 17 * (code.length + 1))
    (next : ∀ l todo, lft l todo ≤ B → WI (nxt code) code.length (FB code) l todo → Ev (fun m => fresh_In.l1 m (l.map iv) todo ts la gl code) q) :
    ∀ (d j : Nat) (l : List S8) (todo : List Int), j + d = (nxt code k).length → lft l todo ≤ B → WJ (nxt code) code.length (FB code) l todo k n j →
      Ev (fun m => fresh_In.l2 m (l.map iv) todo (iv n) (nxt code k) ((nxt code k).length : Int) (j : Int) ts la gl code) q := by
  have h2 := nxt_two code k
  intro d
  induction d with
  | zero =>
    intro j l todo hj hb h
    exact ev_step (fun m => fresh_In.l2.eq_2 ..) (Ev.congr (fun m => if_neg (by omega)) (next l todo hb (h.done (by omega))))
  | succ d ih =>
    intro j l todo hj hb h
    have hjl : j < (nxt code k).length := by omega
    have hrd : rd (nxt code k) j = (nxt code k)[j] := by
      unfold rd
      rw [Int.toNat_natCast, List.getD_eq_getElem?_getD, List.getElem?_eq_getElem hjl]
      rfl
    have hr := hI _ _ (List.getElem_mem hjl)
    rw [← hrd] at hr
    have ew : wrap64 ((j : Int) + 1) = ((j + 1 : Nat) : Int) := by unfold wrap64; omega
    have z0 : (0 : Int) ≤ (j : Int) := Int.natCast_nonneg j
    have z1 : rd (nxt code k) j ≥ 0 := hr.1
    have z2 : rd (nxt code k) j < ((l.map iv).length : Int) := by rw [List.length_map, h.inv.len]; exact hr.2
    have z5 : (j : Int) < ((nxt code k).length : Int) := by omega
    refine ev_step (fun m => fresh_In.l2.eq_2 ..) (Ev.congr (fun m => if_pos z5) (Ev.congr (fun m => if_pos z0) (Ev.congr (fun m => if_pos z5) (Ev.congr (fun m => if_pos z1) (Ev.congr (fun m => if_pos z2) (Ev.congr (fun m => if_pos hr.1) ?_))))))
    rw [ew, rd_iv, bits_and]
    by_cases e : g l (rd (nxt code k) j).toNat &&& n = g l (rd (nxt code k) j).toNat
    · have e' := e
      rw [hrd] at e'
      refine Ev.congr (fun m => if_pos (by rw [e])) ?_
      exact ih (j + 1) l todo (by omega) hb (h.skip hjl e')
    · have htl : (rd (nxt code k) j).toNat < l.length := by rw [h.inv.len]; omega
      have hlt := lft_cut (todo := todo) (x := rd (nxt code k) j) htl e
      have hc := h.cut hI hjl
      rw [← hrd] at hc
      have hts := wl_small hI hsm hw (Nat.le_trans hb hB)
      have z9 : todo.length < 17592186044416 := by omega
      refine Ev.congr (fun m => if_neg (fun h => e (iv_inj h))) (Ev.congr (fun m => if_pos z9) ?_)
      rw [← List.map_set]
      exact ih (j + 1) _ _ (by omega) (Nat.le_trans (Nat.le_of_lt hlt) hb) hc
theorem fin_l1 : ∀ (d : Nat) (l : List S8) (todo : List Int), lft l todo = d → d ≤ 17 * (code.length + 1) → WI (nxt code) code.length (FB code) l todo →
    Ev (fun m => fresh_In.l1 m (l.map iv) todo ts la gl code) (frI code) := by
  intro d
  induction d using Nat.strongRecOn with
  | _ d IH =>
    intro l todo hd hb h
    cases todo with
    | nil =>
      have e : l = frB code := fr_of hI (FB_mono code) (nxt_last code) h.inv h.done
      refine ev_step (fun m => fresh_In.l1.eq_2 ..) (Ev.congr (fun m => if_neg (by decide)) ?_)
      rw [e]
      exact ev_const
    | cons k todo =>
      have hr := h.range k (List.mem_cons_self ..)
      obtain ⟨kn, rfl⟩ := Int.eq_ofNat_of_zero_le hr.1
      have hp := h.pop (FB_mono code)
      have hlt := lft_pop l todo (kn : Int)
      have z0 : (((kn : Int) :: todo).length : Int) > 0 := by rw [List.length_cons]; omega
      have z1 : 1 ≤ (((kn : Int) :: todo).length : Int) := by rw [List.length_cons]; omega
      have e0 : rd ((kn : Int) :: todo) 0 = (kn : Int) := rfl
      have z2 : (kn : Int) < ((l.map iv).length : Int) := by rw [List.length_map, h.inv.len]; omega
      have ed : ((kn : Int) :: todo).drop (1 : Int).toNat = todo := rfl
      refine ev_step (fun m => fresh_In.l1.eq_2 ..) (Ev.congr (fun m => if_pos z0) (Ev.congr (fun m => if_pos z0) (Ev.congr (fun m => if_pos z1) ?_)))
      rw [e0, ed]
      refine Ev.congr (fun m => if_pos hr.1) (Ev.congr (fun m => if_pos z2) ?_)
      rw [rd_iv, Int.toNat_natCast]
      refine ev_bind (out_ev hw kn _) (ev_bind (next_ev ts la gl code kn) ?_)
      refine fin_l2 hI hsm hw kn _ _ (lft l todo) (by omega) (fun l' todo' hl' h' => IH _ (by omega) l' todo' rfl (by omega) h') _ 0 l todo (Nat.zero_add _) (Nat.le_refl _) hp
theorem fin_l0 : ∀ (d k : Nat), k + d = code.length + 1 →
    Ev (fun m => fresh_In.l0 m (List.replicate k 255 ++ List.replicate (code.length + 1 - k) 0) ((List.range k).map fun (i : Nat) => (i : Int)) ((code.length + 1 : Nat) : Int) (k : Int) ts la gl code) (frI code) := by
  intro d
  induction d with
  | zero =>
    intro k hk
    obtain rfl : k = code.length + 1 := by omega
    have ht : lft (List.replicate (code.length + 1) (255 : S8)) ((List.range (code.length + 1)).map fun (i : Nat) => (i : Int)) ≤ 17 * (code.length + 1) := by
      have := tot_8 (List.replicate (code.length + 1) (255 : S8))
      rw [List.length_replicate] at this
      unfold lft
      rw [List.length_map, List.length_range]
      omega
    have h := fin_l1 (ts := ts) (la := la) (gl := gl) hI hsm hw _ _ _ rfl ht WI.start
    have e : (List.replicate (code.length + 1) (255 : S8)).map iv = List.replicate (code.length + 1) 255 ++ List.replicate (code.length + 1 - (code.length + 1)) 0 := by
      rw [List.map_replicate, Nat.sub_self, List.replicate_zero, List.append_nil]
      rfl
    rw [e] at h
    exact ev_step (fun m => fresh_In.l0.eq_2 ..) (Ev.congr (fun m => if_neg (by omega)) h)
  | succ d ih =>
    intro k hk
    have ih := ih (k + 1) (by omega)
    have ew : wrap64 ((k : Int) + 1) = ((k + 1 : Nat) : Int) := by unfold wrap64; omega
    have z0 : (0 : Int) ≤ (k : Int) := Int.natCast_nonneg k
    have z1 : (k : Int) < ((code.length + 1 : Nat) : Int) := by omega
    have z2 : (k : Int) < ((List.replicate k (255 : Int) ++ List.replicate (code.length + 1 - k) 0).length : Int) := by simp; omega
    have z3 : ((List.range k).map fun (i : Nat) => (i : Int)).length < 17592186044416 := by rw [List.length_map, List.length_range]; omega
    have e1 : ((List.range k).map fun (i : Nat) => (i : Int)) ++ [(k : Int)] = (List.range (k + 1)).map fun (i : Nat) => (i : Int) := by rw [List.range_succ, List.map_append]; rfl
    refine ev_step (fun m => fresh_In.l0.eq_2 ..) (Ev.congr (fun m => if_pos z1) (Ev.congr (fun m => if_pos z0) (Ev.congr (fun m => if_pos z2) (Ev.congr (fun m => if_pos z3) ?_))))
    rw [ew, Int.toNat_natCast, set_pre' _ _ (by omega), e1]
    exact ih
theorem fin_ev : Ev (fun k => ZD.fresh_In.f k ts la gl code) (frI code) := by
  have ew : wrap64 ((code.length : Int) + 1) = ((code.length + 1 : Nat) : Int) := by unfold wrap64; omega
  have h := fin_l0 (ts := ts) (la := la) (gl := gl) hI hsm hw _ 0 (Nat.zero_add _)
  have z : (List.replicate (code.length + 1) (0 : Int)).length ≤ 35184372088832 := by rw [List.length_replicate]; omega
  unfold ZD.fresh_In.f
  rw [ew, Int.toNat_natCast]
  refine Ev.congr (fun k => if_pos (by omega)) (Ev.congr (fun k => if_pos (by omega)) (ev_bind ev_const (Ev.congr (fun k => if_pos z) ?_)))
  rw [List.length_replicate]
  exact h
end
end Go.Proofs.YtkplgfhkebkaaaaDoor.ZB

namespace Go.Proofs.YtkplgfhkebkaaaaDoor.ZG
open Go.RowKit Go.Proofs.YtkplgfhkebkaaaaDoorW.PrintWords Go.Proofs.YtkplgfhkebkaaaaDoorW.PrintLast Go.Proofs.YtkplgfhkebkaaaaDoorW.PrintMore Go.Proofs.YtkplgfhkebkaaaaDoor.F Go.Proofs.YtkplgfhkebkaaaaDoor.TT Go.Proofs.YtkplgfhkebkaaaaDoor.NX Go.Proofs.YtkplgfhkebkaaaaDoor.FP Go.Proofs.YtkplgfhkebkaaaaDoor.B8 Go.Proofs.YtkplgfhkebkaaaaDoor.Scan Go.Proofs.YtkplgfhkebkaaaaDoor.ZB
set_option linter.unusedVariables false
open Classical in
noncomputable def fresh_In.f (l0_0 : List ByteArray) (a0_1 : ByteArray) (a0_2 : ByteArray) (l0_3 : List S47) : Option (List Int) := if InR (nxt l0_3) (l0_3.length + 1) ∧ l0_3.length ≤ 1000000 ∧ WfC l0_3 then some (frI l0_3) else none
theorem fresh_In.calls (A0_0 : Option Addr) (c0_0 : Nat) (l0_0 : List ByteArray) (a0_1 : ByteArray) (a0_2 : ByteArray) (A0_3 : Option Addr) (c0_3 : Nat) (l0_3 : List (S47)) (r : List Int) (w : World) (_hr0_0 : Kd.C Kd.string w A0_0 l0_0.length l0_0) (_hc0_0 : l0_0.length ≤ c0_0) (hr0_3 : Kd.C k47 w A0_3 l0_3.length l0_3) (_hc0_3 : l0_3.length ≤ c0_3) (h : fresh_In.f l0_0 a0_1 a0_2 l0_3 = some r) :
    Calls Tryd.prog 20 #[.agg #[.slice A0_0 l0_0.length c0_0, .string a0_1, .string a0_2, .slice A0_3 l0_3.length c0_3]] w fun e w' => ∃ v0_ : Value, e = .returned (v0_) ∧ Kd.R (Kd.int .u8) 5 w' w.heap.size (fun _ => True) v0_ r ∧ Below w.heap.size w w' := by
  unfold fresh_In.f at h
  split at h
  · rename_i hh
    obtain rfl := Option.some.inj h
    obtain ⟨k, hk⟩ := ev_at (fin_ev (ts := l0_0) (la := a0_1) (gl := a0_2) hh.1 hh.2.1 hh.2.2)
    exact ZD.fresh_In.calls k A0_0 c0_0 l0_0 a0_1 a0_2 A0_3 c0_3 l0_3 _ w _hr0_0 _hc0_0 hr0_3 _hc0_3 hk
  · cases h
end Go.Proofs.YtkplgfhkebkaaaaDoor.ZG

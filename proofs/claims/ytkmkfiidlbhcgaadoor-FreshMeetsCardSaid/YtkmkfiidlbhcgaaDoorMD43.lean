/- Texts of this claim, pruned to what it needs and laid together by prune.py. -/
import Derived.Test.YtkmkfiidlbhcgaaDoorMD37
import Derived.Test.YtkmkfiidlbhcgaaDoorMD42
namespace Go.Proofs.YtkmkfiidlbhcgaaDoor.ZL
open Go.RowKit Go.Proofs.YtkmkfiidlbhcgaaDoorW.PrintWords Go.Proofs.YtkmkfiidlbhcgaaDoorW.PrintMore Go.Proofs.YtkmkfiidlbhcgaaDoor.Scan Go.Proofs.YtkmkfiidlbhcgaaDoor.F Go.Proofs.YtkmkfiidlbhcgaaDoor.FM Go.Proofs.YtkmkfiidlbhcgaaDoor.H Go.Proofs.YtkmkfiidlbhcgaaDoor.TT Go.Proofs.YtkmkfiidlbhcgaaDoor.NX Go.Proofs.YtkmkfiidlbhcgaaDoor.FP Go.Proofs.YtkmkfiidlbhcgaaDoor.FL Go.Proofs.YtkmkfiidlbhcgaaDoor.B8 Go.Proofs.YtkmkfiidlbhcgaaDoor.V Go.Proofs.YtkmkfiidlbhcgaaDoor.LB Go.Proofs.YtkmkfiidlbhcgaaDoor.Z Go.Proofs.YtkmkfiidlbhcgaaDoor.ZB Go.Proofs.YtkmkfiidlbhcgaaDoor.ZG Go.Proofs.YtkmkfiidlbhcgaaDoor.GZ Go.Proofs.YtkmkfiidlbhcgaaDoor.L9Meets
set_option linter.unusedVariables false
set_option linter.unusedSectionVars false
def mstep (at_ : Int) (n z : S8) (t : Int) : S8 := if t = at_ then z &&& n else z
def mj (code : List S36) (l : List S8) (at_ : Int) (z : S8) (k j : Nat) : S8 := ((nxt code k).take j).foldl (mstep at_ (outB code k (g l k))) z
def mk (code : List S36) (l : List S8) (at_ : Int) : Nat → S8
  | 0 => 255
  | k + 1 => mj code l at_ (mk code l at_ k) k (nxt code k).length
theorem mj_succ (code : List S36) (l : List S8) (at_ : Int) (z : S8) (k j : Nat) (h : j < (nxt code k).length) : mj code l at_ z k (j + 1) = mstep at_ (outB code k (g l k)) (mj code l at_ z k j) ((nxt code k)[j]) := by
  unfold mj
  rw [List.take_add_one, List.getElem?_eq_getElem h, Option.toList_some, List.foldl_append]
  rfl
theorem mfold_bit (at_ : Int) (n : S8) (i : Nat) : ∀ (ts : List Int) (z : S8), (ts.foldl (mstep at_ n) z).getLsbD i = true ↔ z.getLsbD i = true ∧ (at_ ∈ ts → n.getLsbD i = true)
  | [], z => by simp
  | t :: ts, z => by
    rw [List.foldl_cons, mfold_bit at_ n i ts]
    unfold mstep
    by_cases e : t = at_
    · rw [if_pos e, BitVec.getLsbD_and, Bool.and_eq_true]
      exact ⟨fun h => ⟨h.1.1, fun _ => h.1.2⟩, fun h => ⟨⟨h.1, h.2 (by rw [e]; exact List.mem_cons_self ..)⟩, fun hm => h.2 (List.mem_cons_of_mem _ hm)⟩⟩
    · rw [if_neg e]
      exact ⟨fun h => ⟨h.1, fun hm => h.2 ((List.mem_cons.1 hm).resolve_left fun e' => e e'.symm)⟩, fun h => ⟨h.1, fun hm => h.2 (List.mem_cons_of_mem _ hm)⟩⟩
theorem mk_bit (code : List S36) (l : List S8) (at_ : Int) (i : Nat) (hi : i < 8) : ∀ k, (mk code l at_ k).getLsbD i = true ↔ ∀ j, j < k → at_ ∈ nxt code j → (outB code j (g l j)).getLsbD i = true
  | 0 => by
    have : ∀ j, j < 8 → (255#8).getLsbD j = true := by decide
    exact ⟨fun _ j hj => by omega, fun _ => this i hi⟩
  | k + 1 => by
    unfold mk mj
    rw [List.take_length, mfold_bit, mk_bit code l at_ i hi k]
    constructor
    · rintro ⟨h1, h2⟩ j hj
      rcases Nat.lt_succ_iff_lt_or_eq.1 hj with hlt | rfl
      · exact h1 j hlt
      · exact h2
    · intro h
      exact ⟨fun j hj => h j (by omega), h k (by omega)⟩
theorem fr_meets {code : List S36} (hI : InR (nxt code) (code.length + 1)) (a : Nat) (ha : a ≤ code.length) : g (frB code) a = mk code (frB code) a code.length := by
  have hs := frB_sol hI
  have h1 : ∀ b : Nat, Sub (g (frB code) b) (mk code (frB code) b code.length) := by
    intro b i hi
    refine (mk_bit code _ _ i (BitVec.lt_of_getLsbD hi) _).2 fun j hj hm => ?_
    have := hs.2 j (by omega) _ hm
    rw [Int.toNat_natCast] at this
    exact this i hi
  refine Sub.anti (h1 a) ?_
  have hg : ∀ b : Nat, b ≤ code.length → g ((List.range (code.length + 1)).map fun (b : Nat) => mk code (frB code) b code.length) b = mk code (frB code) b code.length := by
    intro b hb
    unfold g
    rw [List.getD_eq_getElem?_getD, List.getElem?_map, List.getElem?_range (by omega)]
    rfl
  have hsol : Sol (nxt code) code.length (FB code) ((List.range (code.length + 1)).map fun (b : Nat) => mk code (frB code) b code.length) := by
    refine ⟨by simp, fun k hk t ht => ?_⟩
    have hr := hI _ _ ht
    obtain ⟨tn, rfl⟩ := Int.eq_ofNat_of_zero_le hr.1
    rw [Int.toNat_natCast, hg tn (by omega), hg k hk]
    rcases Nat.lt_or_eq_of_le hk with hlt | rfl
    · intro i hi
      have := (mk_bit code _ _ i (BitVec.lt_of_getLsbD hi) _).1 hi k hlt ht
      exact outB_mono code k (h1 k) i this
    · rw [nxt_last] at ht
      cases ht
  have := ((fr_inv (nx := nxt code) (N := code.length) (F := FB code) (FB_mono code)).great _ hsol).2 a
  rwa [hg a ha] at this
section
variable (ts : List ByteArray) (hl : (ts.length : Int) ≤ 9223372036854775807) (hs : ∀ s ∈ ts, (s.size : Int) ≤ 9223372036854775807) (la gl : ByteArray) (hla : Fit la) (hgl : Fit gl) (code : List S36) (hc : (code.length : Int) ≤ 9223372036854775807) (hw : WfC code)
include hl hs hla hgl hc hw
omit hl hs hla hgl in
theorem meets_ev (hsm : code.length ≤ 1000000) (l : List S8) (hll : l.length = code.length + 1) (a : Int) : Ev (fun k => lockstitchlaw09_meets.f k ts la gl code (l.map iv) a) (iv (mk code l a code.length)) := by
  have L : ∀ (d k : Nat), k + d = code.length → Ev (fun n => lockstitchlaw09_meets.l0 n (l.map iv) a (iv (mk code l a k)) (code.length : Int) (k : Int) ts la gl code) (iv (mk code l a code.length)) := by
    intro d
    induction d with
    | zero =>
      intro k hk
      obtain rfl : k = code.length := by omega
      exact ev_step (fun n => lockstitchlaw09_meets.l0.eq_2 ..) (Ev.congr (fun n => if_neg (by omega)) ev_const)
    | succ d ih =>
      intro k hk
      have ih := ih (k + 1) (by omega)
      have h2 := nxt_two code k
      have z0 : (0 : Int) ≤ (k : Int) := Int.natCast_nonneg k
      have z1 : (k : Int) < (code.length : Int) := by omega
      have z2 : (k : Int) < ((l.map iv).length : Int) := by rw [List.length_map]; omega
      have ewk : wrap64 ((k : Int) + 1) = ((k + 1 : Nat) : Int) := by unfold wrap64; omega
      have M : ∀ (d j : Nat), j + d = (nxt code k).length → Ev (fun n => lockstitchlaw09_meets.l1 n (l.map iv) a (iv (mj code l a (mk code l a k) k j)) (k : Int) (code.length : Int) (k : Int) (nxt code k) ((nxt code k).length : Int) (j : Int) ts la gl code) (iv (mk code l a code.length)) := by
        intro d
        induction d with
        | zero =>
          intro j hj
          obtain rfl : j = (nxt code k).length := by omega
          refine ev_step (fun n => lockstitchlaw09_meets.l1.eq_2 ..) (Ev.congr (fun n => if_neg (by omega)) ?_)
          rw [ewk]
          exact ih
        | succ d ih1 =>
          intro j hj
          have ih1 := ih1 (j + 1) (by omega)
          have hjl : j < (nxt code k).length := by omega
          have hrd : rd (nxt code k) j = (nxt code k)[j] := by
            unfold rd
            rw [Int.toNat_natCast, List.getD_eq_getElem?_getD, List.getElem?_eq_getElem hjl]
            rfl
          have ew : wrap64 ((j : Int) + 1) = ((j + 1 : Nat) : Int) := by unfold wrap64; omega
          have y0 : (0 : Int) ≤ (j : Int) := Int.natCast_nonneg j
          have y5 : (j : Int) < ((nxt code k).length : Int) := by omega
          rw [mj_succ _ _ _ _ _ _ hjl, ← hrd] at ih1
          unfold mstep at ih1
          refine ev_step (fun n => lockstitchlaw09_meets.l1.eq_2 ..) (Ev.congr (fun n => if_pos y5) (Ev.congr (fun n => if_pos y0) (Ev.congr (fun n => if_pos y5) ?_)))
          rw [ew]
          by_cases e : rd (nxt code k) (j : Int) = a
          · rw [if_pos e, ← bits_and] at ih1
            refine Ev.congr (fun n => if_pos e) (Ev.congr (fun n => if_pos z0) (Ev.congr (fun n => if_pos z2) ?_))
            rw [rd_iv, Int.toNat_natCast]
            exact ev_bind (out_ev hw k _) ih1
          · rw [if_neg e] at ih1
            exact Ev.congr (fun n => if_neg e) ih1
      exact ev_step (fun n => lockstitchlaw09_meets.l0.eq_2 ..) (Ev.congr (fun n => if_pos z1) (ev_bind (ref_next_ev ts la gl code hc k) (M _ 0 (Nat.zero_add _))))
  exact L _ 0 (Nat.zero_add _)
theorem FreshMeets_pure : Ev (fun k => lockstitchlaw09_FreshMeets.f k ts la gl code) true := by
  obtain ⟨b, hb, hsp⟩ := sound_tot ts hl hs la gl hla hgl code hc hw
  refine ev_bind alive_ev (Ev.congr (fun k => if_pos rfl) (ev_bind hb ?_))
  cases b with
  | false => exact Ev.congr (fun k => if_neg (by decide)) ev_const
  | true =>
    have h := hsp rfl
    have hsm := h.small
    have hll := frI_len code
    have hI := SP.inR h
    have el : ((frI code).length : Int) = wrap64 ((code.length : Int) + 1) := by unfold wrap64; omega
    have hmt : ∀ a : Nat, a ≤ code.length → Ev (fun k => lockstitchlaw09_meets.f k ts la gl code (frI code) (a : Int)) (rd (frI code) (a : Int)) := by
      intro a ha
      rw [rd_fr, fr_meets hI a ha]
      exact meets_ev ts la gl code hc hw (by omega) _ (frB_len code) a
    have L : ∀ (d i : Nat), i + d = (frI code).length → Ev (fun k => lockstitchlaw09_FreshMeets.l0 k (frI code) ((frI code).length : Int) (i : Int) ts la gl code) true := by
      intro d
      induction d with
      | zero =>
        intro i hi
        exact ev_step (fun k => lockstitchlaw09_FreshMeets.l0.eq_2 ..) (Ev.congr (fun k => if_neg (by omega)) ev_const)
      | succ d ih =>
        intro i hi
        have ih := ih (i + 1) (by omega)
        have z1 : (i : Int) < ((frI code).length : Int) := by omega
        have z0 : (0 : Int) ≤ (i : Int) := Int.natCast_nonneg i
        refine ev_step (fun k => lockstitchlaw09_FreshMeets.l0.eq_2 ..) (Ev.congr (fun k => if_pos z1) (Ev.congr (fun k => if_pos z0) (Ev.congr (fun k => if_pos z1) (ev_bind (hmt i (by omega)) (Ev.congr (fun k => if_pos rfl) ?_)))))
        rw [w1 (n := (frI code).length) (by omega) (by omega)]
        exact ih
    have zp : 0 < ((frI code).length : Int) := by omega
    have e0 : bits .and .u8 255 (rd (frI code) ((0 : Nat) : Int)) = rd (frI code) ((0 : Nat) : Int) := by
      rw [rd_fr, show (255 : Int) = iv 255 from rfl, bits_and]
      congr 1
      exact Sub.anti (fun i hi => by rw [BitVec.getLsbD_and, Bool.and_eq_true] at hi; exact hi.2) (sub_and_r.2 ⟨Sub.all _, Sub.refl _⟩)
    refine Ev.congr (fun k => if_pos rfl) (ev_bind (in_ev h hw) (Ev.congr (fun k => if_pos el) (Ev.congr (fun k => if_pos zp) (ev_bind (hmt 0 (Nat.zero_le _)) ?_))))
    refine ev_step (fun k => lockstitchlaw09_FreshMeets.j0.eq_2 ..) (Ev.congr (fun k => if_neg ?_) (L _ 0 (Nat.zero_add _)))
    rw [e0]
    simp
end
end Go.Proofs.YtkmkfiidlbhcgaaDoor.ZL

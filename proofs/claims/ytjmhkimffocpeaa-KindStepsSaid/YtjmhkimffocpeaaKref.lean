/-
  lockstitchref03.Reach: the walk.
-/
import Derived.Test.YtjmhkimffocpeaaKreach
namespace Go.Proofs.Ytjmhkimffocpeaa.KF
open Go.RowKit Go.Proofs.YtjmhkimffocpeaaW.PrintWords Go.Proofs.YtjmhkimffocpeaaW.PrintLast Go.Proofs.YtjmhkimffocpeaaW.PrintMore Go.Proofs.Ytjmhkimffocpeaa.Scan Go.Proofs.Ytjmhkimffocpeaa.K Go.Proofs.Ytjmhkimffocpeaa.KP Go.Proofs.Ytjmhkimffocpeaa.Srt Go.Proofs.Ytjmhkimffocpeaa.KR

/-- one field -/
noncomputable def uf (ts : List ByteArray) (k : Nat) (hs : List Bool) (f : Nat) : List Bool := if hs.getD k false = true ∧ 0 ≤ to_ ts k f then hs.set (to_ ts k f).toNat true else hs
noncomputable def ufs (ts : List ByteArray) (k : Nat) : Nat → List Bool → List Bool
  | 0, hs => hs
  | f + 1, hs => uf ts k (ufs ts k f hs) f
noncomputable def uks (ts : List ByteArray) : Nat → List Bool → List Bool
  | 0, hs => hs
  | k + 1, hs => ufs ts k (rdOf ByteArray.empty ts k).size (uks ts k hs)
noncomputable def rnd (ts : List ByteArray) (hs : List Bool) : Nat → List Bool
  | 0 => hs
  | i + 1 => uks ts ts.length (rnd ts hs i)
def outs (t : Int) (hs : List Bool) : Nat → List Int
  | 0 => [t]
  | i + 1 => if hs.getD i false = true ∧ (i : Int) ≠ t then outs t hs i ++ [(i : Int)] else outs t hs i
def start (t : Int) : List Bool := (List.replicate 8 false).set t.toNat true

theorem uf_len (ts : List ByteArray) (k : Nat) (hs : List Bool) (f : Nat) : (uf ts k hs f).length = hs.length := by
  unfold uf
  split <;> simp
theorem ufs_len (ts : List ByteArray) (k : Nat) (hs : List Bool) : ∀ f, (ufs ts k f hs).length = hs.length
  | 0 => rfl
  | f + 1 => by rw [ufs, uf_len, ufs_len]
theorem uks_len (ts : List ByteArray) (hs : List Bool) : ∀ k, (uks ts k hs).length = hs.length
  | 0 => rfl
  | k + 1 => by rw [uks, ufs_len, uks_len]
theorem rnd_len (ts : List ByteArray) (hs : List Bool) : ∀ i, (rnd ts hs i).length = hs.length
  | 0 => rfl
  | i + 1 => by rw [rnd, uks_len, rnd_len]
theorem start_len (t : Int) : (start t).length = 8 := by simp [start]
theorem outs_len (t : Int) (hs : List Bool) : ∀ i, (outs t hs i).length ≤ i + 1
  | 0 => by simp [outs]
  | i + 1 => by
    unfold outs
    have := outs_len t hs i
    split
    · rw [List.length_append, List.length_singleton]; omega
    · omega

/-- the block of had -/
def Had (w : World) (b : Nat) (hs : List Bool) : Prop := w.heap[b]? = some (.cells (hs.map Value.bool).toArray 41 (0, 0)) ∧ hs.length = 8
theorem Had.cell {w : World} {b : Nat} {hs : List Bool} (h : Had w b hs) (k : Nat) (hk : k < 8) : w.cell? ⟨b, k, none⟩ = some (.bool (hs.getD k false)) := by
  rw [blk_cell h.1 k, List.getElem?_toArray, List.getElem?_map, List.getElem?_eq_getElem (by rw [h.2]; exact hk), List.getD_eq_getElem?_getD, List.getElem?_eq_getElem (by rw [h.2]; exact hk)]
  rfl
theorem Had.free {w : World} {b : Nat} {hs : List Bool} (h : Had w b hs) (k : Nat) : w.frozen? ⟨b, k, none⟩ = false := blk_frozen h.1 k
theorem Had.set {w : World} {b : Nat} {hs : List Bool} (h : Had w b hs) (k : Nat) : Had (w.setCell ⟨b, k, none⟩ (.bool true)) b (hs.set k true) := by
  refine ⟨(blk_set h.1 k _).trans ?_, by simp [h.2]⟩
  congr 2
  apply Array.ext'
  simp [List.map_set]
theorem Had.move {w w1 : World} {b : Nat} {hs : List Bool} (h : Had w b hs) (hb : Below w.heap.size w w1) : Had w1 b hs := ⟨(hb.block b (blk_lt h.1)).trans h.1, h.2⟩
def noughts : Array Value := #[.bool false, .bool false, .bool false, .bool false, .bool false, .bool false, .bool false, .bool false]
theorem had_free (W : World) (cs : Array Value) (k : Nat) : (W.alloc (.cells cs 41)).frozen? ⟨W.heap.size, k, none⟩ = false := blk_frozen (heap_alloc_new W _) k
theorem had_cell (W : World) (k : Nat) (h : k < 8) : (W.alloc (.cells #[.bool false, .bool false, .bool false, .bool false, .bool false, .bool false, .bool false, .bool false] 41)).cell? ⟨W.heap.size, k, none⟩ = some (.bool false) := by
  rw [blk_cell (heap_alloc_new W _) k]
  have hk : k = 0 ∨ k = 1 ∨ k = 2 ∨ k = 3 ∨ k = 4 ∨ k = 5 ∨ k = 6 ∨ k = 7 := by omega
  rcases hk with rfl | rfl | rfl | rfl | rfl | rfl | rfl | rfl <;> rfl
theorem had_new (W : World) (k : Nat) : Had ((W.alloc (.cells #[.bool false, .bool false, .bool false, .bool false, .bool false, .bool false, .bool false, .bool false] 41)).setCell ⟨W.heap.size, k, none⟩ (.bool true)) W.heap.size (start k) :=
  Had.set (hs := List.replicate 8 false) ⟨heap_alloc_new W _, rfl⟩ k
theorem Had.lt {w : World} {b : Nat} {hs : List Bool} (h : Had w b hs) : b < w.heap.size := blk_lt h.1

section
variable (w : World) (A0 : Option Addr) (c0 : Nat) (ts : List ByteArray) (hr0 : Kd.C Kd.string w A0 ts.length ts) (hc0 : ts.length ≤ c0) (hs : ∀ s ∈ ts, (s.size : Int) ≤ 9223372036854775807)
include hr0 hc0 hs
theorem is_c (t : Int) (b : Bool) (hb : b = true ↔ Is ts t) : Calls Try.prog 29 #[.slice A0 ts.length c0, .int .i64 t] w fun e w' => e = .returned (.bool b) ∧ ∃ n, w' = w.drewN n := by
  classical
  obtain ⟨k, hk⟩ := ev_at (ref_is_ev ts (by have := Kd.C_max hr0; omega) hs t)
  have e : decide (Is ts t) = b := by
    cases b
    · exact decide_eq_false fun h => by have := hb.2 h; cases this
    · exact decide_eq_true (hb.1 rfl)
  rw [← e]
  exact (lockstitchref03_is.calls k A0 c0 ts t _ w hr0 hc0 hk).mono fun e w' ⟨h1, h2⟩ => ⟨h1, h2.out⟩
theorem rTo_c (t f : Int) : Calls Try.prog 21 #[.slice A0 ts.length c0, .int .i64 t, .int .i64 f] w fun e w' => e = .returned (.int .i64 (to_ ts t f)) ∧ ∃ n, w' = w.drewN n := by
  obtain ⟨k, hk⟩ := ev_at (ref_To_ev ts (by have := Kd.C_max hr0; omega) hs t f)
  exact (lockstitchref03_To.calls k A0 c0 ts t f _ w hr0 hc0 hk).mono fun e w' ⟨h1, h2⟩ => ⟨h1, h2.out⟩
end

set_option maxHeartbeats 1000000 in
set_option maxRecDepth 100000 in
theorem rReach_no (w : World) (A0 : Option Addr) (c0 : Nat) (ts : List ByteArray) (hr0 : Kd.C Kd.string w A0 ts.length ts) (hc0 : ts.length ≤ c0) (hs : ∀ s ∈ ts, (s.size : Int) ≤ 9223372036854775807) (t : Int) (hi : ¬ Is ts t) :
    Calls Try.prog 24 #[.slice A0 ts.length c0, .int .i64 t] w fun e w' => e = .returned (.slice none 0 0) ∧ ∃ n, w' = w.drewN n := by
  have H := Aside0.mk (is_c w A0 c0 ts hr0 hc0 hs t false ⟨fun h => (by cases h), fun h => absurd h hi⟩)
  clear hs hr0
  go_enter Try.func24, Try.ntmps24
  go_wp2_with (go_at_call 29; refine H.out.mono ?_; rintro e w' ⟨rfl, n, rfl⟩)
  go_ret
  exact ⟨rfl, _, rfl⟩

set_option maxHeartbeats 1000000 in
set_option maxRecDepth 100000 in
theorem rReach_yes (w : World) (A0 : Option Addr) (c0 : Nat) (ts : List ByteArray) (hr0 : Kd.C Kd.string w A0 ts.length ts) (hc0 : ts.length ≤ c0) (hs : ∀ s ∈ ts, (s.size : Int) ≤ 9223372036854775807) (t : Int) (hi : Is ts t) :
    Calls Try.prog 24 #[.slice A0 ts.length c0, .int .i64 t] w fun e w' => ∃ v, e = .returned v ∧
      w'.ownsRow w.heap.size 3 1 v (outs t (rnd ts (start t) ts.length) ts.length).length (nums .i64 (outs t (rnd ts (start t) ts.length) ts.length)) ∧ Below w.heap.size w w' := by
  have h8 : ts.length ≤ 8 := hi.1.2.2
  have H := Aside0.mk (is_c w A0 c0 ts hr0 hc0 hs t true ⟨fun _ => hi, fun _ => rfl⟩)
  have HR := Aside0.mk hr0
  have HS := Aside0.mk hs
  have HC := Aside0.mk hc0
  obtain ⟨tn, htn⟩ := Int.eq_ofNat_of_zero_le hi.2.1
  have ht1 : t < ts.length := hi.2.2
  subst htn
  have htn8 : tn < 8 := by omega
  have hf : ∀ n (cs : Array Value), ((w.drewN n).alloc (.cells cs 41)).frozen? ⟨w.heap.size, tn, none⟩ = false := fun n cs => had_free (w.drewN n) cs tn
  have hce : ∀ n, ((w.drewN n).alloc (.cells #[.bool false, .bool false, .bool false, .bool false, .bool false, .bool false, .bool false, .bool false] 41)).cell? ⟨w.heap.size, tn, none⟩ = some (.bool false) := fun n => had_cell (w.drewN n) tn htn8
  clear hs hr0 hc0
  obtain ⟨ad, ea, _⟩ := Kd.at_string HR.out 0 (by omega) (by omega)
  subst ea
  go_enter Try.func24, Try.ntmps24
  go_wp2_with (go_at_call 29; refine H.out.mono ?_; rintro e w' ⟨rfl, n, rfl⟩)
  clear hf hce H
  go_loopw [6] (fun v wr => ∃ i : Nat, v = .int .i64 i ∧ i ≤ ts.length ∧ Had wr w.heap.size (rnd ts (start tn) i) ∧ Below w.heap.size w wr) (fun v _ => ts.length - (intOf v).toNat)
  case atStart =>
    refine ⟨0, rfl, Nat.zero_le _, had_new (w.drewN n) tn, ?_⟩
    exact (below_alloc (pw_below_drewN (Below.refl _ _) n) _).setCell (Nat.le_refl _) _
  case round =>
    obtain ⟨i, rfl, hi', HO, HB⟩ := hrel
    have HO1 := Aside0.mk HO
    have HB1 := Aside0.mk HB
    clear HO HB
    by_cases hlt : i < ts.length
    · obtain ⟨w1, hw1⟩ : ∃ w1 : World, w1 = wr := ⟨_, rfl⟩
      subst hw1
      go_wp2_with fail
      go_loopw [7] (fun v wr => ∃ k : Nat, v = .int .i64 k ∧ k ≤ ts.length ∧ Had wr w.heap.size (uks ts k (rnd ts (start tn) i)) ∧ Below w.heap.size w wr) (fun v _ => ts.length - (intOf v).toNat)
      case atStart => exact ⟨0, rfl, Nat.zero_le _, HO1.out, HB1.out⟩
      case round =>
        obtain ⟨k, rfl, hk, HO, HB⟩ := hrel
        have HO2 := Aside0.mk HO
        have HB2 := Aside0.mk HB
        clear HO HB
        by_cases hkl : k < ts.length
        · obtain ⟨w2, hw2⟩ : ∃ w2 : World, w2 = wr := ⟨_, rfl⟩
          subst hw2
          have hsz := rd_size ts HS.out k
          go_wp2_with fail
          go_loopw [8] (fun v wr => ∃ f : Nat, v = .int .i64 f ∧ f ≤ (rdOf ByteArray.empty ts k).size ∧ Had wr w.heap.size (ufs ts k f (uks ts k (rnd ts (start tn) i))) ∧ Below w.heap.size w wr) (fun v _ => (rdOf ByteArray.empty ts k).size - (intOf v).toNat)
          case atStart => exact ⟨0, rfl, Nat.zero_le _, HO2.out, HB2.out⟩
          case round =>
            obtain ⟨f, rfl, hf, HO, HB⟩ := hrel
            have HO3 := Aside0.mk HO
            have HB3 := Aside0.mk HB
            obtain ⟨ad', e', hx⟩ := Kd.at_string (Kd.C_below HR.out HB) k (by omega) (by omega)
            have e'' : ad' = ad := by injection e' with e'; exact e'.symm
            subst e''
            clear HO HB e'
            rw [Int.toNat_natCast] at hx
            by_cases hfl : f < (rdOf ByteArray.empty ts k).size
            · have hT := Aside0.mk (rTo_c wr _ c0 ts (Kd.C_below HR.out HB3.out) HC.out HS.out k f)
              have hcell := HO3.out.cell k (by omega)
              obtain ⟨w3, hw3⟩ : ∃ w3 : World, w3 = wr := ⟨_, rfl⟩
              subst hw3
              cases hb : (ufs ts k f (uks ts k (rnd ts (start tn) i))).getD k false with
              | false =>
                rw [hb] at hcell
                have HBB := Aside0.mk hb
                clear hb
                go_wp2_with (go_at_call 21; refine hT.out.mono ?_; rintro e w' ⟨rfl, nn, rfl⟩)
                go_roundw
                case rel => exact ⟨f + 1, by go_num, by omega, by rw [ufs, uf, if_neg fun h => by rw [HBB.out] at h; cases h.1]; exact HO3.out.move (pw_below_drewN (Below.refl _ _) _), pw_below_drewN HB3.out _⟩
                case measure => simp [intOf]; omega
              | true =>
                rw [hb] at hcell
                have HBB := Aside0.mk hb
                clear hb
                by_cases h1 : 0 ≤ to_ ts k f
                · have h2 : to_ ts k f < 8 := by have := to_lt ts k f h1; omega
                  have hcell2 := HO3.out.cell (to_ ts k f).toNat (by omega)
                  have hfree2 := HO3.out.free (to_ ts k f).toNat
                  go_wp2_with (go_at_call 21; refine hT.out.mono ?_; rintro e w' ⟨rfl, nn, rfl⟩)
                  go_roundw
                  case rel => exact ⟨f + 1, by go_num, by omega, by rw [ufs, uf, if_pos ⟨HBB.out, h1⟩]; exact (HO3.out.set _).move (pw_below_drewN (Below.refl _ _) nn), (pw_below_drewN HB3.out nn).setCell (Nat.le_refl _) _⟩
                  case measure => simp [intOf]; omega
                · go_wp2_with (go_at_call 21; refine hT.out.mono ?_; rintro e w' ⟨rfl, nn, rfl⟩)
                  go_roundw
                  case rel => exact ⟨f + 1, by go_num, by omega, by rw [ufs, uf, if_neg fun h => absurd h.2 (by omega)]; exact HO3.out.move (pw_below_drewN (Below.refl _ _) _), pw_below_drewN HB3.out _⟩
                  case measure => simp [intOf]; omega
            · have HF := Aside0.mk (show f = (rdOf ByteArray.empty ts k).size by omega)
              go_wp2
              go_roundw
              case rel => exact ⟨k + 1, by go_num, by omega, by rw [uks, ← HF.out]; exact HO3.out, HB3.out⟩
              case measure => simp [intOf]; omega
        · have HK := Aside0.mk (show k = ts.length by omega)
          go_wp2
          go_roundw
          case rel => exact ⟨i + 1, by go_num, by omega, by rw [rnd, ← HK.out]; exact HO2.out, HB2.out⟩
          case measure => simp [intOf]; omega
    · have HI := Aside0.mk (show i = ts.length by omega)
      go_wp2_with fail
      go_loopw [10, 11] (fun v q wr => ∃ j : Nat, q = .int .i64 j ∧ j ≤ ts.length ∧ wr.ownsRow (w.heap.size + 1) 3 1 v (outs tn (rnd ts (start tn) ts.length) j).length (nums .i64 (outs tn (rnd ts (start tn) ts.length) j)) ∧ Had wr w.heap.size (rnd ts (start tn) ts.length) ∧ Below w.heap.size w wr) (fun _ q _ => ts.length - (intOf q).toNat)
      case atStart =>
        have hlt := HO1.out.lt
        have hb := below_alloc (Below.refl wr.heap.size wr) (.cells #[.int .i64 (tn : Int)] 3)
        refine ⟨0, rfl, Nat.zero_le _, own_lit wr (w.heap.size + 1) 3 .i64 [(tn : Int)] (by omega) (by simp), ?_, ?_⟩
        · rw [← HI.out]
          exact HO1.out.move hb
        · exact HB1.out.alloc HB1.out.size _
      case round =>
        obtain ⟨j, rfl, hj, HO, HH, HB⟩ := hrel
        have hlen := outs_len tn (rnd ts (start tn) ts.length) j
        have HO2 := Aside0.mk HO
        have HH2 := Aside0.mk HH
        have HB2 := Aside0.mk HB
        clear HO HH HB
        obtain ⟨w4, hw4⟩ : ∃ w4 : World, w4 = wr := ⟨_, rfl⟩
        subst hw4
        by_cases hjl : j < ts.length
        · have hcell := HH2.out.cell j (by omega)
          cases hb : (rnd ts (start tn) ts.length).getD j false with
          | false =>
            rw [hb] at hcell
            have HBB := Aside0.mk hb
            clear hb
            go_wp2
            go_roundw
            case rel => exact ⟨j + 1, by go_num, by omega, by rw [outs, if_neg fun h => by rw [HBB.out] at h; cases h.1]; exact HO2.out, HH2.out, HB2.out⟩
            case measure => simp [intOf]; omega
          | true =>
            rw [hb] at hcell
            have HBB := Aside0.mk hb
            clear hb
            by_cases hjt : (j : Int) = tn
            · have hb1 : ((j : Int) == (tn : Int)) = true := beq_iff_eq.2 hjt
              have hb2 : ((j : Int) != (tn : Int)) = false := bne_eq_false_iff_eq.2 hjt
              have HJ := Aside0.mk hjt
              clear hjt
              go_wp2
              go_roundw
              case rel => exact ⟨j + 1, by go_num, by omega, by rw [outs, if_neg fun h => h.2 HJ.out]; exact HO2.out, HH2.out, HB2.out⟩
              case measure => simp [intOf]; omega
            · have hb1 : ((j : Int) == (tn : Int)) = false := beq_eq_false_iff_ne.2 hjt
              have hb2 : ((j : Int) != (tn : Int)) = true := bne_iff_ne.2 hjt
              have HJ := Aside0.mk hjt
              clear hjt
              have hsz := HH2.out.lt
              go_wp2_with (at_builtin; refine print_append_num (w0 := w4) (w.heap.size + 1) rfl _ _ 32 3 .i64 8 rfl Try.underlying32 info_int (by decide) u10 (outs tn (rnd ts (start tn) ts.length) j) _ rfl rfl HO2.out (Below.refl _ _) (by omega) (by omega) ?_; intro v1 w1 hv1 _ hg1 _)
              have HV := Aside0.mk hv1
              have HG := Aside0.mk hg1
              clear hv1 hg1
              go_roundw
              case rel =>
                have hbase := own_base HO2.out
                refine ⟨j + 1, by go_num, by omega, by rw [outs, if_pos ⟨HBB.out, HJ.out⟩]; exact HV.out, ⟨(HG.out.block _ hsz fun e => ?_).trans HH2.out.1, HH2.out.2⟩, HB2.out.grown HG.out HB2.out.size fun q hq => by have := hbase q hq; omega⟩
                have := hbase _ e.symm
                omega
              case measure => simp [intOf]; omega
        · have HJ := Aside0.mk (show j = ts.length by omega)
          go_wp2
          go_ret
          refine ⟨_, rfl, ?_, HB2.out⟩
          have h := HO2.out
          have e : outs (tn : Int) (rnd ts (start tn) ts.length) ts.length = outs (tn : Int) (rnd ts (start tn) ts.length) j := by rw [← HJ.out]
          rw [e]
          refine ⟨h.1, h.2.imp id fun ⟨g, cap, cur, a, b, c⟩ => ⟨g, cap, cur, a, by omega, c⟩⟩
end Go.Proofs.Ytjmhkimffocpeaa.KF

/-
  kind.Reach: the walk.
-/
import Derived.Test.YtjmhkimffocpeaaKplain
import Derived.Test.YtjmhkimffocpeaaSort
namespace Go.Proofs.Ytjmhkimffocpeaa.KR
open Go.RowKit Go.Proofs.YtjmhkimffocpeaaW.PrintWords Go.Proofs.YtjmhkimffocpeaaW.PrintLast Go.Proofs.YtjmhkimffocpeaaW.PrintMore Go.Proofs.Ytjmhkimffocpeaa.Scan Go.Proofs.Ytjmhkimffocpeaa.K Go.Proofs.Ytjmhkimffocpeaa.KP Go.Proofs.Ytjmhkimffocpeaa.Srt

noncomputable def add (ts : List ByteArray) (x : Int) (xs : List Int) (k : Nat) : List Int := if 0 ≤ to_ ts x k ∧ to_ ts x k ∉ xs then xs ++ [to_ ts x k] else xs
noncomputable def row (ts : List ByteArray) (x : Int) : Nat → List Int → List Int
  | 0, xs => xs
  | k + 1, xs => add ts x (row ts x k xs) k
noncomputable def st (ts : List ByteArray) (t : Int) : Nat → List Int
  | 0 => [t]
  | i + 1 => if i < (st ts t i).length then row ts (rd (st ts t i) i) (typ ts (rd (st ts t i) i)).size (st ts t i) else st ts t i

def InN (n : Nat) (xs : List Int) : Prop := xs.Nodup ∧ ∀ x ∈ xs, 0 ≤ x ∧ x < n
theorem nodup_len (n : Nat) : ∀ l : List Int, l.Nodup → (∀ x ∈ l, 0 ≤ x ∧ x < n) → l.length ≤ n := by
  induction n with
  | zero =>
    intro l _ h
    cases l with
    | nil => exact Nat.le_refl _
    | cons a l => have := h a (List.mem_cons_self ..); omega
  | succ n ih =>
    intro l hd h
    by_cases hm : (n : Int) ∈ l
    · have h1 := ih (l.erase n) (hd.erase _) fun x hx => by
        have := h x (List.mem_of_mem_erase hx)
        have : x ≠ n := fun e => by rw [e] at hx; exact (List.Nodup.not_mem_erase hd) hx
        omega
      rw [List.length_erase_of_mem hm] at h1
      omega
    · have := ih l hd fun x hx => by
        have := h x hx
        have : x ≠ n := fun e => hm (e ▸ hx)
        omega
      omega
theorem InN.len {n : Nat} {xs : List Int} (h : InN n xs) : xs.length ≤ n := nodup_len n xs h.1 h.2
theorem to_lt (ts : List ByteArray) (x f : Int) (h : 0 ≤ to_ ts x f) : to_ ts x f < ts.length := by
  unfold to_ at *
  split at h
  · have := dg_lt _ _ h
    rename_i hh
    rw [if_pos hh]
    omega
  · omega
theorem InN.add {ts : List ByteArray} {xs : List Int} (h : InN ts.length xs) (x : Int) (k : Nat) : InN ts.length (add ts x xs k) := by
  unfold KR.add
  split
  · rename_i hh
    refine ⟨List.nodup_append.2 ⟨h.1, by simp, fun a ha b hb => ?_⟩, fun y hy => ?_⟩
    · rw [List.mem_singleton] at hb
      subst hb
      exact fun e => hh.2 (e ▸ ha)
    · rcases List.mem_append.1 hy with hy | hy
      · exact h.2 y hy
      · rw [List.mem_singleton] at hy
        subst hy
        exact ⟨hh.1, to_lt _ _ _ hh.1⟩
  · exact h
theorem InN.row {ts : List ByteArray} {xs : List Int} (h : InN ts.length xs) (x : Int) : ∀ k, InN ts.length (row ts x k xs)
  | 0 => h
  | k + 1 => (InN.row h x k).add x k
theorem InN.st {ts : List ByteArray} {t : Int} (h : Is ts t) : ∀ i, InN ts.length (st ts t i)
  | 0 => ⟨by simp [KR.st], fun x hx => by simp [KR.st] at hx; subst hx; exact ⟨h.2.1, h.2.2⟩⟩
  | i + 1 => by
    unfold KR.st
    split
    · exact (InN.st h i).row _ _
    · exact InN.st h i

/-- behind the first one all rise -/
def fin (xs : List Int) : List Int := xs.take 1 ++ sorted (xs.drop 1)
theorem fin_length (xs : List Int) : (fin xs).length = xs.length := by
  unfold fin
  rw [List.length_append, sorted_length, List.length_take, List.length_drop]
  omega

section
variable (w : World) (A0 : Option Addr) (c0 : Nat) (ts : List ByteArray) (hr0 : Kd.C Kd.string w A0 ts.length ts) (hc0 : ts.length ≤ c0) (hs : ∀ s ∈ ts, (s.size : Int) ≤ 9223372036854775807)
include hr0 hc0 hs
theorem of_c (t : Int) : Calls Try.prog 28 #[.slice A0 ts.length c0, .int .i64 t] w fun e w' => e = .returned (.string (typ ts t)) ∧ ∃ n, w' = w.drewN n := by
  obtain ⟨k, hk⟩ := ev_at (kind_of_ev ts (by have := Kd.C_max hr0; omega) hs t)
  exact (kind_of.calls k A0 c0 ts t _ w hr0 hc0 hk).mono fun e w' ⟨h1, h2⟩ => ⟨h1, h2.out⟩
theorem Size_c (t : Int) : Calls Try.prog 16 #[.slice A0 ts.length c0, .int .i64 t] w fun e w' => e = .returned (.int .i64 ((typ ts t).size : Int)) ∧ ∃ n, w' = w.drewN n := by
  obtain ⟨k, hk⟩ := ev_at (kind_Size_ev ts (by have := Kd.C_max hr0; omega) hs t)
  exact (kind_Size.calls k A0 c0 ts t _ w hr0 hc0 hk).mono fun e w' ⟨h1, h2⟩ => ⟨h1, h2.out⟩
theorem To_c (t f : Int) : Calls Try.prog 20 #[.slice A0 ts.length c0, .int .i64 t, .int .i64 f] w fun e w' => e = .returned (.int .i64 (to_ ts t f)) ∧ ∃ n, w' = w.drewN n := by
  obtain ⟨k, hk⟩ := ev_at (kind_To_ev ts (by have := Kd.C_max hr0; omega) hs t f)
  exact (kind_To.calls k A0 c0 ts t f _ w hr0 hc0 hk).mono fun e w' ⟨h1, h2⟩ => ⟨h1, h2.out⟩
end
theorem Contains_c (w : World) (A0 : Option Addr) (c0 : Nat) (xs : List Int) (x : Int) (hr0 : Kd.C (Kd.int .i64) w A0 xs.length xs) (hc0 : xs.length ≤ c0) :
    Calls Try.prog 30 #[.slice A0 xs.length c0, .int .i64 x] w fun e w' => e = .returned (.bool (decide (x ∈ xs))) ∧ ∃ n, w' = w.drewN n := by
  obtain ⟨k, hk⟩ := ev_at (Contains_ev xs x (by have := Kd.C_max hr0; omega))
  exact (slices_Contains_int_int.calls k A0 c0 xs x _ w hr0 hc0 hk).mono fun e w' ⟨h1, h2⟩ => ⟨h1, h2.out⟩

set_option maxHeartbeats 1000000 in
set_option maxRecDepth 100000 in
theorem Reach_no (w : World) (A0 : Option Addr) (c0 : Nat) (ts : List ByteArray) (hr0 : Kd.C Kd.string w A0 ts.length ts) (hc0 : ts.length ≤ c0) (hs : ∀ s ∈ ts, (s.size : Int) ≤ 9223372036854775807) (t : Int) (hi : ¬ Is ts t) :
    Calls Try.prog 23 #[.slice A0 ts.length c0, .int .i64 t] w fun e w' => e = .returned (.slice none 0 0) ∧ ∃ n, w' = w.drewN n := by
  have h := of_c w A0 c0 ts hr0 hc0 hs t
  rw [typ_not hi] at h
  have H := Aside0.mk h
  clear h hs hr0
  go_enter Try.func23, Try.ntmps23
  go_wp2_with (go_at_call 28; refine H.out.mono ?_; rintro e w' ⟨rfl, n, rfl⟩)
  go_ret
  exact ⟨rfl, _, rfl⟩

theorem own_C {w : World} {B e n c : Nat} {A : Option Addr} {xs : List Int} (h : w.ownsRow B e 1 (.slice A n c) n (nums .i64 xs)) : n = xs.length ∧ n ≤ c ∧ Kd.C (Kd.int .i64) w A xs.length xs := by
  have hl : n = xs.length := by have := h.1; simp [nums] at this; exact this.symm
  subst hl
  exact Kd.R_reads' (d := Kd.int .i64) (ok := fun _ => True) (Kd.R_of_own h fun _ _ => trivial)
theorem info_int : (Try.prog.info? 3).map (fun i => (i.zero, i.size, i.bytes)) = some (some (.int .i64 0), 1, 8) := by kernel_rfl
theorem st_pos {ts : List ByteArray} {t : Int} : ∀ i, 0 < (st ts t i).length := by
  have hrow : ∀ x k xs, 0 < xs.length → 0 < (row ts x k xs).length := by
    intro x k xs h
    induction k with
    | zero => exact h
    | succ k ih =>
      unfold row add
      split
      · simp
      · exact ih
  intro i
  induction i with
  | zero => simp [st]
  | succ i ih =>
    unfold st
    split
    · exact hrow _ _ _ ih
    · exact ih
theorem add_ext (ts : List ByteArray) (x : Int) (xs : List Int) (k : Nat) : ∃ ys, add ts x xs k = xs ++ ys := by
  unfold add
  split
  · exact ⟨_, rfl⟩
  · exact ⟨[], (List.append_nil _).symm⟩
theorem row_ext (ts : List ByteArray) (x : Int) (k : Nat) (xs : List Int) : ∃ ys, row ts x k xs = xs ++ ys := by
  induction k with
  | zero => exact ⟨[], (List.append_nil _).symm⟩
  | succ k ih =>
    obtain ⟨ys, h⟩ := ih
    obtain ⟨zs, h'⟩ := add_ext ts x (row ts x k xs) k
    exact ⟨ys ++ zs, by rw [row, h', h, List.append_assoc]⟩
theorem rd_append (xs ys : List Int) (i : Nat) (h : i < xs.length) : rd (xs ++ ys) i = rd xs i := by
  unfold rd
  rw [Int.toNat_natCast, List.getD_eq_getElem?_getD, List.getD_eq_getElem?_getD, List.getElem?_append_left h]
theorem rd_row (ts : List ByteArray) (x : Int) (k : Nat) (xs : List Int) (i : Nat) (h : i < xs.length) : rd (row ts x k xs) i = rd xs i := by
  obtain ⟨ys, e⟩ := row_ext ts x k xs
  rw [e, rd_append xs ys i h]
theorem row_len (ts : List ByteArray) (x : Int) (k : Nat) (xs : List Int) : xs.length ≤ (row ts x k xs).length := by
  obtain ⟨ys, e⟩ := row_ext ts x k xs
  rw [e, List.length_append]
  omega
theorem cells_of_own {w : World} {B e n g c : Nat} {xs : List Int} (h : w.ownsRow B e 1 (.slice (some ⟨g, 0, none⟩) n c) n (nums .i64 xs)) (k : Nat) (hk : k < n) : w.cell? ⟨g, k, none⟩ = some (.int .i64 (rd xs k)) := by
  have := (own_at h k (by omega) (by omega)).1
  simpa using this

set_option maxHeartbeats 1000000 in
set_option maxRecDepth 100000 in
theorem Reach_yes (w : World) (A0 : Option Addr) (c0 : Nat) (ts : List ByteArray) (hr0 : Kd.C Kd.string w A0 ts.length ts) (hc0 : ts.length ≤ c0) (hs : ∀ s ∈ ts, (s.size : Int) ≤ 9223372036854775807) (t : Int) (hi : Is ts t) :
    Calls Try.prog 23 #[.slice A0 ts.length c0, .int .i64 t] w fun e w' => ∃ v, e = .returned v ∧ (∃ k, k = (st ts t k).length ∧ w'.ownsRow w.heap.size 3 1 v (fin (st ts t k)).length (nums .i64 (fin (st ts t k)))) ∧ Below w.heap.size w w' := by
  have h := of_c w A0 c0 ts hr0 hc0 hs t
  have hne : ((typ ts t).toList == ([] : List UInt8)) = false := beq_eq_false_iff_ne.2 fun e => by
    have := (toList_nil _).1 e
    have := (typ_ok hi).1
    omega
  have h8 : ts.length ≤ 8 := hi.1.2.2
  have H := Aside0.mk h
  have HR := Aside0.mk hr0
  have HS := Aside0.mk hs
  have HC := Aside0.mk hc0
  have HN := Aside0.mk (InN.st hi)
  clear h hs hr0 hc0
  go_enter Try.func23, Try.ntmps23
  go_wp2_with (go_at_call 28; refine H.out.mono ?_; rintro e w' ⟨rfl, n, rfl⟩)
  clear hne H
  go_loopw [5, 6] (fun v i wr => ∃ k : Nat, i = .int .i64 k ∧ k ≤ (st ts t k).length ∧ wr.ownsRow w.heap.size 3 1 v (st ts t k).length (nums .i64 (st ts t k)) ∧ Below w.heap.size w wr) (fun _ i _ => ts.length - (intOf i).toNat)
  case atStart =>
    refine ⟨0, rfl, Nat.zero_le _, ?_, ?_⟩
    · exact pw_own_below (own_lit w w.heap.size 3 .i64 [t] (Nat.le_refl _) (by simp)) (pw_below_drewN (Below.refl _ _) n)
    · exact pw_below_drewN (below_alloc (Below.refl _ _) _) n
  case round =>
    obtain ⟨k, rfl, hk, HO, HB⟩ := hrel
    obtain ⟨g, cap, rfl, hgb, hgl⟩ := HO.form (st_pos k)
    have hm : (st ts t k).length ≤ 8 := Nat.le_trans (HN.out k).len h8
    have hmn : (st ts t k).length ≤ ts.length := (HN.out k).len
    by_cases hlt : k < (st ts t k).length
    · have hcell := cells_of_own HO k hlt
      have HO' := Aside0.mk HO
      have HB' := Aside0.mk HB
      have hS := Size_c wr A0 c0 ts (Kd.C_below HR.out HB) HC.out HS.out (rd (st ts t k) k)
      have HSz := Aside0.mk hS
      clear HO HB hS
      obtain ⟨wo, hwo⟩ : ∃ wo : World, wo = wr := ⟨_, rfl⟩
      subst hwo
      go_wp2_with (go_at_call 16; refine HSz.out.mono ?_; rintro e w' ⟨rfl, nn, rfl⟩)
      clear hcell HSz
      go_loopw [5, 27] (fun v q wr => ∃ j : Nat, q = .int .i64 j ∧ j ≤ (typ ts (rd (st ts t k) k)).size ∧ wr.ownsRow w.heap.size 3 1 v (row ts (rd (st ts t k) k) j (st ts t k)).length (nums .i64 (row ts (rd (st ts t k) k) j (st ts t k))) ∧ Below w.heap.size w wr) (fun _ q _ => (typ ts (rd (st ts t k) k)).size - (intOf q).toNat)
      case atStart => exact ⟨0, rfl, Nat.zero_le _, pw_own_below HO'.out (pw_below_drewN (Below.refl _ _) nn), pw_below_drewN HB'.out nn⟩
      case round =>
        obtain ⟨j, rfl, hj, HO, HB⟩ := hrel
        have hp : 0 < (row ts (rd (st ts t k) k) j (st ts t k)).length := Nat.lt_of_lt_of_le (st_pos k) (row_len ..)
        obtain ⟨g', cap', rfl, hgb', hgl'⟩ := HO.form hp
        have h6 := typ_le ts (rd (st ts t k) k)
        by_cases hjl : j < (typ ts (rd (st ts t k) k)).size
        · have hlt' : k < (row ts (rd (st ts t k) k) j (st ts t k)).length := Nat.lt_of_lt_of_le hlt (row_len ..)
          have hcell := cells_of_own HO k hlt'
          rw [rd_row _ _ _ _ _ hlt] at hcell
          have hT := Aside0.mk (To_c wr A0 c0 ts (Kd.C_below HR.out HB) HC.out HS.out (rd (st ts t k) k) j)
          have hrl : (row ts (rd (st ts t k) k) j (st ts t k)).length ≤ 8 := Nat.le_trans ((HN.out k).row _ j).len h8
          have hCc := Aside0.mk (own_C HO)
          have HO1 := Aside0.mk HO
          have HB1 := Aside0.mk HB
          clear HO HB
          obtain ⟨wi, hwi⟩ : ∃ wi : World, wi = wr := ⟨_, rfl⟩
          subst hwi
          by_cases h1 : 0 ≤ to_ ts (rd (st ts t k) k) j
          · by_cases h2 : to_ ts (rd (st ts t k) k) j ∈ row ts (rd (st ts t k) k) j (st ts t k)
            · go_wp2_with (first | (go_at_call 20; refine hT.out.mono ?_; rintro e w' ⟨rfl, nn, rfl⟩) | (go_at_call 30; refine (Contains_c _ _ _ _ _ (Kd.C_drewN hCc.out.2.2 _) hCc.out.2.1).mono ?_; rintro e w' ⟨rfl, nn2, rfl⟩))
              go_roundw
              case rel => exact ⟨j + 1, by go_num, by omega, by rw [row, add, if_neg fun h => h.2 h2]; exact pw_own_below HO1.out (pw_below_drewN (Below.refl _ _) _), pw_below_drewN HB1.out _⟩
              case measure => simp [intOf]; omega
            · go_wp2_with (first | (go_at_call 20; refine hT.out.mono ?_; rintro e w' ⟨rfl, nn, rfl⟩) | (go_at_call 30; refine (Contains_c _ _ _ _ _ (Kd.C_drewN hCc.out.2.2 _) hCc.out.2.1).mono ?_; rintro e w' ⟨rfl, nn2, rfl⟩) | (at_builtin; refine print_append_num (w0 := w) w.heap.size rfl _ _ 32 3 .i64 8 rfl Try.underlying32 info_int (by decide) _ (row ts (rd (st ts t k) k) j (st ts t k)) _ rfl rfl (pw_own_below HO1.out (pw_below_drewN (Below.refl _ _) _)) (pw_below_drewN HB1.out _) (HB1.out.size) (by omega) ?_; intro v1 w1 hv1 hb1 _ _))
              go_roundw
              case rel => exact ⟨j + 1, by go_num, by omega, by rw [row, add, if_pos ⟨h1, h2⟩]; exact hv1, hb1⟩
              case measure => simp [intOf]; omega
          · go_wp2_with (first | (go_at_call 20; refine hT.out.mono ?_; rintro e w' ⟨rfl, nn, rfl⟩))
            go_roundw
            case rel => exact ⟨j + 1, by go_num, by omega, by rw [row, add, if_neg fun h => absurd h.1 (by omega)]; exact pw_own_below HO1.out (pw_below_drewN (Below.refl _ _) _), pw_below_drewN HB1.out _⟩
            case measure => simp [intOf]; omega
        · have hjs : j = (typ ts (rd (st ts t k) k)).size := by omega
          have HO1 := Aside0.mk HO
          have HB1 := Aside0.mk HB
          have HJ := Aside0.mk hjs
          clear HO HB hjs
          go_wp2
          go_roundw
          case rel => exact ⟨k + 1, by go_num, by have := row_len ts (rd (st ts t k) k) (typ ts (rd (st ts t k) k)).size (st ts t k); rw [st, if_pos hlt]; omega, by rw [st, if_pos hlt, ← HJ.out]; exact HO1.out, HB1.out⟩
          case measure => simp [intOf]; omega
    · have hp := st_pos (ts := ts) (t := t) k
      have hkk : k = (st ts t k).length := by omega
      have HK := Aside0.mk hkk
      have hnc := (own_C HO).2.1
      have HO1 := Aside0.mk HO
      have HB1 := Aside0.mk HB
      clear HO HB hkk
      by_cases hcap : cap = 1
      · subst hcap
        have hl1 : (st ts t k).length = 1 := by omega
        have HL := Aside0.mk hl1
        clear hnc
        go_wp2_with (go_at_call 31; refine (Try.slices_Sort_int_none _ _ _).mono ?_; rintro e w' ⟨rfl, rfl⟩)
        go_ret
        refine ⟨_, rfl, ?_, HB1.out⟩
        have e : fin (st ts t k) = st ts t k := by
          unfold fin
          rw [List.take_of_length_le (by have := HL.out; omega), List.drop_eq_nil_of_le (by have := HL.out; omega)]
          have : sorted [] = [] := by simp [sorted]
          rw [this, List.append_nil]
        exact ⟨k, HK.out, by rw [e]; have h1 := HO1.out; rw [HL.out] at h1 ⊢; exact h1⟩
      · have hs1 := Aside0.mk (sort_seg wr w.heap.size g (st ts t k).length cap 1 (cap - 1) (st ts t k) HO1.out (by omega) (by omega))
        go_wp2_with (go_at_call 31; refine hs1.out.mono ?_; rintro e w' ⟨rfl, ho2, hg2⟩)
        go_ret
        exact ⟨_, rfl, ⟨k, HK.out, by rw [fin_length]; exact ho2⟩, HB1.out.grown hg2 HB1.out.size (fun q hq => by injection hq with hq; omega)⟩
end Go.Proofs.Ytjmhkimffocpeaa.KR

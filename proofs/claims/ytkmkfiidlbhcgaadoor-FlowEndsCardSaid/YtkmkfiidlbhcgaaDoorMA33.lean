/- Texts of this claim, pruned to what it needs and laid together by prune.py. -/
import Derived.Test.YtkmkfiidlbhcgaaDoorMA27
import Derived.Test.YtkmkfiidlbhcgaaDoorMA32
namespace Go.Proofs.YtkmkfiidlbhcgaaDoor.NX
open Go.RowKit Go.Proofs.YtkmkfiidlbhcgaaDoorW.PrintWords Go.Proofs.YtkmkfiidlbhcgaaDoorW.PrintLast Go.Proofs.YtkmkfiidlbhcgaaDoorW.PrintMore Go.Proofs.YtkmkfiidlbhcgaaDoor.F Go.Proofs.YtkmkfiidlbhcgaaDoor.Srt Go.Sort
theorem put_take (ys : List Int) (cur : Array Value) (h : ys.length ≤ cur.size) : (putCells (Value.int .i64) 0 ys.toArray cur).toList.take ys.length = nums .i64 ys := by
  apply List.ext_getElem?
  intro j
  rw [List.getElem?_take]
  by_cases hj : j < ys.length
  · rw [if_pos hj, Array.getElem?_toList, putCells, Array.getElem?_mapIdx, Array.getElem?_eq_getElem (by omega)]
    simp only [Option.map_some, nums, List.getElem?_map, List.size_toArray]
    rw [if_pos ⟨Nat.zero_le _, by omega⟩, List.getElem?_eq_getElem hj, Option.map_some]
    congr 2
    rw [getElem!_pos _ (j - 0) (by simpa using hj)]
    simp
  · rw [if_neg hj, List.getElem?_eq_none]
    simpa [nums] using hj
theorem compact_le (zs : List Int) : (Lib.compact zs).length ≤ zs.length := by
  unfold Lib.compact Lib.compactUpTo
  rw [List.length_map]
  exact Nat.le_trans (List.length_filter_le ..) (by simp)
theorem comp_own (w : World) (B g cap : Nat) (zs : List Int) (HO : w.ownsRow B 3 1 (.slice (some ⟨g, 0, none⟩) zs.length cap) zs.length (nums .i64 zs)) :
    Calls Tryd.prog 45 #[.slice (some ⟨g, 0, none⟩) zs.length cap] w fun e w' =>
      e = .returned (.slice (some ⟨g, 0, none⟩) (Lib.compact zs).length cap) ∧ w'.ownsRow B 3 1 (.slice (some ⟨g, 0, none⟩) (Lib.compact zs).length cap) (Lib.compact zs).length (nums .i64 (Lib.compact zs)) ∧ w.grownBy w' (some g) := by
  have hcl := compact_le zs
  rcases HO.2 with ⟨h, _⟩ | ⟨g', cap', cur, he, hB, hh, hnc, hcm, hcs, hct⟩
  · cases h
  · have e2 : g' = g := by injection he with e1; injection e1 with e1; injection e1 with e1; exact e1.symm
    have e3 : cap' = cap := by injection he with _ _ e3; exact e3.symm
    subst e2 e3
    rw [Nat.mul_one] at hcs hct
    have hget : ∀ j, j < zs.length → cur[j]? = some (.int .i64 (zs.getD j 0)) := by
      intro j hj
      have := congrArg (fun l => l[j]?) hct
      simp only [List.getElem?_take, hj, if_true, Array.getElem?_toList, nums, List.getElem?_map] at this
      rw [this, List.getElem?_eq_getElem (by omega), List.getD_eq_getElem?_getD, List.getElem?_eq_getElem (by omega)]
      rfl
    have hH : Holds (Value.int .i64) w g' 0 zs.toArray := by
      intro j hj
      have hj' : j < zs.length := by simpa using hj
      refine ⟨?_, by simp [World.frozen?, hh]⟩
      rw [cell_of_row w g' (0 + j) cur _ _ hh, hget (0 + j) (by omega)]
      congr 2
      rw [getElem!_pos _ j hj]
      simp only [List.getElem_toArray]
      rw [List.getD_eq_getElem?_getD, List.getElem?_eq_getElem (by omega)]
      simp
    have hmx : cap' ≤ maxLen := hcm
    unfold maxLen at hmx
    refine (Tryd.slices_Compact_int g' 0 cap' zs w hH (by omega) (by omega)).mono ?_
    rintro e w' ⟨rfl, q, rfl⟩
    have hb := seg_block w g' _ 0 q (Lib.compact zs ++ List.replicate (zs.length - (Lib.compact zs).length) 0).toArray #[] cur hh
    have hg := seg_grown w g' 0 q (Lib.compact zs ++ List.replicate (zs.length - (Lib.compact zs).length) 0).toArray #[]
    rw [grow_empty] at hb hg
    refine ⟨rfl, ⟨by simp [nums], .inr ⟨g', cap', _, rfl, hB, hb, by omega, hcm, ?_, ?_⟩⟩, hg⟩
    · simp [putCells, hcs]
    · have h := put_take (Lib.compact zs ++ List.replicate (zs.length - (Lib.compact zs).length) 0) cur (by simp; omega)
      have hlen : (Lib.compact zs ++ List.replicate (zs.length - (Lib.compact zs).length) (0 : Int)).length = zs.length := by simp; omega
      rw [hlen] at h
      have h2 := congrArg (List.take (Lib.compact zs).length) h
      rw [List.take_take, Nat.min_eq_left hcl] at h2
      rw [Nat.mul_one, h2]
      simp [nums]
theorem comp1 (x : Int) : Lib.compact [x] = [x] := by
  simp [Lib.compact, Lib.compactUpTo, Lib.keeps, List.range_succ]
theorem comp2 (x y : Int) : Lib.compact [x, y] = if x = y then [x] else [x, y] := by
  by_cases h : x = y
  · subst h
    simp [Lib.compact, Lib.compactUpTo, Lib.keeps, List.range_succ]
  · simp [Lib.compact, Lib.compactUpTo, Lib.keeps, List.range_succ, h, Ne.symm h]
theorem sorted2 (x y : Int) : sorted [x, y] = if x ≤ y then [x, y] else [y, x] := by
  have hp := sorted_perm [x, y]
  have hs := sorted_sorted [x, y]
  have hl := sorted_length [x, y]
  match hz : sorted [x, y], hl with
  | [a, b], _ =>
    rw [hz] at hp hs
    have hab : a ≤ b := by simpa using hs
    have h3 : a = x ∨ a = y := by
      have := (hp.mem_iff (a := a)).1 (by simp)
      simpa using this
    have hsum : a + b = x + y := by
      rcases h3 with rfl | rfl
      · have := List.perm_singleton.1 ((List.perm_cons a).1 hp)
        injection this with e
        omega
      · have := List.perm_singleton.1 ((List.perm_cons a).1 (hp.trans (List.Perm.swap ..)))
        injection this with e
        omega
    split
    · congr 1
      · omega
      · congr 1
        omega
    · congr 1
      · omega
      · congr 1
        omega
def nxt (code : List S36) (a : Int) : List Int :=
  if 0 ≤ a ∧ a < code.length then
    if (rd_T36 code a).f0 = 3 then [(rd_T36 code a).f4]
    else if (rd_T36 code a).f0 = 4 then if (rd_T36 code a).f4 < a + 1 then [(rd_T36 code a).f4, a + 1] else if (rd_T36 code a).f4 > a + 1 then [a + 1, (rd_T36 code a).f4] else [a + 1]
    else [a + 1]
  else []
theorem nxt_two (code : List S36) (a : Int) : (nxt code a).length ≤ 2 := by
  unfold nxt
  repeat' split
  all_goals simp
theorem comp_sort (x y : Int) : Lib.compact (sorted [x, y]) = if y < x then [y, x] else if y > x then [x, y] else [x] := by
  rw [sorted2]
  split
  · rw [comp2]
    repeat' split
    all_goals first | rfl | omega
  · rw [comp2]
    repeat' split
    all_goals first | rfl | omega
theorem lit1 (W : World) (B g : Nat) (x : Int) (hg : g = W.heap.size) (hB : B ≤ W.heap.size) : (W.alloc (.cells #[.int .i64 x] 3)).ownsRow B 3 1 (.slice (some ⟨g, 0, none⟩) [x].length 1) [x].length (nums .i64 [x]) := by
  subst hg
  exact own_lit W B 3 .i64 [x] hB (by simp)
theorem info_int : (Tryd.prog.info? 3).map (fun i => (i.zero, i.size, i.bytes)) = some (some (.int .i64 0), 1, 8) := by kernel_rfl
section
variable (w : World) (A0 : Option Addr) (c0 : Nat) (ts : List ByteArray) (la gl : ByteArray) (A3 : Option Addr) (c3 : Nat) (code : List S36) (hr3 : Kd.C k36 w A3 code.length code) (a : Int)
include hr3
omit hr3 in
set_option maxHeartbeats 1000000 in
set_option maxRecDepth 100000 in
theorem Next_out (h : ¬ (0 ≤ a ∧ a < code.length)) :
    Calls Tryd.prog 23 #[.agg #[.slice A0 ts.length c0, .string la, .string gl, .slice A3 code.length c3], .int .i64 a] w fun e w' => e = .returned (.slice none 0 0) ∧ Below w.heap.size w w' := by
  have HB := Aside0.mk (Below.refl w.heap.size w)
  by_cases h0 : a < 0
  · go_enter Tryd.func23, Tryd.ntmps23
    go_wp2
    go_ret
    exact ⟨rfl, below_alloc HB.out _⟩
  · have h1 : a ≥ (code.length : Int) := by omega
    go_enter Tryd.func23, Tryd.ntmps23
    go_wp2
    go_ret
    exact ⟨rfl, below_alloc HB.out _⟩
set_option maxHeartbeats 1000000 in
set_option maxRecDepth 100000 in
theorem Next_jump (h0 : 0 ≤ a) (h1 : a < code.length) (hop : (rd_T36 code a).f0 = 3) :
    Calls Tryd.prog 23 #[.agg #[.slice A0 ts.length c0, .string la, .string gl, .slice A3 code.length c3], .int .i64 a] w fun e w' => ∃ v, e = .returned v ∧ w'.ownsRow w.heap.size 3 1 v ([(rd_T36 code a).f4]).length (nums .i64 ([(rd_T36 code a).f4])) ∧ Below w.heap.size w w' := by
  have hmax := Kd.C_max hr3
  obtain ⟨an, rfl⟩ : ∃ n : Nat, a = n := ⟨a.toNat, by omega⟩
  obtain ⟨ad, ea, _⟩ := at_T36 hr3 an h0 h1
  subst ea
  obtain ⟨_, ea, y0, y1, y2, y3, y4⟩ := at_T36 (Kd.C_alloc (Kd.C_alloc hr3 (.cells #[.slice A0 ts.length c0, .string la, .string gl, .slice (some ad) code.length c3] 25)) (.cells #[.int .i64 ((an : Int) + 1)] 3)) an h0 h1
  cases ea
  rw [Int.toNat_natCast] at y0 y1 y2 y3 y4
  rw [hop] at y0
  have h0' : ¬ (an : Int) < 0 := by omega
  have h1' : ¬ (an : Int) ≥ code.length := by omega
  clear hr3
  go_enter Tryd.func23, Tryd.ntmps23
  go_wp2_with (go_at_call 45; refine (comp_own _ w.heap.size (w.heap.size + 1 + 1 + 1) 1 [(rd_T36 code an).f4] (lit1 _ _ _ _ (by simp) (by simp; omega))).mono ?_; rintro e w' ⟨rfl, ho, hg⟩; rw [comp1] at ho ⊢)
  go_ret
  refine ⟨_, rfl, ho, Below.grown (by repeat (first | exact Below.refl _ _ | refine below_alloc ?_ _)) hg (by simp; omega) ?_⟩
  intro k hk
  injection hk with hk
  omega
set_option maxHeartbeats 1000000 in
set_option maxRecDepth 100000 in
theorem Next_on (h0 : 0 ≤ a) (h1 : a < code.length) (hop : ¬ (rd_T36 code a).f0 = 3) (hop4 : ¬ (rd_T36 code a).f0 = 4) :
    Calls Tryd.prog 23 #[.agg #[.slice A0 ts.length c0, .string la, .string gl, .slice A3 code.length c3], .int .i64 a] w fun e w' => ∃ v, e = .returned v ∧ w'.ownsRow w.heap.size 3 1 v ([a + 1]).length (nums .i64 ([a + 1])) ∧ Below w.heap.size w w' := by
  have hmax := Kd.C_max hr3
  obtain ⟨an, rfl⟩ : ∃ n : Nat, a = n := ⟨a.toNat, by omega⟩
  obtain ⟨ad, ea, _⟩ := at_T36 hr3 an h0 h1
  subst ea
  obtain ⟨_, ea, y0, y1, y2, y3, y4⟩ := at_T36 (Kd.C_alloc (Kd.C_alloc hr3 (.cells #[.slice A0 ts.length c0, .string la, .string gl, .slice (some ad) code.length c3] 25)) (.cells #[.int .i64 ((an : Int) + 1)] 3)) an h0 h1
  cases ea
  rw [Int.toNat_natCast] at y0 y1 y2 y3 y4
  have h0' : ¬ (an : Int) < 0 := by omega
  have h1' : ¬ (an : Int) ≥ code.length := by omega
  clear hr3
  go_enter Tryd.func23, Tryd.ntmps23
  go_wp2_with (go_at_call 45; refine (comp_own _ w.heap.size (w.heap.size + 1) 1 [(an : Int) + 1] (pw_own_below (lit1 (w.alloc (.cells #[.slice A0 ts.length c0, .string la, .string gl, .slice (some ad) code.length c3] 25)) _ _ _ (by simp) (by simp)) (below_alloc (Below.refl _ _) _))).mono ?_; rintro e w' ⟨rfl, ho, hg⟩; rw [comp1] at ho ⊢)
  go_ret
  refine ⟨_, rfl, ho, Below.grown (by repeat (first | exact Below.refl _ _ | refine below_alloc ?_ _)) hg (by simp; omega) ?_⟩
  intro k hk
  injection hk with hk
  omega
set_option maxHeartbeats 1000000 in
set_option maxRecDepth 100000 in
theorem Next_zero (h0 : 0 ≤ a) (h1 : a < code.length) (hop : (rd_T36 code a).f0 = 4) :
    Calls Tryd.prog 23 #[.agg #[.slice A0 ts.length c0, .string la, .string gl, .slice A3 code.length c3], .int .i64 a] w fun e w' => ∃ v, e = .returned v ∧ w'.ownsRow w.heap.size 3 1 v (if (rd_T36 code a).f4 < a + 1 then [(rd_T36 code a).f4, a + 1] else if (rd_T36 code a).f4 > a + 1 then [a + 1, (rd_T36 code a).f4] else [a + 1]).length (nums .i64 (if (rd_T36 code a).f4 < a + 1 then [(rd_T36 code a).f4, a + 1] else if (rd_T36 code a).f4 > a + 1 then [a + 1, (rd_T36 code a).f4] else [a + 1])) ∧ Below w.heap.size w w' := by
  have hmax := Kd.C_max hr3
  obtain ⟨an, rfl⟩ : ∃ n : Nat, a = n := ⟨a.toNat, by omega⟩
  obtain ⟨ad, ea, _⟩ := at_T36 hr3 an h0 h1
  subst ea
  obtain ⟨_, ea, y0, y1, y2, y3, y4⟩ := at_T36 (Kd.C_alloc (Kd.C_alloc hr3 (.cells #[.slice A0 ts.length c0, .string la, .string gl, .slice (some ad) code.length c3] 25)) (.cells #[.int .i64 ((an : Int) + 1)] 3)) an h0 h1
  cases ea
  rw [Int.toNat_natCast] at y0 y1 y2 y3 y4
  rw [hop] at y0
  obtain ⟨x, hx⟩ : ∃ x, x = (rd_T36 code an).f4 := ⟨_, rfl⟩
  obtain ⟨p, q, hs⟩ : ∃ p q, sorted [(an : Int) + 1, x] = [p, q] := by
    rw [sorted2]
    split <;> exact ⟨_, _, rfl⟩
  have hc : Lib.compact [p, q] = if x < (an : Int) + 1 then [x, (an : Int) + 1] else if x > (an : Int) + 1 then [(an : Int) + 1, x] else [(an : Int) + 1] := by rw [← hs, comp_sort]
  rw [← hx] at y4 ⊢
  rw [← hc]
  have HS := Aside0.mk hs
  clear hs hc hx
  have h0' : ¬ (an : Int) < 0 := by omega
  have h1' : ¬ (an : Int) ≥ code.length := by omega
  clear hr3
  go_enter Tryd.func23, Tryd.ntmps23
  go_wp2_with (first
    | (at_builtin; refine print_append_num (w0 := w) w.heap.size rfl _ _ 31 3 .i64 8 rfl Tryd.underlying31 info_int (by decide) (.slice (some ⟨w.heap.size + 1, 0, none⟩) 1 1) [(an : Int) + 1] x rfl (by first | (go_simp; done) | (simp [go_sem]; done)) (pw_own_below (lit1 (w.alloc (.cells #[.slice A0 ts.length c0, .string la, .string gl, .slice (some ad) code.length c3] 25)) _ _ _ (by simp) (by simp)) (below_alloc (Below.refl _ _) _)) (by repeat (first | exact Below.refl _ _ | refine below_alloc ?_ _)) (by simp; omega) (by simp) ?_; intro v1 w1 hv1 hb1 hg1 _; obtain ⟨g1, cap1, e1, hgb, _⟩ := hv1.form (by simp); subst e1; have HV := Aside0.mk hv1; have HB1 := Aside0.mk hb1; clear hv1 hb1 hg1)
    | (go_at_call 44; refine (sort_seg w1 w.heap.size g1 2 cap1 0 cap1 [(an : Int) + 1, x] HV.out (by omega) (by decide)).mono ?_; rintro e w2 ⟨rfl, ho2, hg2⟩; have HO2 := Aside0.mk (show w2.ownsRow w.heap.size 3 1 (.slice (some ⟨g1, 0, none⟩) 2 cap1) 2 (nums .i64 [p, q]) by simpa [HS.out] using ho2); have HG2 := Aside0.mk hg2; clear ho2 hg2)
    | (go_at_call 45; refine (comp_own w2 w.heap.size g1 cap1 [p, q] HO2.out).mono ?_; rintro e w' ⟨rfl, ho, hg⟩))
  go_ret
  have hk : ∀ k, some g1 = some k → w.heap.size ≤ k := fun k hk => by injection hk with hk; omega
  exact ⟨_, rfl, ho, Below.grown (Below.grown HB1.out HG2.out HB1.out.size hk) hg (Nat.le_trans HB1.out.size HG2.out.size) hk⟩
end
end Go.Proofs.YtkmkfiidlbhcgaaDoor.NX

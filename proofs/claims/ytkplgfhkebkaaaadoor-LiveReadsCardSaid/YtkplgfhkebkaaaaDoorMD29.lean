/- Texts of this claim, pruned to what it needs and laid together by prune.py. -/
import Derived.Test.YtkplgfhkebkaaaaDoorMD1
import Derived.Test.YtkplgfhkebkaaaaDoorMD0
import Derived.Sort.OwnSortedInts
import Derived.Test.YtkplgfhkebkaaaaDoorMD25
import Derived.OneCell
import Derived.Test.YtkplgfhkebkaaaaDoorMD28
import Derived.Laws.BitsLemmas
namespace Go.Proofs.YtkplgfhkebkaaaaDoor.Srt
open Go.RowKit Go.Proofs.YtkplgfhkebkaaaaDoorW.PrintWords Go.Sort
def sorted (zs : List Int) : List Int := zs.mergeSort fun x y => decide (x ≤ y)
theorem sorted_length (zs : List Int) : (sorted zs).length = zs.length := List.length_mergeSort zs
theorem sorted_perm (zs : List Int) : (sorted zs).Perm zs := List.mergeSort_perm zs _
theorem sorted_sorted (zs : List Int) : (sorted zs).Pairwise (· ≤ ·) := by
  have h := List.pairwise_mergeSort (le := fun x y : Int => decide (x ≤ y)) (fun a b c h h' => by simp at *; omega) (fun a b => by simp; omega) zs
  exact h.imp fun h => by simpa using h
theorem seg_block (w : World) (g e m k : Nat) (d : Array Int) (os : Array Obj) (cur : Array Value) (h : w.heap[g]? = some (.cells cur e (0, 0))) :
    (grow (putRow (Value.int .i64) (Sort.ahead w k) g m d) os).heap[g]? = some (.cells (putCells (Value.int .i64) m d cur) e (0, 0)) := by
  have hg : g < w.heap.size := (Array.getElem?_eq_some_iff.1 h).1
  simp only [grow, putRow, mapBlock, Sort.ahead, Array.getElem?_append, Array.size_modify, hg, if_true, Array.getElem?_modify, h]
  rfl
theorem seg_other (w : World) (g m k : Nat) (d : Array Int) (os : Array Obj) (j : Nat) (hj : j < w.heap.size) (hne : j ≠ g) :
    (grow (putRow (Value.int .i64) (Sort.ahead w k) g m d) os).heap[j]? = w.heap[j]? := by
  simp only [grow, putRow, mapBlock, Sort.ahead, Array.getElem?_append, Array.size_modify, hj, if_true, Array.getElem?_modify]
  rw [if_neg (fun e => hne e.symm)]
theorem seg_grown (w : World) (g m k : Nat) (d : Array Int) (os : Array Obj) : w.grownBy (grow (putRow (Value.int .i64) (Sort.ahead w k) g m d) os) (some g) where
  os := rfl
  tape := rfl
  output := rfl
  size := by simp [grow, putRow, mapBlock, Sort.ahead]
  block := fun j hj hne => seg_other w g m k d os j hj fun e => hne (by rw [e])
theorem sort_seg (w : World) (B g n cap m c : Nat) (zs : List Int) (HO : w.ownsRow B 3 1 (.slice (some ⟨g, 0, none⟩) n cap) n (nums .i64 zs)) (hm : m ≤ n) (hn : n < 4611686018427387904) :
    Calls Tryd.prog 30 #[.slice (some ⟨g, m, none⟩) (n - m) c] w fun e w' =>
      e = .returned (.tuple #[]) ∧ w'.ownsRow B 3 1 (.slice (some ⟨g, 0, none⟩) n cap) n (nums .i64 (zs.take m ++ sorted (zs.drop m))) ∧ w.grownBy w' (some g) := by
  have hzl : zs.length = n := by have := HO.1; simpa [nums] using this
  have hl : (zs.drop m).length = n - m := by rw [List.length_drop, hzl]
  rcases HO.2 with ⟨h, _⟩ | ⟨g', cap', cur, he, hB, hh, hnc, hcm, hcs, hct⟩
  · cases h
  · have e2 : g' = g := by injection he with e1; injection e1 with e1; injection e1 with e1; exact e1.symm
    have e3 : cap' = cap := by injection he with _ _ e3; exact e3.symm
    subst e2 e3
    have hg : g' < w.heap.size := (Array.getElem?_eq_some_iff.1 hh).1
    rw [Nat.mul_one] at hcs hct
    have hget : ∀ j, j < n → cur[j]? = some (.int .i64 (zs.getD j 0)) := by
      intro j hj
      have := congrArg (fun l => l[j]?) hct
      simp only [List.getElem?_take, hj, if_true, Array.getElem?_toList, nums, List.getElem?_map] at this
      rw [this, List.getElem?_eq_getElem (by omega), List.getD_eq_getElem?_getD, List.getElem?_eq_getElem (by omega)]
      rfl
    have hH : Holds (Value.int .i64) w g' m (zs.drop m).toArray := by
      intro j hj
      have hj' : j < n - m := by simpa [hzl] using hj
      refine ⟨?_, by simp [World.frozen?, hh]⟩
      rw [cell_of_row w g' (m + j) cur _ _ hh, hget (m + j) (by omega)]
      congr 2
      rw [getElem!_pos _ j hj]
      simp only [List.getElem_toArray, List.getElem_drop]
      rw [List.getD_eq_getElem?_getD, List.getElem?_eq_getElem (by omega)]
      rfl
    rw [← hl]
    refine (Tryd.slices_Sort_int g' m c (zs.drop m) w hH hg (by omega)).mono ?_
    rintro e w' ⟨rfl, k, os, rfl⟩
    refine ⟨rfl, ⟨by simp [nums, hzl, sorted_length]; omega, .inr ⟨g', cap', _, rfl, hB, seg_block w g' _ m k _ os cur hh, hnc, hcm, ?_, ?_⟩⟩, seg_grown ..⟩
    · simp [putCells, hcs]
    · have hsl : (sorted (zs.drop m)).length = n - m := by rw [sorted_length, hl]
      apply List.ext_getElem?
      intro j
      rw [Nat.mul_one, List.getElem?_take]
      by_cases hj : j < n
      · rw [if_pos hj, Array.getElem?_toList, putCells, Array.getElem?_mapIdx, hget j hj]
        simp only [Option.map_some, nums, List.getElem?_map, List.size_toArray]
        have ht : (zs.take m).length = m := by rw [List.length_take, hzl]; omega
        by_cases hjm : m ≤ j
        · rw [List.getElem?_append_right (by omega), ht, List.getElem?_eq_getElem (by omega : j - m < (sorted (zs.drop m)).length), Option.map_some]
          rw [if_pos ⟨hjm, by show j < m + (sorted (zs.drop m)).length; omega⟩]
          congr 2
          rw [getElem!_pos _ (j - m) (by show j - m < (sorted (zs.drop m)).length; omega)]
          rfl
        · rw [if_neg (fun h => hjm h.1), List.getElem?_append_left (by omega), List.getElem?_take, if_pos (by omega), List.getElem?_eq_getElem (by omega), List.getD_eq_getElem?_getD, List.getElem?_eq_getElem (by omega)]
          rfl
      · rw [if_neg hj, List.getElem?_eq_none]
        simp [nums, hzl, hsl]
        omega
end Go.Proofs.YtkplgfhkebkaaaaDoor.Srt

namespace Go.Proofs.YtkplgfhkebkaaaaDoor.NX
open Go.RowKit Go.Proofs.YtkplgfhkebkaaaaDoorW.PrintWords Go.Proofs.YtkplgfhkebkaaaaDoorW.PrintLast Go.Proofs.YtkplgfhkebkaaaaDoorW.PrintMore Go.Proofs.YtkplgfhkebkaaaaDoor.F Go.Proofs.YtkplgfhkebkaaaaDoor.Srt Go.Sort
theorem put_take (ys : List Int) (cur : Array Value) (h : ys.length ≤ cur.size) : (putCells (Value.int .i64) 0 ys.toArray cur).toList.take ys.length = nums .i64 ys := by
  apply List.ext_getElem?
  intro j
  rw [List.getElem?_take]
  by_cases hj : j < ys.length
  · rw [if_pos hj, Array.getElem?_toList, putCells, Array.getElem?_mapIdx, Array.getElem?_eq_getElem (by omega)]
    simp only [Option.map_some, nums, List.getElem?_map, List.size_toArray]
    rw [if_pos ⟨Nat.zero_le _, by omega⟩, List.getElem?_eq_getElem hj, Option.map_some]
    congr 2
    rw [getElem!_pos _ (j - 0) (by simpa using hj)]
    simp
  · rw [if_neg hj, List.getElem?_eq_none]
    simpa [nums] using hj
theorem compact_le (zs : List Int) : (Lib.compact zs).length ≤ zs.length := by
  unfold Lib.compact Lib.compactUpTo
  rw [List.length_map]
  exact Nat.le_trans (List.length_filter_le ..) (by simp)
theorem comp_own (w : World) (B g cap : Nat) (zs : List Int) (HO : w.ownsRow B 3 1 (.slice (some ⟨g, 0, none⟩) zs.length cap) zs.length (nums .i64 zs)) :
    Calls Tryd.prog 31 #[.slice (some ⟨g, 0, none⟩) zs.length cap] w fun e w' =>
      e = .returned (.slice (some ⟨g, 0, none⟩) (Lib.compact zs).length cap) ∧ w'.ownsRow B 3 1 (.slice (some ⟨g, 0, none⟩) (Lib.compact zs).length cap) (Lib.compact zs).length (nums .i64 (Lib.compact zs)) ∧ w.grownBy w' (some g) := by
  have hcl := compact_le zs
  rcases HO.2 with ⟨h, _⟩ | ⟨g', cap', cur, he, hB, hh, hnc, hcm, hcs, hct⟩
  · cases h
  · have e2 : g' = g := by injection he with e1; injection e1 with e1; injection e1 with e1; exact e1.symm
    have e3 : cap' = cap := by injection he with _ _ e3; exact e3.symm
    subst e2 e3
    rw [Nat.mul_one] at hcs hct
    have hget : ∀ j, j < zs.length → cur[j]? = some (.int .i64 (zs.getD j 0)) := by
      intro j hj
      have := congrArg (fun l => l[j]?) hct
      simp only [List.getElem?_take, hj, if_true, Array.getElem?_toList, nums, List.getElem?_map] at this
      rw [this, List.getElem?_eq_getElem (by omega), List.getD_eq_getElem?_getD, List.getElem?_eq_getElem (by omega)]
      rfl
    have hH : Holds (Value.int .i64) w g' 0 zs.toArray := by
      intro j hj
      have hj' : j < zs.length := by simpa using hj
      refine ⟨?_, by simp [World.frozen?, hh]⟩
      rw [cell_of_row w g' (0 + j) cur _ _ hh, hget (0 + j) (by omega)]
      congr 2
      rw [getElem!_pos _ j hj]
      simp only [List.getElem_toArray]
      rw [List.getD_eq_getElem?_getD, List.getElem?_eq_getElem (by omega)]
      simp
    have hmx : cap' ≤ maxLen := hcm
    unfold maxLen at hmx
    refine (Tryd.slices_Compact_int g' 0 cap' zs w hH (by omega) (by omega)).mono ?_
    rintro e w' ⟨rfl, q, rfl⟩
    have hb := seg_block w g' _ 0 q (Lib.compact zs ++ List.replicate (zs.length - (Lib.compact zs).length) 0).toArray #[] cur hh
    have hg := seg_grown w g' 0 q (Lib.compact zs ++ List.replicate (zs.length - (Lib.compact zs).length) 0).toArray #[]
    rw [grow_empty] at hb hg
    refine ⟨rfl, ⟨by simp [nums], .inr ⟨g', cap', _, rfl, hB, hb, by omega, hcm, ?_, ?_⟩⟩, hg⟩
    · simp [putCells, hcs]
    · have h := put_take (Lib.compact zs ++ List.replicate (zs.length - (Lib.compact zs).length) 0) cur (by simp; omega)
      have hlen : (Lib.compact zs ++ List.replicate (zs.length - (Lib.compact zs).length) (0 : Int)).length = zs.length := by simp; omega
      rw [hlen] at h
      have h2 := congrArg (List.take (Lib.compact zs).length) h
      rw [List.take_take, Nat.min_eq_left hcl] at h2
      rw [Nat.mul_one, h2]
      simp [nums]
theorem comp1 (x : Int) : Lib.compact [x] = [x] := by
  simp [Lib.compact, Lib.compactUpTo, Lib.keeps, List.range_succ]
theorem comp2 (x y : Int) : Lib.compact [x, y] = if x = y then [x] else [x, y] := by
  by_cases h : x = y
  · subst h
    simp [Lib.compact, Lib.compactUpTo, Lib.keeps, List.range_succ]
  · simp [Lib.compact, Lib.compactUpTo, Lib.keeps, List.range_succ, h, Ne.symm h]
theorem sorted2 (x y : Int) : sorted [x, y] = if x ≤ y then [x, y] else [y, x] := by
  have hp := sorted_perm [x, y]
  have hs := sorted_sorted [x, y]
  have hl := sorted_length [x, y]
  match hz : sorted [x, y], hl with
  | [a, b], _ =>
    rw [hz] at hp hs
    have hab : a ≤ b := by simpa using hs
    have h3 : a = x ∨ a = y := by
      have := (hp.mem_iff (a := a)).1 (by simp)
      simpa using this
    have hsum : a + b = x + y := by
      rcases h3 with rfl | rfl
      · have := List.perm_singleton.1 ((List.perm_cons a).1 hp)
        injection this with e
        omega
      · have := List.perm_singleton.1 ((List.perm_cons a).1 (hp.trans (List.Perm.swap ..)))
        injection this with e
        omega
    split
    · congr 1
      · omega
      · congr 1
        omega
    · congr 1
      · omega
      · congr 1
        omega
def nxt (code : List S47) (a : Int) : List Int :=
  if 0 ≤ a ∧ a < code.length then
    if (rd_T47 code a).f0 = 3 then [(rd_T47 code a).f4]
    else if (rd_T47 code a).f0 = 4 then if (rd_T47 code a).f4 < a + 1 then [(rd_T47 code a).f4, a + 1] else if (rd_T47 code a).f4 > a + 1 then [a + 1, (rd_T47 code a).f4] else [a + 1]
    else [a + 1]
  else []
theorem nxt_two (code : List S47) (a : Int) : (nxt code a).length ≤ 2 := by
  unfold nxt
  repeat' split
  all_goals simp
theorem comp_sort (x y : Int) : Lib.compact (sorted [x, y]) = if y < x then [y, x] else if y > x then [x, y] else [x] := by
  rw [sorted2]
  split
  · rw [comp2]
    repeat' split
    all_goals first | rfl | omega
  · rw [comp2]
    repeat' split
    all_goals first | rfl | omega
theorem lit1 (W : World) (B g : Nat) (x : Int) (hg : g = W.heap.size) (hB : B ≤ W.heap.size) : (W.alloc (.cells #[.int .i64 x] 3)).ownsRow B 3 1 (.slice (some ⟨g, 0, none⟩) [x].length 1) [x].length (nums .i64 [x]) := by
  subst hg
  exact own_lit W B 3 .i64 [x] hB (by simp)
theorem info_int : (Tryd.prog.info? 3).map (fun i => (i.zero, i.size, i.bytes)) = some (some (.int .i64 0), 1, 8) := by kernel_rfl
section
variable (w : World) (A0 : Option Addr) (c0 : Nat) (ts : List ByteArray) (la gl : ByteArray) (A3 : Option Addr) (c3 : Nat) (code : List S47) (hr3 : Kd.C k47 w A3 code.length code) (a : Int)
include hr3
omit hr3 in
set_option maxHeartbeats 1000000 in
set_option maxRecDepth 100000 in
theorem Next_out (h : ¬ (0 ≤ a ∧ a < code.length)) :
    Calls Tryd.prog 13 #[.agg #[.slice A0 ts.length c0, .string la, .string gl, .slice A3 code.length c3], .int .i64 a] w fun e w' => e = .returned (.slice none 0 0) ∧ Below w.heap.size w w' := by
  have HB := Aside0.mk (Below.refl w.heap.size w)
  by_cases h0 : a < 0
  · go_enter Tryd.func13, Tryd.ntmps13
    go_wp2
    go_ret
    exact ⟨rfl, below_alloc HB.out _⟩
  · have h1 : a ≥ (code.length : Int) := by omega
    go_enter Tryd.func13, Tryd.ntmps13
    go_wp2
    go_ret
    exact ⟨rfl, below_alloc HB.out _⟩
set_option maxHeartbeats 1000000 in
set_option maxRecDepth 100000 in
theorem Next_jump (h0 : 0 ≤ a) (h1 : a < code.length) (hop : (rd_T47 code a).f0 = 3) :
    Calls Tryd.prog 13 #[.agg #[.slice A0 ts.length c0, .string la, .string gl, .slice A3 code.length c3], .int .i64 a] w fun e w' => ∃ v, e = .returned v ∧ w'.ownsRow w.heap.size 3 1 v ([(rd_T47 code a).f4]).length (nums .i64 ([(rd_T47 code a).f4])) ∧ Below w.heap.size w w' := by
  have hmax := Kd.C_max hr3
  obtain ⟨an, rfl⟩ : ∃ n : Nat, a = n := ⟨a.toNat, by omega⟩
  obtain ⟨ad, ea, _⟩ := at_T47 hr3 an h0 h1
  subst ea
  obtain ⟨_, ea, y0, y1, y2, y3, y4⟩ := at_T47 (Kd.C_alloc (Kd.C_alloc hr3 (.cells #[.slice A0 ts.length c0, .string la, .string gl, .slice (some ad) code.length c3] 25)) (.cells #[.int .i64 ((an : Int) + 1)] 3)) an h0 h1
  cases ea
  rw [Int.toNat_natCast] at y0 y1 y2 y3 y4
  rw [hop] at y0
  have h0' : ¬ (an : Int) < 0 := by omega
  have h1' : ¬ (an : Int) ≥ code.length := by omega
  clear hr3
  go_enter Tryd.func13, Tryd.ntmps13
  go_wp2_with (go_at_call 31; refine (comp_own _ w.heap.size (w.heap.size + 1 + 1 + 1) 1 [(rd_T47 code an).f4] (lit1 _ _ _ _ (by simp) (by simp; omega))).mono ?_; rintro e w' ⟨rfl, ho, hg⟩; rw [comp1] at ho ⊢)
  go_ret
  refine ⟨_, rfl, ho, Below.grown (by repeat (first | exact Below.refl _ _ | refine below_alloc ?_ _)) hg (by simp; omega) ?_⟩
  intro k hk
  injection hk with hk
  omega
set_option maxHeartbeats 1000000 in
set_option maxRecDepth 100000 in
theorem Next_on (h0 : 0 ≤ a) (h1 : a < code.length) (hop : ¬ (rd_T47 code a).f0 = 3) (hop4 : ¬ (rd_T47 code a).f0 = 4) :
    Calls Tryd.prog 13 #[.agg #[.slice A0 ts.length c0, .string la, .string gl, .slice A3 code.length c3], .int .i64 a] w fun e w' => ∃ v, e = .returned v ∧ w'.ownsRow w.heap.size 3 1 v ([a + 1]).length (nums .i64 ([a + 1])) ∧ Below w.heap.size w w' := by
  have hmax := Kd.C_max hr3
  obtain ⟨an, rfl⟩ : ∃ n : Nat, a = n := ⟨a.toNat, by omega⟩
  obtain ⟨ad, ea, _⟩ := at_T47 hr3 an h0 h1
  subst ea
  obtain ⟨_, ea, y0, y1, y2, y3, y4⟩ := at_T47 (Kd.C_alloc (Kd.C_alloc hr3 (.cells #[.slice A0 ts.length c0, .string la, .string gl, .slice (some ad) code.length c3] 25)) (.cells #[.int .i64 ((an : Int) + 1)] 3)) an h0 h1
  cases ea
  rw [Int.toNat_natCast] at y0 y1 y2 y3 y4
  have h0' : ¬ (an : Int) < 0 := by omega
  have h1' : ¬ (an : Int) ≥ code.length := by omega
  clear hr3
  go_enter Tryd.func13, Tryd.ntmps13
  go_wp2_with (go_at_call 31; refine (comp_own _ w.heap.size (w.heap.size + 1) 1 [(an : Int) + 1] (pw_own_below (lit1 (w.alloc (.cells #[.slice A0 ts.length c0, .string la, .string gl, .slice (some ad) code.length c3] 25)) _ _ _ (by simp) (by simp)) (below_alloc (Below.refl _ _) _))).mono ?_; rintro e w' ⟨rfl, ho, hg⟩; rw [comp1] at ho ⊢)
  go_ret
  refine ⟨_, rfl, ho, Below.grown (by repeat (first | exact Below.refl _ _ | refine below_alloc ?_ _)) hg (by simp; omega) ?_⟩
  intro k hk
  injection hk with hk
  omega
set_option maxHeartbeats 1000000 in
set_option maxRecDepth 100000 in
theorem Next_zero (h0 : 0 ≤ a) (h1 : a < code.length) (hop : (rd_T47 code a).f0 = 4) :
    Calls Tryd.prog 13 #[.agg #[.slice A0 ts.length c0, .string la, .string gl, .slice A3 code.length c3], .int .i64 a] w fun e w' => ∃ v, e = .returned v ∧ w'.ownsRow w.heap.size 3 1 v (if (rd_T47 code a).f4 < a + 1 then [(rd_T47 code a).f4, a + 1] else if (rd_T47 code a).f4 > a + 1 then [a + 1, (rd_T47 code a).f4] else [a + 1]).length (nums .i64 (if (rd_T47 code a).f4 < a + 1 then [(rd_T47 code a).f4, a + 1] else if (rd_T47 code a).f4 > a + 1 then [a + 1, (rd_T47 code a).f4] else [a + 1])) ∧ Below w.heap.size w w' := by
  have hmax := Kd.C_max hr3
  obtain ⟨an, rfl⟩ : ∃ n : Nat, a = n := ⟨a.toNat, by omega⟩
  obtain ⟨ad, ea, _⟩ := at_T47 hr3 an h0 h1
  subst ea
  obtain ⟨_, ea, y0, y1, y2, y3, y4⟩ := at_T47 (Kd.C_alloc (Kd.C_alloc hr3 (.cells #[.slice A0 ts.length c0, .string la, .string gl, .slice (some ad) code.length c3] 25)) (.cells #[.int .i64 ((an : Int) + 1)] 3)) an h0 h1
  cases ea
  rw [Int.toNat_natCast] at y0 y1 y2 y3 y4
  rw [hop] at y0
  obtain ⟨x, hx⟩ : ∃ x, x = (rd_T47 code an).f4 := ⟨_, rfl⟩
  obtain ⟨p, q, hs⟩ : ∃ p q, sorted [(an : Int) + 1, x] = [p, q] := by
    rw [sorted2]
    split <;> exact ⟨_, _, rfl⟩
  have hc : Lib.compact [p, q] = if x < (an : Int) + 1 then [x, (an : Int) + 1] else if x > (an : Int) + 1 then [(an : Int) + 1, x] else [(an : Int) + 1] := by rw [← hs, comp_sort]
  rw [← hx] at y4 ⊢
  rw [← hc]
  have HS := Aside0.mk hs
  clear hs hc hx
  have h0' : ¬ (an : Int) < 0 := by omega
  have h1' : ¬ (an : Int) ≥ code.length := by omega
  clear hr3
  go_enter Tryd.func13, Tryd.ntmps13
  go_wp2_with (first
    | (at_builtin; refine print_append_num (w0 := w) w.heap.size rfl _ _ 39 3 .i64 8 rfl Tryd.underlying39 info_int (by decide) (.slice (some ⟨w.heap.size + 1, 0, none⟩) 1 1) [(an : Int) + 1] x rfl (by first | (go_simp; done) | (simp [go_sem]; done)) (pw_own_below (lit1 (w.alloc (.cells #[.slice A0 ts.length c0, .string la, .string gl, .slice (some ad) code.length c3] 25)) _ _ _ (by simp) (by simp)) (below_alloc (Below.refl _ _) _)) (by repeat (first | exact Below.refl _ _ | refine below_alloc ?_ _)) (by simp; omega) (by simp) ?_; intro v1 w1 hv1 hb1 hg1 _; obtain ⟨g1, cap1, e1, hgb, _⟩ := hv1.form (by simp); subst e1; have HV := Aside0.mk hv1; have HB1 := Aside0.mk hb1; clear hv1 hb1 hg1)
    | (go_at_call 30; refine (sort_seg w1 w.heap.size g1 2 cap1 0 cap1 [(an : Int) + 1, x] HV.out (by omega) (by decide)).mono ?_; rintro e w2 ⟨rfl, ho2, hg2⟩; have HO2 := Aside0.mk (show w2.ownsRow w.heap.size 3 1 (.slice (some ⟨g1, 0, none⟩) 2 cap1) 2 (nums .i64 [p, q]) by simpa [HS.out] using ho2); have HG2 := Aside0.mk hg2; clear ho2 hg2)
    | (go_at_call 31; refine (comp_own w2 w.heap.size g1 cap1 [p, q] HO2.out).mono ?_; rintro e w' ⟨rfl, ho, hg⟩))
  go_ret
  have hk : ∀ k, some g1 = some k → w.heap.size ≤ k := fun k hk => by injection hk with hk; omega
  exact ⟨_, rfl, ho, Below.grown (Below.grown HB1.out HG2.out HB1.out.size hk) hg (Nat.le_trans HB1.out.size HG2.out.size) hk⟩
end
end Go.Proofs.YtkplgfhkebkaaaaDoor.NX

namespace Go.Proofs.YtkplgfhkebkaaaaDoor.FP
theorem iter_fix {α : Type} (f : α → α) (m : α → Nat) (it : Nat → α) (hit : ∀ i, it (i + 1) = f (it i)) (M : Nat) (hM : ∀ i, m (it i) ≤ M)
    (hm : ∀ i, f (it i) = it i ∨ m (it i) < m (f (it i))) : ∀ i, M ≤ m (it 0) + i → f (it i) = it i := by
  have key : ∀ i, f (it i) = it i ∨ m (it 0) + i ≤ m (it i) ∧ m (it i) < m (f (it i)) := by
    intro i
    induction i with
    | zero =>
      rcases hm 0 with h | h
      · exact .inl h
      · exact .inr ⟨Nat.le_refl _, h⟩
    | succ i ih =>
      rcases ih with h | ⟨h1, h2⟩
      · left
        rw [hit, h, h]
      · rcases hm (i + 1) with h | h
        · exact .inl h
        · refine .inr ⟨?_, h⟩
          rw [hit]
          omega
  intro i hi
  rcases key i with h | ⟨h1, h2⟩
  · exact h
  · have := hM (i + 1)
    rw [hit] at this
    omega
def LE (a b : List Bool) : Prop := a.length = b.length ∧ ∀ i, a.getD i false = true → b.getD i false = true
theorem LE.refl (a : List Bool) : LE a a := ⟨rfl, fun _ h => h⟩
theorem LE.trans {a b c : List Bool} (h : LE a b) (k : LE b c) : LE a c := ⟨h.1.trans k.1, fun i hi => k.2 i (h.2 i hi)⟩
theorem LE.anti {a b : List Bool} (h : LE a b) (k : LE b a) : a = b := by
  apply List.ext_getElem h.1
  intro i h1 h2
  have e1 : a.getD i false = a[i] := by rw [List.getD_eq_getElem?_getD, List.getElem?_eq_getElem h1]; rfl
  have e2 : b.getD i false = b[i] := by rw [List.getD_eq_getElem?_getD, List.getElem?_eq_getElem h2]; rfl
  have p := h.2 i
  have q := k.2 i
  rw [e1, e2] at p q
  rw [Bool.eq_iff_iff]
  exact ⟨p, q⟩
theorem getD_set (a : List Bool) (n i : Nat) : (a.set n true).getD i false = true ↔ a.getD i false = true ∨ (i = n ∧ n < a.length) := by
  rw [List.getD_eq_getElem?_getD, List.getD_eq_getElem?_getD, List.getElem?_set]
  by_cases h : n = i
  · subst h
    by_cases hl : n < a.length
    · simp [hl]
    · simp [hl]
  · rw [if_neg h]
    exact ⟨.inl, fun h' => h'.elim id fun ⟨e, _⟩ => absurd e.symm h⟩
theorem LE.set (a : List Bool) (n : Nat) : LE a (a.set n true) := ⟨by simp, fun i h => (getD_set a n i).2 (.inl h)⟩
def cnt (a : List Bool) : Nat := a.countP id
theorem cnt_le : ∀ {a b : List Bool}, LE a b → cnt a ≤ cnt b ∧ (a ≠ b → cnt a < cnt b) := by
  intro a
  induction a with
  | nil =>
    intro b h
    have : b = [] := List.length_eq_zero_iff.1 h.1.symm
    subst this
    exact ⟨Nat.le_refl _, fun h => absurd rfl h⟩
  | cons x a ih =>
    intro b h
    cases b with
    | nil => cases h.1
    | cons y b =>
      have ht : LE a b := ⟨by have := h.1; simpa using this, fun i hi => by have := h.2 (i + 1); simpa using this hi⟩
      have h0 : x = true → y = true := by have := h.2 0; simpa using this
      obtain ⟨i1, i2⟩ := ih ht
      unfold cnt at *
      rw [List.countP_cons, List.countP_cons]
      cases x <;> cases y
      · refine ⟨by omega, fun hne => ?_⟩
        have := i2 fun e => hne (by rw [e])
        omega
      · refine ⟨by simp; omega, fun _ => by simp; omega⟩
      · exact absurd (h0 rfl) (by decide)
      · refine ⟨by omega, fun hne => ?_⟩
        have := i2 fun e => hne (by rw [e])
        omega
theorem cnt_len (a : List Bool) : cnt a ≤ a.length := List.countP_le_length ..
inductive RN (nx : Int → List Int) (a : Int) : Int → Prop where
  | base {b : Int} : b ∈ nx a → RN nx a b
  | step {b c : Int} : RN nx a b → c ∈ nx b → RN nx a c
def InR (nx : Int → List Int) (M : Nat) : Prop := ∀ k, ∀ m ∈ nx k, 0 ≤ m ∧ m < M
open Classical in
noncomputable def rch (nx : Int → List Int) (M : Nat) (a : Int) : List Bool := (List.range M).map fun (i : Nat) => decide (RN nx a i)
structure WL (nx : Int → List Int) (M : Nat) (a : Int) (had : List Bool) (todo : List Int) : Prop where
  len : had.length = M
  sound : ∀ i : Nat, had.getD i false = true → RN nx a i
  todos : ∀ k ∈ todo, RN nx a k
  next : ∀ m ∈ nx a, m ∈ todo ∨ had.getD m.toNat false = true
  closed : ∀ i : Nat, had.getD i false = true → ∀ m ∈ nx i, m ∈ todo ∨ had.getD m.toNat false = true
section
variable {nx : Int → List Int} {M : Nat} {a : Int} {had : List Bool} {todo : List Int} {k : Int}
def left_ (had : List Bool) (todo : List Int) : Nat := 3 * (had.length - cnt had) + todo.length
end
def upd (a k : Int) (had : List Bool) (n : Int) : List Bool := if k = a ∨ had.getD k.toNat false = true then had.set n.toNat true else had
def js (nx : Int → List Int) (a k : Int) (had : List Bool) (j : Nat) : List Bool := ((nx k).take j).foldl (upd a k) had
def ks (nx : Int → List Int) (a : Int) (had : List Bool) : Nat → List Bool
  | 0 => had
  | k + 1 => js nx a k (ks nx a had k) (nx k).length
def rr (nx : Int → List Int) (M : Nat) (a : Int) : Nat → List Bool
  | 0 => List.replicate M false
  | r + 1 => ks nx a (rr nx M a r) M
theorem LE.upd (a k : Int) (had : List Bool) (n : Int) : LE had (upd a k had n) := by
  unfold FP.upd
  split
  · exact LE.set _ _
  · exact LE.refl _
theorem LE.fold (a k : Int) : ∀ (l : List Int) (had : List Bool), LE had (l.foldl (FP.upd a k) had)
  | [], had => LE.refl had
  | n :: l, had => (LE.upd a k had n).trans (LE.fold a k l _)
theorem LE.ks (nx : Int → List Int) (a : Int) (had : List Bool) : ∀ k, LE had (ks nx a had k)
  | 0 => LE.refl _
  | k + 1 => (LE.ks nx a had k).trans (LE.fold ..)
section
variable {nx : Int → List Int} {M : Nat} {a : Int}
def Sd (nx : Int → List Int) (a : Int) (had : List Bool) : Prop := ∀ i : Nat, had.getD i false = true → RN nx a i
theorem Sd.upd (hI : InR nx M) {had : List Bool} (h : Sd nx a had) (k n : Int) (hk : 0 ≤ k) (hn : n ∈ nx k) : Sd nx a (upd a k had n) := by
  unfold FP.upd
  split
  · rename_i hc
    intro i hi
    rcases (getD_set _ _ _).1 hi with hi | ⟨rfl, _⟩
    · exact h i hi
    · have hr := hI _ _ hn
      rw [show ((n.toNat : Nat) : Int) = n by omega]
      rcases hc with rfl | hc
      · exact .base hn
      · have := h _ hc
        rw [show ((k.toNat : Nat) : Int) = k by omega] at this
        exact .step this hn
  · exact h
theorem Sd.fold (hI : InR nx M) (k : Int) (hk : 0 ≤ k) : ∀ (l : List Int) (had : List Bool), (∀ n ∈ l, n ∈ nx k) → Sd nx a had → Sd nx a (l.foldl (FP.upd a k) had)
  | [], _, _, h => h
  | n :: l, _, hl, h => Sd.fold hI k hk l _ (fun m hm => hl m (List.mem_cons_of_mem _ hm)) (h.upd hI k n hk (hl n (List.mem_cons_self ..)))
theorem Sd.ks (hI : InR nx M) {had : List Bool} (h : Sd nx a had) : ∀ k, Sd nx a (ks nx a had k)
  | 0 => h
  | k + 1 => Sd.fold hI k (by omega) _ _ (fun n hn => List.mem_of_mem_take hn) (Sd.ks hI h k)
theorem fold_same (k : Int) : ∀ (l : List Int) (had : List Bool), l.foldl (upd a k) had = had → ∀ n ∈ l, upd a k had n = had
  | [], _, _, _, h => by cases h
  | x :: l, had, h, n, hn => by
    have h1 : upd a k had x = had := LE.anti (by
      have := LE.fold a k l (upd a k had x)
      rw [show l.foldl (upd a k) (upd a k had x) = had from h] at this
      exact this) (LE.upd a k had x)
    rcases List.mem_cons.1 hn with rfl | hn
    · exact h1
    · have h2 : l.foldl (upd a k) had = had := by
        have h3 : l.foldl (upd a k) (upd a k had x) = had := h
        rw [h1] at h3
        exact h3
      exact fold_same k l had h2 n hn
end
end Go.Proofs.YtkplgfhkebkaaaaDoor.FP

namespace Go.Proofs.YtkplgfhkebkaaaaDoor.FG
open Go.RowKit Go.Proofs.YtkplgfhkebkaaaaDoorW.PrintWords Go.Proofs.YtkplgfhkebkaaaaDoorW.PrintLast Go.Proofs.YtkplgfhkebkaaaaDoorW.PrintMore Go.Proofs.YtkplgfhkebkaaaaDoor.F Go.Proofs.YtkplgfhkebkaaaaDoor.Srt Go.Proofs.YtkplgfhkebkaaaaDoor.NX Go.Proofs.YtkplgfhkebkaaaaDoor.FP
set_option linter.unusedVariables false
set_option linter.unusedSimpArgs false
def flow_Next.f (l0_0 : List ByteArray) (a0_1 : ByteArray) (a0_2 : ByteArray) (l0_3 : List S47) (a1 : Int) : Option (List Int) := some (nxt l0_3 a1)
theorem Next_own (w : World) (A0 : Option Addr) (c0 : Nat) (ts : List ByteArray) (la gl : ByteArray) (A3 : Option Addr) (c3 : Nat) (code : List S47) (hr3 : Kd.C k47 w A3 code.length code) (a : Int) :
    Calls Tryd.prog 13 #[.agg #[.slice A0 ts.length c0, .string la, .string gl, .slice A3 code.length c3], .int .i64 a] w fun e w' => ∃ v, e = .returned v ∧ w'.ownsRow w.heap.size 3 1 v (nxt code a).length (nums .i64 (nxt code a)) ∧ Below w.heap.size w w' := by
  by_cases h : 0 ≤ a ∧ a < code.length
  · by_cases h3 : (rd_T47 code a).f0 = 3
    · have e : nxt code a = [(rd_T47 code a).f4] := by unfold nxt; rw [if_pos h, if_pos h3]
      rw [e]
      exact Next_jump w A0 c0 ts la gl A3 c3 code hr3 a h.1 h.2 h3
    · by_cases h4 : (rd_T47 code a).f0 = 4
      · have e : nxt code a = if (rd_T47 code a).f4 < a + 1 then [(rd_T47 code a).f4, a + 1] else if (rd_T47 code a).f4 > a + 1 then [a + 1, (rd_T47 code a).f4] else [a + 1] := by
          unfold nxt
          rw [if_pos h, if_neg h3, if_pos h4]
        rw [e]
        exact Next_zero w A0 c0 ts la gl A3 c3 code hr3 a h.1 h.2 h4
      · have e : nxt code a = [a + 1] := by unfold nxt; rw [if_pos h, if_neg h3, if_neg h4]
        rw [e]
        exact Next_on w A0 c0 ts la gl A3 c3 code hr3 a h.1 h.2 h3 h4
  · have e : nxt code a = [] := by unfold nxt; rw [if_neg h]
    rw [e]
    refine (Next_out w A0 c0 ts la gl A3 c3 code a h).mono ?_
    rintro e w' ⟨rfl, hb⟩
    exact ⟨_, rfl, own_nil _ _ _ _, hb⟩
theorem flow_Next.calls (A0_0 : Option Addr) (c0_0 : Nat) (l0_0 : List ByteArray) (a0_1 : ByteArray) (a0_2 : ByteArray) (A0_3 : Option Addr) (c0_3 : Nat) (l0_3 : List (S47)) (a1 : Int) (r : List Int) (w : World) (_hr0_0 : Kd.C Kd.string w A0_0 l0_0.length l0_0) (_hc0_0 : l0_0.length ≤ c0_0) (hr0_3 : Kd.C k47 w A0_3 l0_3.length l0_3) (_hc0_3 : l0_3.length ≤ c0_3) (h : flow_Next.f l0_0 a0_1 a0_2 l0_3 a1 = some r) :
    Calls Tryd.prog 13 #[.agg #[.slice A0_0 l0_0.length c0_0, .string a0_1, .string a0_2, .slice A0_3 l0_3.length c0_3], .int .i64 a1] w fun e w' => ∃ v0_ : Value, e = .returned (v0_) ∧ Kd.R (Kd.int .i64) 3 w' w.heap.size (fun _ => True) v0_ r ∧ Below w.heap.size w w' := by
  obtain rfl := Option.some.inj h
  refine (Next_own w A0_0 c0_0 l0_0 a0_1 a0_2 A0_3 c0_3 l0_3 hr0_3 a1).mono ?_
  rintro e w' ⟨v, he, ho, hb⟩
  exact ⟨v, he, Kd.R_of_own ho fun _ _ => trivial, hb⟩
def Row (w : World) (b : Nat) (hs : List Bool) : Prop := w.heap[b]? = some (.cells (hs.map Value.bool).toArray 4 (0, 0))
def unb : Value → Bool
  | .bool b => b
  | _ => false
def hadOf (w : World) (b : Nat) : List Bool := match w.heap[b]? with
  | some (.cells cs _ _) => cs.toList.map unb
  | _ => []
def lenOf : Value → Nat
  | .slice _ n _ => n
  | _ => 0
def meas (b : Nat) (v : Value) (w : World) : Nat := 3 * ((hadOf w b).length - cnt (hadOf w b)) + lenOf v
structure RI (nx : Int → List Int) (M : Nat) (a : Int) (w wr : World) (pv : Array Value) (b : Nat) (v : Value) (had : List Bool) (todo : List Int) : Prop where
  wl : WL nx M a had todo
  row : Row wr b had
  q : QRow wr w.heap.size 3 1 v todo.length (nums .i64 todo)
  below : Below w.heap.size w wr
  box : wr.heap[w.heap.size]? = some (.cells pv 25 (0, 0))
  far : w.heap.size < b
  small : left_ had todo ≤ 3 * M + 2
theorem Row.ne {w : World} {b : Nat} {hs : List Bool} (h : Row w b hs) {v : Value} {base n : Nat} {xs : List Value} (hq : QRow w base 3 1 v n xs) : v.ownBlock ≠ some b := by
  intro e
  obtain ⟨_, cs, hc⟩ := q_typed hq b e
  exact blk_ne h hc (by decide) rfl
section
variable (w : World) (A0 : Option Addr) (c0 : Nat) (ts : List ByteArray) (la gl : ByteArray) (A3 : Option Addr) (c3 : Nat) (code : List S47) (hr3 : Kd.C k47 w A3 code.length code) (a : Int)
include hr3
end
end Go.Proofs.YtkplgfhkebkaaaaDoor.FG

namespace Go.Proofs.YtkplgfhkebkaaaaDoor.FG
open Go.RowKit Go.Proofs.YtkplgfhkebkaaaaDoorW.PrintWords Go.Proofs.YtkplgfhkebkaaaaDoorW.PrintLast Go.Proofs.YtkplgfhkebkaaaaDoorW.PrintMore Go.Proofs.YtkplgfhkebkaaaaDoor.F Go.Proofs.YtkplgfhkebkaaaaDoor.Srt Go.Proofs.YtkplgfhkebkaaaaDoor.NX Go.Proofs.YtkplgfhkebkaaaaDoor.FP
set_option linter.unusedVariables false
noncomputable def reachV (code : List S47) (a : Int) : List Bool := if 0 ≤ a ∧ a ≤ code.length then rch (nxt code) (code.length + 1) a else []
open Classical in
noncomputable def flow_Reach.f (l0_0 : List ByteArray) (a0_1 : ByteArray) (a0_2 : ByteArray) (l0_3 : List S47) (a1 : Int) : Option (List Bool) := if InR (nxt l0_3) (l0_3.length + 1) ∧ l0_3.length ≤ 1000000 then some (reachV l0_3 a1) else none
end Go.Proofs.YtkplgfhkebkaaaaDoor.FG

namespace Go.Proofs.YtkplgfhkebkaaaaDoor.FL
open Go.RowKit Go.Proofs.YtkplgfhkebkaaaaDoorW.PrintWords Go.Proofs.YtkplgfhkebkaaaaDoor.Scan Go.Proofs.YtkplgfhkebkaaaaDoor.F Go.Proofs.YtkplgfhkebkaaaaDoor.FM Go.Proofs.YtkplgfhkebkaaaaDoor.H Go.Proofs.YtkplgfhkebkaaaaDoor.TT Go.Proofs.YtkplgfhkebkaaaaDoor.NX Go.Proofs.YtkplgfhkebkaaaaDoor.FP Go.Proofs.YtkplgfhkebkaaaaDoor.FG
set_option linter.unusedVariables false
theorem SP.inR {ts : List ByteArray} {la gl : ByteArray} {code : List S47} (h : SP ts la gl code) : InR (nxt code) (code.length + 1) := by
  intro k m hm
  unfold nxt at hm
  split at hm
  · rename_i hk
    obtain ⟨kn, rfl⟩ := Int.eq_ofNat_of_zero_le hk.1
    have hp := (h.all kn (by omega)).jump
    split at hm
    · rename_i h3
      have := hp (.inl h3)
      rw [List.mem_singleton] at hm
      subst hm
      omega
    · split at hm
      · rename_i h4
        have := hp (.inr h4)
        split at hm
        · simp only [List.mem_cons, List.not_mem_nil, or_false] at hm
          omega
        · split at hm
          · simp only [List.mem_cons, List.not_mem_nil, or_false] at hm
            omega
          · rw [List.mem_singleton] at hm
            omega
      · rw [List.mem_singleton] at hm
        omega
  · cases hm
theorem next_ev (ts : List ByteArray) (la gl : ByteArray) (code : List S47) (a : Int) : Ev (fun _ => flow_Next.f ts la gl code a) (nxt code a) := ev_const
def sf (code : List S47) (a : Int) : Bool := decide ((0 ≤ a ∧ a < code.length) ∧ ((rd_T47 code a).f0 = 5 ∨ ((rd_T47 code a).f0 = 3 ∨ (rd_T47 code a).f0 = 4) ∧ (rd_T47 code a).f4 ≤ a))
theorem safe_ev (ts : List ByteArray) (la gl : ByteArray) (code : List S47) (a : Int) : Ev (fun k => flow_Safe.f k ts la gl code a) (sf code a) := by
  by_cases h : 0 ≤ a ∧ a < code.length
  · refine Ev.congr (fun k => if_neg (by omega)) (ev_step (fun k => flow_Safe.j0.eq_2 ..) (Ev.congr (fun k => if_neg (by rw [decide_eq_true_iff]; omega)) (Ev.congr (fun k => if_pos h.1) (Ev.congr (fun k => if_pos h.2) ?_))))
    by_cases h5 : (rd_T47 code a).f0 = 5
    · refine Ev.congr (fun k => if_pos h5) (ev_all fun k => ?_)
      rw [show sf code a = true from decide_eq_true ⟨h, .inl h5⟩]
    · refine Ev.congr (fun k => if_neg h5) ?_
      by_cases h3 : (rd_T47 code a).f0 = 3
      · refine Ev.congr (fun k => if_pos h3) (ev_all fun k => ?_)
        unfold sf
        congr 1
        exact decide_eq_decide.2 ⟨fun e => ⟨h, .inr ⟨.inl h3, e⟩⟩, fun e => by rcases e.2 with e | e <;> omega⟩
      · refine Ev.congr (fun k => if_neg h3) ?_
        by_cases h4 : (rd_T47 code a).f0 = 4
        · refine Ev.congr (fun k => if_pos h4) (ev_all fun k => ?_)
          unfold sf
          congr 1
          exact decide_eq_decide.2 ⟨fun e => ⟨h, .inr ⟨.inr h4, e⟩⟩, fun e => by rcases e.2 with e | e <;> omega⟩
        · refine Ev.congr (fun k => if_neg h4) (ev_all fun k => ?_)
          rw [show sf code a = false from decide_eq_false fun e => by rcases e.2 with e | e <;> omega]
  · have e : sf code a = false := decide_eq_false fun e => h e.1
    rw [e]
    by_cases h0 : a < 0
    · exact Ev.congr (fun k => if_pos h0) (ev_step (fun k => flow_Safe.j0.eq_2 ..) (Ev.congr (fun k => if_pos rfl) ev_const))
    · exact Ev.congr (fun k => if_neg h0) (ev_step (fun k => flow_Safe.j0.eq_2 ..) (Ev.congr (fun k => if_pos (by rw [decide_eq_true_iff]; omega)) ev_const))
end Go.Proofs.YtkplgfhkebkaaaaDoor.FL

namespace Go.Proofs.YtkplgfhkebkaaaaDoor.B8
open Go.Proofs.YtkplgfhkebkaaaaDoor.FP
abbrev S8 := BitVec 8
def iv (z : S8) : Int := (z.toNat : Int)
def bv (x : Int) : S8 := BitVec.ofInt 8 x
theorem bv_iv (z : S8) : bv (iv z) = z := by
  apply BitVec.eq_of_toNat_eq
  unfold bv iv
  rw [BitVec.ofInt_natCast, BitVec.toNat_ofNat]
  exact Nat.mod_eq_of_lt z.isLt
theorem iv_inj {a b : S8} (h : iv a = iv b) : a = b := by rw [← bv_iv a, h, bv_iv]
theorem wrap_iv (z : S8) : IntKind.u8.wrap (z.toNat : Int) = iv z := wraps_u8 _ (Int.natCast_nonneg _) (by have := z.isLt; omega)
theorem bits_or (a b : S8) : bits .or .u8 (iv a) (iv b) = iv (a ||| b) := by
  have h : bits .or .u8 (iv a) (iv b) = IntKind.u8.wrap ((bv (iv a) ||| bv (iv b) : S8).toNat : Int) := rfl
  rw [h, bv_iv, bv_iv, wrap_iv]
theorem bits_not (a b : S8) : bits .andNot .u8 (iv a) (iv b) = iv (a &&& ~~~ b) := by
  have h : bits .andNot .u8 (iv a) (iv b) = IntKind.u8.wrap ((bv (iv a) &&& ~~~ bv (iv b) : S8).toNat : Int) := rfl
  rw [h, bv_iv, bv_iv, wrap_iv]
def Sub (a b : S8) : Prop := ∀ i, a.getLsbD i = true → b.getLsbD i = true
theorem Sub.refl (a : S8) : Sub a a := fun _ h => h
theorem Sub.trans {a b c : S8} (h : Sub a b) (k : Sub b c) : Sub a c := fun i hi => k i (h i hi)
theorem Sub.anti {a b : S8} (h : Sub a b) (k : Sub b a) : a = b :=
  BitVec.eq_of_getLsbD_eq fun i _ => by rw [Bool.eq_iff_iff]; exact ⟨h i, k i⟩
theorem Sub.zero (a : S8) : Sub 0 a := fun i h => by simp at h
theorem Sub.all (a : S8) : Sub a 255 := fun i h => by
  have hi : i < 8 := BitVec.lt_of_getLsbD h
  have : ∀ j, j < 8 → (255#8).getLsbD j = true := by decide
  exact this i hi
theorem sub_and_r {a b c : S8} : Sub a (b &&& c) ↔ Sub a b ∧ Sub a c := by
  constructor
  · intro h
    exact ⟨fun i hi => by have := h i hi; rw [BitVec.getLsbD_and, Bool.and_eq_true] at this; exact this.1, fun i hi => by have := h i hi; rw [BitVec.getLsbD_and, Bool.and_eq_true] at this; exact this.2⟩
  · rintro ⟨h, k⟩ i hi
    rw [BitVec.getLsbD_and, Bool.and_eq_true]
    exact ⟨h i hi, k i hi⟩
theorem not_bit (a b : S8) (i : Nat) : (a &&& ~~~ b).getLsbD i = true ↔ a.getLsbD i = true ∧ b.getLsbD i = false := by
  rw [BitVec.getLsbD_and, Bool.and_eq_true, BitVec.getLsbD_not, Bool.and_eq_true]
  constructor
  · rintro ⟨h, _, k⟩
    exact ⟨h, by simpa using k⟩
  · rintro ⟨h, k⟩
    exact ⟨h, by simpa using BitVec.lt_of_getLsbD h, by simpa using k⟩
theorem and_eq {a b : S8} : a &&& b = a ↔ Sub a b := by
  constructor
  · intro h
    have k : Sub a (a &&& b) := by rw [h]; exact Sub.refl a
    exact (sub_and_r.1 k).2
  · intro h
    exact Sub.anti (fun i hi => by rw [BitVec.getLsbD_and, Bool.and_eq_true] at hi; exact hi.1) (sub_and_r.2 ⟨Sub.refl a, h⟩)
def pc (z : S8) : Nat := cnt ((List.range 8).map z.getLsbD)
theorem pc_le {a b : S8} (h : Sub a b) : pc a ≤ pc b ∧ (a ≠ b → pc a < pc b) := by
  have hg : ∀ (z : S8) i, ((List.range 8).map z.getLsbD).getD i false = z.getLsbD i := by
    intro z i
    rw [List.getD_eq_getElem?_getD, List.getElem?_map]
    by_cases hi : i < 8
    · rw [List.getElem?_range hi]
      rfl
    · rw [List.getElem?_eq_none (by simpa using hi)]
      exact (BitVec.getLsbD_of_ge z i (by omega)).symm
  have hle : LE ((List.range 8).map a.getLsbD) ((List.range 8).map b.getLsbD) := ⟨by simp, fun i hi => by rw [hg] at hi ⊢; exact h i hi⟩
  refine ⟨(cnt_le hle).1, fun hne => (cnt_le hle).2 fun e => hne ?_⟩
  exact BitVec.eq_of_getLsbD_eq fun i _ => by rw [← hg a, ← hg b, e]
theorem pc_8 (z : S8) : pc z ≤ 8 := by
  have := cnt_len ((List.range 8).map z.getLsbD)
  simpa [pc] using this
theorem pc_0 : pc 0 = 0 := by decide
abbrev g (l : List S8) (i : Nat) : S8 := l.getD i 0
def LS (a b : List S8) : Prop := a.length = b.length ∧ ∀ i, Sub (g a i) (g b i)
theorem LS.refl (a : List S8) : LS a a := ⟨rfl, fun _ => Sub.refl _⟩
theorem LS.trans {a b c : List S8} (h : LS a b) (k : LS b c) : LS a c := ⟨h.1.trans k.1, fun i => (h.2 i).trans (k.2 i)⟩
theorem g_ext {a b : List S8} (hl : a.length = b.length) (h : ∀ i, g a i = g b i) : a = b := by
  apply List.ext_getElem hl
  intro i h1 h2
  have := h i
  unfold g at this
  rw [List.getD_eq_getElem?_getD, List.getElem?_eq_getElem h1, List.getD_eq_getElem?_getD, List.getElem?_eq_getElem h2] at this
  exact this
theorem LS.anti {a b : List S8} (h : LS a b) (k : LS b a) : a = b := g_ext h.1 fun i => (h.2 i).anti (k.2 i)
theorem g_set (a : List S8) (n i : Nat) (v : S8) : g (a.set n v) i = if i = n ∧ n < a.length then v else g a i := by
  unfold g
  rw [List.getD_eq_getElem?_getD, List.getElem?_set]
  by_cases h : n = i
  · subst h
    by_cases hl : n < a.length
    · rw [if_pos rfl, if_pos hl, if_pos ⟨rfl, hl⟩]
      rfl
    · rw [if_pos rfl, if_neg hl, if_neg (fun e => hl e.2), List.getD_eq_getElem?_getD, List.getElem?_eq_none (by omega)]
  · rw [if_neg h, if_neg (fun e => h e.1.symm), List.getD_eq_getElem?_getD]
theorem g_rep (M i : Nat) : g (List.replicate M 0) i = 0 := by
  unfold g
  rw [List.getD_eq_getElem?_getD, List.getElem?_replicate]
  split <;> rfl
theorem g_out {a : List S8} {i : Nat} (h : a.length ≤ i) : g a i = 0 := by
  unfold g
  rw [List.getD_eq_getElem?_getD, List.getElem?_eq_none h]
  rfl
def tot (l : List S8) : Nat := (l.map pc).sum
theorem tot_cons (x : S8) (l : List S8) : tot (x :: l) = pc x + tot l := by simp [tot]
theorem tot_le : ∀ {a b : List S8}, LS a b → tot a ≤ tot b ∧ (a ≠ b → tot a < tot b) := by
  intro a
  induction a with
  | nil =>
    intro b h
    have : b = [] := List.length_eq_zero_iff.1 h.1.symm
    subst this
    exact ⟨Nat.le_refl _, fun h => absurd rfl h⟩
  | cons x a ih =>
    intro b h
    cases b with
    | nil => cases h.1
    | cons y b =>
      have ht : LS a b := ⟨by have := h.1; simpa using this, fun i => h.2 (i + 1)⟩
      have h0 : Sub x y := h.2 0
      obtain ⟨i1, i2⟩ := ih ht
      obtain ⟨p1, p2⟩ := pc_le h0
      rw [tot_cons, tot_cons]
      refine ⟨by omega, fun hne => ?_⟩
      by_cases hxy : x = y
      · subst hxy
        have := i2 fun e => hne (by rw [e])
        omega
      · have := p2 hxy
        omega
theorem tot_8 : ∀ l : List S8, tot l ≤ 8 * l.length
  | [] => Nat.le_refl _
  | x :: l => by
    have := tot_8 l
    have := pc_8 x
    rw [tot_cons, List.length_cons]
    omega
theorem tot_last : ∀ (l : List S8) (N : Nat), l.length = N + 1 → g l N = 0 → tot l ≤ 8 * N
  | [], N, h, _ => by cases h
  | [x], N, h, h0 => by
    obtain rfl : N = 0 := by simpa using h.symm
    have : x = 0 := h0
    subst this
    rw [tot_cons, pc_0]
    exact Nat.le_refl _
  | x :: y :: l, N, h, h0 => by
    obtain ⟨n, rfl⟩ : ∃ n, N = n + 1 := ⟨l.length, by simpa using h.symm⟩
    have := tot_last (y :: l) n (by simpa using h) h0
    have := pc_8 x
    rw [tot_cons]
    omega
section
variable (nx : Int → List Int) (N : Nat) (st us : Nat → S8)
def lor (out : List S8) (k : Nat) : S8 := (nx k).foldl (fun n t => n ||| g out t.toNat) 0
theorem fold_or_bit (out : List S8) (i : Nat) : ∀ (l : List Int) (n : S8), (l.foldl (fun n t => n ||| g out t.toNat) n).getLsbD i = true ↔ n.getLsbD i = true ∨ ∃ t ∈ l, (g out t.toNat).getLsbD i = true
  | [], n => by simp
  | t :: l, n => by
    rw [List.foldl_cons, fold_or_bit out i l, BitVec.getLsbD_or, Bool.or_eq_true]
    simp only [List.mem_cons, exists_eq_or_imp]
    exact or_assoc
theorem lor_bit (out : List S8) (k i : Nat) : (lor nx out k).getLsbD i = true ↔ ∃ t ∈ nx k, (g out t.toNat).getLsbD i = true := by
  unfold lor
  rw [fold_or_bit]
  simp
def lst (out : List S8) (k : Nat) : S8 := lor nx out k &&& ~~~ st k ||| us k
theorem lst_bit (out : List S8) (k i : Nat) : (lst nx st us out k).getLsbD i = true ↔ ((∃ t ∈ nx k, (g out t.toNat).getLsbD i = true) ∧ (st k).getLsbD i = false) ∨ (us k).getLsbD i = true := by
  unfold lst
  rw [BitVec.getLsbD_or, Bool.or_eq_true, not_bit, lor_bit]
theorem lst_mono {a b : List S8} (h : ∀ i, Sub (g a i) (g b i)) (k : Nat) : Sub (lst nx st us a k) (lst nx st us b k) := by
  intro i hi
  rw [lst_bit] at hi ⊢
  exact hi.imp (fun ⟨⟨t, ht, hb⟩, hs⟩ => ⟨⟨t, ht, h _ i hb⟩, hs⟩) id
def Pre (o : List S8) : Prop := o.length = N + 1 ∧ ∀ k, k < N → Sub (lst nx st us o k) (g o k)
structure LInv (out : List S8) : Prop where
  len : out.length = N + 1
  last : g out N = 0
  up : ∀ k, k < N → Sub (g out k) (lst nx st us out k)
  least : ∀ o, Pre nx N st us o → LS out o
def LFix (out : List S8) : Prop := ∀ k, k < N → g out k = lst nx st us out k
theorem LInv.start : LInv nx N st us (List.replicate (N + 1) 0) :=
  ⟨by simp, g_rep .., fun k _ => by rw [g_rep]; exact Sub.zero _, fun o ho => ⟨by simp [ho.1], fun i => by rw [g_rep]; exact Sub.zero _⟩⟩
variable {nx N st us}
theorem LInv.ls {out : List S8} (h : LInv nx N st us out) {k : Nat} (hk : k < N) : LS out (out.set k (lst nx st us out k)) := by
  refine ⟨by simp, fun i => ?_⟩
  rw [g_set]
  split
  · rename_i e
    rw [e.1]
    exact h.up k hk
  · exact Sub.refl _
theorem LInv.set {out : List S8} (h : LInv nx N st us out) {k : Nat} (hk : k < N) : LInv nx N st us (out.set k (lst nx st us out k)) := by
  have hm : ∀ j, Sub (lst nx st us out j) (lst nx st us (out.set k (lst nx st us out k)) j) := fun j => lst_mono _ _ _ (h.ls hk).2 j
  refine ⟨by rw [List.length_set, h.len], ?_, fun j hj => ?_, fun o ho => ⟨by rw [List.length_set, h.len, ho.1], fun j => ?_⟩⟩
  · rw [g_set, if_neg (by omega)]
    exact h.last
  · rw [g_set]
    split
    · rename_i e
      rw [e.1]
      exact hm k
    · exact (h.up j hj).trans (hm j)
  · rw [g_set]
    split
    · rename_i e
      rw [e.1]
      exact (lst_mono _ _ _ (h.least o ho).2 k).trans (ho.2 k hk)
    · exact (h.least o ho).2 j
theorem LInv.eq {a b : List S8} (h : LInv nx N st us a) (k : LInv nx N st us b) (fa : LFix nx N st us a) (fb : LFix nx N st us b) : a = b :=
  (h.least b ⟨k.len, fun j hj => by rw [fb j hj]; exact Sub.refl _⟩).anti (k.least a ⟨h.len, fun j hj => by rw [fa j hj]; exact Sub.refl _⟩)
variable (nx N st us)
def sw : Nat → List S8 → List S8
  | 0, out => out
  | k + 1, out => sw k (out.set k (lst nx st us out k))
def rnd : Nat → List S8
  | 0 => List.replicate (N + 1) 0
  | r + 1 => sw nx st us N (rnd r)
variable {nx N st us}
theorem sw_inv : ∀ (k : Nat) (out : List S8), k ≤ N → LInv nx N st us out → LInv nx N st us (sw nx st us k out) ∧ LS out (sw nx st us k out)
  | 0, out, _, h => ⟨h, LS.refl _⟩
  | k + 1, out, hk, h => by
    obtain ⟨a, b⟩ := sw_inv k (out.set k (lst nx st us out k)) (by omega) (h.set hk)
    exact ⟨a, (h.ls hk).trans b⟩
theorem sw_same : ∀ (k : Nat) (out : List S8), k ≤ N → LInv nx N st us out → sw nx st us k out = out → ∀ j, j < k → g out j = lst nx st us out j
  | 0, out, _, _, _, j, hj => by omega
  | k + 1, out, hk, h, e, j, hj => by
    obtain ⟨_, b⟩ := sw_inv k (out.set k (lst nx st us out k)) (by omega) (h.set hk)
    have e0 : sw nx st us k (out.set k (lst nx st us out k)) = out := e
    rw [e0] at b
    have e1 : out.set k (lst nx st us out k) = out := b.anti (h.ls hk)
    rcases Nat.lt_succ_iff_lt_or_eq.1 hj with hlt | rfl
    · rw [e1] at e0
      exact sw_same k out (by omega) h e0 j hlt
    · have := g_set out j j (lst nx st us out j)
      rw [e1, if_pos ⟨rfl, by rw [h.len]; omega⟩] at this
      exact this
theorem rnd_inv : ∀ r, LInv nx N st us (rnd nx N st us r)
  | 0 => LInv.start ..
  | r + 1 => (sw_inv N _ (Nat.le_refl _) (rnd_inv r)).1
theorem rnd_fix : sw nx st us N (rnd nx N st us (8 * N)) = rnd nx N st us (8 * N) := by
  refine iter_fix (sw nx st us N) tot (rnd nx N st us) (fun i => rfl) (8 * N) (fun i => tot_last _ N (rnd_inv i).len (rnd_inv i).last) (fun i => ?_) (8 * N) (by omega)
  by_cases h : sw nx st us N (rnd nx N st us i) = rnd nx N st us i
  · exact .inl h
  · exact .inr ((tot_le (sw_inv N _ (Nat.le_refl _) (rnd_inv i)).2).2 fun e => h e.symm)
variable (nx N st us)
def lv : List S8 := rnd nx N st us (8 * N + 1)
theorem lv_inv : LInv nx N st us (lv nx N st us) := rnd_inv _
theorem lv_fix : LFix nx N st us (lv nx N st us) := by
  have e : lv nx N st us = rnd nx N st us (8 * N) := rnd_fix
  intro k hk
  rw [e]
  exact sw_same N _ (Nat.le_refl _) (rnd_inv _) rnd_fix k hk
variable {nx N st us}
theorem lv_of {out : List S8} (h : LInv nx N st us out) (f : LFix nx N st us out) : out = lv nx N st us := h.eq (lv_inv nx N st us) f (fun j hj => lv_fix nx N st us j hj)
end
section
variable (nx : Int → List Int) (N : Nat) (F : Nat → S8 → S8)
def Sol (s : List S8) : Prop := s.length = N + 1 ∧ ∀ k, k ≤ N → ∀ t ∈ nx k, Sub (g s t.toNat) (F k (g s k))
structure GInv (l : List S8) : Prop where
  len : l.length = N + 1
  great : ∀ s, Sol nx N F s → LS s l
variable {nx N F}
theorem GInv.start : GInv nx N F (List.replicate (N + 1) 255) := by
  refine ⟨by simp, fun s hs => ⟨by simp [hs.1], fun i => ?_⟩⟩
  by_cases hi : i < N + 1
  · have e : g (List.replicate (N + 1) (255 : S8)) i = 255 := by
      unfold g
      rw [List.getD_eq_getElem?_getD, List.getElem?_replicate, if_pos hi]
      rfl
    rw [e]
    exact Sub.all _
  · rw [g_out (by rw [hs.1]; omega)]
    exact Sub.zero _
def cut (l : List S8) (n : S8) (t : Nat) : List S8 := l.set t (g l t &&& n)
theorem cut_get (l : List S8) (n : S8) (t i : Nat) : g (cut l n t) i = if i = t ∧ t < l.length then g l t &&& n else g l i := g_set ..
theorem cut_ls (l : List S8) (n : S8) (t : Nat) : LS (cut l n t) l := by
  refine ⟨by simp [cut], fun i => ?_⟩
  rw [cut_get]
  split
  · rename_i e
    rw [e.1]
    exact (sub_and_r.1 (Sub.refl _)).1
  · exact Sub.refl _
theorem GInv.cut {l : List S8} (h : GInv nx N F l) {n : S8} {k : Nat} (hk : k ≤ N) {t : Int} (ht : t ∈ nx k) (hn : ∀ s, Sol nx N F s → Sub (F k (g s k)) n) : GInv nx N F (cut l n t.toNat) := by
  refine ⟨by rw [← h.len]; exact (cut_ls ..).1, fun s hs => ⟨by rw [hs.1, ← h.len]; exact (cut_ls ..).1.symm, fun i => ?_⟩⟩
  rw [cut_get]
  split
  · rename_i e
    rw [e.1]
    exact sub_and_r.2 ⟨(h.great s hs).2 _, (hs.2 k hk t ht).trans (hn s hs)⟩
  · exact (h.great s hs).2 i
end
end Go.Proofs.YtkplgfhkebkaaaaDoor.B8

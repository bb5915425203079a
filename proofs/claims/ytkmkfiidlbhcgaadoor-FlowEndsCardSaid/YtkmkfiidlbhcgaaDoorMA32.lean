/- Texts of this claim, pruned to what it needs and laid together by prune.py. -/
import Derived.Test.YtkmkfiidlbhcgaaDoorMA1
import Derived.Test.YtkmkfiidlbhcgaaDoorMA0
import Derived.Sort.OwnSortedInts
namespace Go.Proofs.YtkmkfiidlbhcgaaDoor.Srt
open Go.RowKit Go.Proofs.YtkmkfiidlbhcgaaDoorW.PrintWords Go.Sort
def sorted (zs : List Int) : List Int := zs.mergeSort fun x y => decide (x ≤ y)
theorem sorted_length (zs : List Int) : (sorted zs).length = zs.length := List.length_mergeSort zs
theorem sorted_perm (zs : List Int) : (sorted zs).Perm zs := List.mergeSort_perm zs _
theorem sorted_sorted (zs : List Int) : (sorted zs).Pairwise (· ≤ ·) := by
  have h := List.pairwise_mergeSort (le := fun x y : Int => decide (x ≤ y)) (fun a b c h h' => by simp at *; omega) (fun a b => by simp; omega) zs
  exact h.imp fun h => by simpa using h
theorem seg_block (w : World) (g e m k : Nat) (d : Array Int) (os : Array Obj) (cur : Array Value) (h : w.heap[g]? = some (.cells cur e (0, 0))) :
    (grow (putRow (Value.int .i64) (Sort.ahead w k) g m d) os).heap[g]? = some (.cells (putCells (Value.int .i64) m d cur) e (0, 0)) := by
  have hg : g < w.heap.size := (Array.getElem?_eq_some_iff.1 h).1
  simp only [grow, putRow, mapBlock, Sort.ahead, Array.getElem?_append, Array.size_modify, hg, if_true, Array.getElem?_modify, h]
  rfl
theorem seg_other (w : World) (g m k : Nat) (d : Array Int) (os : Array Obj) (j : Nat) (hj : j < w.heap.size) (hne : j ≠ g) :
    (grow (putRow (Value.int .i64) (Sort.ahead w k) g m d) os).heap[j]? = w.heap[j]? := by
  simp only [grow, putRow, mapBlock, Sort.ahead, Array.getElem?_append, Array.size_modify, hj, if_true, Array.getElem?_modify]
  rw [if_neg (fun e => hne e.symm)]
theorem seg_grown (w : World) (g m k : Nat) (d : Array Int) (os : Array Obj) : w.grownBy (grow (putRow (Value.int .i64) (Sort.ahead w k) g m d) os) (some g) where
  os := rfl
  tape := rfl
  output := rfl
  size := by simp [grow, putRow, mapBlock, Sort.ahead]
  block := fun j hj hne => seg_other w g m k d os j hj fun e => hne (by rw [e])
theorem sort_seg (w : World) (B g n cap m c : Nat) (zs : List Int) (HO : w.ownsRow B 3 1 (.slice (some ⟨g, 0, none⟩) n cap) n (nums .i64 zs)) (hm : m ≤ n) (hn : n < 4611686018427387904) :
    Calls Tryd.prog 44 #[.slice (some ⟨g, m, none⟩) (n - m) c] w fun e w' =>
      e = .returned (.tuple #[]) ∧ w'.ownsRow B 3 1 (.slice (some ⟨g, 0, none⟩) n cap) n (nums .i64 (zs.take m ++ sorted (zs.drop m))) ∧ w.grownBy w' (some g) := by
  have hzl : zs.length = n := by have := HO.1; simpa [nums] using this
  have hl : (zs.drop m).length = n - m := by rw [List.length_drop, hzl]
  rcases HO.2 with ⟨h, _⟩ | ⟨g', cap', cur, he, hB, hh, hnc, hcm, hcs, hct⟩
  · cases h
  · have e2 : g' = g := by injection he with e1; injection e1 with e1; injection e1 with e1; exact e1.symm
    have e3 : cap' = cap := by injection he with _ _ e3; exact e3.symm
    subst e2 e3
    have hg : g' < w.heap.size := (Array.getElem?_eq_some_iff.1 hh).1
    rw [Nat.mul_one] at hcs hct
    have hget : ∀ j, j < n → cur[j]? = some (.int .i64 (zs.getD j 0)) := by
      intro j hj
      have := congrArg (fun l => l[j]?) hct
      simp only [List.getElem?_take, hj, if_true, Array.getElem?_toList, nums, List.getElem?_map] at this
      rw [this, List.getElem?_eq_getElem (by omega), List.getD_eq_getElem?_getD, List.getElem?_eq_getElem (by omega)]
      rfl
    have hH : Holds (Value.int .i64) w g' m (zs.drop m).toArray := by
      intro j hj
      have hj' : j < n - m := by simpa [hzl] using hj
      refine ⟨?_, by simp [World.frozen?, hh]⟩
      rw [cell_of_row w g' (m + j) cur _ _ hh, hget (m + j) (by omega)]
      congr 2
      rw [getElem!_pos _ j hj]
      simp only [List.getElem_toArray, List.getElem_drop]
      rw [List.getD_eq_getElem?_getD, List.getElem?_eq_getElem (by omega)]
      rfl
    rw [← hl]
    refine (Tryd.slices_Sort_int g' m c (zs.drop m) w hH hg (by omega)).mono ?_
    rintro e w' ⟨rfl, k, os, rfl⟩
    refine ⟨rfl, ⟨by simp [nums, hzl, sorted_length]; omega, .inr ⟨g', cap', _, rfl, hB, seg_block w g' _ m k _ os cur hh, hnc, hcm, ?_, ?_⟩⟩, seg_grown ..⟩
    · simp [putCells, hcs]
    · have hsl : (sorted (zs.drop m)).length = n - m := by rw [sorted_length, hl]
      apply List.ext_getElem?
      intro j
      rw [Nat.mul_one, List.getElem?_take]
      by_cases hj : j < n
      · rw [if_pos hj, Array.getElem?_toList, putCells, Array.getElem?_mapIdx, hget j hj]
        simp only [Option.map_some, nums, List.getElem?_map, List.size_toArray]
        have ht : (zs.take m).length = m := by rw [List.length_take, hzl]; omega
        by_cases hjm : m ≤ j
        · rw [List.getElem?_append_right (by omega), ht, List.getElem?_eq_getElem (by omega : j - m < (sorted (zs.drop m)).length), Option.map_some]
          rw [if_pos ⟨hjm, by show j < m + (sorted (zs.drop m)).length; omega⟩]
          congr 2
          rw [getElem!_pos _ (j - m) (by show j - m < (sorted (zs.drop m)).length; omega)]
          rfl
        · rw [if_neg (fun h => hjm h.1), List.getElem?_append_left (by omega), List.getElem?_take, if_pos (by omega), List.getElem?_eq_getElem (by omega), List.getD_eq_getElem?_getD, List.getElem?_eq_getElem (by omega)]
          rfl
      · rw [if_neg hj, List.getElem?_eq_none]
        simp [nums, hzl, hsl]
        omega
end Go.Proofs.YtkmkfiidlbhcgaaDoor.Srt

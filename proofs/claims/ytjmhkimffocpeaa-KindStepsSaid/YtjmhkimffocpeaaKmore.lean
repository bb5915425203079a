/-
  With a type more that none of the others points to these stay as they are: the plain part of KindMore.
-/
import Derived.Test.YtjmhkimffocpeaaKc
import Derived.Test.YtjmhkimffocpeaaKletters
import Derived.Test.YtjmhkimffocpeaaKclose
namespace Go.Proofs.Ytjmhkimffocpeaa.KC
open Go.RowKit Go.Proofs.YtjmhkimffocpeaaW.PrintWords Go.Proofs.YtjmhkimffocpeaaW.PrintLast Go.Proofs.YtjmhkimffocpeaaW.PrintMore Go.Proofs.Ytjmhkimffocpeaa.Scan Go.Proofs.Ytjmhkimffocpeaa.K Go.Proofs.Ytjmhkimffocpeaa.KP Go.Proofs.Ytjmhkimffocpeaa.KR Go.Proofs.Ytjmhkimffocpeaa.KF Go.Proofs.Ytjmhkimffocpeaa.KG Go.Proofs.Ytjmhkimffocpeaa.KA Go.Proofs.Ytjmhkimffocpeaa.KL

def ii0 : ByteArray := ⟨#[105, 105, 48]⟩
def plus (ts : List ByteArray) : List ByteArray := ts ++ [ii0]
theorem plus_length (ts : List ByteArray) : (plus ts).length = ts.length + 1 := by simp [plus]
theorem plus_rd (ts : List ByteArray) (i : Int) (h0 : 0 ≤ i) (h1 : i < ts.length) : rdOf ByteArray.empty (plus ts) i = rdOf ByteArray.empty ts i := by
  unfold rdOf plus
  rw [List.getD_eq_getElem?_getD, List.getD_eq_getElem?_getD, List.getElem?_append_left (by omega)]
theorem plus_last (ts : List ByteArray) : rdOf ByteArray.empty (plus ts) (ts.length : Int) = ii0 := by
  unfold rdOf plus
  rw [Int.toNat_natCast, List.getD_eq_getElem?_getD, List.getElem?_append_right (Nat.le_refl _), Nat.sub_self]
  rfl
theorem ok_more {n c : Int} (h : OkC n c) : OkC (n + 1) c := by
  rcases h with h | h
  · exact .inl h
  · have := dg_lt _ _ h
    right
    unfold dg
    rw [if_pos (by omega)]
    omega
theorem plus_Rt {ts : List ByteArray} (h : Rt ts) (h8 : ts.length < 8) : Rt (plus ts) := by
  refine ⟨fun i h0 h1 => ?_, by rw [plus_length]; omega, by rw [plus_length]; omega⟩
  rw [plus_length] at h1 ⊢
  push_cast at h1 ⊢
  by_cases hi : i < ts.length
  · rw [plus_rd ts i h0 hi]
    have := h.1 i h0 hi
    exact ⟨this.1, this.2.1, fun j a b => ok_more (this.2.2 j a b)⟩
  · obtain rfl : i = ts.length := by omega
    rw [plus_last]
    refine ⟨by decide, by decide, fun j a b => ?_⟩
    have hb : j < 3 := b
    have h1 := h.2.1
    obtain rfl | rfl | rfl : j = 0 ∨ j = 1 ∨ j = 2 := by omega
    · exact .inl (by decide)
    · exact .inl (by decide)
    · right
      rw [show bt ii0 2 = 48 by decide]
      unfold dg
      rw [if_pos (by omega)]
      decide
section
variable {ts : List ByteArray} (hr : Rt ts) (h8 : ts.length < 8)
include hr h8
theorem plus_is {t : Int} (h : Is ts t) : Is (plus ts) t := ⟨plus_Rt hr h8, h.2.1, by rw [plus_length]; have := h.2.2; push_cast; omega⟩
theorem plus_typ {t : Int} (h : Is ts t) : typ (plus ts) t = typ ts t := by rw [typ_is h, typ_is (plus_is hr h8 h), plus_rd ts t h.2.1 h.2.2]
theorem plus_to {t : Int} (h : Is ts t) (f : Int) : to_ (plus ts) t f = to_ ts t f := by
  unfold to_ size
  rw [plus_typ hr h8 h, plus_length]
  split
  · rename_i hf
    have hok := (typ_ok h).2.2 f hf.1 (by omega)
    push_cast
    rcases hok with e | e
    · rw [e]
      unfold dg
      rw [if_neg (by omega), if_neg (by omega)]
    · have := dg_lt _ _ e
      unfold dg
      rw [if_pos (by omega), if_pos (by omega)]
  · rfl
theorem plus_mk {t : Int} (h : Is ts t) : ∀ i, mk (plus ts) t i = mk ts t i
  | 0 => rfl
  | i + 1 => by rw [mk, mk, plus_mk h i, plus_to hr h8 h]
theorem plus_mask {t : Int} (h : Is ts t) : mask (plus ts) t = mask ts t := by unfold mask; rw [plus_typ hr h8 h, plus_mk hr h8 h]
theorem plus_last_is : Is (plus ts) (ts.length : Int) := ⟨plus_Rt hr h8, by omega, by rw [plus_length]; push_cast; omega⟩
theorem plus_last_typ : typ (plus ts) (ts.length : Int) = ii0 := by rw [typ_is (plus_last_is hr h8), plus_last]
theorem plus_last_mask : mask (plus ts) (ts.length : Int) = 4 := by
  have h1 := hr.2.1
  have to0 : ∀ f : Int, 0 ≤ f → f < 3 → to_ (plus ts) (ts.length : Int) f = dg (bt ii0 f) ((ts.length : Int) + 1) := by
    intro f a b
    unfold to_ size
    rw [plus_last_typ hr h8, if_pos ⟨a, b⟩, plus_length]
    push_cast
    rfl
  have d0 : dg 105 ((ts.length : Int) + 1) = -1 := by unfold dg; rw [if_neg (by omega)]
  have d1 : dg 48 ((ts.length : Int) + 1) = 0 := by unfold dg; rw [if_pos (by omega)]; rfl
  have e0 := to0 0 (by decide) (by decide)
  have e1 := to0 1 (by decide) (by decide)
  have e2 := to0 2 (by decide) (by decide)
  rw [show bt ii0 0 = 105 by decide, d0] at e0
  rw [show bt ii0 1 = 105 by decide, d0] at e1
  rw [show bt ii0 2 = 48 by decide, d1] at e2
  unfold mask
  rw [plus_last_typ hr h8]
  show mk (plus ts) (ts.length : Int) 3 = 4
  rw [mk, mk, mk, mk]
  simp only [Int.natCast_zero, Int.natCast_one, show ((2 : Nat) : Int) = 2 from rfl, e0, e1, e2]
  decide
theorem plus_add {x : Int} (h : Is ts x) (xs : List Int) (k : Nat) : add (plus ts) x xs k = add ts x xs k := by unfold add; rw [plus_to hr h8 h]
theorem plus_row {x : Int} (h : Is ts x) (xs : List Int) : ∀ k, row (plus ts) x k xs = row ts x k xs
  | 0 => rfl
  | k + 1 => by rw [row, row, plus_row h xs k, plus_add hr h8 h]
theorem plus_st {t : Int} (h : Is ts t) : ∀ i, st (plus ts) t i = st ts t i
  | 0 => rfl
  | i + 1 => by
    rw [st, st, plus_st h i]
    split
    · rename_i hi
      have hm : rd (st ts t i) i ∈ st ts t i := by
        unfold rd
        rw [Int.toNat_natCast, List.getD_eq_getElem?_getD, List.getElem?_eq_getElem hi]
        exact List.getElem_mem hi
      have hx := (InN.st h i).2 _ hm
      have hI : Is ts (rd (st ts t i) i) := ⟨hr, hx.1, hx.2⟩
      rw [plus_row hr h8 hI, plus_typ hr h8 hI]
    · rfl
theorem plus_reach (t : Int) (h : Is ts t) : reach (plus ts) t = reach ts t := by
  obtain ⟨k, hk⟩ := st_ends h
  have h1 : Is ts t ∧ ∃ k, k = (st ts t k).length := ⟨h, k, hk⟩
  have h2 : Is (plus ts) t ∧ ∃ k, k = (st (plus ts) t k).length := ⟨plus_is hr h8 h, k, by rw [plus_st hr h8 h]; exact hk⟩
  unfold reach
  rw [dif_pos h1, dif_pos h2, plus_st hr h8 h]
  congr 2
  have e2 := h2.2.choose_spec
  rw [plus_st hr h8 h] at e2
  exact st_still e2 h1.2.choose_spec
end
end Go.Proofs.Ytjmhkimffocpeaa.KC

/-
  alive of layer 3 answers true; the law KindRefs in plain words.
-/
import Derived.Test.YtjmhkimffocpeaaKAx
namespace Go.Proofs.Ytjmhkimffocpeaa.KL
open Go.RowKit Go.Proofs.YtjmhkimffocpeaaW.PrintWords Go.Proofs.Ytjmhkimffocpeaa.Scan Go.Proofs.Ytjmhkimffocpeaa.K Go.Proofs.Ytjmhkimffocpeaa.KP Go.Proofs.Ytjmhkimffocpeaa.KR Go.Proofs.Ytjmhkimffocpeaa.KF Go.Proofs.Ytjmhkimffocpeaa.KG Go.Proofs.Ytjmhkimffocpeaa.KA

def ex : List ByteArray := [(⟨#[105, 49]⟩ : ByteArray), (⟨#[48]⟩ : ByteArray)]
theorem ex_short : Short ex := by
  intro s hs
  simp only [ex, List.mem_cons, List.not_mem_nil, or_false] at hs
  rcases hs with rfl | rfl <;> decide
theorem ex_right : Ev (fun k => kind_Right.f k ex) true := Ev.of (fun k => kind_Right.mono _ k) (k := 20) (by decide +kernel)
theorem ex_Rt : Rt ex := (right_iff ex).1 (ev_unique (kind_Right_ev ex (by decide) ex_short) ex_right)
theorem ex_to (t f r : Int) (h : kind_To.f 20 ex t f = some r) : to_ ex t f = r := ev_unique (kind_To_ev ex (by decide) ex_short t f) (Ev.of (fun k => kind_To.mono _ _ _ k) (k := 20) h)
theorem ex_size0 : (typ ex 0).size = 2 := by rw [typ_is ⟨ex_Rt, by decide, by decide⟩]; rfl
theorem ex_size1 : (typ ex 1).size = 1 := by rw [typ_is ⟨ex_Rt, by decide, by decide⟩]; rfl
theorem ex_st : st ex 0 2 = [0, 1] := by
  have h00 := ex_to 0 0 (-1) (by decide +kernel)
  have h01 := ex_to 0 1 1 (by decide +kernel)
  have h10 := ex_to 1 0 0 (by decide +kernel)
  have e1 : st ex 0 1 = [0, 1] := by
    rw [st, st, if_pos (by decide)]
    show row ex 0 (typ ex 0).size [0] = _
    rw [ex_size0, row, row, row, add, add]
    simp only [Int.natCast_zero, Int.natCast_one, h00, h01]
    decide
  rw [st, e1, if_pos (by decide)]
  show row ex 1 (typ ex 1).size [0, 1] = _
  rw [ex_size1, row, row, add]
  simp only [Int.natCast_zero, h10]
  decide
theorem ex_reach : kind_Reach.f ex 0 = some [0, 1] := by
  have hi : Is ex 0 := ⟨ex_Rt, by decide, by decide⟩
  have h2 : 2 = (st ex 0 2).length := by rw [ex_st]; rfl
  unfold kind_Reach.f
  rw [if_pos ex_short, reach, dif_pos ⟨hi, 2, h2⟩]
  have e := st_still (Exists.choose_spec (⟨hi, 2, h2⟩ : Is ex 0 ∧ ∃ k, k = (st ex 0 k).length).2) h2
  rw [e, ex_st]
  congr 1
  simp [fin, Srt.sorted]
theorem alive_ev : Ev (fun k => lockstitchlaw03_alive.f k) true := by
  unfold lockstitchlaw03_alive.f
  refine ev_bind ev_const ?_
  refine ev_bind ex_right ?_
  refine Ev.congr (fun k => if_pos rfl) ?_
  refine ev_bind (a := false) (Ev.of (fun k => kind_Right.mono _ k) (k := 20) (by decide +kernel)) ?_
  refine Ev.congr (fun k => if_neg (by decide)) ?_
  refine ev_bind (a := 2) (Ev.of (fun k => kind_Mask.mono _ _ k) (k := 20) (by decide +kernel)) ?_
  refine Ev.congr (fun k => if_pos rfl) ?_
  refine ev_bind (a := 1) (Ev.of (fun k => kind_To.mono _ _ _ k) (k := 20) (by decide +kernel)) ?_
  refine Ev.congr (fun k => if_pos rfl) ?_
  refine ev_bind (a := -1) (Ev.of (fun k => kind_To.mono _ _ _ k) (k := 20) (by decide +kernel)) ?_
  refine Ev.congr (fun k => if_pos rfl) ?_
  refine ev_bind (a := 2) (Ev.of (fun k => kind_Size.mono _ _ k) (k := 20) (by decide +kernel)) ?_
  refine Ev.congr (fun k => if_pos rfl) ?_
  refine ev_bind (a := [0, 1]) (ev_all fun _ => ex_reach) ?_
  refine ev_bind (a := true) (Ev.of (fun k => lockstitchlaw03_same.mono _ _ k) (k := 20) (by decide +kernel)) ?_
  refine Ev.congr (fun k => if_pos rfl) ?_
  exact ev_bind (a := true) (Ev.of (fun k => kind_Refs.mono _ _ k) (k := 20) (by decide +kernel)) ev_const
end Go.Proofs.Ytjmhkimffocpeaa.KL

/-
  The law KindRefs, in plain words: letters name types just if each one does.
-/
import Derived.Test.YtjmhkimffocpeaaKalive
import Derived.Test.YtjmhkimffocpeaaK4x
import Derived.Lib.SmallJoins
import Derived.Lib.Strings
namespace Go.Proofs.Ytjmhkimffocpeaa.KL
open Go.RowKit Go.Proofs.YtjmhkimffocpeaaW.PrintWords Go.Proofs.Ytjmhkimffocpeaa.Scan Go.Proofs.Ytjmhkimffocpeaa.K Go.Proofs.Ytjmhkimffocpeaa.KP Go.Proofs.Ytjmhkimffocpeaa.KR Go.Proofs.Ytjmhkimffocpeaa.KF Go.Proofs.Ytjmhkimffocpeaa.KG Go.Proofs.Ytjmhkimffocpeaa.KA Go.Proofs.Ytjmhkimffocpeaa.K4

theorem bt_list (s : ByteArray) (i : Int) : bt s i = ((s.data.toList.getD i.toNat 0).toNat : Int) := by
  unfold bt
  split
  · rename_i h
    have h' : i.toNat < s.data.toList.length := by rw [data_length]; exact h
    rw [List.getD_eq_getElem?_getD, List.getElem?_eq_getElem h', Option.getD_some, Array.getElem_toList]
    rfl
  · rename_i h
    have h' : s.data.toList.length ≤ i.toNat := by rw [data_length]; omega
    rw [List.getD_eq_getElem?_getD, List.getElem?_eq_none h']
    rfl
theorem bt_append (a b : ByteArray) (i : Int) (h0 : 0 ≤ i) : bt (a ++ b) i = if i < a.size then bt a i else bt b (i - a.size) := by
  rw [bt_list, bt_list, bt_list, Go.Joins.data_append, List.getD_eq_getElem?_getD, List.getD_eq_getElem?_getD, List.getD_eq_getElem?_getD]
  have hl := data_length a
  by_cases h : i < a.size
  · rw [if_pos h, List.getElem?_append_left (by omega)]
  · rw [if_neg h, List.getElem?_append_right (by omega), hl]
    congr 5
    omega
theorem size_append (a b : ByteArray) : (a ++ b).size = a.size + b.size := by
  rw [← data_length, Go.Joins.data_append, List.length_append, data_length, data_length]
theorem bt_one (a : ByteArray) (i : Nat) (_h : i < a.size) : bt (a.extract i (i + 1)) 0 = bt a i := by
  rw [bt_list, bt_list, Go.Lib.extract_data, List.getD_eq_getElem?_getD, List.getD_eq_getElem?_getD, List.getElem?_take, if_pos (by omega), List.getElem?_drop]
  congr 4
theorem size_one (a : ByteArray) (i : Nat) (h : i < a.size) : (a.extract i (i + 1)).size = 1 := by
  rw [ByteArray.size_extract]
  omega

theorem refs_append (ts : List ByteArray) (a b : ByteArray) : refs ts (a ++ b) = (refs ts a && refs ts b) := by
  rw [Bool.eq_iff_iff, Bool.and_eq_true, refs_iff, refs_iff, refs_iff]
  constructor
  · rintro ⟨h, hd⟩
    refine ⟨⟨h, fun j h0 h1 => ?_⟩, h, fun j h0 h1 => ?_⟩
    · have := hd j h0 (by rw [size_append]; omega)
      rwa [bt_append _ _ _ h0, if_pos h1] at this
    · have := hd (j + a.size) (by omega) (by rw [size_append]; omega)
      rwa [bt_append _ _ _ (by omega), if_neg (by omega), show j + (a.size : Int) - a.size = j by omega] at this
  · rintro ⟨⟨h, ha⟩, _, hb⟩
    refine ⟨h, fun j h0 h1 => ?_⟩
    rw [size_append] at h1
    rw [bt_append _ _ _ h0]
    split
    · exact ha j h0 (by assumption)
    · exact hb _ (by omega) (by omega)
theorem refs_one (ts : List ByteArray) (a : ByteArray) (i : Nat) (h : i < a.size) : refs ts (a.extract i (i + 1)) = true ↔ Rt ts ∧ 0 ≤ dg (bt a i) ts.length := by
  rw [refs_iff]
  refine and_congr_right fun _ => ⟨fun hd => ?_, fun hd j h0 h1 => ?_⟩
  · have := hd 0 (Int.le_refl _) (by rw [size_one a i h]; decide)
    rwa [bt_one a i h] at this
  · rw [size_one a i h] at h1
    have : j = 0 := by omega
    subst this
    rwa [bt_one a i h]
theorem refs_nil (ts : List ByteArray) : refs ts (⟨#[]⟩ : ByteArray) = right ts := by
  rw [Bool.eq_iff_iff, refs_iff, right_iff]
  refine ⟨fun h => h.1, fun h => ⟨h, fun j h0 h1 => ?_⟩⟩
  have : (⟨#[]⟩ : ByteArray).size = 0 := rfl
  omega
-- each, behind i letters
open Classical in
noncomputable def each (ts : List ByteArray) (a : ByteArray) (i : Nat) : Bool := decide (Rt ts ∧ ∀ j : Nat, j < i → 0 ≤ dg (bt a j) ts.length)
theorem each_iff (ts : List ByteArray) (a : ByteArray) (i : Nat) : each ts a i = true ↔ Rt ts ∧ ∀ j : Nat, j < i → 0 ≤ dg (bt a j) ts.length := by simp [each]
theorem each_zero (ts : List ByteArray) (a : ByteArray) : each ts a 0 = right ts := by
  rw [Bool.eq_iff_iff, each_iff, right_iff]
  exact ⟨fun h => h.1, fun h => ⟨h, fun j hj => by omega⟩⟩
theorem each_all (ts : List ByteArray) (a : ByteArray) : each ts a a.size = refs ts a := by
  rw [Bool.eq_iff_iff, each_iff, refs_iff]
  refine and_congr_right fun _ => ⟨fun h j h0 h1 => ?_, fun h j hj => h j (by omega) (by omega)⟩
  obtain ⟨n, rfl⟩ := Int.eq_ofNat_of_zero_le h0
  exact h n (by omega)
theorem each_succ (ts : List ByteArray) (a : ByteArray) (i : Nat) (h : i < a.size) : each ts a (i + 1) = (each ts a i && refs ts (a.extract i (i + 1))) := by
  rw [Bool.eq_iff_iff, Bool.and_eq_true, each_iff, each_iff, refs_one ts a i h]
  constructor
  · rintro ⟨hr, hd⟩
    exact ⟨⟨hr, fun j hj => hd j (by omega)⟩, hr, hd i (by omega)⟩
  · rintro ⟨⟨hr, hd⟩, _, hi⟩
    refine ⟨hr, fun j hj => ?_⟩
    rcases Nat.lt_succ_iff_lt_or_eq.1 hj with hlt | rfl
    · exact hd j hlt
    · exact hi

theorem KindRefs_pure (ts : List ByteArray) (a b : ByteArray) (hl : (ts.length : Int) ≤ 9223372036854775807) (hs : ∀ s ∈ ts, (s.size : Int) ≤ 9223372036854775807) (ha : a.size ≤ 140737488351232) (hb : b.size ≤ 140737488351232) :
    Ev (fun k => lockstitchlaw03_KindRefs.f k ts a b) true := by
  classical
  have J0 : Ev (fun k => lockstitchlaw03_KindRefs.j0 k ts a b true) true := ev_some fun k => by rw [lockstitchlaw03_KindRefs.j0, if_pos rfl]
  have L : ∀ (d i : Nat), i + d = a.size → Ev (fun k => lockstitchlaw03_KindRefs.l0 k ts a b (refs ts a && refs ts b) (each ts a i) (a.size : Int) (i : Int)) true := by
    intro d
    induction d with
    | zero =>
      intro i hi
      have hi' : i = a.size := by omega
      subst hi'
      refine ev_step (fun k => lockstitchlaw03_KindRefs.l0.eq_2 ..) (Ev.congr (fun k => if_neg (by omega)) (Ev.congr (fun k => if_pos (by omega)) ?_))
      refine ev_bind (kind_Refs_ev ts (a ++ b) hl hs (by rw [size_append]; omega)) (Ev.congr (fun k => if_pos (by rw [refs_append]; exact beq_self_eq_true _)) ?_)
      refine ev_bind (kind_Refs_ev ts a hl hs (by omega)) (Ev.congr (fun k => if_pos (by rw [each_all]; exact beq_self_eq_true _)) ?_)
      refine ev_bind (kind_Refs_ev ts (⟨#[]⟩ : ByteArray) hl hs (by decide)) (ev_bind (kind_Right_ev ts hl hs) (ev_all fun k => ?_))
      rw [refs_nil, beq_self_eq_true]
    | succ d ih =>
      intro i hi
      have := ih (i + 1) (by omega)
      have ew : wrap64 ((i : Int) + 1) = ((i + 1 : Nat) : Int) := by unfold wrap64; omega
      refine ev_step (fun k => lockstitchlaw03_KindRefs.l0.eq_2 ..) (Ev.congr (fun k => if_pos (by omega)) ?_)
      rw [ew]
      cases he : each ts a i with
      | false =>
        refine Ev.congr (fun k => if_neg (by decide)) ?_
        rw [each_succ ts a i (by omega), he, Bool.false_and] at this
        exact this
      | true =>
        refine Ev.congr (fun k => if_pos rfl) (Ev.congr (fun k => if_pos (by omega)) (Ev.congr (fun k => if_pos (by omega)) (Ev.congr (fun k => if_pos (by omega)) ?_)))
        rw [Int.toNat_natCast, Int.toNat_natCast]
        refine ev_bind (kind_Refs_ev ts _ hl hs (by rw [size_one a i (by omega)]; decide)) ?_
        rw [each_succ ts a i (by omega), he, Bool.true_and] at this
        exact this
  have J1 : Ev (fun k => lockstitchlaw03_KindRefs.j1 k ts a b (refs ts a && refs ts b)) true := by
    refine ev_step (fun k => lockstitchlaw03_KindRefs.j1.eq_2 ..) (ev_bind (kind_Right_ev ts hl hs) ?_)
    have := L a.size 0 (by omega)
    rw [each_zero] at this
    exact this
  have J0' : ∀ q, Ev (fun k => lockstitchlaw03_KindRefs.j0 k ts a b q) true := by
    intro q
    cases q with
    | true => exact J0
    | false =>
      refine ev_step (fun k => lockstitchlaw03_KindRefs.j0.eq_2 ..) (Ev.congr (fun k => if_neg (by decide)) (ev_bind (kind_Refs_ev ts a hl hs (by omega)) ?_))
      cases h : refs ts a with
      | true =>
        refine Ev.congr (fun k => if_pos rfl) (ev_bind (kind_Refs_ev ts b hl hs (by omega)) ?_)
        rw [h, Bool.true_and] at J1
        exact J1
      | false =>
        refine Ev.congr (fun k => if_neg (by decide)) ?_
        rw [h, Bool.false_and] at J1
        exact J1
  unfold lockstitchlaw03_KindRefs.f
  refine ev_bind alive_ev (Ev.congr (fun k => if_pos rfl) (ev_bind (few_ev ts hl) ?_))
  by_cases hf : Few ts
  · rw [decide_eq_true hf]
    refine Ev.congr (fun k => if_pos rfl) ?_
    by_cases h100 : (a.size : Int) > 100
    · exact Ev.congr (fun k => if_pos h100) (J0' _)
    · exact Ev.congr (fun k => if_neg h100) (J0' _)
  · rw [decide_eq_false hf]
    exact Ev.congr (fun k => if_neg (by decide)) (J0' _)
end Go.Proofs.Ytjmhkimffocpeaa.KL

/- Texts of this claim, pruned to what it needs and laid together by prune.py. -/
import Derived.Test.YtkplgfhkebkaaaaDoorMD29
import Derived.Test.YtkplgfhkebkaaaaDoorMD30
namespace Go.Proofs.YtkplgfhkebkaaaaDoor.LB
open Go.RowKit Go.Proofs.YtkplgfhkebkaaaaDoorW.PrintWords Go.Proofs.YtkplgfhkebkaaaaDoorW.PrintMore Go.Proofs.YtkplgfhkebkaaaaDoor.Scan Go.Proofs.YtkplgfhkebkaaaaDoor.F Go.Proofs.YtkplgfhkebkaaaaDoor.TT Go.Proofs.YtkplgfhkebkaaaaDoor.NX Go.Proofs.YtkplgfhkebkaaaaDoor.FP Go.Proofs.YtkplgfhkebkaaaaDoor.B8 Go.Proofs.YtkplgfhkebkaaaaDoor.V
set_option linter.unusedVariables false
def own (a : Int) : S8 := BitVec.twoPow 8 a.toNat
theorem own_bit (a : Int) (i : Nat) : (own a).getLsbD i = true ↔ a.toNat = i ∧ i < 8 := by
  unfold own
  rw [BitVec.getLsbD_twoPow, Bool.and_eq_true, decide_eq_true_iff, decide_eq_true_iff]
  omega
theorem iv_own (n : Nat) (h : n < 8) : iv (own (n : Int)) = 2 ^ n := by
  unfold iv own
  rw [BitVec.toNat_twoPow, Int.toNat_natCast, Nat.mod_eq_of_lt (Nat.pow_lt_pow_right (by decide) h)]
  exact Int.natCast_pow 2 n
theorem pow_lt {n : Nat} (h : n < 8) : (2 : Int) ^ n < 256 := by
  have h1 : 2 ^ n < 2 ^ 8 := Nat.pow_lt_pow_right (by decide) h
  have h2 : ((2 ^ n : Nat) : Int) = (2 : Int) ^ n := Int.natCast_pow 2 n
  rw [← h2]
  exact Int.ofNat_lt.2 h1
theorem own_out {a : Int} (h : a > 7) : own a = 0 := by
  refine BitVec.eq_of_getLsbD_eq fun i hi => ?_
  rw [Bool.eq_iff_iff, own_bit]
  simp
  omega
theorem shl_own {a : Int} (h : 0 ≤ a) : shl .u8 1 a = iv (own a) := by
  obtain ⟨n, rfl⟩ := Int.eq_ofNat_of_zero_le h
  unfold shl
  rw [IntKind.wrap_u8, Int.toNat_natCast]
  by_cases hn : n < 8
  · rw [iv_own n hn, show min n IntKind.u8.bits = n from Nat.min_eq_left (Nat.le_of_lt hn), Int.one_mul]
    have := pow_lt hn
    have : (0 : Int) ≤ 2 ^ n := Int.pow_nonneg (by decide)
    omega
  · rw [own_out (by omega), show min n IntKind.u8.bits = 8 from Nat.min_eq_right (by show 8 ≤ n; omega)]
    rfl
theorem zero_or (a : S8) : bits .or .u8 0 (iv a) = iv a := by
  rw [show (0 : Int) = iv 0 from rfl, bits_or]
  exact congrArg iv BitVec.zero_or
theorem ww1 : wrap64 (0 + 1) = 1 := by unfold wrap64; omega
theorem ww2 : wrap64 (1 + 1) = 2 := by unfold wrap64; omega
theorem bits1 {a : Int} (h : 0 ≤ a) : Ev (fun k => live_bits.f k [a]) (iv (own a)) := by
  have hl : (([a] : List Int).length : Int) = 1 := rfl
  have L1 : Ev (fun k => live_bits.l0 k (iv (own a)) [a] 1 1) (iv (own a)) := ev_step (fun k => live_bits.l0.eq_2 ..) (Ev.congr (fun k => if_neg (by omega)) ev_const)
  have L0 : Ev (fun k => live_bits.l0 k 0 [a] 1 0) (iv (own a)) := by
    refine ev_step (fun k => live_bits.l0.eq_2 ..) (Ev.congr (fun k => if_pos (by omega)) (Ev.congr (fun k => if_pos (by omega)) (Ev.congr (fun k => if_pos (by rw [hl]; omega)) (Ev.congr (fun k => if_pos h) ?_))))
    rw [ww1, show rd [a] 0 = a from rfl, shl_own h, zero_or]
    exact L1
  exact L0
theorem bits2 {a b : Int} (h : 0 ≤ a) (h' : 0 ≤ b) : Ev (fun k => live_bits.f k [a, b]) (iv (own a ||| own b)) := by
  have hl : (([a, b] : List Int).length : Int) = 2 := rfl
  have L2 : Ev (fun k => live_bits.l0 k (iv (own a ||| own b)) [a, b] 2 2) (iv (own a ||| own b)) := ev_step (fun k => live_bits.l0.eq_2 ..) (Ev.congr (fun k => if_neg (by omega)) ev_const)
  have L1 : Ev (fun k => live_bits.l0 k (iv (own a)) [a, b] 2 1) (iv (own a ||| own b)) := by
    refine ev_step (fun k => live_bits.l0.eq_2 ..) (Ev.congr (fun k => if_pos (by omega)) (Ev.congr (fun k => if_pos (by omega)) (Ev.congr (fun k => if_pos (by rw [hl]; omega)) (Ev.congr (fun k => if_pos h') ?_))))
    rw [ww2, show rd [a, b] 1 = b from rfl, shl_own h', bits_or]
    exact L2
  have L0 : Ev (fun k => live_bits.l0 k 0 [a, b] 2 0) (iv (own a ||| own b)) := by
    refine ev_step (fun k => live_bits.l0.eq_2 ..) (Ev.congr (fun k => if_pos (by omega)) (Ev.congr (fun k => if_pos (by omega)) (Ev.congr (fun k => if_pos (by rw [hl]; omega)) (Ev.congr (fun k => if_pos h) ?_))))
    rw [ww1, show rd [a, b] 0 = a from rfl, shl_own h, zero_or]
    exact L1
  exact L0
def usesB (x0 x1 x2 x3 : Int) : S8 := if x0 = 7 ∨ x0 = 8 ∨ x0 = 10 ∨ x0 = 13 then own x2 else if x0 = 9 then own x1 else if x0 = 11 then own x1 ||| own x2 else if x0 = 15 then own x2 ||| own x3 else 0
def setsB (x0 x1 : Int) : S8 := if x0 = 5 ∨ x0 = 6 ∨ x0 = 7 ∨ x0 = 10 ∨ x0 = 12 then own x1 else 0
section
variable {x0 x1 x2 x3 x4 : Int} (hw : WfI x0 x1 x2 x3 x4)
include hw
theorem uses_ev : Ev (fun k => live_Uses.f k x0 x1 x2 x3 x4) (iv (usesB x0 x1 x2 x3)) := by
  obtain ⟨_, ⟨h1, _⟩, ⟨h2, _⟩, ⟨h3, _⟩, _⟩ := hw
  have J : ∀ q : Bool, (q = true ↔ x0 = 7 ∨ x0 = 8 ∨ x0 = 10 ∨ x0 = 13) → Ev (fun k => live_Uses.j0 k x0 q x0 x1 x2 x3 x4) (iv (usesB x0 x1 x2 x3)) := by
    intro q hq
    refine ev_step (fun k => live_Uses.j0.eq_2 ..) ?_
    unfold usesB
    by_cases hb : q = true
    · rw [if_pos (hq.1 hb)]
      exact Ev.congr (fun k => if_pos hb) (ev_bind (bits1 h2) ev_const)
    · rw [if_neg (fun e => hb (hq.2 e))]
      refine Ev.congr (fun k => if_neg hb) ?_
      by_cases h9 : x0 = 9
      · rw [if_pos h9]
        exact Ev.congr (fun k => if_pos h9) (ev_bind (bits1 h1) ev_const)
      · rw [if_neg h9]
        refine Ev.congr (fun k => if_neg h9) ?_
        by_cases h11 : x0 = 11
        · rw [if_pos h11]
          exact Ev.congr (fun k => if_pos h11) (ev_bind (bits2 h1 h2) ev_const)
        · rw [if_neg h11]
          refine Ev.congr (fun k => if_neg h11) ?_
          by_cases h15 : x0 = 15
          · rw [if_pos h15]
            exact Ev.congr (fun k => if_pos h15) (ev_bind (bits2 h2 h3) ev_const)
          · rw [if_neg h15]
            exact Ev.congr (fun k => if_neg h15) ev_const
  by_cases h7 : x0 = 7
  · exact Ev.congr (fun k => if_pos h7) (J _ (by simp [h7]))
  · refine Ev.congr (fun k => if_neg h7) ?_
    by_cases h8 : x0 = 8
    · exact Ev.congr (fun k => if_pos h8) (J _ (by simp [h8]))
    · refine Ev.congr (fun k => if_neg h8) ?_
      by_cases h10 : x0 = 10
      · exact Ev.congr (fun k => if_pos h10) (J _ (by simp [h10]))
      · exact Ev.congr (fun k => if_neg h10) (J _ (by simp [h7, h8, h10]))
theorem sets_ev : Ev (fun k => live_Sets.f k x0 x1 x2 x3 x4) (iv (setsB x0 x1)) := by
  obtain ⟨_, ⟨h1, _⟩, _⟩ := hw
  have hs : x0 = 5 ∨ x0 = 6 ∨ x0 = 7 ∨ x0 = 10 ∨ x0 = 12 → setsB x0 x1 = own x1 := fun h => if_pos h
  by_cases h5 : x0 = 5
  · rw [hs (by omega)]
    exact Ev.congr (fun k => if_pos h5) (ev_bind (bits1 h1) ev_const)
  · refine Ev.congr (fun k => if_neg h5) ?_
    by_cases h6 : x0 = 6
    · rw [hs (by omega)]
      exact Ev.congr (fun k => if_pos h6) (ev_bind (bits1 h1) ev_const)
    · refine Ev.congr (fun k => if_neg h6) ?_
      by_cases h7 : x0 = 7
      · rw [hs (by omega)]
        exact Ev.congr (fun k => if_pos h7) (ev_bind (bits1 h1) ev_const)
      · refine Ev.congr (fun k => if_neg h7) ?_
        by_cases h10 : x0 = 10
        · rw [hs (by omega)]
          exact Ev.congr (fun k => if_pos h10) (ev_bind (bits1 h1) ev_const)
        · refine Ev.congr (fun k => if_neg h10) ?_
          by_cases h12 : x0 = 12
          · rw [hs (by omega)]
            exact Ev.congr (fun k => if_pos h12) (ev_bind (bits1 h1) ev_const)
          · rw [show setsB x0 x1 = 0 from if_neg (by omega)]
            exact Ev.congr (fun k => if_neg h12) ev_const
end
def stB (code : List S47) (k : Nat) : S8 := setsB (rd_T47 code k).f0 (rd_T47 code k).f1
def usB (code : List S47) (k : Nat) : S8 := usesB (rd_T47 code k).f0 (rd_T47 code k).f1 (rd_T47 code k).f2 (rd_T47 code k).f3
def lvB (code : List S47) : List S8 := lv (nxt code) code.length (stB code) (usB code)
def lvI (code : List S47) : List Int := (lvB code).map iv
def lorj (nx : Int → List Int) (out : List S8) (k j : Nat) : S8 := ((nx k).take j).foldl (fun n t => n ||| g out t.toNat) 0
theorem lorj_succ (nx : Int → List Int) (out : List S8) (k j : Nat) (h : j < (nx k).length) : lorj nx out k (j + 1) = lorj nx out k j ||| g out ((nx k)[j]).toNat := by
  unfold lorj
  rw [List.take_add_one, List.getElem?_eq_getElem h, Option.toList_some, List.foldl_append]
  rfl
theorem lorj_all (nx : Int → List Int) (out : List S8) (k : Nat) : lorj nx out k (nx k).length = lor nx out k := by
  unfold lorj lor
  rw [List.take_length]
theorem rd_iv (l : List S8) (i : Int) : rd (l.map iv) i = iv (g l i.toNat) := by
  unfold rd g
  rw [List.getD_eq_getElem?_getD, List.getElem?_map, List.getD_eq_getElem?_getD]
  cases l[i.toNat]? <;> rfl
end Go.Proofs.YtkplgfhkebkaaaaDoor.LB

namespace Go.Proofs.YtkplgfhkebkaaaaDoor.B8
open Go.Proofs.YtkplgfhkebkaaaaDoor.FP
set_option linter.unusedVariables false
theorem cut_of_sub {l : List S8} {n : S8} {t : Nat} (h : Sub (g l t) n) : cut l n t = l :=
  g_ext (by simp [cut]) fun i => by
    rw [cut_get]
    split
    · rename_i e
      rw [e.1, and_eq.2 h]
    · rfl
theorem cut_sub {l : List S8} (n : S8) {t : Nat} (h : t < l.length) : Sub (g (cut l n t) t) n := by
  rw [cut_get, if_pos ⟨rfl, h⟩]
  exact (sub_and_r.1 (Sub.refl _)).2
section
variable {nx : Int → List Int} {N : Nat} {F : Nat → S8 → S8} (hI : InR nx (N + 1)) (hF : ∀ k a b, Sub a b → Sub (F k a) (F k b))
variable (nx N F) in
structure WI (l : List S8) (todo : List Int) : Prop where
  inv : GInv nx N F l
  range : ∀ k ∈ todo, 0 ≤ k ∧ k ≤ N
  ok : ∀ k : Nat, k ≤ N → (k : Int) ∉ todo → ∀ t ∈ nx k, Sub (g l t.toNat) (F k (g l k))
variable (nx N F) in
structure WJ (l : List S8) (todo : List Int) (k : Nat) (n : S8) (j : Nat) : Prop where
  inv : GInv nx N F l
  range : ∀ k ∈ todo, 0 ≤ k ∧ k ≤ N
  kn : k ≤ N
  bound : ∀ s, Sol nx N F s → Sub (F k (g s k)) n
  ok : ∀ i : Nat, i ≤ N → i ≠ k → (i : Int) ∉ todo → ∀ t ∈ nx i, Sub (g l t.toNat) (F i (g l i))
  own : (k : Int) ∉ todo → n = F k (g l k)
  did : ∀ t ∈ (nx k).take j, Sub (g l t.toNat) n
include hF in
section
variable {l : List S8} {todo : List Int} {k j : Nat} {n : S8} (h : WJ nx N F l todo k n j)
include h
include hI in
end
def lft (l : List S8) (todo : List Int) : Nat := 2 * tot l + todo.length
variable (nx F) in
def jc (l : List S8) (n : S8) (ts : List Int) (j : Nat) : List S8 := (ts.take j).foldl (fun l t => cut l n t.toNat) l
variable (nx F) in
def kc (l : List S8) : Nat → List S8
  | 0 => l
  | k + 1 => jc (kc l k) (F k (g (kc l k) k)) (nx k) (nx k).length
variable (nx N F) in
def rc : Nat → List S8
  | 0 => List.replicate (N + 1) 255
  | r + 1 => kc nx F (rc r) N
theorem fold_ls (n : S8) : ∀ (ts : List Int) (l : List S8), LS (ts.foldl (fun l t => cut l n t.toNat) l) l
  | [], l => LS.refl l
  | t :: ts, l => (fold_ls n ts _).trans (cut_ls l n _)
theorem fold_sub (n : S8) : ∀ (ts : List Int) (l : List S8), (∀ t ∈ ts, t.toNat < l.length) → ∀ t ∈ ts, Sub (g (ts.foldl (fun l t => cut l n t.toNat) l) t.toNat) n
  | [], _, _, t, ht => by cases ht
  | x :: ts, l, hl, t, ht => by
    rw [List.foldl_cons]
    rcases List.mem_cons.1 ht with rfl | ht
    · exact ((fold_ls n ts _).2 _).trans (cut_sub n (hl _ (List.mem_cons_self ..)))
    · exact fold_sub n ts _ (fun y hy => by rw [(cut_ls l n x.toNat).1]; exact hl y (List.mem_cons_of_mem _ hy)) t ht
theorem fold_id (n : S8) : ∀ (ts : List Int) (l : List S8), (∀ t ∈ ts, Sub (g l t.toNat) n) → ts.foldl (fun l t => cut l n t.toNat) l = l
  | [], _, _ => rfl
  | x :: ts, l, h => by
    rw [List.foldl_cons, cut_of_sub (h x (List.mem_cons_self ..))]
    exact fold_id n ts l fun t ht => h t (List.mem_cons_of_mem _ ht)
theorem fold_inv (n : S8) {k : Nat} (hk : k ≤ N) (hn : ∀ s, Sol nx N F s → Sub (F k (g s k)) n) : ∀ (ts : List Int) (l : List S8), (∀ t ∈ ts, t ∈ nx k) → GInv nx N F l → GInv nx N F (ts.foldl (fun l t => cut l n t.toNat) l)
  | [], _, _, h => h
  | x :: ts, l, ht, h => fold_inv n hk hn ts _ (fun t hm => ht t (List.mem_cons_of_mem _ hm)) (h.cut hk (ht x (List.mem_cons_self ..)) hn)
theorem kc_ls (l : List S8) : ∀ k, LS (kc nx F l k) l
  | 0 => LS.refl l
  | k + 1 => (fold_ls ..).trans (kc_ls l k)
theorem kc_le (l : List S8) (k : Nat) : ∀ d, LS (kc nx F l (k + d)) (kc nx F l k)
  | 0 => LS.refl _
  | d + 1 => (fold_ls ..).trans (kc_le l k d)
include hF in
theorem kc_inv {l : List S8} (h : GInv nx N F l) : ∀ k, k ≤ N → GInv nx N F (kc nx F l k)
  | 0, _ => h
  | k + 1, hk => by
    have ih := kc_inv h k (by omega)
    exact fold_inv _ (by omega) (fun s hs => hF _ _ _ ((ih.great s hs).2 k)) _ _ (fun t ht => List.mem_of_mem_take ht) ih
include hF in
theorem rc_inv : ∀ r, GInv nx N F (rc nx N F r)
  | 0 => GInv.start
  | r + 1 => kc_inv hF (rc_inv r) N (Nat.le_refl _)
theorem kc_id {l : List S8} (h : Sol nx N F l) : ∀ k, k ≤ N → kc nx F l k = l
  | 0, _ => rfl
  | k + 1, hk => by
    have ih := kc_id h k (by omega)
    show jc (kc nx F l k) (F k (g (kc nx F l k) k)) (nx k) (nx k).length = l
    rw [ih]
    exact fold_id _ _ _ fun t ht => h.2 k (by omega) t (List.mem_of_mem_take ht)
variable (hN : nx N = [])
include hI hN in
theorem kc_sol {l : List S8} (hl : l.length = N + 1) (he : ∀ i, i < N → g (kc nx F l N) i = g l i) : Sol nx N F (kc nx F l N) := by
  refine ⟨by rw [(kc_ls l N).1, hl], fun k hk t ht => ?_⟩
  rcases Nat.lt_or_eq_of_le hk with hlt | rfl
  · have hmid : g (kc nx F l k) k = g l k := by
      obtain ⟨d, hd⟩ : ∃ d, N = k + d := ⟨N - k, by omega⟩
      refine Sub.anti ((kc_ls l k).2 k) ?_
      rw [← he k hlt]
      have := (kc_le (nx := nx) (F := F) l k d).2 k
      rwa [← hd] at this
    have h1 : Sub (g (kc nx F l (k + 1)) t.toNat) (F k (g (kc nx F l k) k)) := by
      refine fold_sub _ ((nx k).take (nx k).length) (kc nx F l k) (fun t ht => ?_) t (by rw [List.take_length]; exact ht)
      have := hI _ _ (List.mem_of_mem_take ht)
      rw [(kc_ls l k).1, hl]
      omega
    obtain ⟨d, hd⟩ : ∃ d, N = k + 1 + d := ⟨N - (k + 1), by omega⟩
    have h2 := (kc_le (nx := nx) (F := F) l (k + 1) d).2 t.toNat
    rw [← hd] at h2
    rw [he k hlt, ← hmid]
    exact h2.trans h1
  · rw [hN] at ht
    cases ht
theorem take_ls {a b : List S8} (h : LS a b) (N : Nat) : LS (a.take N) (b.take N) := by
  refine ⟨by rw [List.length_take, List.length_take, h.1], fun i => ?_⟩
  by_cases hi : i < N
  · have e : ∀ l : List S8, g (l.take N) i = g l i := fun l => by
      unfold g
      rw [List.getD_eq_getElem?_getD, List.getD_eq_getElem?_getD, List.getElem?_take, if_pos hi]
    rw [e, e]
    exact h.2 i
  · rw [g_out (by rw [List.length_take]; omega)]
    exact Sub.zero _
theorem take_eq {a b : List S8} {N : Nat} (h : a.take N = b.take N) (i : Nat) (hi : i < N) : g a i = g b i := by
  have e : ∀ l : List S8, g (l.take N) i = g l i := fun l => by
    unfold g
    rw [List.getD_eq_getElem?_getD, List.getD_eq_getElem?_getD, List.getElem?_take, if_pos hi]
  rw [← e a, ← e b, h]
include hI hF hN in
variable (nx N F) in
def fr : List S8 := rc nx N F (8 * N + 1)
include hF in
include hI hF hN in
include hI hF hN in
end
end Go.Proofs.YtkplgfhkebkaaaaDoor.B8

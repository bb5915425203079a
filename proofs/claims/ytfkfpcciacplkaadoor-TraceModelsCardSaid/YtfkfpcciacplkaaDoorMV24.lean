/- Texts of this claim, pruned to what it needs and laid together by prune.py. -/
import Derived.Test.YtfkfpcciacplkaaDoorMV23
import Derived.StillTailTactics
import Derived.RegionTactic
import Derived.BigRegion
import Derived.BigQuiet
import Derived.Deep.QuietTactic
import Derived.Deep.DeepCutAuto
import Derived.Deep.CutBlock
import Derived.Outline
import Derived.Deep.RegionHeld3
import Derived.Test.YtfkfpcciacplkaaDoorMV22
import Derived.Deep.RegionWith
import Derived.OwnWalk
import Derived.Deep.RegionLaw
import Derived.Deep.DrawnRows
namespace Go.Proofs.YtfkfpcciacplkaaDoor.ST
open Go.RowKit Go.Proofs.YtfkfpcciacplkaaDoorW.PrintWords Go.Proofs.YtfkfpcciacplkaaDoor.ST0
set_option linter.unusedVariables false
set_option linter.unusedSimpArgs false
section
variable (w : World) (n : Nat → Int) (oA tA : Option Addr) (ol oc tl tc : Nat) (pc st : Int) (a b c : Nat) (N : Int)
set_option maxHeartbeats 1000000 in
set_option maxRecDepth 100000 in
theorem mem_loadI (hs : List Hd) (os : List (List Int)) (eol : ol = hs.length) (hO : Objs w oA hs os) (o f : Nat) (ho : o < hs.length) (hf : f < (os.getD o []).length) (hp : n (8 + b) = (o : Int) + 1) (ha : (a : Int) < 8) (hb : (b : Int) < 8) :
    Calls Tryd.prog 76 #[.agg #[.int .i64 (n 0), .int .i64 (n 1), .int .i64 (n 2), .int .i64 (n 3), .int .i64 (n 4), .int .i64 (n 5), .int .i64 (n 6), .int .i64 (n 7), .int .i64 (n 8), .int .i64 (n 9), .int .i64 (n 10), .int .i64 (n 11), .int .i64 (n 12), .int .i64 (n 13), .int .i64 (n 14), .int .i64 (n 15), .int .i64 (n 16), .int .i64 (n 17), .int .i64 (n 18), .int .i64 (n 19), .slice oA ol oc, .slice tA tl tc, .int .i64 pc, .int .i64 st], .agg #[.int .u8 8, .int .u8 a, .int .u8 b, .int .u8 c, .int .i64 (f : Int)]] w fun e w' => e = .returned (.tuple #[.agg #[.int .i64 (upd n a ((os.getD o []).getD f 0) 0), .int .i64 (upd n a ((os.getD o []).getD f 0) 1), .int .i64 (upd n a ((os.getD o []).getD f 0) 2), .int .i64 (upd n a ((os.getD o []).getD f 0) 3), .int .i64 (upd n a ((os.getD o []).getD f 0) 4), .int .i64 (upd n a ((os.getD o []).getD f 0) 5), .int .i64 (upd n a ((os.getD o []).getD f 0) 6), .int .i64 (upd n a ((os.getD o []).getD f 0) 7), .int .i64 (n 8), .int .i64 (n 9), .int .i64 (n 10), .int .i64 (n 11), .int .i64 (n 12), .int .i64 (n 13), .int .i64 (n 14), .int .i64 (n 15), .int .i64 (n 16), .int .i64 (n 17), .int .i64 (n 18), .int .i64 (n 19), .slice oA ol oc, .slice tA tl tc, .int .i64 pc, .int .i64 st], .int .i64 0]) ∧ Below w.heap.size w w' := by
  subst eol
  obtain ⟨ad, had, eA, eH, h1, h2⟩ := hO.reads ho hf
  subst eA
  have hm1 := hO.row.2.1
  have hm2 := (hO.is o ho).2.2.2.1
  have hw1 : wrap64 (o : Int) = o := by unfold wrap64; omega
  have hx1 : ∀ p q r s : Obj, ((((w.alloc p).alloc q).alloc r).alloc s).cell? (ad.add o) = some (.slice (some had) (os.getD o []).length (hs.getD o default).c) := fun p q r s => cell_more h1 p q r s
  have hx2 : ∀ p q r s : Obj, ((((w.alloc p).alloc q).alloc r).alloc s).cell? (had.add f) = some (.int .i64 ((os.getD o []).getD f 0)) := fun p q r s => cell_more h2 p q r s
  obtain ⟨v, ev⟩ : ∃ v, v = (os.getD o []).getD f 0 := ⟨_, rfl⟩
  obtain ⟨m, em⟩ : ∃ m, m = (os.getD o []).length := ⟨_, rfl⟩
  rw [← ev] at hx2 ⊢
  rw [← em] at hf hx1
  have i0 : (0 : Int) ≤ o := by omega
  have i1 : (o : Int) < hs.length := by omega
  have f0 : (0 : Int) ≤ f := by omega
  have f1 : (f : Int) < m := by omega
  have hne : (((o : Int) + 1) == 0) = false := by
    rw [beq_eq_false_iff_ne]
    omega
  clear h1 h2 ev em eH hO
  have rb := rowS n (.slice (some ad) hs.length oc) (.slice tA tl tc) (.int .i64 pc) (.int .i64 st) (8 + b) (by omega)
  rw [hp] at rb
  clear hp
  have ra := row8 n 0 a (by omega)
  simp only [Nat.zero_add, Nat.reduceAdd] at ra
  have s8 := set8 n 0 a (by omega) (v)
  simp only [Nat.zero_add, Nat.reduceAdd] at s8
  have a0 : (0 : Int) ≤ a := by omega
  have b0 : (0 : Int) ≤ b := by omega
  go_enter Tryd.func76, Tryd.ntmps76
  go_upto_region 11 with (fail)
  go_region
  go_wp2_with (first
    | (apply ldS; (with_reducible rfl); rfl; rfl; exact rowT; rfl)
    | (apply srS; (with_reducible rfl); rfl; rfl; rfl; exact rowT; rfl; rfl; rfl; exact setT))
  refine ret2S rfl rfl rfl rfl rowT rfl ⟨rfl, ?_⟩
  repeat (first | exact Below.refl _ _ | refine below_alloc ?_ _ | refine below_drew1 ?_ | refine pw_below_drewN ?_ _)
set_option maxHeartbeats 1000000 in
set_option maxRecDepth 100000 in
theorem mem_loadP (hs : List Hd) (os : List (List Int)) (eol : ol = hs.length) (hO : Objs w oA hs os) (o f : Nat) (ho : o < hs.length) (hf : f < (os.getD o []).length) (hp : n (8 + b) = (o : Int) + 1) (ha : (a : Int) < 8) (hb : (b : Int) < 8) :
    Calls Tryd.prog 76 #[.agg #[.int .i64 (n 0), .int .i64 (n 1), .int .i64 (n 2), .int .i64 (n 3), .int .i64 (n 4), .int .i64 (n 5), .int .i64 (n 6), .int .i64 (n 7), .int .i64 (n 8), .int .i64 (n 9), .int .i64 (n 10), .int .i64 (n 11), .int .i64 (n 12), .int .i64 (n 13), .int .i64 (n 14), .int .i64 (n 15), .int .i64 (n 16), .int .i64 (n 17), .int .i64 (n 18), .int .i64 (n 19), .slice oA ol oc, .slice tA tl tc, .int .i64 pc, .int .i64 st], .agg #[.int .u8 10, .int .u8 a, .int .u8 b, .int .u8 c, .int .i64 (f : Int)]] w fun e w' => e = .returned (.tuple #[.agg #[.int .i64 (n 0), .int .i64 (n 1), .int .i64 (n 2), .int .i64 (n 3), .int .i64 (n 4), .int .i64 (n 5), .int .i64 (n 6), .int .i64 (n 7), .int .i64 (upd n (8 + a) ((os.getD o []).getD f 0) 8), .int .i64 (upd n (8 + a) ((os.getD o []).getD f 0) 9), .int .i64 (upd n (8 + a) ((os.getD o []).getD f 0) 10), .int .i64 (upd n (8 + a) ((os.getD o []).getD f 0) 11), .int .i64 (upd n (8 + a) ((os.getD o []).getD f 0) 12), .int .i64 (upd n (8 + a) ((os.getD o []).getD f 0) 13), .int .i64 (upd n (8 + a) ((os.getD o []).getD f 0) 14), .int .i64 (upd n (8 + a) ((os.getD o []).getD f 0) 15), .int .i64 (n 16), .int .i64 (n 17), .int .i64 (n 18), .int .i64 (n 19), .slice oA ol oc, .slice tA tl tc, .int .i64 pc, .int .i64 st], .int .i64 0]) ∧ Below w.heap.size w w' := by
  subst eol
  obtain ⟨ad, had, eA, eH, h1, h2⟩ := hO.reads ho hf
  subst eA
  have hm1 := hO.row.2.1
  have hm2 := (hO.is o ho).2.2.2.1
  have hw1 : wrap64 (o : Int) = o := by unfold wrap64; omega
  have hx1 : ∀ p q r s : Obj, ((((w.alloc p).alloc q).alloc r).alloc s).cell? (ad.add o) = some (.slice (some had) (os.getD o []).length (hs.getD o default).c) := fun p q r s => cell_more h1 p q r s
  have hx2 : ∀ p q r s : Obj, ((((w.alloc p).alloc q).alloc r).alloc s).cell? (had.add f) = some (.int .i64 ((os.getD o []).getD f 0)) := fun p q r s => cell_more h2 p q r s
  obtain ⟨v, ev⟩ : ∃ v, v = (os.getD o []).getD f 0 := ⟨_, rfl⟩
  obtain ⟨m, em⟩ : ∃ m, m = (os.getD o []).length := ⟨_, rfl⟩
  rw [← ev] at hx2 ⊢
  rw [← em] at hf hx1
  have i0 : (0 : Int) ≤ o := by omega
  have i1 : (o : Int) < hs.length := by omega
  have f0 : (0 : Int) ≤ f := by omega
  have f1 : (f : Int) < m := by omega
  have hne : (((o : Int) + 1) == 0) = false := by
    rw [beq_eq_false_iff_ne]
    omega
  clear h1 h2 ev em eH hO
  have rb := rowS n (.slice (some ad) hs.length oc) (.slice tA tl tc) (.int .i64 pc) (.int .i64 st) (8 + b) (by omega)
  rw [hp] at rb
  clear hp
  have ra := row8 n 8 a (by omega)
  simp only [Nat.zero_add, Nat.reduceAdd] at ra
  have s8 := set8 n 8 a (by omega) (v)
  simp only [Nat.zero_add, Nat.reduceAdd] at s8
  have a0 : (0 : Int) ≤ a := by omega
  have b0 : (0 : Int) ≤ b := by omega
  go_enter Tryd.func76, Tryd.ntmps76
  go_upto_region 15 with (fail)
  go_region
  go_wp2_with (first
    | (apply ldS; (with_reducible rfl); rfl; rfl; exact rowT; rfl)
    | (apply srS; (with_reducible rfl); rfl; rfl; rfl; exact rowT; rfl; rfl; rfl; exact setT))
  refine ret2S rfl rfl rfl rfl rowT rfl ⟨rfl, ?_⟩
  repeat (first | exact Below.refl _ _ | refine below_alloc ?_ _ | refine below_drew1 ?_ | refine pw_below_drewN ?_ _)
set_option maxHeartbeats 1000000 in
set_option maxRecDepth 100000 in
theorem mem_none8 (hb : (b : Int) < 8) (hp : n (8 + b) = 0) :
    Calls Tryd.prog 76 #[.agg #[.int .i64 (n 0), .int .i64 (n 1), .int .i64 (n 2), .int .i64 (n 3), .int .i64 (n 4), .int .i64 (n 5), .int .i64 (n 6), .int .i64 (n 7), .int .i64 (n 8), .int .i64 (n 9), .int .i64 (n 10), .int .i64 (n 11), .int .i64 (n 12), .int .i64 (n 13), .int .i64 (n 14), .int .i64 (n 15), .int .i64 (n 16), .int .i64 (n 17), .int .i64 (n 18), .int .i64 (n 19), .slice oA ol oc, .slice tA tl tc, .int .i64 pc, .int .i64 st], .agg #[.int .u8 8, .int .u8 a, .int .u8 b, .int .u8 c, .int .i64 N]] w fun e w' => e = .returned (.tuple #[.agg #[.int .i64 (n 0), .int .i64 (n 1), .int .i64 (n 2), .int .i64 (n 3), .int .i64 (n 4), .int .i64 (n 5), .int .i64 (n 6), .int .i64 (n 7), .int .i64 (n 8), .int .i64 (n 9), .int .i64 (n 10), .int .i64 (n 11), .int .i64 (n 12), .int .i64 (n 13), .int .i64 (n 14), .int .i64 (n 15), .int .i64 (n 16), .int .i64 (n 17), .int .i64 (n 18), .int .i64 (n 19), .slice oA ol oc, .slice tA tl tc, .int .i64 pc, .int .i64 st], .int .i64 9]) ∧ Below w.heap.size w w' := by
  have rb := rowS n (.slice oA ol oc) (.slice tA tl tc) (.int .i64 pc) (.int .i64 st) (8 + b) (by omega)
  rw [hp] at rb
  clear hp
  have b0 : (0 : Int) ≤ b := by omega
  go_enter Tryd.func76, Tryd.ntmps76
  go_wp2_with (first
    | (apply ldS; (with_reducible rfl); rfl; rfl; exact rowT; rfl)
    | (apply srS; (with_reducible rfl); rfl; rfl; rfl; exact rowT; rfl; rfl; rfl; exact setT))
  refine ret2S rfl rfl rfl rfl rowT rfl ⟨rfl, ?_⟩
  repeat (first | exact Below.refl _ _ | refine below_alloc ?_ _ | refine below_drew1 ?_ | refine pw_below_drewN ?_ _)
set_option maxHeartbeats 1000000 in
set_option maxRecDepth 100000 in
theorem mem_none10 (hb : (b : Int) < 8) (hp : n (8 + b) = 0) :
    Calls Tryd.prog 76 #[.agg #[.int .i64 (n 0), .int .i64 (n 1), .int .i64 (n 2), .int .i64 (n 3), .int .i64 (n 4), .int .i64 (n 5), .int .i64 (n 6), .int .i64 (n 7), .int .i64 (n 8), .int .i64 (n 9), .int .i64 (n 10), .int .i64 (n 11), .int .i64 (n 12), .int .i64 (n 13), .int .i64 (n 14), .int .i64 (n 15), .int .i64 (n 16), .int .i64 (n 17), .int .i64 (n 18), .int .i64 (n 19), .slice oA ol oc, .slice tA tl tc, .int .i64 pc, .int .i64 st], .agg #[.int .u8 10, .int .u8 a, .int .u8 b, .int .u8 c, .int .i64 N]] w fun e w' => e = .returned (.tuple #[.agg #[.int .i64 (n 0), .int .i64 (n 1), .int .i64 (n 2), .int .i64 (n 3), .int .i64 (n 4), .int .i64 (n 5), .int .i64 (n 6), .int .i64 (n 7), .int .i64 (n 8), .int .i64 (n 9), .int .i64 (n 10), .int .i64 (n 11), .int .i64 (n 12), .int .i64 (n 13), .int .i64 (n 14), .int .i64 (n 15), .int .i64 (n 16), .int .i64 (n 17), .int .i64 (n 18), .int .i64 (n 19), .slice oA ol oc, .slice tA tl tc, .int .i64 pc, .int .i64 st], .int .i64 9]) ∧ Below w.heap.size w w' := by
  have rb := rowS n (.slice oA ol oc) (.slice tA tl tc) (.int .i64 pc) (.int .i64 st) (8 + b) (by omega)
  rw [hp] at rb
  clear hp
  have b0 : (0 : Int) ≤ b := by omega
  go_enter Tryd.func76, Tryd.ntmps76
  go_wp2_with (first
    | (apply ldS; (with_reducible rfl); rfl; rfl; exact rowT; rfl)
    | (apply srS; (with_reducible rfl); rfl; rfl; rfl; exact rowT; rfl; rfl; rfl; exact setT))
  refine ret2S rfl rfl rfl rfl rowT rfl ⟨rfl, ?_⟩
  repeat (first | exact Below.refl _ _ | refine below_alloc ?_ _ | refine below_drew1 ?_ | refine pw_below_drewN ?_ _)
set_option maxHeartbeats 1000000 in
set_option maxRecDepth 100000 in
theorem mem_none9 (ha : (a : Int) < 8) (hp : n (8 + a) = 0) :
    Calls Tryd.prog 76 #[.agg #[.int .i64 (n 0), .int .i64 (n 1), .int .i64 (n 2), .int .i64 (n 3), .int .i64 (n 4), .int .i64 (n 5), .int .i64 (n 6), .int .i64 (n 7), .int .i64 (n 8), .int .i64 (n 9), .int .i64 (n 10), .int .i64 (n 11), .int .i64 (n 12), .int .i64 (n 13), .int .i64 (n 14), .int .i64 (n 15), .int .i64 (n 16), .int .i64 (n 17), .int .i64 (n 18), .int .i64 (n 19), .slice oA ol oc, .slice tA tl tc, .int .i64 pc, .int .i64 st], .agg #[.int .u8 9, .int .u8 a, .int .u8 b, .int .u8 c, .int .i64 N]] w fun e w' => e = .returned (.tuple #[.agg #[.int .i64 (n 0), .int .i64 (n 1), .int .i64 (n 2), .int .i64 (n 3), .int .i64 (n 4), .int .i64 (n 5), .int .i64 (n 6), .int .i64 (n 7), .int .i64 (n 8), .int .i64 (n 9), .int .i64 (n 10), .int .i64 (n 11), .int .i64 (n 12), .int .i64 (n 13), .int .i64 (n 14), .int .i64 (n 15), .int .i64 (n 16), .int .i64 (n 17), .int .i64 (n 18), .int .i64 (n 19), .slice oA ol oc, .slice tA tl tc, .int .i64 pc, .int .i64 st], .int .i64 9]) ∧ Below w.heap.size w w' := by
  have rb := rowS n (.slice oA ol oc) (.slice tA tl tc) (.int .i64 pc) (.int .i64 st) (8 + a) (by omega)
  rw [hp] at rb
  clear hp
  have a0 : (0 : Int) ≤ a := by omega
  go_enter Tryd.func76, Tryd.ntmps76
  go_wp2_with (first
    | (apply ldS; (with_reducible rfl); rfl; rfl; exact rowT; rfl)
    | (apply srS; (with_reducible rfl); rfl; rfl; rfl; exact rowT; rfl; rfl; rfl; exact setT))
  refine ret2S rfl rfl rfl rfl rowT rfl ⟨rfl, ?_⟩
  repeat (first | exact Below.refl _ _ | refine below_alloc ?_ _ | refine below_drew1 ?_ | refine pw_below_drewN ?_ _)
set_option maxHeartbeats 1000000 in
set_option maxRecDepth 100000 in
theorem mem_none11 (ha : (a : Int) < 8) (hp : n (8 + a) = 0) :
    Calls Tryd.prog 76 #[.agg #[.int .i64 (n 0), .int .i64 (n 1), .int .i64 (n 2), .int .i64 (n 3), .int .i64 (n 4), .int .i64 (n 5), .int .i64 (n 6), .int .i64 (n 7), .int .i64 (n 8), .int .i64 (n 9), .int .i64 (n 10), .int .i64 (n 11), .int .i64 (n 12), .int .i64 (n 13), .int .i64 (n 14), .int .i64 (n 15), .int .i64 (n 16), .int .i64 (n 17), .int .i64 (n 18), .int .i64 (n 19), .slice oA ol oc, .slice tA tl tc, .int .i64 pc, .int .i64 st], .agg #[.int .u8 11, .int .u8 a, .int .u8 b, .int .u8 c, .int .i64 N]] w fun e w' => e = .returned (.tuple #[.agg #[.int .i64 (n 0), .int .i64 (n 1), .int .i64 (n 2), .int .i64 (n 3), .int .i64 (n 4), .int .i64 (n 5), .int .i64 (n 6), .int .i64 (n 7), .int .i64 (n 8), .int .i64 (n 9), .int .i64 (n 10), .int .i64 (n 11), .int .i64 (n 12), .int .i64 (n 13), .int .i64 (n 14), .int .i64 (n 15), .int .i64 (n 16), .int .i64 (n 17), .int .i64 (n 18), .int .i64 (n 19), .slice oA ol oc, .slice tA tl tc, .int .i64 pc, .int .i64 st], .int .i64 9]) ∧ Below w.heap.size w w' := by
  have rb := rowS n (.slice oA ol oc) (.slice tA tl tc) (.int .i64 pc) (.int .i64 st) (8 + a) (by omega)
  rw [hp] at rb
  clear hp
  have a0 : (0 : Int) ≤ a := by omega
  go_enter Tryd.func76, Tryd.ntmps76
  go_wp2_with (first
    | (apply ldS; (with_reducible rfl); rfl; rfl; exact rowT; rfl)
    | (apply srS; (with_reducible rfl); rfl; rfl; rfl; exact rowT; rfl; rfl; rfl; exact setT))
  refine ret2S rfl rfl rfl rfl rowT rfl ⟨rfl, ?_⟩
  repeat (first | exact Below.refl _ _ | refine below_alloc ?_ _ | refine below_drew1 ?_ | refine pw_below_drewN ?_ _)
set_option maxHeartbeats 1000000 in
set_option maxRecDepth 100000 in
theorem mem_storeI (P : Nat → Prop) (hs : List Hd) (os : List (List Int)) (hO : ObF w P oA hs os) (hoc : hs.length ≤ oc) (o f : Nat) (ho : o < hs.length) (hf : f < (os.getD o []).length) (hl1 : hs.length ≤ 1000000) (hl2 : (os.getD o []).length ≤ 1000000) (hp : n (8 + a) = (o : Int) + 1) (ha : (a : Int) < 8) (hb : (b : Int) < 8) :
    Calls Tryd.prog 76 #[.agg #[.int .i64 (n 0), .int .i64 (n 1), .int .i64 (n 2), .int .i64 (n 3), .int .i64 (n 4), .int .i64 (n 5), .int .i64 (n 6), .int .i64 (n 7), .int .i64 (n 8), .int .i64 (n 9), .int .i64 (n 10), .int .i64 (n 11), .int .i64 (n 12), .int .i64 (n 13), .int .i64 (n 14), .int .i64 (n 15), .int .i64 (n 16), .int .i64 (n 17), .int .i64 (n 18), .int .i64 (n 19), .slice oA hs.length oc, .slice tA tl tc, .int .i64 pc, .int .i64 st], .agg #[.int .u8 9, .int .u8 a, .int .u8 b, .int .u8 c, .int .i64 (f : Int)]] w fun e w' => ∃ A' c' hs', e = .returned (.tuple #[.agg #[.int .i64 (n 0), .int .i64 (n 1), .int .i64 (n 2), .int .i64 (n 3), .int .i64 (n 4), .int .i64 (n 5), .int .i64 (n 6), .int .i64 (n 7), .int .i64 (n 8), .int .i64 (n 9), .int .i64 (n 10), .int .i64 (n 11), .int .i64 (n 12), .int .i64 (n 13), .int .i64 (n 14), .int .i64 (n 15), .int .i64 (n 16), .int .i64 (n 17), .int .i64 (n 18), .int .i64 (n 19), .slice A' hs'.length c', .slice tA tl tc, .int .i64 pc, .int .i64 st], .int .i64 0]) ∧ hs'.length ≤ c' ∧ ObF w' (fun k => P k ∨ w.heap.size ≤ k) A' hs' (os.set o ((os.getD o []).set f (n b))) ∧ Below w.heap.size w w' := by
  have HO := Aside0.mk hO
  have i0 : (0 : Int) ≤ o := by omega
  have hne : (((o : Int) + 1) == 0) = false := by
    rw [beq_eq_false_iff_ne]
    omega
  clear hO
  have ra := rowS n (.slice oA hs.length oc) (.slice tA tl tc) (.int .i64 pc) (.int .i64 st) (8 + a) (by omega)
  rw [hp] at ra
  clear hp
  have rb := rowS n (.slice oA hs.length oc) (.slice tA tl tc) (.int .i64 pc) (.int .i64 st) (b) (by omega)
  have a0 : (0 : Int) ≤ a := by omega
  have b0 : (0 : Int) ≤ b := by omega
  go_enter Tryd.func76, Tryd.ntmps76
  go_upto_region 18 with (fail)
  refine region_tail 10 (by kernel_rfl) (by kernel_rfl) ?_
  simp only [List.take_succ_cons, List.take_zero, List.drop_succ_cons, List.drop_zero]
  repeat still_step
  refine wpStill_nil ?_
  go_upto_region 19 with (first
    | (go_at_call 109; (with_reducible refine (put_calls _ oA oc hs os o f (n b) (fun k => P k ∧ k < w.heap.size) (HO.out.bound.below (by repeat (first | exact Below.refl _ _ | refine below_alloc ?_ _ | refine below_drew1 ?_ | refine pw_below_drewN ?_ _))) hoc ho hf hl1 hl2).mono ?_); rintro e w1 ⟨A1, c1, hs1, rfl, hc1, hO1, hb1⟩; obtain ⟨hcc, hff⟩ := bcell (B := w.heap.size + 1 + 1 + 1) (hb1.mono (by simp)); have b0 := (hb1.block w.heap.size (by simp; omega)).trans (rowT (p := _ = some (.cells _ 102 (0, 0)))); have b2 := (hb1.block (w.heap.size + 1 + 1) (by simp)).trans (rowT (p := _ = some (.cells _ 102 (0, 0)))); have HO1 := Aside0.mk hO1; have HB1 := Aside0.mk hb1; have HC1 := Aside0.mk hc1; clear hO1 hb1 hc1))
  generalize hW : World.setCell _ _ _ = W
  have r0 : W.heap[w.heap.size]? = some (.cells #[.int .i64 (n 0), .int .i64 (n 1), .int .i64 (n 2), .int .i64 (n 3), .int .i64 (n 4), .int .i64 (n 5), .int .i64 (n 6), .int .i64 (n 7), .int .i64 (n 8), .int .i64 (n 9), .int .i64 (n 10), .int .i64 (n 11), .int .i64 (n 12), .int .i64 (n 13), .int .i64 (n 14), .int .i64 (n 15), .int .i64 (n 16), .int .i64 (n 17), .int .i64 (n 18), .int .i64 (n 19), .slice A1 hs1.length c1, .slice tA tl tc, .int .i64 pc, .int .i64 st] 102 (0, 0)) := by
    rw [← hW]
    refine Eq.trans (rowT (p := _ = some (.cells _ 102 (0, 0)))) ?_
    simp
  have r2 : W.heap[w.heap.size + 1 + 1]? = some (.cells #[.int .i64 0, .int .i64 0, .int .i64 0, .int .i64 0, .int .i64 0, .int .i64 0, .int .i64 0, .int .i64 0, .int .i64 0, .int .i64 0, .int .i64 0, .int .i64 0, .int .i64 0, .int .i64 0, .int .i64 0, .int .i64 0, .int .i64 0, .int .i64 0, .int .i64 0, .int .i64 0, .slice none 0 0, .slice none 0 0, .int .i64 0, .int .i64 0] 102 (0, 0)) := by
    rw [← hW]
    exact rowT
  have hBW : Below w.heap.size w W := by
    rw [← hW]
    refine below_set ?_ (Nat.le_refl _)
    exact Below.trans (by repeat (first | exact Below.refl _ _ | refine below_alloc ?_ _ | refine below_drew1 ?_ | refine pw_below_drewN ?_ _)) (HB1.out.mono (by simp; try omega))
  have hOW : ∀ cs, ObF (W.setRow (w.heap.size + 1 + 1) cs) (fun k => P k ∨ w.heap.size ≤ k) A1 hs1 (os.set o ((os.getD o []).set f (n b))) := by
    intro cs
    refine ObF.mono (P := fun k => (P k ∧ k < w.heap.size) ∨ w.heap.size + 1 + 1 + 1 ≤ k) (ObF.step (ObF.mono HO1.out fun k hk => hk.imp id fun hk => by simpa using hk) fun k hk hl => ⟨?_, ?_⟩) fun k hk => hk.imp (fun h => h.1) fun h => by omega
    · rw [setRow_other W (w.heap.size + 1 + 1) k cs (by omega), ← hW]
      exact heap_setCell_other _ _ _ _ (show k ≠ w.heap.size by omega)
    · rw [← hW]
      simpa [World.setRow, World.setCell] using hl
  have HBW := Aside0.mk hBW
  have HOW := Aside0.mk hOW
  clear hW hBW hOW b0 b2 hcc hff
  go_wp2_with (first
    | (apply ldS; (with_reducible rfl); rfl; rfl; exact rowT; rfl)
    | (apply srS; (with_reducible rfl); rfl; rfl; rfl; exact rowT; rfl; rfl; rfl; rfl))
  refine ret2S rfl rfl rfl rfl (setRow_heap _ _ _ _ _ _ r2) rfl ⟨A1, c1, hs1, rfl, HC1.out, HOW.out _, below_row HBW.out (by omega)⟩
set_option maxHeartbeats 1000000 in
set_option maxRecDepth 100000 in
theorem mem_storeP (P : Nat → Prop) (hs : List Hd) (os : List (List Int)) (hO : ObF w P oA hs os) (hoc : hs.length ≤ oc) (o f : Nat) (ho : o < hs.length) (hf : f < (os.getD o []).length) (hl1 : hs.length ≤ 1000000) (hl2 : (os.getD o []).length ≤ 1000000) (hp : n (8 + a) = (o : Int) + 1) (ha : (a : Int) < 8) (hb : (b : Int) < 8) :
    Calls Tryd.prog 76 #[.agg #[.int .i64 (n 0), .int .i64 (n 1), .int .i64 (n 2), .int .i64 (n 3), .int .i64 (n 4), .int .i64 (n 5), .int .i64 (n 6), .int .i64 (n 7), .int .i64 (n 8), .int .i64 (n 9), .int .i64 (n 10), .int .i64 (n 11), .int .i64 (n 12), .int .i64 (n 13), .int .i64 (n 14), .int .i64 (n 15), .int .i64 (n 16), .int .i64 (n 17), .int .i64 (n 18), .int .i64 (n 19), .slice oA hs.length oc, .slice tA tl tc, .int .i64 pc, .int .i64 st], .agg #[.int .u8 11, .int .u8 a, .int .u8 b, .int .u8 c, .int .i64 (f : Int)]] w fun e w' => ∃ A' c' hs', e = .returned (.tuple #[.agg #[.int .i64 (n 0), .int .i64 (n 1), .int .i64 (n 2), .int .i64 (n 3), .int .i64 (n 4), .int .i64 (n 5), .int .i64 (n 6), .int .i64 (n 7), .int .i64 (n 8), .int .i64 (n 9), .int .i64 (n 10), .int .i64 (n 11), .int .i64 (n 12), .int .i64 (n 13), .int .i64 (n 14), .int .i64 (n 15), .int .i64 (n 16), .int .i64 (n 17), .int .i64 (n 18), .int .i64 (n 19), .slice A' hs'.length c', .slice tA tl tc, .int .i64 pc, .int .i64 st], .int .i64 0]) ∧ hs'.length ≤ c' ∧ ObF w' (fun k => P k ∨ w.heap.size ≤ k) A' hs' (os.set o ((os.getD o []).set f (n (8 + b)))) ∧ Below w.heap.size w w' := by
  have HO := Aside0.mk hO
  have i0 : (0 : Int) ≤ o := by omega
  have hne : (((o : Int) + 1) == 0) = false := by
    rw [beq_eq_false_iff_ne]
    omega
  clear hO
  have ra := rowS n (.slice oA hs.length oc) (.slice tA tl tc) (.int .i64 pc) (.int .i64 st) (8 + a) (by omega)
  rw [hp] at ra
  clear hp
  have rb := rowS n (.slice oA hs.length oc) (.slice tA tl tc) (.int .i64 pc) (.int .i64 st) (8 + b) (by omega)
  have a0 : (0 : Int) ≤ a := by omega
  have b0 : (0 : Int) ≤ b := by omega
  go_enter Tryd.func76, Tryd.ntmps76
  go_upto_region 8 with (fail)
  refine region_tail 10 (by kernel_rfl) (by kernel_rfl) ?_
  simp only [List.take_succ_cons, List.take_zero, List.drop_succ_cons, List.drop_zero]
  repeat still_step
  refine wpStill_nil ?_
  go_upto_region 19 with (first
    | (go_at_call 109; (with_reducible refine (put_calls _ oA oc hs os o f (n (8 + b)) (fun k => P k ∧ k < w.heap.size) (HO.out.bound.below (by repeat (first | exact Below.refl _ _ | refine below_alloc ?_ _ | refine below_drew1 ?_ | refine pw_below_drewN ?_ _))) hoc ho hf hl1 hl2).mono ?_); rintro e w1 ⟨A1, c1, hs1, rfl, hc1, hO1, hb1⟩; obtain ⟨hcc, hff⟩ := bcell (B := w.heap.size + 1 + 1 + 1) (hb1.mono (by simp)); have b0 := (hb1.block w.heap.size (by simp; omega)).trans (rowT (p := _ = some (.cells _ 102 (0, 0)))); have b2 := (hb1.block (w.heap.size + 1 + 1) (by simp)).trans (rowT (p := _ = some (.cells _ 102 (0, 0)))); have HO1 := Aside0.mk hO1; have HB1 := Aside0.mk hb1; have HC1 := Aside0.mk hc1; clear hO1 hb1 hc1))
  generalize hW : World.setCell _ _ _ = W
  have r0 : W.heap[w.heap.size]? = some (.cells #[.int .i64 (n 0), .int .i64 (n 1), .int .i64 (n 2), .int .i64 (n 3), .int .i64 (n 4), .int .i64 (n 5), .int .i64 (n 6), .int .i64 (n 7), .int .i64 (n 8), .int .i64 (n 9), .int .i64 (n 10), .int .i64 (n 11), .int .i64 (n 12), .int .i64 (n 13), .int .i64 (n 14), .int .i64 (n 15), .int .i64 (n 16), .int .i64 (n 17), .int .i64 (n 18), .int .i64 (n 19), .slice A1 hs1.length c1, .slice tA tl tc, .int .i64 pc, .int .i64 st] 102 (0, 0)) := by
    rw [← hW]
    refine Eq.trans (rowT (p := _ = some (.cells _ 102 (0, 0)))) ?_
    simp
  have r2 : W.heap[w.heap.size + 1 + 1]? = some (.cells #[.int .i64 0, .int .i64 0, .int .i64 0, .int .i64 0, .int .i64 0, .int .i64 0, .int .i64 0, .int .i64 0, .int .i64 0, .int .i64 0, .int .i64 0, .int .i64 0, .int .i64 0, .int .i64 0, .int .i64 0, .int .i64 0, .int .i64 0, .int .i64 0, .int .i64 0, .int .i64 0, .slice none 0 0, .slice none 0 0, .int .i64 0, .int .i64 0] 102 (0, 0)) := by
    rw [← hW]
    exact rowT
  have hBW : Below w.heap.size w W := by
    rw [← hW]
    refine below_set ?_ (Nat.le_refl _)
    exact Below.trans (by repeat (first | exact Below.refl _ _ | refine below_alloc ?_ _ | refine below_drew1 ?_ | refine pw_below_drewN ?_ _)) (HB1.out.mono (by simp; try omega))
  have hOW : ∀ cs, ObF (W.setRow (w.heap.size + 1 + 1) cs) (fun k => P k ∨ w.heap.size ≤ k) A1 hs1 (os.set o ((os.getD o []).set f (n (8 + b)))) := by
    intro cs
    refine ObF.mono (P := fun k => (P k ∧ k < w.heap.size) ∨ w.heap.size + 1 + 1 + 1 ≤ k) (ObF.step (ObF.mono HO1.out fun k hk => hk.imp id fun hk => by simpa using hk) fun k hk hl => ⟨?_, ?_⟩) fun k hk => hk.imp (fun h => h.1) fun h => by omega
    · rw [setRow_other W (w.heap.size + 1 + 1) k cs (by omega), ← hW]
      exact heap_setCell_other _ _ _ _ (show k ≠ w.heap.size by omega)
    · rw [← hW]
      simpa [World.setRow, World.setCell] using hl
  have HBW := Aside0.mk hBW
  have HOW := Aside0.mk hOW
  clear hW hBW hOW b0 b2 hcc hff
  go_wp2_with (first
    | (apply ldS; (with_reducible rfl); rfl; rfl; exact rowT; rfl)
    | (apply srS; (with_reducible rfl); rfl; rfl; rfl; exact rowT; rfl; rfl; rfl; rfl))
  refine ret2S rfl rfl rfl rfl (setRow_heap _ _ _ _ _ _ r2) rfl ⟨A1, c1, hs1, rfl, HC1.out, HOW.out _, below_row HBW.out (by omega)⟩
end
end Go.Proofs.YtfkfpcciacplkaaDoor.ST

namespace Go.Proofs.YtfkfpcciacplkaaDoor.ST
open Go.RowKit Go.Proofs.YtfkfpcciacplkaaDoorW.PrintWords Go.Proofs.YtfkfpcciacplkaaDoor.F Go.Proofs.YtfkfpcciacplkaaDoor.ST0
set_option linter.unusedVariables false
set_option linter.unusedSimpArgs false
section
variable (w : World) (n : Nat → Int) (oA tA : Option Addr) (ol oc tl tc : Nat) (pc st : Int) (a b c : Nat) (o N : Int) (A0 : Option Addr) (c0 : Nat) (ts : List ByteArray) (la gl : ByteArray) (A3 : Option Addr) (c3 : Nat) (code : List S68)
set_option maxHeartbeats 1000000 in
set_option maxRecDepth 100000 in
theorem ptr_nil (ha : (a : Int) < 8) :
    Calls Tryd.prog 75 #[.agg #[.slice A0 ts.length c0, .string la, .string gl, .slice A3 code.length c3], .agg #[.int .i64 (n 0), .int .i64 (n 1), .int .i64 (n 2), .int .i64 (n 3), .int .i64 (n 4), .int .i64 (n 5), .int .i64 (n 6), .int .i64 (n 7), .int .i64 (n 8), .int .i64 (n 9), .int .i64 (n 10), .int .i64 (n 11), .int .i64 (n 12), .int .i64 (n 13), .int .i64 (n 14), .int .i64 (n 15), .int .i64 (n 16), .int .i64 (n 17), .int .i64 (n 18), .int .i64 (n 19), .slice oA ol oc, .slice tA tl tc, .int .i64 pc, .int .i64 st], .agg #[.int .u8 6, .int .u8 a, .int .u8 b, .int .u8 c, .int .i64 N]] w fun e w' => e = .returned (.tuple #[.agg #[.int .i64 (n 0), .int .i64 (n 1), .int .i64 (n 2), .int .i64 (n 3), .int .i64 (n 4), .int .i64 (n 5), .int .i64 (n 6), .int .i64 (n 7), .int .i64 (upd n (8 + a) (0) 8), .int .i64 (upd n (8 + a) (0) 9), .int .i64 (upd n (8 + a) (0) 10), .int .i64 (upd n (8 + a) (0) 11), .int .i64 (upd n (8 + a) (0) 12), .int .i64 (upd n (8 + a) (0) 13), .int .i64 (upd n (8 + a) (0) 14), .int .i64 (upd n (8 + a) (0) 15), .int .i64 (n 16), .int .i64 (n 17), .int .i64 (n 18), .int .i64 (n 19), .slice oA ol oc, .slice tA tl tc, .int .i64 pc, .int .i64 st], .bool true]) ∧ Below w.heap.size w w' := by
  have ra := row8 n 8 a (by omega)
  simp only [Nat.zero_add, Nat.reduceAdd] at ra
  have s8 := set8 n 8 a (by omega) (0)
  simp only [Nat.zero_add, Nat.reduceAdd] at s8
  have a0 : (0 : Int) ≤ a := by omega
  go_enter Tryd.func75, Tryd.ntmps75
  go_upto_region 1 with (fail)
  go_region
  go_wp2_with (first
    | (apply ldS; (with_reducible rfl); rfl; rfl; exact rowT; rfl)
    | (apply srS; (with_reducible rfl); rfl; rfl; rfl; exact rowT; rfl; rfl; rfl; exact setT))
  all_goals
    refine ret2S rfl rfl rfl rfl rowT rfl ⟨rfl, ?_⟩
    repeat (first | exact Below.refl _ _ | refine below_alloc ?_ _ | refine below_drew1 ?_ | refine pw_below_drewN ?_ _)
set_option maxHeartbeats 1000000 in
set_option maxRecDepth 100000 in
theorem ptr_move (ha : (a : Int) < 8) (hb : (b : Int) < 8) :
    Calls Tryd.prog 75 #[.agg #[.slice A0 ts.length c0, .string la, .string gl, .slice A3 code.length c3], .agg #[.int .i64 (n 0), .int .i64 (n 1), .int .i64 (n 2), .int .i64 (n 3), .int .i64 (n 4), .int .i64 (n 5), .int .i64 (n 6), .int .i64 (n 7), .int .i64 (n 8), .int .i64 (n 9), .int .i64 (n 10), .int .i64 (n 11), .int .i64 (n 12), .int .i64 (n 13), .int .i64 (n 14), .int .i64 (n 15), .int .i64 (n 16), .int .i64 (n 17), .int .i64 (n 18), .int .i64 (n 19), .slice oA ol oc, .slice tA tl tc, .int .i64 pc, .int .i64 st], .agg #[.int .u8 7, .int .u8 a, .int .u8 b, .int .u8 c, .int .i64 N]] w fun e w' => e = .returned (.tuple #[.agg #[.int .i64 (n 0), .int .i64 (n 1), .int .i64 (n 2), .int .i64 (n 3), .int .i64 (n 4), .int .i64 (n 5), .int .i64 (n 6), .int .i64 (n 7), .int .i64 (upd n (8 + a) (n (8 + b)) 8), .int .i64 (upd n (8 + a) (n (8 + b)) 9), .int .i64 (upd n (8 + a) (n (8 + b)) 10), .int .i64 (upd n (8 + a) (n (8 + b)) 11), .int .i64 (upd n (8 + a) (n (8 + b)) 12), .int .i64 (upd n (8 + a) (n (8 + b)) 13), .int .i64 (upd n (8 + a) (n (8 + b)) 14), .int .i64 (upd n (8 + a) (n (8 + b)) 15), .int .i64 (n 16), .int .i64 (n 17), .int .i64 (n 18), .int .i64 (n 19), .slice oA ol oc, .slice tA tl tc, .int .i64 pc, .int .i64 st], .bool true]) ∧ Below w.heap.size w w' := by
  have ra := row8 n 8 a (by omega)
  simp only [Nat.zero_add, Nat.reduceAdd] at ra
  have rb := row8 n 8 b (by omega)
  simp only [Nat.zero_add, Nat.reduceAdd] at rb
  have s8 := set8 n 8 a (by omega) (n (8 + b))
  simp only [Nat.zero_add, Nat.reduceAdd] at s8
  have a0 : (0 : Int) ≤ a := by omega
  have b0 : (0 : Int) ≤ b := by omega
  go_enter Tryd.func75, Tryd.ntmps75
  go_upto_region 1 with (fail)
  go_region
  all_goals
    go_upto_region 12 with (fail)
  all_goals
    go_region
  go_wp2_with (first
    | (apply ldS; (with_reducible rfl); rfl; rfl; exact rowT; rfl)
    | (apply srS; (with_reducible rfl); rfl; rfl; rfl; exact rowT; rfl; rfl; rfl; exact setT))
  all_goals
    refine ret2S rfl rfl rfl rfl rowT rfl ⟨rfl, ?_⟩
    repeat (first | exact Below.refl _ _ | refine below_alloc ?_ _ | refine below_drew1 ?_ | refine pw_below_drewN ?_ _)
set_option maxHeartbeats 1000000 in
set_option maxRecDepth 100000 in
theorem ptr_loadG (ha : (a : Int) < 8) (hb : (b : Int) < 4) :
    Calls Tryd.prog 75 #[.agg #[.slice A0 ts.length c0, .string la, .string gl, .slice A3 code.length c3], .agg #[.int .i64 (n 0), .int .i64 (n 1), .int .i64 (n 2), .int .i64 (n 3), .int .i64 (n 4), .int .i64 (n 5), .int .i64 (n 6), .int .i64 (n 7), .int .i64 (n 8), .int .i64 (n 9), .int .i64 (n 10), .int .i64 (n 11), .int .i64 (n 12), .int .i64 (n 13), .int .i64 (n 14), .int .i64 (n 15), .int .i64 (n 16), .int .i64 (n 17), .int .i64 (n 18), .int .i64 (n 19), .slice oA ol oc, .slice tA tl tc, .int .i64 pc, .int .i64 st], .agg #[.int .u8 12, .int .u8 a, .int .u8 b, .int .u8 c, .int .i64 N]] w fun e w' => e = .returned (.tuple #[.agg #[.int .i64 (n 0), .int .i64 (n 1), .int .i64 (n 2), .int .i64 (n 3), .int .i64 (n 4), .int .i64 (n 5), .int .i64 (n 6), .int .i64 (n 7), .int .i64 (upd n (8 + a) (n (16 + b)) 8), .int .i64 (upd n (8 + a) (n (16 + b)) 9), .int .i64 (upd n (8 + a) (n (16 + b)) 10), .int .i64 (upd n (8 + a) (n (16 + b)) 11), .int .i64 (upd n (8 + a) (n (16 + b)) 12), .int .i64 (upd n (8 + a) (n (16 + b)) 13), .int .i64 (upd n (8 + a) (n (16 + b)) 14), .int .i64 (upd n (8 + a) (n (16 + b)) 15), .int .i64 (n 16), .int .i64 (n 17), .int .i64 (n 18), .int .i64 (n 19), .slice oA ol oc, .slice tA tl tc, .int .i64 pc, .int .i64 st], .bool true]) ∧ Below w.heap.size w w' := by
  have ra := row8 n 8 a (by omega)
  simp only [Nat.zero_add, Nat.reduceAdd] at ra
  have gb := row4 n 16 b (by omega)
  simp only [Nat.reduceAdd, Nat.add_zero] at gb
  have s8 := set8 n 8 a (by omega) (n (16 + b))
  simp only [Nat.zero_add, Nat.reduceAdd] at s8
  have a0 : (0 : Int) ≤ a := by omega
  have b0 : (0 : Int) ≤ b := by omega
  go_enter Tryd.func75, Tryd.ntmps75
  go_upto_region 1 with (fail)
  go_region
  all_goals
    go_upto_region 14 with (fail)
  all_goals
    go_region
  go_wp2_with (first
    | (apply ldS; (with_reducible rfl); rfl; rfl; exact rowT; rfl)
    | (apply srS; (with_reducible rfl); rfl; rfl; rfl; exact rowT; rfl; rfl; rfl; exact setT))
  all_goals
    refine ret2S rfl rfl rfl rfl rowT rfl ⟨rfl, ?_⟩
    repeat (first | exact Below.refl _ _ | refine below_alloc ?_ _ | refine below_drew1 ?_ | refine pw_below_drewN ?_ _)
set_option maxHeartbeats 1000000 in
set_option maxRecDepth 100000 in
theorem ptr_storeG (ha : (a : Int) < 4) (hb : (b : Int) < 8) :
    Calls Tryd.prog 75 #[.agg #[.slice A0 ts.length c0, .string la, .string gl, .slice A3 code.length c3], .agg #[.int .i64 (n 0), .int .i64 (n 1), .int .i64 (n 2), .int .i64 (n 3), .int .i64 (n 4), .int .i64 (n 5), .int .i64 (n 6), .int .i64 (n 7), .int .i64 (n 8), .int .i64 (n 9), .int .i64 (n 10), .int .i64 (n 11), .int .i64 (n 12), .int .i64 (n 13), .int .i64 (n 14), .int .i64 (n 15), .int .i64 (n 16), .int .i64 (n 17), .int .i64 (n 18), .int .i64 (n 19), .slice oA ol oc, .slice tA tl tc, .int .i64 pc, .int .i64 st], .agg #[.int .u8 13, .int .u8 a, .int .u8 b, .int .u8 c, .int .i64 N]] w fun e w' => e = .returned (.tuple #[.agg #[.int .i64 (n 0), .int .i64 (n 1), .int .i64 (n 2), .int .i64 (n 3), .int .i64 (n 4), .int .i64 (n 5), .int .i64 (n 6), .int .i64 (n 7), .int .i64 (n 8), .int .i64 (n 9), .int .i64 (n 10), .int .i64 (n 11), .int .i64 (n 12), .int .i64 (n 13), .int .i64 (n 14), .int .i64 (n 15), .int .i64 (upd n (16 + a) (n (8 + b)) 16), .int .i64 (upd n (16 + a) (n (8 + b)) 17), .int .i64 (upd n (16 + a) (n (8 + b)) 18), .int .i64 (upd n (16 + a) (n (8 + b)) 19), .slice oA ol oc, .slice tA tl tc, .int .i64 pc, .int .i64 st], .bool true]) ∧ Below w.heap.size w w' := by
  have rb := row8 n 8 b (by omega)
  simp only [Nat.zero_add, Nat.reduceAdd] at rb
  have ga := row4 n 16 a (by omega)
  simp only [Nat.reduceAdd, Nat.add_zero] at ga
  have s4 := set4 n 16 a (by omega) (n (8 + b))
  simp only [Nat.reduceAdd, Nat.add_zero] at s4
  have a0 : (0 : Int) ≤ a := by omega
  have b0 : (0 : Int) ≤ b := by omega
  go_enter Tryd.func75, Tryd.ntmps75
  go_upto_region 1 with (fail)
  go_region
  all_goals
    go_upto_region 16 with (fail)
  all_goals
    go_region
  go_wp2_with (first
    | (apply ldS; (with_reducible rfl); rfl; rfl; exact rowT; rfl)
    | (apply srS; (with_reducible rfl); rfl; rfl; rfl; exact rowT; rfl; rfl; rfl; exact setT))
  all_goals
    refine ret2S rfl rfl rfl rfl rowT rfl ⟨rfl, ?_⟩
    repeat (first | exact Below.refl _ _ | refine below_alloc ?_ _ | refine below_drew1 ?_ | refine pw_below_drewN ?_ _)
set_option maxHeartbeats 1000000 in
set_option maxRecDepth 100000 in
theorem ptr_other (h5 : ¬ o = 5) (h6 : ¬ o = 6) (h7 : ¬ o = 7) (h12 : ¬ o = 12) (h13 : ¬ o = 13) :
    Calls Tryd.prog 75 #[.agg #[.slice A0 ts.length c0, .string la, .string gl, .slice A3 code.length c3], .agg #[.int .i64 (n 0), .int .i64 (n 1), .int .i64 (n 2), .int .i64 (n 3), .int .i64 (n 4), .int .i64 (n 5), .int .i64 (n 6), .int .i64 (n 7), .int .i64 (n 8), .int .i64 (n 9), .int .i64 (n 10), .int .i64 (n 11), .int .i64 (n 12), .int .i64 (n 13), .int .i64 (n 14), .int .i64 (n 15), .int .i64 (n 16), .int .i64 (n 17), .int .i64 (n 18), .int .i64 (n 19), .slice oA ol oc, .slice tA tl tc, .int .i64 pc, .int .i64 st], .agg #[.int .u8 o, .int .u8 a, .int .u8 b, .int .u8 c, .int .i64 N]] w fun e w' => e = .returned (.tuple #[.agg #[.int .i64 (n 0), .int .i64 (n 1), .int .i64 (n 2), .int .i64 (n 3), .int .i64 (n 4), .int .i64 (n 5), .int .i64 (n 6), .int .i64 (n 7), .int .i64 (n 8), .int .i64 (n 9), .int .i64 (n 10), .int .i64 (n 11), .int .i64 (n 12), .int .i64 (n 13), .int .i64 (n 14), .int .i64 (n 15), .int .i64 (n 16), .int .i64 (n 17), .int .i64 (n 18), .int .i64 (n 19), .slice oA ol oc, .slice tA tl tc, .int .i64 pc, .int .i64 st], .bool false]) ∧ Below w.heap.size w w' := by
  go_enter Tryd.func75, Tryd.ntmps75
  go_upto_region 1 with (fail)
  go_region
  go_wp2_with (first
    | (apply ldS; (with_reducible rfl); rfl; rfl; exact rowT; rfl)
    | (apply srS; (with_reducible rfl); rfl; rfl; rfl; exact rowT; rfl; rfl; rfl; exact setT))
  all_goals
    refine ret2S rfl rfl rfl rfl rowT rfl ⟨rfl, ?_⟩
    repeat (first | exact Below.refl _ _ | refine below_alloc ?_ _ | refine below_drew1 ?_ | refine pw_below_drewN ?_ _)
end
end Go.Proofs.YtfkfpcciacplkaaDoor.ST

namespace Go.Proofs.YtfkfpcciacplkaaDoor.ST
open Go.RowKit Go.Proofs.YtfkfpcciacplkaaDoorW.PrintWords Go.Proofs.YtfkfpcciacplkaaDoor.F Go.Proofs.YtfkfpcciacplkaaDoor.ST0
set_option linter.unusedVariables false
set_option linter.unusedSimpArgs false
section
variable (w : World) (n : Nat → Int) (oA tA : Option Addr) (ol oc tl tc : Nat) (pc st : Int) (a b c : Nat) (N : Int) (A0 : Option Addr) (c0 : Nat) (ts : List ByteArray) (la gl : ByteArray) (A3 : Option Addr) (c3 : Nat) (code : List S68)
set_option maxHeartbeats 4000000 in
set_option maxRecDepth 100000 in
theorem ptr_new (P : Nat → Prop) (hs : List Hd) (os : List (List Int)) (hO : ObF w P oA hs os) (hoc : hs.length ≤ oc) (hl1 : hs.length ≤ 1000000) (ha : (a : Int) < 8)
    (hT : Kd.C Kd.string w A0 ts.length ts) (hc0 : ts.length ≤ c0) (hC : Kd.C k68 w A3 code.length code) (hc3 : code.length ≤ c3) (k1 k2 : Nat) (t0 : Int) (m : Nat) (hm : m ≤ 1000000)
    (hL : lockstitchref05_Local.f k1 ts la gl code a = some t0) (hS : lockstitchref03_Size.f k2 ts t0 = some (m : Int)) :
    Calls Tryd.prog 75 #[.agg #[.slice A0 ts.length c0, .string la, .string gl, .slice A3 code.length c3], .agg #[.int .i64 (n 0), .int .i64 (n 1), .int .i64 (n 2), .int .i64 (n 3), .int .i64 (n 4), .int .i64 (n 5), .int .i64 (n 6), .int .i64 (n 7), .int .i64 (n 8), .int .i64 (n 9), .int .i64 (n 10), .int .i64 (n 11), .int .i64 (n 12), .int .i64 (n 13), .int .i64 (n 14), .int .i64 (n 15), .int .i64 (n 16), .int .i64 (n 17), .int .i64 (n 18), .int .i64 (n 19), .slice oA hs.length oc, .slice tA tl tc, .int .i64 pc, .int .i64 st], .agg #[.int .u8 5, .int .u8 a, .int .u8 b, .int .u8 c, .int .i64 N]] w fun e w' => ∃ A' c' hs', e = .returned (.tuple #[.agg #[.int .i64 (n 0), .int .i64 (n 1), .int .i64 (n 2), .int .i64 (n 3), .int .i64 (n 4), .int .i64 (n 5), .int .i64 (n 6), .int .i64 (n 7), .int .i64 (upd n (8 + a) ((hs.length : Int) + 1) 8), .int .i64 (upd n (8 + a) ((hs.length : Int) + 1) 9), .int .i64 (upd n (8 + a) ((hs.length : Int) + 1) 10), .int .i64 (upd n (8 + a) ((hs.length : Int) + 1) 11), .int .i64 (upd n (8 + a) ((hs.length : Int) + 1) 12), .int .i64 (upd n (8 + a) ((hs.length : Int) + 1) 13), .int .i64 (upd n (8 + a) ((hs.length : Int) + 1) 14), .int .i64 (upd n (8 + a) ((hs.length : Int) + 1) 15), .int .i64 (n 16), .int .i64 (n 17), .int .i64 (n 18), .int .i64 (n 19), .slice A' hs'.length c', .slice tA tl tc, .int .i64 pc, .int .i64 st], .bool true]) ∧ hs'.length ≤ c' ∧ ObF w' (fun k => P k ∨ w.heap.size ≤ k) A' hs' (os ++ [List.replicate m 0]) ∧ Below w.heap.size w w' := by
  have HO := Aside0.mk hO
  have HT := Aside0.mk hT
  have HC := Aside0.mk hC
  have HL := Aside0.mk hL
  have HS := Aside0.mk hS
  clear hO hT hC hL hS
  have ra := row8 n 8 a (by omega)
  have s8 := set8 n 8 a (by omega) ((hs.length : Int) + 1)
  simp only [Nat.reduceAdd, Nat.add_zero] at ra s8
  have a0 : (0 : Int) ≤ a := by omega
  go_enter Tryd.func75, Tryd.ntmps75
  go_upto_region 1 with (fail)
  go_region
  ·
    go_upto_region 5 with (fail)
    generalize hW0 : World.drew _ = W0
    have R0 : W0.heap[w.heap.size]? = some (.cells #[.slice A0 ts.length c0, .string la, .string gl, .slice A3 code.length c3] 46 (0, 0)) := by
      rw [← hW0]
      exact rowT
    have R1 : W0.heap[w.heap.size + 1]? = some (.cells #[.int .i64 (n 0), .int .i64 (n 1), .int .i64 (n 2), .int .i64 (n 3), .int .i64 (n 4), .int .i64 (n 5), .int .i64 (n 6), .int .i64 (n 7), .int .i64 (n 8), .int .i64 (n 9), .int .i64 (n 10), .int .i64 (n 11), .int .i64 (n 12), .int .i64 (n 13), .int .i64 (n 14), .int .i64 (n 15), .int .i64 (n 16), .int .i64 (n 17), .int .i64 (n 18), .int .i64 (n 19), .slice oA hs.length oc, .slice tA tl tc, .int .i64 pc, .int .i64 st] 102 (0, 0)) := by
      rw [← hW0]
      exact rowT
    have R2 : W0.heap[w.heap.size + 1 + 1]? = some (.cells #[.int .u8 5, .int .u8 a, .int .u8 b, .int .u8 c, .int .i64 N] 68 (0, 0)) := by
      rw [← hW0]
      exact rowT
    have R3 : W0.heap[w.heap.size + 1 + 1 + 1]? = some (.cells #[.int .i64 0, .int .i64 0, .int .i64 0, .int .i64 0, .int .i64 0, .int .i64 0, .int .i64 0, .int .i64 0, .int .i64 0, .int .i64 0, .int .i64 0, .int .i64 0, .int .i64 0, .int .i64 0, .int .i64 0, .int .i64 0, .int .i64 0, .int .i64 0, .int .i64 0, .int .i64 0, .slice none 0 0, .slice none 0 0, .int .i64 0, .int .i64 0] 102 (0, 0)) := by
      rw [← hW0]
      exact rowT
    have Rq : W0.heap[w.heap.size + 1 + 1 + 1 + 1]? = some (.cells #[.int .i64 (n 8), .int .i64 (n 9), .int .i64 (n 10), .int .i64 (n 11), .int .i64 (n 12), .int .i64 (n 13), .int .i64 (n 14), .int .i64 (n 15)] 84 (0, 0)) := by
      rw [← hW0]
      exact rowT
    have Rg : W0.heap[w.heap.size + 1 + 1 + 1 + 1 + 1]? = some (.cells #[.int .i64 (n 16), .int .i64 (n 17), .int .i64 (n 18), .int .i64 (n 19)] 85 (0, 0)) := by
      rw [← hW0]
      exact rowT
    have hB0 : Below w.heap.size w W0 := by
      rw [← hW0]
      repeat (first | exact Below.refl _ _ | refine below_alloc ?_ _ | refine below_drew1 ?_)
    have hz0 : W0.heap.size = w.heap.size + 1 + 1 + 1 + 1 + 1 + 1 := by
      rw [← hW0]
      simp
    have HB0 := Aside0.mk hB0
    clear hW0 hB0
    have e0 : W0.cell? ⟨w.heap.size, 0, none⟩ = some (.slice A0 ts.length c0) := (cell_of_row _ _ 0 _ _ _ R0).trans rfl
    have e1 : W0.cell? ⟨w.heap.size, 1, none⟩ = some (.string la) := (cell_of_row _ _ 1 _ _ _ R0).trans rfl
    have e2 : W0.cell? ⟨w.heap.size, 2, none⟩ = some (.string gl) := (cell_of_row _ _ 2 _ _ _ R0).trans rfl
    have e3 : W0.cell? ⟨w.heap.size, 3, none⟩ = some (.slice A3 code.length c3) := (cell_of_row _ _ 3 _ _ _ R0).trans rfl
    have e5 : W0.cell? ⟨w.heap.size + 1 + 1, 1, none⟩ = some (.int .u8 a) := (cell_of_row _ _ 1 _ _ _ R2).trans rfl
    go_region_held3 (fun w' => w'.cell? ⟨w.heap.size, 0, none⟩ = some (.slice A0 ts.length c0) ∧ w'.cell? ⟨w.heap.size, 1, none⟩ = some (.string la) ∧ w'.cell? ⟨w.heap.size, 2, none⟩ = some (.string gl) ∧ w'.cell? ⟨w.heap.size, 3, none⟩ = some (.slice A3 code.length c3) ∧ w'.cell? ⟨w.heap.size + 1 + 1, 1, none⟩ = some (.int .u8 a))
      (first
        | (refine ⟨(hq1 _ _ (by omega)).trans e0, (hq1 _ _ (by omega)).trans e1, (hq1 _ _ (by omega)).trans e2, (hq1 _ _ (by omega)).trans e3, (hq1 _ _ (by omega)).trans e5⟩)
        | go_keep)
      ((first
        | (go_at_call 82; (with_reducible refine (lockstitchref05_Local.calls k1 A0 c0 ts la gl A3 c3 code a t0 _ (Kd.C_below HT.out (by repeat (first | exact HB0.out | exact Below.refl _ _ | refine below_alloc ?_ _ | refine below_drew1 ?_ | refine pw_below_drewN ?_ _))) hc0 (Kd.C_below HC.out (by repeat (first | exact HB0.out | exact Below.refl _ _ | refine below_alloc ?_ _ | refine below_drew1 ?_ | refine pw_below_drewN ?_ _))) hc3 HL.out).mono ?_); rintro e w1 ⟨rfl, hb1⟩; obtain ⟨hq1, hf1⟩ := bcell (B := w.heap.size + 1 + 1 + 1 + 1 + 1 + 1) (hb1.mono (show _ ≤ W0.heap.size by omega)); have HB1 := Aside0.mk (show Below w.heap.size w w1 from below_step (show Below w.heap.size w W0.drew from (by repeat (first | exact HB0.out | exact Below.refl _ _ | refine below_alloc ?_ _ | refine below_drew1 ?_ | refine pw_below_drewN ?_ _))) hb1); have HR1 := Aside0.mk (show ∀ k, k < w.heap.size + 1 + 1 + 1 + 1 + 1 + 1 → w1.heap[k]? = W0.heap[k]? from fun k hk => hb1.block k (show k < W0.heap.size by omega)); have hz1 : w.heap.size + 1 + 1 + 1 + 1 + 1 + 1 ≤ w1.heap.size := Nat.le_trans (show _ ≤ W0.heap.size by omega) hb1.size; clear hb1)
        | (go_at_call 108; (with_reducible refine (lockstitchref03_Size.calls k2 A0 c0 ts t0 m _ (Kd.C_below HT.out HB1.out) hc0 HS.out).mono ?_); rintro e w1' ⟨rfl, hd1⟩; obtain ⟨dr, rfl⟩ := hd1)))
    generalize hW1 : World.drewN _ _ = W1
    have R11 : W1.heap[w.heap.size + 1]? = some (.cells #[.int .i64 (n 0), .int .i64 (n 1), .int .i64 (n 2), .int .i64 (n 3), .int .i64 (n 4), .int .i64 (n 5), .int .i64 (n 6), .int .i64 (n 7), .int .i64 (n 8), .int .i64 (n 9), .int .i64 (n 10), .int .i64 (n 11), .int .i64 (n 12), .int .i64 (n 13), .int .i64 (n 14), .int .i64 (n 15), .int .i64 (n 16), .int .i64 (n 17), .int .i64 (n 18), .int .i64 (n 19), .slice oA hs.length oc, .slice tA tl tc, .int .i64 pc, .int .i64 st] 102 (0, 0)) := by rw [← hW1]; exact (HR1.out _ (by omega)).trans R1
    have R21 : W1.heap[w.heap.size + 1 + 1]? = some (.cells #[.int .u8 5, .int .u8 a, .int .u8 b, .int .u8 c, .int .i64 N] 68 (0, 0)) := by rw [← hW1]; exact (HR1.out _ (by omega)).trans R2
    have R31 : W1.heap[w.heap.size + 1 + 1 + 1]? = some (.cells #[.int .i64 0, .int .i64 0, .int .i64 0, .int .i64 0, .int .i64 0, .int .i64 0, .int .i64 0, .int .i64 0, .int .i64 0, .int .i64 0, .int .i64 0, .int .i64 0, .int .i64 0, .int .i64 0, .int .i64 0, .int .i64 0, .int .i64 0, .int .i64 0, .int .i64 0, .int .i64 0, .slice none 0 0, .slice none 0 0, .int .i64 0, .int .i64 0] 102 (0, 0)) := by rw [← hW1]; exact (HR1.out _ (by omega)).trans R3
    have Rq1 : W1.heap[w.heap.size + 1 + 1 + 1 + 1]? = some (.cells #[.int .i64 (n 8), .int .i64 (n 9), .int .i64 (n 10), .int .i64 (n 11), .int .i64 (n 12), .int .i64 (n 13), .int .i64 (n 14), .int .i64 (n 15)] 84 (0, 0)) := by rw [← hW1]; exact (HR1.out _ (by omega)).trans Rq
    have Rg1 : W1.heap[w.heap.size + 1 + 1 + 1 + 1 + 1]? = some (.cells #[.int .i64 (n 16), .int .i64 (n 17), .int .i64 (n 18), .int .i64 (n 19)] 85 (0, 0)) := by rw [← hW1]; exact (HR1.out _ (by omega)).trans Rg
    have HW1 : Aside0 (Below w.heap.size w W1) := by
      constructor
      rw [← hW1]
      exact pw_below_drewN HB1.out _
    have hz2 : w.heap.size + 1 + 1 + 1 + 1 + 1 + 1 ≤ W1.heap.size := by
      rw [← hW1]
      exact hz1
    clear hW1 HR1 hq1 hf1 hz1 hz0 R0 R1 R2 R3 Rq Rg e0 e1 e2 e3 e5
    have c20 : ∀ o, (W1.alloc o).cell? ⟨w.heap.size + 1, 20, none⟩ = some (.slice oA hs.length oc) := fun o => (World.cell?_alloc_lt _ _ _ (show w.heap.size + 1 < W1.heap.size by omega)).trans ((cell_of_row _ _ 20 _ _ _ R11).trans rfl)
    have hmk := print_make_of 23 2 (.int .i64 0) 8 Tryd.underlying23 info_i rfl (by decide) m (by omega)
    go_upto_region 8 with (first
        | (at_builtin; refine Kd.R_append_row (w0 := W1) Hd.v default (w.heap.size + 1 + 1 + 1 + 1 + 1 + 1) rfl (.tmp 28) (.tmp 30) 86 23 _ 24 rfl Tryd.underlying86 info_h rfl (by decide) (.slice (some ⟨W1.heap.size, 0, none⟩) 0 0) [] hs oA hs.length oc (fun _ => True) rfl rfl (fun _ _ => trivial) (own_empty W1 _ _ _ rfl hz2) (Kd.C_below HO.out.now.row (below_alloc HW1.out _)) (Below.alloc (Below.refl _ _) hz2 _) (by simp; omega) (by simp; omega) ?_; intro v2 w2 hr2 hb2 hg2 _; have R12 := (hb2.block (w.heap.size + 1) (by omega)).trans R11; have R22 := (hb2.block (w.heap.size + 1 + 1) (by omega)).trans R21; have R32 := (hb2.block (w.heap.size + 1 + 1 + 1) (by omega)).trans R31; have Rq2 := (hb2.block (w.heap.size + 1 + 1 + 1 + 1) (by omega)).trans Rq1; have Rg2 := (hb2.block (w.heap.size + 1 + 1 + 1 + 1 + 1) (by omega)).trans Rg1; replace R12 := Aside0.mk R12; replace R22 := Aside0.mk R22; replace R32 := Aside0.mk R32; replace Rq2 := Aside0.mk Rq2; replace Rg2 := Aside0.mk Rg2; have hz3 : w.heap.size + 1 + 1 + 1 + 1 + 1 + 1 ≤ w2.heap.size := Nat.le_trans hz2 hb2.size; have HR2 := Aside0.mk hr2; have HB2 := Aside0.mk hb2; clear hr2 hb2 hg2)
        | (at_builtin; refine print_append_of (w0 := w2) Hd.v (w.heap.size + 1 + 1 + 1 + 1 + 1 + 1) rfl (.tmp 32) (.tmp 35) 86 23 _ 24 rfl Tryd.underlying86 info_h rfl (by decide) v2 ([] ++ hs) ⟨some ⟨w2.heap.size, 0, none⟩, m, m⟩ rfl (by first | (go_simp; done) | (simp [go_sem]; done)) rfl (pw_own_below (Kd.own_of_R HR2.out) (below_alloc (Below.refl _ _) _)) (Below.alloc (Below.refl _ _) hz3 _) (by simp; omega) (by simp; omega) ?_; intro v3 w3 hr3 hb3 hg3 _; have R13 := (hb3.block (w.heap.size + 1) (by omega)).trans (R12.out); have R23 := (hb3.block (w.heap.size + 1 + 1) (by omega)).trans (R22.out); have R33 := (hb3.block (w.heap.size + 1 + 1 + 1) (by omega)).trans (R32.out); have Rq3 := (hb3.block (w.heap.size + 1 + 1 + 1 + 1) (by omega)).trans (Rq2.out); have Rg3 := (hb3.block (w.heap.size + 1 + 1 + 1 + 1 + 1) (by omega)).trans (Rg2.out); replace R13 := Aside0.mk R13; replace R23 := Aside0.mk R23; replace R33 := Aside0.mk R33; replace Rq3 := Aside0.mk Rq3; replace Rg3 := Aside0.mk Rg3; have kk := (cell_of_row _ _ 20 _ _ _ R13.out).trans rfl; have kf := frozen_of_row w3 (w.heap.size + 1) 20 _ _ R13.out; have HN3 := Aside0.mk (hg3.block w2.heap.size); have hr3' := Kd.R_of_own (h1 := Hd.one) (ok := fun _ => True) hr3 fun _ _ => trivial; obtain ⟨An, cn, en, hcn, _⟩ := Kd.R_reads hr3'; subst en; have HCn := Aside0.mk hcn; have HR3 := Aside0.mk hr3'; clear hr3' hcn; have HB3 := Aside0.mk hb3; clear hr3 hb3 hg3))
    have HOB3 : Aside0 (ObF w3 (fun k => (P k ∧ k < w.heap.size) ∨ w.heap.size + 1 + 1 + 1 + 1 + 1 + 1 ≤ k) An (hs ++ [(⟨some ⟨w2.heap.size, 0, none⟩, m, m⟩ : Hd)]) (os ++ [List.replicate m 0])) := by
      constructor
      refine objs_append HO.out (Below.trans HW1.out (Below.trans (HB2.out.mono (by omega)) (HB3.out.mono (by omega)))) HR3.out ((HN3.out (by simp) fun e => ?_).trans (heap_alloc_new w2 _)) hz3 hm
      first | (have := Kd.R_lt HR2.out _ e; omega) | (have := Kd.R_lt HR2.out _ e.symm; omega)
    have HBw3 : Aside0 (Below w.heap.size w w3) := ⟨Below.trans HW1.out (Below.trans (HB2.out.mono (by omega)) (HB3.out.mono (by omega)))⟩
    have hz4 : w.heap.size + 1 + 1 + 1 + 1 + 1 + 1 ≤ w3.heap.size := Nat.le_trans hz3 HB3.out.size
    have HCn' : hs.length + 1 ≤ cn := by
      have := HCn.out
      simpa using this
    generalize hW4 : World.setCell _ _ _ = W4
    have R14 : W4.heap[w.heap.size + 1]? = some (.cells #[.int .i64 (n 0), .int .i64 (n 1), .int .i64 (n 2), .int .i64 (n 3), .int .i64 (n 4), .int .i64 (n 5), .int .i64 (n 6), .int .i64 (n 7), .int .i64 (n 8), .int .i64 (n 9), .int .i64 (n 10), .int .i64 (n 11), .int .i64 (n 12), .int .i64 (n 13), .int .i64 (n 14), .int .i64 (n 15), .int .i64 (n 16), .int .i64 (n 17), .int .i64 (n 18), .int .i64 (n 19), .slice An (hs.length + 1) cn, .slice tA tl tc, .int .i64 pc, .int .i64 st] 102 (0, 0)) := by
      rw [← hW4]
      refine Eq.trans (row_cellS _ R13.out) ?_
      simp
    have R24 : W4.heap[w.heap.size + 1 + 1]? = some (.cells #[.int .u8 5, .int .u8 a, .int .u8 b, .int .u8 c, .int .i64 N] 68 (0, 0)) := by rw [← hW4]; exact row_cellO _ _ (show w.heap.size + 1 + 1 ≠ w.heap.size + 1 by omega) R23.out
    have R34 : W4.heap[w.heap.size + 1 + 1 + 1]? = some (.cells #[.int .i64 0, .int .i64 0, .int .i64 0, .int .i64 0, .int .i64 0, .int .i64 0, .int .i64 0, .int .i64 0, .int .i64 0, .int .i64 0, .int .i64 0, .int .i64 0, .int .i64 0, .int .i64 0, .int .i64 0, .int .i64 0, .int .i64 0, .int .i64 0, .int .i64 0, .int .i64 0, .slice none 0 0, .slice none 0 0, .int .i64 0, .int .i64 0] 102 (0, 0)) := by rw [← hW4]; exact row_cellO _ _ (show w.heap.size + 1 + 1 + 1 ≠ w.heap.size + 1 by omega) R33.out
    have Rq4 : W4.heap[w.heap.size + 1 + 1 + 1 + 1]? = some (.cells #[.int .i64 (n 8), .int .i64 (n 9), .int .i64 (n 10), .int .i64 (n 11), .int .i64 (n 12), .int .i64 (n 13), .int .i64 (n 14), .int .i64 (n 15)] 84 (0, 0)) := by rw [← hW4]; exact row_cellO _ _ (show w.heap.size + 1 + 1 + 1 + 1 ≠ w.heap.size + 1 by omega) Rq3.out
    have Rg4 : W4.heap[w.heap.size + 1 + 1 + 1 + 1 + 1]? = some (.cells #[.int .i64 (n 16), .int .i64 (n 17), .int .i64 (n 18), .int .i64 (n 19)] 85 (0, 0)) := by rw [← hW4]; exact row_cellO _ _ (show w.heap.size + 1 + 1 + 1 + 1 + 1 ≠ w.heap.size + 1 by omega) Rg3.out
    have k1 := (cell_of_row W4 _ 1 _ _ _ R24).trans rfl
    have k2 := (cell_of_row W4 _ 20 _ _ _ R14).trans rfl
    have k3 : W4.cell? ⟨w.heap.size + 1 + 1 + 1 + 1, a, none⟩ = some (.int .i64 (n (8 + a))) := (cell_of_row W4 _ a _ _ _ Rq4).trans (by simpa using ra)
    have k4 := frozen_of_row W4 (w.heap.size + 1 + 1 + 1 + 1) a _ _ Rq4
    clear R12 R22 R32 Rq2 Rg2 R13 R23 R33 Rq3 Rg3 R11 R21 R31 Rq1 Rg1 c20 hmk kk kf HN3 HR3 HR2
    go_upto_region 17 with (fail)
    generalize hW5 : World.setCell _ _ _ = W5
    have R15 : W5.heap[w.heap.size + 1]? = some (.cells #[.int .i64 (n 0), .int .i64 (n 1), .int .i64 (n 2), .int .i64 (n 3), .int .i64 (n 4), .int .i64 (n 5), .int .i64 (n 6), .int .i64 (n 7), .int .i64 (n 8), .int .i64 (n 9), .int .i64 (n 10), .int .i64 (n 11), .int .i64 (n 12), .int .i64 (n 13), .int .i64 (n 14), .int .i64 (n 15), .int .i64 (n 16), .int .i64 (n 17), .int .i64 (n 18), .int .i64 (n 19), .slice An (hs.length + 1) cn, .slice tA tl tc, .int .i64 pc, .int .i64 st] 102 (0, 0)) := by rw [← hW5]; exact row_cellO _ _ (show w.heap.size + 1 ≠ w.heap.size + 1 + 1 + 1 + 1 by omega) R14
    have R25 : W5.heap[w.heap.size + 1 + 1]? = some (.cells #[.int .u8 5, .int .u8 a, .int .u8 b, .int .u8 c, .int .i64 N] 68 (0, 0)) := by rw [← hW5]; exact row_cellO _ _ (show w.heap.size + 1 + 1 ≠ w.heap.size + 1 + 1 + 1 + 1 by omega) R24
    have R35 : W5.heap[w.heap.size + 1 + 1 + 1]? = some (.cells #[.int .i64 0, .int .i64 0, .int .i64 0, .int .i64 0, .int .i64 0, .int .i64 0, .int .i64 0, .int .i64 0, .int .i64 0, .int .i64 0, .int .i64 0, .int .i64 0, .int .i64 0, .int .i64 0, .int .i64 0, .int .i64 0, .int .i64 0, .int .i64 0, .int .i64 0, .int .i64 0, .slice none 0 0, .slice none 0 0, .int .i64 0, .int .i64 0] 102 (0, 0)) := by rw [← hW5]; exact row_cellO _ _ (show w.heap.size + 1 + 1 + 1 ≠ w.heap.size + 1 + 1 + 1 + 1 by omega) R34
    have Rq5 : W5.heap[w.heap.size + 1 + 1 + 1 + 1]? = some (.cells #[.int .i64 (upd n (8 + a) ((hs.length : Int) + 1) 8), .int .i64 (upd n (8 + a) ((hs.length : Int) + 1) 9), .int .i64 (upd n (8 + a) ((hs.length : Int) + 1) 10), .int .i64 (upd n (8 + a) ((hs.length : Int) + 1) 11), .int .i64 (upd n (8 + a) ((hs.length : Int) + 1) 12), .int .i64 (upd n (8 + a) ((hs.length : Int) + 1) 13), .int .i64 (upd n (8 + a) ((hs.length : Int) + 1) 14), .int .i64 (upd n (8 + a) ((hs.length : Int) + 1) 15)] 84 (0, 0)) := by
      rw [← hW5]
      refine Eq.trans (row_cellS _ Rq4) ?_
      simp only [List.setIfInBounds_toArray, s8]
    have Rg5 : W5.heap[w.heap.size + 1 + 1 + 1 + 1 + 1]? = some (.cells #[.int .i64 (n 16), .int .i64 (n 17), .int .i64 (n 18), .int .i64 (n 19)] 85 (0, 0)) := by rw [← hW5]; exact row_cellO _ _ (show w.heap.size + 1 + 1 + 1 + 1 + 1 ≠ w.heap.size + 1 + 1 + 1 + 1 by omega) Rg4
    have kq := fun j => cell_of_row W5 (w.heap.size + 1 + 1 + 1 + 1) j _ _ _ Rq5
    have kg := fun j => cell_of_row W5 (w.heap.size + 1 + 1 + 1 + 1 + 1) j _ _ _ Rg5
    have ks := fun j => cell_of_row W5 (w.heap.size + 1) j _ _ _ R15
    have fs := fun j => frozen_of_row W5 (w.heap.size + 1) j _ _ R15
    clear k1 k2 k3 k4 R14 R24 R34 Rq4 Rg4 Rq5 Rg5 R25
    go_upto_region 19 with (fail)
    generalize hW6 : World.setCell _ _ _ = W6
    have R16 : W6.heap[w.heap.size + 1]? = some (.cells #[.int .i64 (n 0), .int .i64 (n 1), .int .i64 (n 2), .int .i64 (n 3), .int .i64 (n 4), .int .i64 (n 5), .int .i64 (n 6), .int .i64 (n 7), .int .i64 (upd n (8 + a) ((hs.length : Int) + 1) 8), .int .i64 (upd n (8 + a) ((hs.length : Int) + 1) 9), .int .i64 (upd n (8 + a) ((hs.length : Int) + 1) 10), .int .i64 (upd n (8 + a) ((hs.length : Int) + 1) 11), .int .i64 (upd n (8 + a) ((hs.length : Int) + 1) 12), .int .i64 (upd n (8 + a) ((hs.length : Int) + 1) 13), .int .i64 (upd n (8 + a) ((hs.length : Int) + 1) 14), .int .i64 (upd n (8 + a) ((hs.length : Int) + 1) 15), .int .i64 (n 16), .int .i64 (n 17), .int .i64 (n 18), .int .i64 (n 19), .slice An (hs.length + 1) cn, .slice tA tl tc, .int .i64 pc, .int .i64 st] 102 (0, 0)) := by
      rw [← hW6]
      refine Eq.trans (rowT (p := _ = some (.cells _ 102 (0, 0)))) ?_
      simp
    have R36 : W6.heap[w.heap.size + 1 + 1 + 1]? = some (.cells #[.int .i64 0, .int .i64 0, .int .i64 0, .int .i64 0, .int .i64 0, .int .i64 0, .int .i64 0, .int .i64 0, .int .i64 0, .int .i64 0, .int .i64 0, .int .i64 0, .int .i64 0, .int .i64 0, .int .i64 0, .int .i64 0, .int .i64 0, .int .i64 0, .int .i64 0, .int .i64 0, .slice none 0 0, .slice none 0 0, .int .i64 0, .int .i64 0] 102 (0, 0)) := by
      rw [← hW6]
      exact rowT
    have HOB : ∀ cs, ObF (W6.setRow (w.heap.size + 1 + 1 + 1) cs) (fun k => P k ∨ w.heap.size ≤ k) An (hs ++ [(⟨some ⟨w2.heap.size, 0, none⟩, m, m⟩ : Hd)]) (os ++ [List.replicate m 0]) := by
      intro cs
      refine ObF.mono (P := (fun k => (P k ∧ k < w.heap.size) ∨ w.heap.size + 1 + 1 + 1 + 1 + 1 + 1 ≤ k)) (ObF.step HOB3.out fun k hk hl => ⟨?_, ?_⟩) fun k hk => hk.imp (fun h => h.1) fun h => by omega
      · rw [setRow_other W6 (w.heap.size + 1 + 1 + 1) k cs (by omega), ← hW6, ← hW5, ← hW4]
        repeat (first | (with_reducible rfl) | (with_reducible refine (heap_setCell_other _ _ _ _ ?_).trans ?_; focus (first | (show k ≠ w.heap.size + 1; omega) | (show k ≠ w.heap.size + 1 + 1 + 1 + 1; omega))))
      · rw [← hW6, ← hW5, ← hW4]
        simpa [World.setRow, World.setCell] using hl
    have HBW : Aside0 (Below w.heap.size w W6) := by
      constructor
      rw [← hW6, ← hW5, ← hW4]
      repeat (first | (with_reducible exact HBw3.out) | (with_reducible refine below_set ?_ ?_; rotate_left; focus omega))
    have HOB' := Aside0.mk HOB
    clear HOB hW6 hW5 hW4 kq kg ks fs R15 R35
    go_wp2_with (first
        | (apply ldS; (with_reducible rfl); rfl; rfl; exact rowT; rfl)
        | (apply srS; (with_reducible rfl); rfl; rfl; rfl; exact rowT; rfl; rfl; rfl; rfl))
    refine ret2S rfl rfl rfl rfl (setRow_heap _ _ _ _ _ _ R36) rfl ⟨An, cn, hs ++ [(⟨some ⟨w2.heap.size, 0, none⟩, m, m⟩ : Hd)], ?_, by simpa using HCn', HOB'.out _, below_row HBW.out (by omega)⟩
    simp
  ·
    go_upto_region 5 with (fail)
    generalize hW0 : World.drew _ = W0
    have R0 : W0.heap[w.heap.size]? = some (.cells #[.slice A0 ts.length c0, .string la, .string gl, .slice A3 code.length c3] 46 (0, 0)) := by
      rw [← hW0]
      exact rowT
    have R1 : W0.heap[w.heap.size + 1]? = some (.cells #[.int .i64 (n 0), .int .i64 (n 1), .int .i64 (n 2), .int .i64 (n 3), .int .i64 (n 4), .int .i64 (n 5), .int .i64 (n 6), .int .i64 (n 7), .int .i64 (n 8), .int .i64 (n 9), .int .i64 (n 10), .int .i64 (n 11), .int .i64 (n 12), .int .i64 (n 13), .int .i64 (n 14), .int .i64 (n 15), .int .i64 (n 16), .int .i64 (n 17), .int .i64 (n 18), .int .i64 (n 19), .slice oA hs.length oc, .slice tA tl tc, .int .i64 pc, .int .i64 st] 102 (0, 0)) := by
      rw [← hW0]
      exact rowT
    have R2 : W0.heap[w.heap.size + 1 + 1]? = some (.cells #[.int .u8 5, .int .u8 a, .int .u8 b, .int .u8 c, .int .i64 N] 68 (0, 0)) := by
      rw [← hW0]
      exact rowT
    have R3 : W0.heap[w.heap.size + 1 + 1 + 1]? = some (.cells #[.int .i64 0, .int .i64 0, .int .i64 0, .int .i64 0, .int .i64 0, .int .i64 0, .int .i64 0, .int .i64 0, .int .i64 0, .int .i64 0, .int .i64 0, .int .i64 0, .int .i64 0, .int .i64 0, .int .i64 0, .int .i64 0, .int .i64 0, .int .i64 0, .int .i64 0, .int .i64 0, .slice none 0 0, .slice none 0 0, .int .i64 0, .int .i64 0] 102 (0, 0)) := by
      rw [← hW0]
      exact rowT
    have Rq : W0.heap[w.heap.size + 1 + 1 + 1 + 1 + 1]? = some (.cells #[.int .i64 (n 8), .int .i64 (n 9), .int .i64 (n 10), .int .i64 (n 11), .int .i64 (n 12), .int .i64 (n 13), .int .i64 (n 14), .int .i64 (n 15)] 84 (0, 0)) := by
      rw [← hW0]
      exact rowT
    have Rg : W0.heap[w.heap.size + 1 + 1 + 1 + 1]? = some (.cells #[.int .i64 (n 16), .int .i64 (n 17), .int .i64 (n 18), .int .i64 (n 19)] 85 (0, 0)) := by
      rw [← hW0]
      exact rowT
    have hB0 : Below w.heap.size w W0 := by
      rw [← hW0]
      repeat (first | exact Below.refl _ _ | refine below_alloc ?_ _ | refine below_drew1 ?_)
    have hz0 : W0.heap.size = w.heap.size + 1 + 1 + 1 + 1 + 1 + 1 := by
      rw [← hW0]
      simp
    have HB0 := Aside0.mk hB0
    clear hW0 hB0
    have e0 : W0.cell? ⟨w.heap.size, 0, none⟩ = some (.slice A0 ts.length c0) := (cell_of_row _ _ 0 _ _ _ R0).trans rfl
    have e1 : W0.cell? ⟨w.heap.size, 1, none⟩ = some (.string la) := (cell_of_row _ _ 1 _ _ _ R0).trans rfl
    have e2 : W0.cell? ⟨w.heap.size, 2, none⟩ = some (.string gl) := (cell_of_row _ _ 2 _ _ _ R0).trans rfl
    have e3 : W0.cell? ⟨w.heap.size, 3, none⟩ = some (.slice A3 code.length c3) := (cell_of_row _ _ 3 _ _ _ R0).trans rfl
    have e5 : W0.cell? ⟨w.heap.size + 1 + 1, 1, none⟩ = some (.int .u8 a) := (cell_of_row _ _ 1 _ _ _ R2).trans rfl
    go_region_held3 (fun w' => w'.cell? ⟨w.heap.size, 0, none⟩ = some (.slice A0 ts.length c0) ∧ w'.cell? ⟨w.heap.size, 1, none⟩ = some (.string la) ∧ w'.cell? ⟨w.heap.size, 2, none⟩ = some (.string gl) ∧ w'.cell? ⟨w.heap.size, 3, none⟩ = some (.slice A3 code.length c3) ∧ w'.cell? ⟨w.heap.size + 1 + 1, 1, none⟩ = some (.int .u8 a))
      (first
        | (refine ⟨(hq1 _ _ (by omega)).trans e0, (hq1 _ _ (by omega)).trans e1, (hq1 _ _ (by omega)).trans e2, (hq1 _ _ (by omega)).trans e3, (hq1 _ _ (by omega)).trans e5⟩)
        | go_keep)
      ((first
        | (go_at_call 82; (with_reducible refine (lockstitchref05_Local.calls k1 A0 c0 ts la gl A3 c3 code a t0 _ (Kd.C_below HT.out (by repeat (first | exact HB0.out | exact Below.refl _ _ | refine below_alloc ?_ _ | refine below_drew1 ?_ | refine pw_below_drewN ?_ _))) hc0 (Kd.C_below HC.out (by repeat (first | exact HB0.out | exact Below.refl _ _ | refine below_alloc ?_ _ | refine below_drew1 ?_ | refine pw_below_drewN ?_ _))) hc3 HL.out).mono ?_); rintro e w1 ⟨rfl, hb1⟩; obtain ⟨hq1, hf1⟩ := bcell (B := w.heap.size + 1 + 1 + 1 + 1 + 1 + 1) (hb1.mono (show _ ≤ W0.heap.size by omega)); have HB1 := Aside0.mk (show Below w.heap.size w w1 from below_step (show Below w.heap.size w W0.drew from (by repeat (first | exact HB0.out | exact Below.refl _ _ | refine below_alloc ?_ _ | refine below_drew1 ?_ | refine pw_below_drewN ?_ _))) hb1); have HR1 := Aside0.mk (show ∀ k, k < w.heap.size + 1 + 1 + 1 + 1 + 1 + 1 → w1.heap[k]? = W0.heap[k]? from fun k hk => hb1.block k (show k < W0.heap.size by omega)); have hz1 : w.heap.size + 1 + 1 + 1 + 1 + 1 + 1 ≤ w1.heap.size := Nat.le_trans (show _ ≤ W0.heap.size by omega) hb1.size; clear hb1)
        | (go_at_call 108; (with_reducible refine (lockstitchref03_Size.calls k2 A0 c0 ts t0 m _ (Kd.C_below HT.out HB1.out) hc0 HS.out).mono ?_); rintro e w1' ⟨rfl, hd1⟩; obtain ⟨dr, rfl⟩ := hd1)))
    generalize hW1 : World.drewN _ _ = W1
    have R11 : W1.heap[w.heap.size + 1]? = some (.cells #[.int .i64 (n 0), .int .i64 (n 1), .int .i64 (n 2), .int .i64 (n 3), .int .i64 (n 4), .int .i64 (n 5), .int .i64 (n 6), .int .i64 (n 7), .int .i64 (n 8), .int .i64 (n 9), .int .i64 (n 10), .int .i64 (n 11), .int .i64 (n 12), .int .i64 (n 13), .int .i64 (n 14), .int .i64 (n 15), .int .i64 (n 16), .int .i64 (n 17), .int .i64 (n 18), .int .i64 (n 19), .slice oA hs.length oc, .slice tA tl tc, .int .i64 pc, .int .i64 st] 102 (0, 0)) := by rw [← hW1]; exact (HR1.out _ (by omega)).trans R1
    have R21 : W1.heap[w.heap.size + 1 + 1]? = some (.cells #[.int .u8 5, .int .u8 a, .int .u8 b, .int .u8 c, .int .i64 N] 68 (0, 0)) := by rw [← hW1]; exact (HR1.out _ (by omega)).trans R2
    have R31 : W1.heap[w.heap.size + 1 + 1 + 1]? = some (.cells #[.int .i64 0, .int .i64 0, .int .i64 0, .int .i64 0, .int .i64 0, .int .i64 0, .int .i64 0, .int .i64 0, .int .i64 0, .int .i64 0, .int .i64 0, .int .i64 0, .int .i64 0, .int .i64 0, .int .i64 0, .int .i64 0, .int .i64 0, .int .i64 0, .int .i64 0, .int .i64 0, .slice none 0 0, .slice none 0 0, .int .i64 0, .int .i64 0] 102 (0, 0)) := by rw [← hW1]; exact (HR1.out _ (by omega)).trans R3
    have Rq1 : W1.heap[w.heap.size + 1 + 1 + 1 + 1 + 1]? = some (.cells #[.int .i64 (n 8), .int .i64 (n 9), .int .i64 (n 10), .int .i64 (n 11), .int .i64 (n 12), .int .i64 (n 13), .int .i64 (n 14), .int .i64 (n 15)] 84 (0, 0)) := by rw [← hW1]; exact (HR1.out _ (by omega)).trans Rq
    have Rg1 : W1.heap[w.heap.size + 1 + 1 + 1 + 1]? = some (.cells #[.int .i64 (n 16), .int .i64 (n 17), .int .i64 (n 18), .int .i64 (n 19)] 85 (0, 0)) := by rw [← hW1]; exact (HR1.out _ (by omega)).trans Rg
    have HW1 : Aside0 (Below w.heap.size w W1) := by
      constructor
      rw [← hW1]
      exact pw_below_drewN HB1.out _
    have hz2 : w.heap.size + 1 + 1 + 1 + 1 + 1 + 1 ≤ W1.heap.size := by
      rw [← hW1]
      exact hz1
    clear hW1 HR1 hq1 hf1 hz1 hz0 R0 R1 R2 R3 Rq Rg e0 e1 e2 e3 e5
    have c20 : ∀ o, (W1.alloc o).cell? ⟨w.heap.size + 1, 20, none⟩ = some (.slice oA hs.length oc) := fun o => (World.cell?_alloc_lt _ _ _ (show w.heap.size + 1 < W1.heap.size by omega)).trans ((cell_of_row _ _ 20 _ _ _ R11).trans rfl)
    have hmk := print_make_of 23 2 (.int .i64 0) 8 Tryd.underlying23 info_i rfl (by decide) m (by omega)
    go_upto_region 8 with (first
        | (at_builtin; refine Kd.R_append_row (w0 := W1) Hd.v default (w.heap.size + 1 + 1 + 1 + 1 + 1 + 1) rfl (.tmp 28) (.tmp 30) 86 23 _ 24 rfl Tryd.underlying86 info_h rfl (by decide) (.slice (some ⟨W1.heap.size, 0, none⟩) 0 0) [] hs oA hs.length oc (fun _ => True) rfl rfl (fun _ _ => trivial) (own_empty W1 _ _ _ rfl hz2) (Kd.C_below HO.out.now.row (below_alloc HW1.out _)) (Below.alloc (Below.refl _ _) hz2 _) (by simp; omega) (by simp; omega) ?_; intro v2 w2 hr2 hb2 hg2 _; have R12 := (hb2.block (w.heap.size + 1) (by omega)).trans R11; have R22 := (hb2.block (w.heap.size + 1 + 1) (by omega)).trans R21; have R32 := (hb2.block (w.heap.size + 1 + 1 + 1) (by omega)).trans R31; have Rq2 := (hb2.block (w.heap.size + 1 + 1 + 1 + 1 + 1) (by omega)).trans Rq1; have Rg2 := (hb2.block (w.heap.size + 1 + 1 + 1 + 1) (by omega)).trans Rg1; replace R12 := Aside0.mk R12; replace R22 := Aside0.mk R22; replace R32 := Aside0.mk R32; replace Rq2 := Aside0.mk Rq2; replace Rg2 := Aside0.mk Rg2; have hz3 : w.heap.size + 1 + 1 + 1 + 1 + 1 + 1 ≤ w2.heap.size := Nat.le_trans hz2 hb2.size; have HR2 := Aside0.mk hr2; have HB2 := Aside0.mk hb2; clear hr2 hb2 hg2)
        | (at_builtin; refine print_append_of (w0 := w2) Hd.v (w.heap.size + 1 + 1 + 1 + 1 + 1 + 1) rfl (.tmp 32) (.tmp 35) 86 23 _ 24 rfl Tryd.underlying86 info_h rfl (by decide) v2 ([] ++ hs) ⟨some ⟨w2.heap.size, 0, none⟩, m, m⟩ rfl (by first | (go_simp; done) | (simp [go_sem]; done)) rfl (pw_own_below (Kd.own_of_R HR2.out) (below_alloc (Below.refl _ _) _)) (Below.alloc (Below.refl _ _) hz3 _) (by simp; omega) (by simp; omega) ?_; intro v3 w3 hr3 hb3 hg3 _; have R13 := (hb3.block (w.heap.size + 1) (by omega)).trans (R12.out); have R23 := (hb3.block (w.heap.size + 1 + 1) (by omega)).trans (R22.out); have R33 := (hb3.block (w.heap.size + 1 + 1 + 1) (by omega)).trans (R32.out); have Rq3 := (hb3.block (w.heap.size + 1 + 1 + 1 + 1 + 1) (by omega)).trans (Rq2.out); have Rg3 := (hb3.block (w.heap.size + 1 + 1 + 1 + 1) (by omega)).trans (Rg2.out); replace R13 := Aside0.mk R13; replace R23 := Aside0.mk R23; replace R33 := Aside0.mk R33; replace Rq3 := Aside0.mk Rq3; replace Rg3 := Aside0.mk Rg3; have kk := (cell_of_row _ _ 20 _ _ _ R13.out).trans rfl; have kf := frozen_of_row w3 (w.heap.size + 1) 20 _ _ R13.out; have HN3 := Aside0.mk (hg3.block w2.heap.size); have hr3' := Kd.R_of_own (h1 := Hd.one) (ok := fun _ => True) hr3 fun _ _ => trivial; obtain ⟨An, cn, en, hcn, _⟩ := Kd.R_reads hr3'; subst en; have HCn := Aside0.mk hcn; have HR3 := Aside0.mk hr3'; clear hr3' hcn; have HB3 := Aside0.mk hb3; clear hr3 hb3 hg3))
    have HOB3 : Aside0 (ObF w3 (fun k => (P k ∧ k < w.heap.size) ∨ w.heap.size + 1 + 1 + 1 + 1 + 1 + 1 ≤ k) An (hs ++ [(⟨some ⟨w2.heap.size, 0, none⟩, m, m⟩ : Hd)]) (os ++ [List.replicate m 0])) := by
      constructor
      refine objs_append HO.out (Below.trans HW1.out (Below.trans (HB2.out.mono (by omega)) (HB3.out.mono (by omega)))) HR3.out ((HN3.out (by simp) fun e => ?_).trans (heap_alloc_new w2 _)) hz3 hm
      first | (have := Kd.R_lt HR2.out _ e; omega) | (have := Kd.R_lt HR2.out _ e.symm; omega)
    have HBw3 : Aside0 (Below w.heap.size w w3) := ⟨Below.trans HW1.out (Below.trans (HB2.out.mono (by omega)) (HB3.out.mono (by omega)))⟩
    have hz4 : w.heap.size + 1 + 1 + 1 + 1 + 1 + 1 ≤ w3.heap.size := Nat.le_trans hz3 HB3.out.size
    have HCn' : hs.length + 1 ≤ cn := by
      have := HCn.out
      simpa using this
    generalize hW4 : World.setCell _ _ _ = W4
    have R14 : W4.heap[w.heap.size + 1]? = some (.cells #[.int .i64 (n 0), .int .i64 (n 1), .int .i64 (n 2), .int .i64 (n 3), .int .i64 (n 4), .int .i64 (n 5), .int .i64 (n 6), .int .i64 (n 7), .int .i64 (n 8), .int .i64 (n 9), .int .i64 (n 10), .int .i64 (n 11), .int .i64 (n 12), .int .i64 (n 13), .int .i64 (n 14), .int .i64 (n 15), .int .i64 (n 16), .int .i64 (n 17), .int .i64 (n 18), .int .i64 (n 19), .slice An (hs.length + 1) cn, .slice tA tl tc, .int .i64 pc, .int .i64 st] 102 (0, 0)) := by
      rw [← hW4]
      refine Eq.trans (row_cellS _ R13.out) ?_
      simp
    have R24 : W4.heap[w.heap.size + 1 + 1]? = some (.cells #[.int .u8 5, .int .u8 a, .int .u8 b, .int .u8 c, .int .i64 N] 68 (0, 0)) := by rw [← hW4]; exact row_cellO _ _ (show w.heap.size + 1 + 1 ≠ w.heap.size + 1 by omega) R23.out
    have R34 : W4.heap[w.heap.size + 1 + 1 + 1]? = some (.cells #[.int .i64 0, .int .i64 0, .int .i64 0, .int .i64 0, .int .i64 0, .int .i64 0, .int .i64 0, .int .i64 0, .int .i64 0, .int .i64 0, .int .i64 0, .int .i64 0, .int .i64 0, .int .i64 0, .int .i64 0, .int .i64 0, .int .i64 0, .int .i64 0, .int .i64 0, .int .i64 0, .slice none 0 0, .slice none 0 0, .int .i64 0, .int .i64 0] 102 (0, 0)) := by rw [← hW4]; exact row_cellO _ _ (show w.heap.size + 1 + 1 + 1 ≠ w.heap.size + 1 by omega) R33.out
    have Rq4 : W4.heap[w.heap.size + 1 + 1 + 1 + 1 + 1]? = some (.cells #[.int .i64 (n 8), .int .i64 (n 9), .int .i64 (n 10), .int .i64 (n 11), .int .i64 (n 12), .int .i64 (n 13), .int .i64 (n 14), .int .i64 (n 15)] 84 (0, 0)) := by rw [← hW4]; exact row_cellO _ _ (show w.heap.size + 1 + 1 + 1 + 1 + 1 ≠ w.heap.size + 1 by omega) Rq3.out
    have Rg4 : W4.heap[w.heap.size + 1 + 1 + 1 + 1]? = some (.cells #[.int .i64 (n 16), .int .i64 (n 17), .int .i64 (n 18), .int .i64 (n 19)] 85 (0, 0)) := by rw [← hW4]; exact row_cellO _ _ (show w.heap.size + 1 + 1 + 1 + 1 ≠ w.heap.size + 1 by omega) Rg3.out
    have k1 := (cell_of_row W4 _ 1 _ _ _ R24).trans rfl
    have k2 := (cell_of_row W4 _ 20 _ _ _ R14).trans rfl
    have k3 : W4.cell? ⟨w.heap.size + 1 + 1 + 1 + 1 + 1, a, none⟩ = some (.int .i64 (n (8 + a))) := (cell_of_row W4 _ a _ _ _ Rq4).trans (by simpa using ra)
    have k4 := frozen_of_row W4 (w.heap.size + 1 + 1 + 1 + 1 + 1) a _ _ Rq4
    clear R12 R22 R32 Rq2 Rg2 R13 R23 R33 Rq3 Rg3 R11 R21 R31 Rq1 Rg1 c20 hmk kk kf HN3 HR3 HR2
    go_upto_region 17 with (fail)
    generalize hW5 : World.setCell _ _ _ = W5
    have R15 : W5.heap[w.heap.size + 1]? = some (.cells #[.int .i64 (n 0), .int .i64 (n 1), .int .i64 (n 2), .int .i64 (n 3), .int .i64 (n 4), .int .i64 (n 5), .int .i64 (n 6), .int .i64 (n 7), .int .i64 (n 8), .int .i64 (n 9), .int .i64 (n 10), .int .i64 (n 11), .int .i64 (n 12), .int .i64 (n 13), .int .i64 (n 14), .int .i64 (n 15), .int .i64 (n 16), .int .i64 (n 17), .int .i64 (n 18), .int .i64 (n 19), .slice An (hs.length + 1) cn, .slice tA tl tc, .int .i64 pc, .int .i64 st] 102 (0, 0)) := by rw [← hW5]; exact row_cellO _ _ (show w.heap.size + 1 ≠ w.heap.size + 1 + 1 + 1 + 1 + 1 by omega) R14
    have R25 : W5.heap[w.heap.size + 1 + 1]? = some (.cells #[.int .u8 5, .int .u8 a, .int .u8 b, .int .u8 c, .int .i64 N] 68 (0, 0)) := by rw [← hW5]; exact row_cellO _ _ (show w.heap.size + 1 + 1 ≠ w.heap.size + 1 + 1 + 1 + 1 + 1 by omega) R24
    have R35 : W5.heap[w.heap.size + 1 + 1 + 1]? = some (.cells #[.int .i64 0, .int .i64 0, .int .i64 0, .int .i64 0, .int .i64 0, .int .i64 0, .int .i64 0, .int .i64 0, .int .i64 0, .int .i64 0, .int .i64 0, .int .i64 0, .int .i64 0, .int .i64 0, .int .i64 0, .int .i64 0, .int .i64 0, .int .i64 0, .int .i64 0, .int .i64 0, .slice none 0 0, .slice none 0 0, .int .i64 0, .int .i64 0] 102 (0, 0)) := by rw [← hW5]; exact row_cellO _ _ (show w.heap.size + 1 + 1 + 1 ≠ w.heap.size + 1 + 1 + 1 + 1 + 1 by omega) R34
    have Rq5 : W5.heap[w.heap.size + 1 + 1 + 1 + 1 + 1]? = some (.cells #[.int .i64 (upd n (8 + a) ((hs.length : Int) + 1) 8), .int .i64 (upd n (8 + a) ((hs.length : Int) + 1) 9), .int .i64 (upd n (8 + a) ((hs.length : Int) + 1) 10), .int .i64 (upd n (8 + a) ((hs.length : Int) + 1) 11), .int .i64 (upd n (8 + a) ((hs.length : Int) + 1) 12), .int .i64 (upd n (8 + a) ((hs.length : Int) + 1) 13), .int .i64 (upd n (8 + a) ((hs.length : Int) + 1) 14), .int .i64 (upd n (8 + a) ((hs.length : Int) + 1) 15)] 84 (0, 0)) := by
      rw [← hW5]
      refine Eq.trans (row_cellS _ Rq4) ?_
      simp only [List.setIfInBounds_toArray, s8]
    have Rg5 : W5.heap[w.heap.size + 1 + 1 + 1 + 1]? = some (.cells #[.int .i64 (n 16), .int .i64 (n 17), .int .i64 (n 18), .int .i64 (n 19)] 85 (0, 0)) := by rw [← hW5]; exact row_cellO _ _ (show w.heap.size + 1 + 1 + 1 + 1 ≠ w.heap.size + 1 + 1 + 1 + 1 + 1 by omega) Rg4
    have kq := fun j => cell_of_row W5 (w.heap.size + 1 + 1 + 1 + 1 + 1) j _ _ _ Rq5
    have kg := fun j => cell_of_row W5 (w.heap.size + 1 + 1 + 1 + 1) j _ _ _ Rg5
    have ks := fun j => cell_of_row W5 (w.heap.size + 1) j _ _ _ R15
    have fs := fun j => frozen_of_row W5 (w.heap.size + 1) j _ _ R15
    clear k1 k2 k3 k4 R14 R24 R34 Rq4 Rg4 Rq5 Rg5 R25
    go_upto_region 19 with (fail)
    generalize hW6 : World.setCell _ _ _ = W6
    have R16 : W6.heap[w.heap.size + 1]? = some (.cells #[.int .i64 (n 0), .int .i64 (n 1), .int .i64 (n 2), .int .i64 (n 3), .int .i64 (n 4), .int .i64 (n 5), .int .i64 (n 6), .int .i64 (n 7), .int .i64 (upd n (8 + a) ((hs.length : Int) + 1) 8), .int .i64 (upd n (8 + a) ((hs.length : Int) + 1) 9), .int .i64 (upd n (8 + a) ((hs.length : Int) + 1) 10), .int .i64 (upd n (8 + a) ((hs.length : Int) + 1) 11), .int .i64 (upd n (8 + a) ((hs.length : Int) + 1) 12), .int .i64 (upd n (8 + a) ((hs.length : Int) + 1) 13), .int .i64 (upd n (8 + a) ((hs.length : Int) + 1) 14), .int .i64 (upd n (8 + a) ((hs.length : Int) + 1) 15), .int .i64 (n 16), .int .i64 (n 17), .int .i64 (n 18), .int .i64 (n 19), .slice An (hs.length + 1) cn, .slice tA tl tc, .int .i64 pc, .int .i64 st] 102 (0, 0)) := by
      rw [← hW6]
      refine Eq.trans (rowT (p := _ = some (.cells _ 102 (0, 0)))) ?_
      simp
    have R36 : W6.heap[w.heap.size + 1 + 1 + 1]? = some (.cells #[.int .i64 0, .int .i64 0, .int .i64 0, .int .i64 0, .int .i64 0, .int .i64 0, .int .i64 0, .int .i64 0, .int .i64 0, .int .i64 0, .int .i64 0, .int .i64 0, .int .i64 0, .int .i64 0, .int .i64 0, .int .i64 0, .int .i64 0, .int .i64 0, .int .i64 0, .int .i64 0, .slice none 0 0, .slice none 0 0, .int .i64 0, .int .i64 0] 102 (0, 0)) := by
      rw [← hW6]
      exact rowT
    have HOB : ∀ cs, ObF (W6.setRow (w.heap.size + 1 + 1 + 1) cs) (fun k => P k ∨ w.heap.size ≤ k) An (hs ++ [(⟨some ⟨w2.heap.size, 0, none⟩, m, m⟩ : Hd)]) (os ++ [List.replicate m 0]) := by
      intro cs
      refine ObF.mono (P := (fun k => (P k ∧ k < w.heap.size) ∨ w.heap.size + 1 + 1 + 1 + 1 + 1 + 1 ≤ k)) (ObF.step HOB3.out fun k hk hl => ⟨?_, ?_⟩) fun k hk => hk.imp (fun h => h.1) fun h => by omega
      · rw [setRow_other W6 (w.heap.size + 1 + 1 + 1) k cs (by omega), ← hW6, ← hW5, ← hW4]
        repeat (first | (with_reducible rfl) | (with_reducible refine (heap_setCell_other _ _ _ _ ?_).trans ?_; focus (first | (show k ≠ w.heap.size + 1; omega) | (show k ≠ w.heap.size + 1 + 1 + 1 + 1 + 1; omega))))
      · rw [← hW6, ← hW5, ← hW4]
        simpa [World.setRow, World.setCell] using hl
    have HBW : Aside0 (Below w.heap.size w W6) := by
      constructor
      rw [← hW6, ← hW5, ← hW4]
      repeat (first | (with_reducible exact HBw3.out) | (with_reducible refine below_set ?_ ?_; rotate_left; focus omega))
    have HOB' := Aside0.mk HOB
    clear HOB hW6 hW5 hW4 kq kg ks fs R15 R35
    go_wp2_with (first
        | (apply ldS; (with_reducible rfl); rfl; rfl; exact rowT; rfl)
        | (apply srS; (with_reducible rfl); rfl; rfl; rfl; exact rowT; rfl; rfl; rfl; rfl))
    refine ret2S rfl rfl rfl rfl (setRow_heap _ _ _ _ _ _ R36) rfl ⟨An, cn, hs ++ [(⟨some ⟨w2.heap.size, 0, none⟩, m, m⟩ : Hd)], ?_, by simpa using HCn', HOB'.out _, below_row HBW.out (by omega)⟩
    simp
end
end Go.Proofs.YtfkfpcciacplkaaDoor.ST

namespace Go.Proofs.YtfkfpcciacplkaaDoor.ST
open Go.RowKit Go.Proofs.YtfkfpcciacplkaaDoorW.PrintWords Go.Proofs.YtfkfpcciacplkaaDoor.F Go.Proofs.YtfkfpcciacplkaaDoor.ST0
set_option linter.unusedVariables false
set_option linter.unusedSimpArgs false
set_option linter.unusedSectionVars false
abbrev CkO (w : World) (A0 : Option Addr) (c0 : Nat) (ts : List ByteArray) (la gl : ByteArray) (A3 : Option Addr) (c3 : Nat) (code : List S68) : Prop :=
  ∀ W, Below w.heap.size w W → Calls Tryd.prog 40 #[.agg #[.slice A0 ts.length c0, .string la, .string gl, .slice A3 code.length c3]] W fun e w' => (∃ r : Int, e = .returned (.tuple #[.int .i64 r, .int .i64 0])) ∧ Below W.heap.size W w'
theorem CkO.below {w w' : World} {A0 : Option Addr} {c0 : Nat} {ts : List ByteArray} {la gl : ByteArray} {A3 : Option Addr} {c3 : Nat} {code : List S68} (h : CkO w A0 c0 ts la gl A3 c3 code) (hb : Below w.heap.size w w') : CkO w' A0 c0 ts la gl A3 c3 code := fun W hW => h W (Below.trans hb (hW.mono hb.size))
section
variable (w : World) (n : Nat → Int) (oA tA : Option Addr) (ol oc tl tc : Nat) (p : Nat) (st : Int) (A0 : Option Addr) (c0 : Nat) (ts : List ByteArray) (la gl : ByteArray) (A3 : Option Addr) (c3 : Nat) (code : List S68)
  (hT : Kd.C Kd.string w A0 ts.length ts) (hc0 : ts.length ≤ c0) (hC : Kd.C k68 w A3 code.length code) (hc3 : code.length ≤ c3) (hK : CkO w A0 c0 ts la gl A3 c3 code)
include hT hc0 hC hc3 hK
set_option maxHeartbeats 2000000 in
set_option maxRecDepth 100000 in
theorem step_end (hp : p = code.length) :
    Calls Tryd.prog 50 #[.agg #[.slice A0 ts.length c0, .string la, .string gl, .slice A3 code.length c3], .agg #[.int .i64 (n 0), .int .i64 (n 1), .int .i64 (n 2), .int .i64 (n 3), .int .i64 (n 4), .int .i64 (n 5), .int .i64 (n 6), .int .i64 (n 7), .int .i64 (n 8), .int .i64 (n 9), .int .i64 (n 10), .int .i64 (n 11), .int .i64 (n 12), .int .i64 (n 13), .int .i64 (n 14), .int .i64 (n 15), .int .i64 (n 16), .int .i64 (n 17), .int .i64 (n 18), .int .i64 (n 19), .slice oA ol oc, .slice tA tl tc, .int .i64 p, .int .i64 st]] w fun e w' => e = .returned (.tuple #[.agg #[.int .i64 (n 0), .int .i64 (n 1), .int .i64 (n 2), .int .i64 (n 3), .int .i64 (n 4), .int .i64 (n 5), .int .i64 (n 6), .int .i64 (n 7), .int .i64 (n 8), .int .i64 (n 9), .int .i64 (n 10), .int .i64 (n 11), .int .i64 (n 12), .int .i64 (n 13), .int .i64 (n 14), .int .i64 (n 15), .int .i64 (n 16), .int .i64 (n 17), .int .i64 (n 18), .int .i64 (n 19), .slice oA ol oc, .slice tA tl tc, .int .i64 p, .int .i64 st], .bool true, .int .i64 0]) ∧ Below w.heap.size w w' := by
  have HT := Aside0.mk hT
  have HC := Aside0.mk hC
  have HK := Aside0.mk hK
  clear hT hC hK
  have p0 : ¬ (p : Int) < 0 := by omega
  have p1 : ¬ (p : Int) > (code.length : Int) := by omega
  have p2 : ((p : Int) == (code.length : Int)) = true := by rw [hp]; exact beq_self_eq_true _
  clear hp
  go_enter Tryd.func50, Tryd.ntmps50
  go_wp2_with (first
    | (go_at_call 40; (with_reducible refine (HK.out _ (by repeat (first | exact Below.refl _ _ | refine below_alloc ?_ _ | refine below_drew1 ?_ | refine pw_below_drewN ?_ _))).mono ?_); rintro e w1 ⟨⟨r0, rfl⟩, hb1⟩; have R0 := (hb1.block (w.heap.size) (by simp; try omega)).trans (rowT (p := _ = some (.cells _ 46 (0, 0)))); have R1 := (hb1.block (w.heap.size + 1) (by simp; try omega)).trans (rowT (p := _ = some (.cells _ 102 (0, 0)))); have R3 := (hb1.block (w.heap.size + 1 + 1) (by simp; try omega)).trans (rowT (p := _ = some (.cells _ 102 (0, 0)))); have hz1 : w.heap.size + 1 + 1 + 1 ≤ w1.heap.size := Nat.le_trans (by simp) hb1.size; have HB1 := Aside0.mk (show Below w.heap.size w w1 from Below.trans (by repeat (first | exact Below.refl _ _ | refine below_alloc ?_ _ | refine below_drew1 ?_ | refine pw_below_drewN ?_ _)) (hb1.mono (by simp; try omega))); clear hb1; have kp := fun j => cell_of_row w1 (w.heap.size) j _ _ _ R0; have ks := fun j => cell_of_row w1 (w.heap.size + 1) j _ _ _ R1)
    | (apply ldS; (with_reducible rfl); rfl; rfl; exact rowT; rfl)
    | (apply srS; (with_reducible rfl); rfl; rfl; rfl; exact rowT; rfl; rfl; rfl; rfl))
  refine ret3S rfl rfl rfl rfl rfl (setRow_heap _ _ _ _ _ _ R3) rfl ⟨rfl, below_row HB1.out (by omega)⟩
set_option maxHeartbeats 2000000 in
set_option maxRecDepth 100000 in
theorem step_jump (a b c : Nat) (N : Int) (hp : p < code.length) (x0 : (rd_T68 code p).f0 = 3) (x1 : (rd_T68 code p).f1 = a) (x2 : (rd_T68 code p).f2 = b) (x3 : (rd_T68 code p).f3 = c) (x4 : (rd_T68 code p).f4 = N) :
    Calls Tryd.prog 50 #[.agg #[.slice A0 ts.length c0, .string la, .string gl, .slice A3 code.length c3], .agg #[.int .i64 (n 0), .int .i64 (n 1), .int .i64 (n 2), .int .i64 (n 3), .int .i64 (n 4), .int .i64 (n 5), .int .i64 (n 6), .int .i64 (n 7), .int .i64 (n 8), .int .i64 (n 9), .int .i64 (n 10), .int .i64 (n 11), .int .i64 (n 12), .int .i64 (n 13), .int .i64 (n 14), .int .i64 (n 15), .int .i64 (n 16), .int .i64 (n 17), .int .i64 (n 18), .int .i64 (n 19), .slice oA ol oc, .slice tA tl tc, .int .i64 p, .int .i64 st]] w fun e w' => e = .returned (.tuple #[.agg #[.int .i64 (n 0), .int .i64 (n 1), .int .i64 (n 2), .int .i64 (n 3), .int .i64 (n 4), .int .i64 (n 5), .int .i64 (n 6), .int .i64 (n 7), .int .i64 (n 8), .int .i64 (n 9), .int .i64 (n 10), .int .i64 (n 11), .int .i64 (n 12), .int .i64 (n 13), .int .i64 (n 14), .int .i64 (n 15), .int .i64 (n 16), .int .i64 (n 17), .int .i64 (n 18), .int .i64 (n 19), .slice oA ol oc, .slice tA tl tc, .int .i64 N, .int .i64 (wrap64 (st + 1))], .bool false, .int .i64 0]) ∧ Below w.heap.size w w' := by
  have hmax := Kd.C_max hC
  obtain ⟨ad, eA, _⟩ := at_T68 hC (p : Int) (by omega) (by omega)
  subst eA
  have HT := Aside0.mk hT
  have HC := Aside0.mk hC
  have HK := Aside0.mk hK
  clear hT hC hK
  have p0 : ¬ (p : Int) < 0 := by omega
  have q0 : (0 : Int) ≤ p := by omega
  have q1 : (p : Int) < code.length := by omega
  have p1 : ¬ (p : Int) > (code.length : Int) := by omega
  have p2 : ((p : Int) == (code.length : Int)) = false := by
    rw [beq_eq_false_iff_ne]
    omega
  have X0 := Aside0.mk x0
  have X1 := Aside0.mk x1
  have X2 := Aside0.mk x2
  have X3 := Aside0.mk x3
  have X4 := Aside0.mk x4
  clear x0 x1 x2 x3 x4
  go_enter Tryd.func50, Tryd.ntmps50
  go_wp2_with (first
    | (go_at_call 40; (with_reducible refine (HK.out _ (by repeat (first | exact Below.refl _ _ | refine below_alloc ?_ _ | refine below_drew1 ?_ | refine pw_below_drewN ?_ _))).mono ?_); rintro e w1 ⟨⟨r0, rfl⟩, hb1⟩; have R0 := (hb1.block (w.heap.size) (by simp; try omega)).trans (rowT (p := _ = some (.cells _ 46 (0, 0)))); have R1 := (hb1.block (w.heap.size + 1) (by simp; try omega)).trans (rowT (p := _ = some (.cells _ 102 (0, 0)))); have R3 := (hb1.block (w.heap.size + 1 + 1) (by simp; try omega)).trans (rowT (p := _ = some (.cells _ 102 (0, 0)))); have hz1 : w.heap.size + 1 + 1 + 1 ≤ w1.heap.size := Nat.le_trans (by simp) hb1.size; have HB1 := Aside0.mk (show Below w.heap.size w w1 from Below.trans (by repeat (first | exact Below.refl _ _ | refine below_alloc ?_ _ | refine below_drew1 ?_ | refine pw_below_drewN ?_ _)) (hb1.mono (by simp; try omega))); clear hb1; have kp := fun j => cell_of_row w1 (w.heap.size) j _ _ _ R0; have ks := fun j => cell_of_row w1 (w.heap.size + 1) j _ _ _ R1; obtain ⟨_, ea, y0, y1, y2, y3, y4⟩ := at_T68 (Kd.C_below HC.out HB1.out) (p : Int) q0 q1; cases ea; rw [Int.toNat_natCast] at y0 y1 y2 y3 y4; rw [X0.out] at y0; rw [X1.out] at y1; rw [X2.out] at y2; rw [X3.out] at y3; rw [X4.out] at y4; have c22 : ∀ q r : Obj, ((w1.alloc q).alloc r).cell? ⟨w.heap.size + 1, 22, none⟩ = some (.int .i64 p) := fun q r => cell_more2 (by omega) ((ks 22).trans rfl) q r; have c23 : ∀ q r : Obj, ((w1.alloc q).alloc r).cell? ⟨w.heap.size + 1, 23, none⟩ = some (.int .i64 st) := fun q r => cell_more2 (by omega) ((ks 23).trans rfl) q r; have R3X : ∀ q r : Obj, ((w1.alloc q).alloc r).heap[w.heap.size + 1 + 1]? = _ := fun q r => row_old _ _ _ (by simp; omega) (row_old _ _ _ (by omega) R3); skip)
    | (apply ldS; (with_reducible rfl); rfl; rfl; exact rowT; rfl)
    | (apply srS; (with_reducible rfl); rfl; rfl; rfl; exact rowT; rfl; rfl; rfl; exact setT))
  refine ret3S rfl rfl rfl rfl rfl rowT rfl ⟨rfl, ?_⟩
  repeat (first | exact HB1.out | refine below_alloc ?_ _ | refine below_row ?_ (by omega))
set_option maxHeartbeats 2000000 in
set_option maxRecDepth 100000 in
theorem step_zero (a b c : Nat) (N : Int) (hp : p < code.length) (x0 : (rd_T68 code p).f0 = 4) (x1 : (rd_T68 code p).f1 = a) (x2 : (rd_T68 code p).f2 = b) (x3 : (rd_T68 code p).f3 = c) (x4 : (rd_T68 code p).f4 = N) (ha : (a : Int) < 8) (hz : n a = 0) :
    Calls Tryd.prog 50 #[.agg #[.slice A0 ts.length c0, .string la, .string gl, .slice A3 code.length c3], .agg #[.int .i64 (n 0), .int .i64 (n 1), .int .i64 (n 2), .int .i64 (n 3), .int .i64 (n 4), .int .i64 (n 5), .int .i64 (n 6), .int .i64 (n 7), .int .i64 (n 8), .int .i64 (n 9), .int .i64 (n 10), .int .i64 (n 11), .int .i64 (n 12), .int .i64 (n 13), .int .i64 (n 14), .int .i64 (n 15), .int .i64 (n 16), .int .i64 (n 17), .int .i64 (n 18), .int .i64 (n 19), .slice oA ol oc, .slice tA tl tc, .int .i64 p, .int .i64 st]] w fun e w' => e = .returned (.tuple #[.agg #[.int .i64 (n 0), .int .i64 (n 1), .int .i64 (n 2), .int .i64 (n 3), .int .i64 (n 4), .int .i64 (n 5), .int .i64 (n 6), .int .i64 (n 7), .int .i64 (n 8), .int .i64 (n 9), .int .i64 (n 10), .int .i64 (n 11), .int .i64 (n 12), .int .i64 (n 13), .int .i64 (n 14), .int .i64 (n 15), .int .i64 (n 16), .int .i64 (n 17), .int .i64 (n 18), .int .i64 (n 19), .slice oA ol oc, .slice tA tl tc, .int .i64 N, .int .i64 (wrap64 (st + 1))], .bool false, .int .i64 0]) ∧ Below w.heap.size w w' := by
  have hmax := Kd.C_max hC
  obtain ⟨ad, eA, _⟩ := at_T68 hC (p : Int) (by omega) (by omega)
  subst eA
  have HT := Aside0.mk hT
  have HC := Aside0.mk hC
  have HK := Aside0.mk hK
  clear hT hC hK
  have p0 : ¬ (p : Int) < 0 := by omega
  have q0 : (0 : Int) ≤ p := by omega
  have q1 : (p : Int) < code.length := by omega
  have p1 : ¬ (p : Int) > (code.length : Int) := by omega
  have p2 : ((p : Int) == (code.length : Int)) = false := by
    rw [beq_eq_false_iff_ne]
    omega
  have X0 := Aside0.mk x0
  have X1 := Aside0.mk x1
  have X2 := Aside0.mk x2
  have X3 := Aside0.mk x3
  have X4 := Aside0.mk x4
  clear x0 x1 x2 x3 x4
  have HZ := Aside0.mk hz
  clear hz
  have a0 : (0 : Int) ≤ a := by omega
  go_enter Tryd.func50, Tryd.ntmps50
  go_wp2_with (first
    | (go_at_call 40; (with_reducible refine (HK.out _ (by repeat (first | exact Below.refl _ _ | refine below_alloc ?_ _ | refine below_drew1 ?_ | refine pw_below_drewN ?_ _))).mono ?_); rintro e w1 ⟨⟨r0, rfl⟩, hb1⟩; have R0 := (hb1.block (w.heap.size) (by simp; try omega)).trans (rowT (p := _ = some (.cells _ 46 (0, 0)))); have R1 := (hb1.block (w.heap.size + 1) (by simp; try omega)).trans (rowT (p := _ = some (.cells _ 102 (0, 0)))); have R3 := (hb1.block (w.heap.size + 1 + 1) (by simp; try omega)).trans (rowT (p := _ = some (.cells _ 102 (0, 0)))); have hz1 : w.heap.size + 1 + 1 + 1 ≤ w1.heap.size := Nat.le_trans (by simp) hb1.size; have HB1 := Aside0.mk (show Below w.heap.size w w1 from Below.trans (by repeat (first | exact Below.refl _ _ | refine below_alloc ?_ _ | refine below_drew1 ?_ | refine pw_below_drewN ?_ _)) (hb1.mono (by simp; try omega))); clear hb1; have kp := fun j => cell_of_row w1 (w.heap.size) j _ _ _ R0; have ks := fun j => cell_of_row w1 (w.heap.size + 1) j _ _ _ R1; obtain ⟨_, ea, y0, y1, y2, y3, y4⟩ := at_T68 (Kd.C_below HC.out HB1.out) (p : Int) q0 q1; cases ea; rw [Int.toNat_natCast] at y0 y1 y2 y3 y4; rw [X0.out] at y0; rw [X1.out] at y1; rw [X2.out] at y2; rw [X3.out] at y3; rw [X4.out] at y4; have c22 : ∀ q r : Obj, ((w1.alloc q).alloc r).cell? ⟨w.heap.size + 1, 22, none⟩ = some (.int .i64 p) := fun q r => cell_more2 (by omega) ((ks 22).trans rfl) q r; have c23 : ∀ q r : Obj, ((w1.alloc q).alloc r).cell? ⟨w.heap.size + 1, 23, none⟩ = some (.int .i64 st) := fun q r => cell_more2 (by omega) ((ks 23).trans rfl) q r; have R3X : ∀ q r : Obj, ((w1.alloc q).alloc r).heap[w.heap.size + 1 + 1]? = _ := fun q r => row_old _ _ _ (by simp; omega) (row_old _ _ _ (by omega) R3); have cX : ∀ q r : Obj, ((w1.alloc q).alloc r).cell? ⟨w.heap.size + 1, a, none⟩ = some (.int .i64 0) := fun q r => cell_more2 (by omega) ((ks a).trans (by rw [← HZ.out]; exact rowSA _ _ _ _ _ a ha)) q r)
    | (apply ldS; (with_reducible rfl); rfl; rfl; exact rowT; rfl)
    | (apply srS; (with_reducible rfl); rfl; rfl; rfl; exact rowT; rfl; rfl; rfl; exact setT))
  refine ret3S rfl rfl rfl rfl rfl rowT rfl ⟨rfl, ?_⟩
  repeat (first | exact HB1.out | refine below_alloc ?_ _ | refine below_row ?_ (by omega))
set_option maxHeartbeats 2000000 in
set_option maxRecDepth 100000 in
theorem step_pass (a b c : Nat) (N : Int) (hp : p < code.length) (x0 : (rd_T68 code p).f0 = 4) (x1 : (rd_T68 code p).f1 = a) (x2 : (rd_T68 code p).f2 = b) (x3 : (rd_T68 code p).f3 = c) (x4 : (rd_T68 code p).f4 = N) (ha : (a : Int) < 8) (hz : ¬ n a = 0) :
    Calls Tryd.prog 50 #[.agg #[.slice A0 ts.length c0, .string la, .string gl, .slice A3 code.length c3], .agg #[.int .i64 (n 0), .int .i64 (n 1), .int .i64 (n 2), .int .i64 (n 3), .int .i64 (n 4), .int .i64 (n 5), .int .i64 (n 6), .int .i64 (n 7), .int .i64 (n 8), .int .i64 (n 9), .int .i64 (n 10), .int .i64 (n 11), .int .i64 (n 12), .int .i64 (n 13), .int .i64 (n 14), .int .i64 (n 15), .int .i64 (n 16), .int .i64 (n 17), .int .i64 (n 18), .int .i64 (n 19), .slice oA ol oc, .slice tA tl tc, .int .i64 p, .int .i64 st]] w fun e w' => e = .returned (.tuple #[.agg #[.int .i64 (n 0), .int .i64 (n 1), .int .i64 (n 2), .int .i64 (n 3), .int .i64 (n 4), .int .i64 (n 5), .int .i64 (n 6), .int .i64 (n 7), .int .i64 (n 8), .int .i64 (n 9), .int .i64 (n 10), .int .i64 (n 11), .int .i64 (n 12), .int .i64 (n 13), .int .i64 (n 14), .int .i64 (n 15), .int .i64 (n 16), .int .i64 (n 17), .int .i64 (n 18), .int .i64 (n 19), .slice oA ol oc, .slice tA tl tc, .int .i64 ((p : Int) + 1), .int .i64 (wrap64 (st + 1))], .bool false, .int .i64 0]) ∧ Below w.heap.size w w' := by
  have hmax := Kd.C_max hC
  obtain ⟨ad, eA, _⟩ := at_T68 hC (p : Int) (by omega) (by omega)
  subst eA
  have HT := Aside0.mk hT
  have HC := Aside0.mk hC
  have HK := Aside0.mk hK
  clear hT hC hK
  have p0 : ¬ (p : Int) < 0 := by omega
  have q0 : (0 : Int) ≤ p := by omega
  have q1 : (p : Int) < code.length := by omega
  have p1 : ¬ (p : Int) > (code.length : Int) := by omega
  have p2 : ((p : Int) == (code.length : Int)) = false := by
    rw [beq_eq_false_iff_ne]
    omega
  have X0 := Aside0.mk x0
  have X1 := Aside0.mk x1
  have X2 := Aside0.mk x2
  have X3 := Aside0.mk x3
  have X4 := Aside0.mk x4
  clear x0 x1 x2 x3 x4
  have hz' : (n a == 0) = false := by simpa using hz
  clear hz
  have a0 : (0 : Int) ≤ a := by omega
  go_enter Tryd.func50, Tryd.ntmps50
  go_wp2_with (first
    | (go_at_call 40; (with_reducible refine (HK.out _ (by repeat (first | exact Below.refl _ _ | refine below_alloc ?_ _ | refine below_drew1 ?_ | refine pw_below_drewN ?_ _))).mono ?_); rintro e w1 ⟨⟨r0, rfl⟩, hb1⟩; have R0 := (hb1.block (w.heap.size) (by simp; try omega)).trans (rowT (p := _ = some (.cells _ 46 (0, 0)))); have R1 := (hb1.block (w.heap.size + 1) (by simp; try omega)).trans (rowT (p := _ = some (.cells _ 102 (0, 0)))); have R3 := (hb1.block (w.heap.size + 1 + 1) (by simp; try omega)).trans (rowT (p := _ = some (.cells _ 102 (0, 0)))); have hz1 : w.heap.size + 1 + 1 + 1 ≤ w1.heap.size := Nat.le_trans (by simp) hb1.size; have HB1 := Aside0.mk (show Below w.heap.size w w1 from Below.trans (by repeat (first | exact Below.refl _ _ | refine below_alloc ?_ _ | refine below_drew1 ?_ | refine pw_below_drewN ?_ _)) (hb1.mono (by simp; try omega))); clear hb1; have kp := fun j => cell_of_row w1 (w.heap.size) j _ _ _ R0; have ks := fun j => cell_of_row w1 (w.heap.size + 1) j _ _ _ R1; obtain ⟨_, ea, y0, y1, y2, y3, y4⟩ := at_T68 (Kd.C_below HC.out HB1.out) (p : Int) q0 q1; cases ea; rw [Int.toNat_natCast] at y0 y1 y2 y3 y4; rw [X0.out] at y0; rw [X1.out] at y1; rw [X2.out] at y2; rw [X3.out] at y3; rw [X4.out] at y4; have c22 : ∀ q r : Obj, ((w1.alloc q).alloc r).cell? ⟨w.heap.size + 1, 22, none⟩ = some (.int .i64 p) := fun q r => cell_more2 (by omega) ((ks 22).trans rfl) q r; have c23 : ∀ q r : Obj, ((w1.alloc q).alloc r).cell? ⟨w.heap.size + 1, 23, none⟩ = some (.int .i64 st) := fun q r => cell_more2 (by omega) ((ks 23).trans rfl) q r; have R3X : ∀ q r : Obj, ((w1.alloc q).alloc r).heap[w.heap.size + 1 + 1]? = _ := fun q r => row_old _ _ _ (by simp; omega) (row_old _ _ _ (by omega) R3); have cX : ∀ q r : Obj, ((w1.alloc q).alloc r).cell? ⟨w.heap.size + 1, a, none⟩ = some (.int .i64 (n a)) := fun q r => cell_more2 (by omega) ((ks a).trans (rowSA _ _ _ _ _ a ha)) q r)
    | (apply ldS; (with_reducible rfl); rfl; rfl; exact rowT; rfl)
    | (apply srS; (with_reducible rfl); rfl; rfl; rfl; exact rowT; rfl; rfl; rfl; exact setT))
  refine ret3S rfl rfl rfl rfl rfl rowT rfl ⟨rfl, ?_⟩
  repeat (first | exact HB1.out | refine below_alloc ?_ _ | refine below_row ?_ (by omega))
set_option maxHeartbeats 2000000 in
set_option maxRecDepth 100000 in
theorem step_num (o : Int) (a b c : Nat) (N : Int) (hp : p < code.length) (x0 : (rd_T68 code p).f0 = o) (x1 : (rd_T68 code p).f1 = a) (x2 : (rd_T68 code p).f2 = b) (x3 : (rd_T68 code p).f3 = c) (x4 : (rd_T68 code p).f4 = N) (hj3 : ¬ o = 3) (hj4 : ¬ o = 4) (R : World → World → Array Value → Prop) (hN : ∀ W, Below w.heap.size w W → Calls Tryd.prog 74 #[.agg #[.int .i64 (n 0), .int .i64 (n 1), .int .i64 (n 2), .int .i64 (n 3), .int .i64 (n 4), .int .i64 (n 5), .int .i64 (n 6), .int .i64 (n 7), .int .i64 (n 8), .int .i64 (n 9), .int .i64 (n 10), .int .i64 (n 11), .int .i64 (n 12), .int .i64 (n 13), .int .i64 (n 14), .int .i64 (n 15), .int .i64 (n 16), .int .i64 (n 17), .int .i64 (n 18), .int .i64 (n 19), .slice oA ol oc, .slice tA tl tc, .int .i64 ((p : Int) + 1), .int .i64 (wrap64 (st + 1))], .agg #[.int .u8 o, .int .u8 a, .int .u8 b, .int .u8 c, .int .i64 N]] W fun e w' => ∃ U : Array Value, U.size = 24 ∧ U.toList.all (·.oneCell') = true ∧ e = .returned (.tuple #[.agg U, .bool true]) ∧ R W w' U ∧ Below W.heap.size W w') :
    Calls Tryd.prog 50 #[.agg #[.slice A0 ts.length c0, .string la, .string gl, .slice A3 code.length c3], .agg #[.int .i64 (n 0), .int .i64 (n 1), .int .i64 (n 2), .int .i64 (n 3), .int .i64 (n 4), .int .i64 (n 5), .int .i64 (n 6), .int .i64 (n 7), .int .i64 (n 8), .int .i64 (n 9), .int .i64 (n 10), .int .i64 (n 11), .int .i64 (n 12), .int .i64 (n 13), .int .i64 (n 14), .int .i64 (n 15), .int .i64 (n 16), .int .i64 (n 17), .int .i64 (n 18), .int .i64 (n 19), .slice oA ol oc, .slice tA tl tc, .int .i64 p, .int .i64 st]] w fun e w' => ∃ U W w2, e = .returned (.tuple #[.agg U, .bool false, .int .i64 0]) ∧ U.size = 24 ∧ R W w2 U ∧ Below w.heap.size w W ∧ w.heap.size + 1 + 1 + 1 ≤ W.heap.size ∧ (∀ k, (k < w.heap.size ∨ W.heap.size ≤ k) → k < w2.heap.size → w'.heap[k]? = w2.heap[k]? ∧ k < w'.heap.size) ∧ Below w.heap.size w w' := by
  have hmax := Kd.C_max hC
  obtain ⟨ad, eA, _⟩ := at_T68 hC (p : Int) (by omega) (by omega)
  subst eA
  have HT := Aside0.mk hT
  have HC := Aside0.mk hC
  have HK := Aside0.mk hK
  clear hT hC hK
  have p0 : ¬ (p : Int) < 0 := by omega
  have q0 : (0 : Int) ≤ p := by omega
  have q1 : (p : Int) < code.length := by omega
  have p1 : ¬ (p : Int) > (code.length : Int) := by omega
  have p2 : ((p : Int) == (code.length : Int)) = false := by
    rw [beq_eq_false_iff_ne]
    omega
  have X0 := Aside0.mk x0
  have X1 := Aside0.mk x1
  have X2 := Aside0.mk x2
  have X3 := Aside0.mk x3
  have X4 := Aside0.mk x4
  clear x0 x1 x2 x3 x4
  have e3 : (o == 3) = false := by simpa using hj3
  have e4 : (o == 4) = false := by simpa using hj4
  go_enter Tryd.func50, Tryd.ntmps50
  go_wp2_with (first
    | (go_at_call 40; (with_reducible refine (HK.out _ (by repeat (first | exact Below.refl _ _ | refine below_alloc ?_ _ | refine below_drew1 ?_ | refine pw_below_drewN ?_ _))).mono ?_); rintro e w1 ⟨⟨r0, rfl⟩, hb1⟩; have R0 := (hb1.block (w.heap.size) (by simp; try omega)).trans (rowT (p := _ = some (.cells _ 46 (0, 0)))); have R1 := (hb1.block (w.heap.size + 1) (by simp; try omega)).trans (rowT (p := _ = some (.cells _ 102 (0, 0)))); have R3 := (hb1.block (w.heap.size + 1 + 1) (by simp; try omega)).trans (rowT (p := _ = some (.cells _ 102 (0, 0)))); have hz1 : w.heap.size + 1 + 1 + 1 ≤ w1.heap.size := Nat.le_trans (by simp) hb1.size; have HB1 := Aside0.mk (show Below w.heap.size w w1 from Below.trans (by repeat (first | exact Below.refl _ _ | refine below_alloc ?_ _ | refine below_drew1 ?_ | refine pw_below_drewN ?_ _)) (hb1.mono (by simp; try omega))); clear hb1; have kp := fun j => cell_of_row w1 (w.heap.size) j _ _ _ R0; have ks := fun j => cell_of_row w1 (w.heap.size + 1) j _ _ _ R1; obtain ⟨_, ea, y0, y1, y2, y3, y4⟩ := at_T68 (Kd.C_below HC.out HB1.out) (p : Int) q0 q1; cases ea; rw [Int.toNat_natCast] at y0 y1 y2 y3 y4; rw [X0.out] at y0; rw [X1.out] at y1; rw [X2.out] at y2; rw [X3.out] at y3; rw [X4.out] at y4; have c22 : ∀ q r : Obj, ((w1.alloc q).alloc r).cell? ⟨w.heap.size + 1, 22, none⟩ = some (.int .i64 p) := fun q r => cell_more2 (by omega) ((ks 22).trans rfl) q r; have c23 : ∀ q r : Obj, ((w1.alloc q).alloc r).cell? ⟨w.heap.size + 1, 23, none⟩ = some (.int .i64 st) := fun q r => cell_more2 (by omega) ((ks 23).trans rfl) q r; have R3X : ∀ q r : Obj, ((w1.alloc q).alloc r).heap[w.heap.size + 1 + 1]? = _ := fun q r => row_old _ _ _ (by simp; omega) (row_old _ _ _ (by omega) R3); skip)
    | (go_at_call 74; (with_reducible refine (hN _ (by repeat (first | exact HB1.out | refine below_alloc ?_ _))).mono ?_); rintro e w2 ⟨U, hU, hU1, rfl, hRU, hb2⟩; have hz2 : w.heap.size + 1 + 1 + 1 ≤ w2.heap.size := Nat.le_trans (by simp; omega) hb2.size; have b3 := (hb2.block (w.heap.size + 1 + 1) (by simp; omega)).trans (R3X _ _); have HB2 := Aside0.mk (show Below w.heap.size w w2 from Below.trans (by repeat (first | exact HB1.out | refine below_alloc ?_ _)) (hb2.mono (by simp; omega))); have HRU := Aside0.mk hRU; clear hb2 hRU)
    | (apply ldS; (with_reducible rfl); rfl; rfl; exact rowT; (first | rfl | assumption))
    | (apply srS; (with_reducible rfl); rfl; rfl; rfl; exact rowT; (first | rfl | assumption); (first | rfl | assumption); (first | rfl | assumption); exact setT))
  refine ret3S rfl rfl rfl rfl rfl rowT hU ⟨U, _, w2, rfl, hU, HRU.out, (by repeat (first | exact HB1.out | refine below_alloc ?_ _)), by simp; omega, fun k hk hl => ⟨?_, ?_⟩, ?_⟩
  · refine (setRow_other _ _ _ _ fun e => ?_).trans (heap_old2 _ _ hl)
    rcases hk with hk | hk
    · omega
    · simp at hk
      omega
  · simp
    omega
  · repeat (first | exact HB2.out | refine below_alloc ?_ _ | refine below_row ?_ (by omega))
set_option maxHeartbeats 2000000 in
set_option maxRecDepth 100000 in
theorem step_ptr (o : Int) (a b c : Nat) (N : Int) (hp : p < code.length) (x0 : (rd_T68 code p).f0 = o) (x1 : (rd_T68 code p).f1 = a) (x2 : (rd_T68 code p).f2 = b) (x3 : (rd_T68 code p).f3 = c) (x4 : (rd_T68 code p).f4 = N) (hj3 : ¬ o = 3) (hj4 : ¬ o = 4) (R : World → World → Array Value → Prop) (hN : ∀ W, Below w.heap.size w W → Calls Tryd.prog 74 #[.agg #[.int .i64 (n 0), .int .i64 (n 1), .int .i64 (n 2), .int .i64 (n 3), .int .i64 (n 4), .int .i64 (n 5), .int .i64 (n 6), .int .i64 (n 7), .int .i64 (n 8), .int .i64 (n 9), .int .i64 (n 10), .int .i64 (n 11), .int .i64 (n 12), .int .i64 (n 13), .int .i64 (n 14), .int .i64 (n 15), .int .i64 (n 16), .int .i64 (n 17), .int .i64 (n 18), .int .i64 (n 19), .slice oA ol oc, .slice tA tl tc, .int .i64 ((p : Int) + 1), .int .i64 (wrap64 (st + 1))], .agg #[.int .u8 o, .int .u8 a, .int .u8 b, .int .u8 c, .int .i64 N]] W fun e w' => e = .returned (.tuple #[.agg #[.int .i64 (n 0), .int .i64 (n 1), .int .i64 (n 2), .int .i64 (n 3), .int .i64 (n 4), .int .i64 (n 5), .int .i64 (n 6), .int .i64 (n 7), .int .i64 (n 8), .int .i64 (n 9), .int .i64 (n 10), .int .i64 (n 11), .int .i64 (n 12), .int .i64 (n 13), .int .i64 (n 14), .int .i64 (n 15), .int .i64 (n 16), .int .i64 (n 17), .int .i64 (n 18), .int .i64 (n 19), .slice oA ol oc, .slice tA tl tc, .int .i64 ((p : Int) + 1), .int .i64 (wrap64 (st + 1))], .bool false]) ∧ Below W.heap.size W w') (hP : ∀ W, Below w.heap.size w W → Calls Tryd.prog 75 #[.agg #[.slice A0 ts.length c0, .string la, .string gl, .slice A3 code.length c3], .agg #[.int .i64 (n 0), .int .i64 (n 1), .int .i64 (n 2), .int .i64 (n 3), .int .i64 (n 4), .int .i64 (n 5), .int .i64 (n 6), .int .i64 (n 7), .int .i64 (n 8), .int .i64 (n 9), .int .i64 (n 10), .int .i64 (n 11), .int .i64 (n 12), .int .i64 (n 13), .int .i64 (n 14), .int .i64 (n 15), .int .i64 (n 16), .int .i64 (n 17), .int .i64 (n 18), .int .i64 (n 19), .slice oA ol oc, .slice tA tl tc, .int .i64 ((p : Int) + 1), .int .i64 (wrap64 (st + 1))], .agg #[.int .u8 o, .int .u8 a, .int .u8 b, .int .u8 c, .int .i64 N]] W fun e w' => ∃ U : Array Value, U.size = 24 ∧ U.toList.all (·.oneCell') = true ∧ e = .returned (.tuple #[.agg U, .bool true]) ∧ R W w' U ∧ Below W.heap.size W w') :
    Calls Tryd.prog 50 #[.agg #[.slice A0 ts.length c0, .string la, .string gl, .slice A3 code.length c3], .agg #[.int .i64 (n 0), .int .i64 (n 1), .int .i64 (n 2), .int .i64 (n 3), .int .i64 (n 4), .int .i64 (n 5), .int .i64 (n 6), .int .i64 (n 7), .int .i64 (n 8), .int .i64 (n 9), .int .i64 (n 10), .int .i64 (n 11), .int .i64 (n 12), .int .i64 (n 13), .int .i64 (n 14), .int .i64 (n 15), .int .i64 (n 16), .int .i64 (n 17), .int .i64 (n 18), .int .i64 (n 19), .slice oA ol oc, .slice tA tl tc, .int .i64 p, .int .i64 st]] w fun e w' => ∃ U W w2, e = .returned (.tuple #[.agg U, .bool false, .int .i64 0]) ∧ U.size = 24 ∧ R W w2 U ∧ Below w.heap.size w W ∧ w.heap.size + 1 + 1 + 1 ≤ W.heap.size ∧ (∀ k, (k < w.heap.size ∨ W.heap.size ≤ k) → k < w2.heap.size → w'.heap[k]? = w2.heap[k]? ∧ k < w'.heap.size) ∧ Below w.heap.size w w' := by
  have hmax := Kd.C_max hC
  obtain ⟨ad, eA, _⟩ := at_T68 hC (p : Int) (by omega) (by omega)
  subst eA
  have HT := Aside0.mk hT
  have HC := Aside0.mk hC
  have HK := Aside0.mk hK
  clear hT hC hK
  have p0 : ¬ (p : Int) < 0 := by omega
  have q0 : (0 : Int) ≤ p := by omega
  have q1 : (p : Int) < code.length := by omega
  have p1 : ¬ (p : Int) > (code.length : Int) := by omega
  have p2 : ((p : Int) == (code.length : Int)) = false := by
    rw [beq_eq_false_iff_ne]
    omega
  have X0 := Aside0.mk x0
  have X1 := Aside0.mk x1
  have X2 := Aside0.mk x2
  have X3 := Aside0.mk x3
  have X4 := Aside0.mk x4
  clear x0 x1 x2 x3 x4
  have e3 : (o == 3) = false := by simpa using hj3
  have e4 : (o == 4) = false := by simpa using hj4
  go_enter Tryd.func50, Tryd.ntmps50
  go_wp2_with (first
    | (go_at_call 40; (with_reducible refine (HK.out _ (by repeat (first | exact Below.refl _ _ | refine below_alloc ?_ _ | refine below_drew1 ?_ | refine pw_below_drewN ?_ _))).mono ?_); rintro e w1 ⟨⟨r0, rfl⟩, hb1⟩; have R0 := (hb1.block (w.heap.size) (by simp; try omega)).trans (rowT (p := _ = some (.cells _ 46 (0, 0)))); have R1 := (hb1.block (w.heap.size + 1) (by simp; try omega)).trans (rowT (p := _ = some (.cells _ 102 (0, 0)))); have R3 := (hb1.block (w.heap.size + 1 + 1) (by simp; try omega)).trans (rowT (p := _ = some (.cells _ 102 (0, 0)))); have hz1 : w.heap.size + 1 + 1 + 1 ≤ w1.heap.size := Nat.le_trans (by simp) hb1.size; have HB1 := Aside0.mk (show Below w.heap.size w w1 from Below.trans (by repeat (first | exact Below.refl _ _ | refine below_alloc ?_ _ | refine below_drew1 ?_ | refine pw_below_drewN ?_ _)) (hb1.mono (by simp; try omega))); clear hb1; have kp := fun j => cell_of_row w1 (w.heap.size) j _ _ _ R0; have ks := fun j => cell_of_row w1 (w.heap.size + 1) j _ _ _ R1; obtain ⟨_, ea, y0, y1, y2, y3, y4⟩ := at_T68 (Kd.C_below HC.out HB1.out) (p : Int) q0 q1; cases ea; rw [Int.toNat_natCast] at y0 y1 y2 y3 y4; rw [X0.out] at y0; rw [X1.out] at y1; rw [X2.out] at y2; rw [X3.out] at y3; rw [X4.out] at y4; have c22 : ∀ q r : Obj, ((w1.alloc q).alloc r).cell? ⟨w.heap.size + 1, 22, none⟩ = some (.int .i64 p) := fun q r => cell_more2 (by omega) ((ks 22).trans rfl) q r; have c23 : ∀ q r : Obj, ((w1.alloc q).alloc r).cell? ⟨w.heap.size + 1, 23, none⟩ = some (.int .i64 st) := fun q r => cell_more2 (by omega) ((ks 23).trans rfl) q r; have R3X : ∀ q r : Obj, ((w1.alloc q).alloc r).heap[w.heap.size + 1 + 1]? = _ := fun q r => row_old _ _ _ (by simp; omega) (row_old _ _ _ (by omega) R3); skip)
    | (go_at_call 74; (with_reducible refine (hN _ (by repeat (first | exact HB1.out | refine below_alloc ?_ _))).mono ?_); rintro e w2 ⟨rfl, hb2⟩; have hz2 : w1.heap.size + 1 + 1 ≤ w2.heap.size := Nat.le_trans (by simp) hb2.size; have b3 := (hb2.block (w.heap.size + 1 + 1) (by simp; omega)).trans (R3X _ _); have b0 := (hb2.block (w.heap.size) (by simp; omega)).trans (row_old _ _ _ (by simp; omega) (row_old _ _ _ (by omega) R0)); have b1 := (hb2.block (w.heap.size + 1) (by simp; omega)).trans (row_old _ _ _ (by simp; omega) (row_old _ _ _ (by omega) R1)); have bI := (hb2.block (w1.heap.size) (by simp <;> omega)).trans (rowT (p := _ = some (.cells _ 68 (0, 0)))); have bT := (hb2.block (w1.heap.size + 1) (by simp)).trans (rowT (p := _ = some (.cells _ 102 (0, 0)))); have HB2 := Aside0.mk (show Below w.heap.size w w2 from Below.trans (by repeat (first | exact HB1.out | refine below_alloc ?_ _)) (hb2.mono (by simp; omega))); have kp2 := fun q j => cell_of_row (w2.alloc q) _ j _ _ _ (row_old _ q _ (by omega) b0); have kI2 := fun q j => cell_of_row (w2.alloc q) _ j _ _ _ (row_old _ q _ (by omega) bI); clear hb2 R0 R1 R3)
    | (go_at_call 75; (with_reducible refine (hP _ (by repeat (first | exact HB2.out | refine below_alloc ?_ _))).mono ?_); rintro e w3 ⟨U, hU, hU1, rfl, hRU, hb3⟩; have hz3 : w2.heap.size + 1 ≤ w3.heap.size := Nat.le_trans (by simp) hb3.size; have b33 := (hb3.block (w.heap.size + 1 + 1) (by simp; omega)).trans (row_old _ _ _ (by omega) b3); have HB3 := Aside0.mk (show Below w.heap.size w w3 from Below.trans (by repeat (first | exact HB2.out | refine below_alloc ?_ _)) (hb3.mono (by simp; omega))); have HRU := Aside0.mk hRU; clear hb3 hRU)
    | (apply ldS; (with_reducible rfl); rfl; rfl; exact rowT; (first | rfl | assumption))
    | (apply srS; (with_reducible rfl); rfl; rfl; rfl; exact rowT; (first | rfl | assumption); (first | rfl | assumption); (first | rfl | assumption); exact setT))
  refine ret3S rfl rfl rfl rfl rfl rowT hU ⟨U, _, w3, rfl, hU, HRU.out, (by repeat (first | exact HB2.out | refine below_alloc ?_ _)), by simp; omega, fun k hk hl => ⟨?_, ?_⟩, ?_⟩
  · refine (setRow_other _ _ _ _ fun e => ?_).trans (heap_old2 _ _ hl)
    rcases hk with hk | hk
    · omega
    · simp at hk
      omega
  · simp
    omega
  · repeat (first | exact HB3.out | refine below_alloc ?_ _ | refine below_row ?_ (by omega))
set_option maxHeartbeats 2000000 in
set_option maxRecDepth 100000 in
theorem step_mem (o : Int) (a b c : Nat) (N : Int) (hp : p < code.length) (x0 : (rd_T68 code p).f0 = o) (x1 : (rd_T68 code p).f1 = a) (x2 : (rd_T68 code p).f2 = b) (x3 : (rd_T68 code p).f3 = c) (x4 : (rd_T68 code p).f4 = N) (hj3 : ¬ o = 3) (hj4 : ¬ o = 4) (R : World → World → Array Value → Prop) (hN : ∀ W, Below w.heap.size w W → Calls Tryd.prog 74 #[.agg #[.int .i64 (n 0), .int .i64 (n 1), .int .i64 (n 2), .int .i64 (n 3), .int .i64 (n 4), .int .i64 (n 5), .int .i64 (n 6), .int .i64 (n 7), .int .i64 (n 8), .int .i64 (n 9), .int .i64 (n 10), .int .i64 (n 11), .int .i64 (n 12), .int .i64 (n 13), .int .i64 (n 14), .int .i64 (n 15), .int .i64 (n 16), .int .i64 (n 17), .int .i64 (n 18), .int .i64 (n 19), .slice oA ol oc, .slice tA tl tc, .int .i64 ((p : Int) + 1), .int .i64 (wrap64 (st + 1))], .agg #[.int .u8 o, .int .u8 a, .int .u8 b, .int .u8 c, .int .i64 N]] W fun e w' => e = .returned (.tuple #[.agg #[.int .i64 (n 0), .int .i64 (n 1), .int .i64 (n 2), .int .i64 (n 3), .int .i64 (n 4), .int .i64 (n 5), .int .i64 (n 6), .int .i64 (n 7), .int .i64 (n 8), .int .i64 (n 9), .int .i64 (n 10), .int .i64 (n 11), .int .i64 (n 12), .int .i64 (n 13), .int .i64 (n 14), .int .i64 (n 15), .int .i64 (n 16), .int .i64 (n 17), .int .i64 (n 18), .int .i64 (n 19), .slice oA ol oc, .slice tA tl tc, .int .i64 ((p : Int) + 1), .int .i64 (wrap64 (st + 1))], .bool false]) ∧ Below W.heap.size W w') (hP : ∀ W, Below w.heap.size w W → Calls Tryd.prog 75 #[.agg #[.slice A0 ts.length c0, .string la, .string gl, .slice A3 code.length c3], .agg #[.int .i64 (n 0), .int .i64 (n 1), .int .i64 (n 2), .int .i64 (n 3), .int .i64 (n 4), .int .i64 (n 5), .int .i64 (n 6), .int .i64 (n 7), .int .i64 (n 8), .int .i64 (n 9), .int .i64 (n 10), .int .i64 (n 11), .int .i64 (n 12), .int .i64 (n 13), .int .i64 (n 14), .int .i64 (n 15), .int .i64 (n 16), .int .i64 (n 17), .int .i64 (n 18), .int .i64 (n 19), .slice oA ol oc, .slice tA tl tc, .int .i64 ((p : Int) + 1), .int .i64 (wrap64 (st + 1))], .agg #[.int .u8 o, .int .u8 a, .int .u8 b, .int .u8 c, .int .i64 N]] W fun e w' => e = .returned (.tuple #[.agg #[.int .i64 (n 0), .int .i64 (n 1), .int .i64 (n 2), .int .i64 (n 3), .int .i64 (n 4), .int .i64 (n 5), .int .i64 (n 6), .int .i64 (n 7), .int .i64 (n 8), .int .i64 (n 9), .int .i64 (n 10), .int .i64 (n 11), .int .i64 (n 12), .int .i64 (n 13), .int .i64 (n 14), .int .i64 (n 15), .int .i64 (n 16), .int .i64 (n 17), .int .i64 (n 18), .int .i64 (n 19), .slice oA ol oc, .slice tA tl tc, .int .i64 ((p : Int) + 1), .int .i64 (wrap64 (st + 1))], .bool false]) ∧ Below W.heap.size W w') (hM : ∀ W, Below w.heap.size w W → Calls Tryd.prog 76 #[.agg #[.int .i64 (n 0), .int .i64 (n 1), .int .i64 (n 2), .int .i64 (n 3), .int .i64 (n 4), .int .i64 (n 5), .int .i64 (n 6), .int .i64 (n 7), .int .i64 (n 8), .int .i64 (n 9), .int .i64 (n 10), .int .i64 (n 11), .int .i64 (n 12), .int .i64 (n 13), .int .i64 (n 14), .int .i64 (n 15), .int .i64 (n 16), .int .i64 (n 17), .int .i64 (n 18), .int .i64 (n 19), .slice oA ol oc, .slice tA tl tc, .int .i64 ((p : Int) + 1), .int .i64 (wrap64 (st + 1))], .agg #[.int .u8 o, .int .u8 a, .int .u8 b, .int .u8 c, .int .i64 N]] W fun e w' => ∃ U : Array Value, U.size = 24 ∧ U.toList.all (·.oneCell') = true ∧ e = .returned (.tuple #[.agg U, .int .i64 0]) ∧ R W w' U ∧ Below W.heap.size W w') :
    Calls Tryd.prog 50 #[.agg #[.slice A0 ts.length c0, .string la, .string gl, .slice A3 code.length c3], .agg #[.int .i64 (n 0), .int .i64 (n 1), .int .i64 (n 2), .int .i64 (n 3), .int .i64 (n 4), .int .i64 (n 5), .int .i64 (n 6), .int .i64 (n 7), .int .i64 (n 8), .int .i64 (n 9), .int .i64 (n 10), .int .i64 (n 11), .int .i64 (n 12), .int .i64 (n 13), .int .i64 (n 14), .int .i64 (n 15), .int .i64 (n 16), .int .i64 (n 17), .int .i64 (n 18), .int .i64 (n 19), .slice oA ol oc, .slice tA tl tc, .int .i64 p, .int .i64 st]] w fun e w' => ∃ U W w2, e = .returned (.tuple #[.agg U, .bool false, .int .i64 0]) ∧ U.size = 24 ∧ R W w2 U ∧ Below w.heap.size w W ∧ w.heap.size + 1 + 1 + 1 ≤ W.heap.size ∧ (∀ k, (k < w.heap.size ∨ W.heap.size ≤ k) → k < w2.heap.size → w'.heap[k]? = w2.heap[k]? ∧ k < w'.heap.size) ∧ Below w.heap.size w w' := by
  have hmax := Kd.C_max hC
  obtain ⟨ad, eA, _⟩ := at_T68 hC (p : Int) (by omega) (by omega)
  subst eA
  have HT := Aside0.mk hT
  have HC := Aside0.mk hC
  have HK := Aside0.mk hK
  clear hT hC hK
  have p0 : ¬ (p : Int) < 0 := by omega
  have q0 : (0 : Int) ≤ p := by omega
  have q1 : (p : Int) < code.length := by omega
  have p1 : ¬ (p : Int) > (code.length : Int) := by omega
  have p2 : ((p : Int) == (code.length : Int)) = false := by
    rw [beq_eq_false_iff_ne]
    omega
  have X0 := Aside0.mk x0
  have X1 := Aside0.mk x1
  have X2 := Aside0.mk x2
  have X3 := Aside0.mk x3
  have X4 := Aside0.mk x4
  clear x0 x1 x2 x3 x4
  have e3 : (o == 3) = false := by simpa using hj3
  have e4 : (o == 4) = false := by simpa using hj4
  go_enter Tryd.func50, Tryd.ntmps50
  go_wp2_with (first
    | (go_at_call 40; (with_reducible refine (HK.out _ (by repeat (first | exact Below.refl _ _ | refine below_alloc ?_ _ | refine below_drew1 ?_ | refine pw_below_drewN ?_ _))).mono ?_); rintro e w1 ⟨⟨r0, rfl⟩, hb1⟩; have R0 := (hb1.block (w.heap.size) (by simp; try omega)).trans (rowT (p := _ = some (.cells _ 46 (0, 0)))); have R1 := (hb1.block (w.heap.size + 1) (by simp; try omega)).trans (rowT (p := _ = some (.cells _ 102 (0, 0)))); have R3 := (hb1.block (w.heap.size + 1 + 1) (by simp; try omega)).trans (rowT (p := _ = some (.cells _ 102 (0, 0)))); have hz1 : w.heap.size + 1 + 1 + 1 ≤ w1.heap.size := Nat.le_trans (by simp) hb1.size; have HB1 := Aside0.mk (show Below w.heap.size w w1 from Below.trans (by repeat (first | exact Below.refl _ _ | refine below_alloc ?_ _ | refine below_drew1 ?_ | refine pw_below_drewN ?_ _)) (hb1.mono (by simp; try omega))); clear hb1; have kp := fun j => cell_of_row w1 (w.heap.size) j _ _ _ R0; have ks := fun j => cell_of_row w1 (w.heap.size + 1) j _ _ _ R1; obtain ⟨_, ea, y0, y1, y2, y3, y4⟩ := at_T68 (Kd.C_below HC.out HB1.out) (p : Int) q0 q1; cases ea; rw [Int.toNat_natCast] at y0 y1 y2 y3 y4; rw [X0.out] at y0; rw [X1.out] at y1; rw [X2.out] at y2; rw [X3.out] at y3; rw [X4.out] at y4; have c22 : ∀ q r : Obj, ((w1.alloc q).alloc r).cell? ⟨w.heap.size + 1, 22, none⟩ = some (.int .i64 p) := fun q r => cell_more2 (by omega) ((ks 22).trans rfl) q r; have c23 : ∀ q r : Obj, ((w1.alloc q).alloc r).cell? ⟨w.heap.size + 1, 23, none⟩ = some (.int .i64 st) := fun q r => cell_more2 (by omega) ((ks 23).trans rfl) q r; have R3X : ∀ q r : Obj, ((w1.alloc q).alloc r).heap[w.heap.size + 1 + 1]? = _ := fun q r => row_old _ _ _ (by simp; omega) (row_old _ _ _ (by omega) R3); skip)
    | (go_at_call 74; (with_reducible refine (hN _ (by repeat (first | exact HB1.out | refine below_alloc ?_ _))).mono ?_); rintro e w2 ⟨rfl, hb2⟩; have hz2 : w1.heap.size + 1 + 1 ≤ w2.heap.size := Nat.le_trans (by simp) hb2.size; have b3 := (hb2.block (w.heap.size + 1 + 1) (by simp; omega)).trans (R3X _ _); have b0 := (hb2.block (w.heap.size) (by simp; omega)).trans (row_old _ _ _ (by simp; omega) (row_old _ _ _ (by omega) R0)); have b1 := (hb2.block (w.heap.size + 1) (by simp; omega)).trans (row_old _ _ _ (by simp; omega) (row_old _ _ _ (by omega) R1)); have bI := (hb2.block (w1.heap.size) (by simp <;> omega)).trans (rowT (p := _ = some (.cells _ 68 (0, 0)))); have bT := (hb2.block (w1.heap.size + 1) (by simp)).trans (rowT (p := _ = some (.cells _ 102 (0, 0)))); have HB2 := Aside0.mk (show Below w.heap.size w w2 from Below.trans (by repeat (first | exact HB1.out | refine below_alloc ?_ _)) (hb2.mono (by simp; omega))); have kp2 := fun q j => cell_of_row (w2.alloc q) _ j _ _ _ (row_old _ q _ (by omega) b0); have kI2 := fun q j => cell_of_row (w2.alloc q) _ j _ _ _ (row_old _ q _ (by omega) bI); clear hb2 R0 R1 R3)
    | (go_at_call 75; (with_reducible refine (hP _ (by repeat (first | exact HB2.out | refine below_alloc ?_ _))).mono ?_); rintro e w3 ⟨rfl, hb3⟩; have hz3 : w2.heap.size + 1 ≤ w3.heap.size := Nat.le_trans (by simp) hb3.size; have b33 := (hb3.block (w.heap.size + 1 + 1) (by simp; omega)).trans (row_old _ _ _ (by omega) b3); have b31 := (hb3.block (w.heap.size + 1) (by simp; omega)).trans (row_old _ _ _ (by omega) b1); have bI3 := (hb3.block (w1.heap.size) (by simp; omega)).trans (row_old _ _ _ (by omega) bI); have bT3 := (hb3.block (w1.heap.size + 1) (by simp; omega)).trans (row_old _ _ _ (by omega) bT); have HB3 := Aside0.mk (show Below w.heap.size w w3 from Below.trans (by repeat (first | exact HB2.out | refine below_alloc ?_ _)) (hb3.mono (by simp; omega))); have kI3 := fun q j => cell_of_row (w3.alloc q) _ j _ _ _ (row_old _ q _ (by omega) bI3); clear hb3)
    | (go_at_call 76; (with_reducible refine (hM _ (by repeat (first | exact HB3.out | refine below_alloc ?_ _))).mono ?_); rintro e w4 ⟨U, hU, hU1, rfl, hRU, hb4⟩; have hz4 : w3.heap.size + 1 ≤ w4.heap.size := Nat.le_trans (by simp) hb4.size; have b43 := (hb4.block (w.heap.size + 1 + 1) (by simp; omega)).trans (row_old _ _ _ (by omega) b33); have HB4 := Aside0.mk (show Below w.heap.size w w4 from Below.trans (by repeat (first | exact HB3.out | refine below_alloc ?_ _)) (hb4.mono (by simp; omega))); have HRU := Aside0.mk hRU; clear hb4 hRU)
    | (apply ldS; (with_reducible rfl); rfl; rfl; exact rowT; (first | rfl | assumption))
    | (apply srS; (with_reducible rfl); rfl; rfl; rfl; exact rowT; (first | rfl | assumption); (first | rfl | assumption); (first | rfl | assumption); exact setT))
  refine ret3S rfl rfl rfl rfl rfl rowT hU ⟨U, _, w4, rfl, hU, HRU.out, (by repeat (first | exact HB3.out | refine below_alloc ?_ _)), by simp; omega, fun k hk hl => ⟨?_, ?_⟩, ?_⟩
  · refine (setRow_other _ _ _ _ fun e => ?_).trans (heap_old2 _ _ hl)
    rcases hk with hk | hk
    · omega
    · simp at hk
      omega
  · simp
    omega
  · repeat (first | exact HB4.out | refine below_alloc ?_ _ | refine below_row ?_ (by omega))
set_option maxHeartbeats 2000000 in
set_option maxRecDepth 100000 in
theorem step_err (o : Int) (a b c : Nat) (N : Int) (hp : p < code.length) (x0 : (rd_T68 code p).f0 = o) (x1 : (rd_T68 code p).f1 = a) (x2 : (rd_T68 code p).f2 = b) (x3 : (rd_T68 code p).f3 = c) (x4 : (rd_T68 code p).f4 = N) (hj3 : ¬ o = 3) (hj4 : ¬ o = 4) (hN : ∀ W, Below w.heap.size w W → Calls Tryd.prog 74 #[.agg #[.int .i64 (n 0), .int .i64 (n 1), .int .i64 (n 2), .int .i64 (n 3), .int .i64 (n 4), .int .i64 (n 5), .int .i64 (n 6), .int .i64 (n 7), .int .i64 (n 8), .int .i64 (n 9), .int .i64 (n 10), .int .i64 (n 11), .int .i64 (n 12), .int .i64 (n 13), .int .i64 (n 14), .int .i64 (n 15), .int .i64 (n 16), .int .i64 (n 17), .int .i64 (n 18), .int .i64 (n 19), .slice oA ol oc, .slice tA tl tc, .int .i64 ((p : Int) + 1), .int .i64 (wrap64 (st + 1))], .agg #[.int .u8 o, .int .u8 a, .int .u8 b, .int .u8 c, .int .i64 N]] W fun e w' => e = .returned (.tuple #[.agg #[.int .i64 (n 0), .int .i64 (n 1), .int .i64 (n 2), .int .i64 (n 3), .int .i64 (n 4), .int .i64 (n 5), .int .i64 (n 6), .int .i64 (n 7), .int .i64 (n 8), .int .i64 (n 9), .int .i64 (n 10), .int .i64 (n 11), .int .i64 (n 12), .int .i64 (n 13), .int .i64 (n 14), .int .i64 (n 15), .int .i64 (n 16), .int .i64 (n 17), .int .i64 (n 18), .int .i64 (n 19), .slice oA ol oc, .slice tA tl tc, .int .i64 ((p : Int) + 1), .int .i64 (wrap64 (st + 1))], .bool false]) ∧ Below W.heap.size W w') (hP : ∀ W, Below w.heap.size w W → Calls Tryd.prog 75 #[.agg #[.slice A0 ts.length c0, .string la, .string gl, .slice A3 code.length c3], .agg #[.int .i64 (n 0), .int .i64 (n 1), .int .i64 (n 2), .int .i64 (n 3), .int .i64 (n 4), .int .i64 (n 5), .int .i64 (n 6), .int .i64 (n 7), .int .i64 (n 8), .int .i64 (n 9), .int .i64 (n 10), .int .i64 (n 11), .int .i64 (n 12), .int .i64 (n 13), .int .i64 (n 14), .int .i64 (n 15), .int .i64 (n 16), .int .i64 (n 17), .int .i64 (n 18), .int .i64 (n 19), .slice oA ol oc, .slice tA tl tc, .int .i64 ((p : Int) + 1), .int .i64 (wrap64 (st + 1))], .agg #[.int .u8 o, .int .u8 a, .int .u8 b, .int .u8 c, .int .i64 N]] W fun e w' => e = .returned (.tuple #[.agg #[.int .i64 (n 0), .int .i64 (n 1), .int .i64 (n 2), .int .i64 (n 3), .int .i64 (n 4), .int .i64 (n 5), .int .i64 (n 6), .int .i64 (n 7), .int .i64 (n 8), .int .i64 (n 9), .int .i64 (n 10), .int .i64 (n 11), .int .i64 (n 12), .int .i64 (n 13), .int .i64 (n 14), .int .i64 (n 15), .int .i64 (n 16), .int .i64 (n 17), .int .i64 (n 18), .int .i64 (n 19), .slice oA ol oc, .slice tA tl tc, .int .i64 ((p : Int) + 1), .int .i64 (wrap64 (st + 1))], .bool false]) ∧ Below W.heap.size W w') (hM : ∀ W, Below w.heap.size w W → Calls Tryd.prog 76 #[.agg #[.int .i64 (n 0), .int .i64 (n 1), .int .i64 (n 2), .int .i64 (n 3), .int .i64 (n 4), .int .i64 (n 5), .int .i64 (n 6), .int .i64 (n 7), .int .i64 (n 8), .int .i64 (n 9), .int .i64 (n 10), .int .i64 (n 11), .int .i64 (n 12), .int .i64 (n 13), .int .i64 (n 14), .int .i64 (n 15), .int .i64 (n 16), .int .i64 (n 17), .int .i64 (n 18), .int .i64 (n 19), .slice oA ol oc, .slice tA tl tc, .int .i64 ((p : Int) + 1), .int .i64 (wrap64 (st + 1))], .agg #[.int .u8 o, .int .u8 a, .int .u8 b, .int .u8 c, .int .i64 N]] W fun e w' => e = .returned (.tuple #[.agg #[.int .i64 (n 0), .int .i64 (n 1), .int .i64 (n 2), .int .i64 (n 3), .int .i64 (n 4), .int .i64 (n 5), .int .i64 (n 6), .int .i64 (n 7), .int .i64 (n 8), .int .i64 (n 9), .int .i64 (n 10), .int .i64 (n 11), .int .i64 (n 12), .int .i64 (n 13), .int .i64 (n 14), .int .i64 (n 15), .int .i64 (n 16), .int .i64 (n 17), .int .i64 (n 18), .int .i64 (n 19), .slice oA ol oc, .slice tA tl tc, .int .i64 ((p : Int) + 1), .int .i64 (wrap64 (st + 1))], .int .i64 9]) ∧ Below W.heap.size W w') :
    Calls Tryd.prog 50 #[.agg #[.slice A0 ts.length c0, .string la, .string gl, .slice A3 code.length c3], .agg #[.int .i64 (n 0), .int .i64 (n 1), .int .i64 (n 2), .int .i64 (n 3), .int .i64 (n 4), .int .i64 (n 5), .int .i64 (n 6), .int .i64 (n 7), .int .i64 (n 8), .int .i64 (n 9), .int .i64 (n 10), .int .i64 (n 11), .int .i64 (n 12), .int .i64 (n 13), .int .i64 (n 14), .int .i64 (n 15), .int .i64 (n 16), .int .i64 (n 17), .int .i64 (n 18), .int .i64 (n 19), .slice oA ol oc, .slice tA tl tc, .int .i64 p, .int .i64 st]] w fun e w' => e = .returned (.tuple #[.agg #[.int .i64 (n 0), .int .i64 (n 1), .int .i64 (n 2), .int .i64 (n 3), .int .i64 (n 4), .int .i64 (n 5), .int .i64 (n 6), .int .i64 (n 7), .int .i64 (n 8), .int .i64 (n 9), .int .i64 (n 10), .int .i64 (n 11), .int .i64 (n 12), .int .i64 (n 13), .int .i64 (n 14), .int .i64 (n 15), .int .i64 (n 16), .int .i64 (n 17), .int .i64 (n 18), .int .i64 (n 19), .slice oA ol oc, .slice tA tl tc, .int .i64 p, .int .i64 st], .bool false, .int .i64 9]) ∧ Below w.heap.size w w' := by
  have hmax := Kd.C_max hC
  obtain ⟨ad, eA, _⟩ := at_T68 hC (p : Int) (by omega) (by omega)
  subst eA
  have HT := Aside0.mk hT
  have HC := Aside0.mk hC
  have HK := Aside0.mk hK
  clear hT hC hK
  have p0 : ¬ (p : Int) < 0 := by omega
  have q0 : (0 : Int) ≤ p := by omega
  have q1 : (p : Int) < code.length := by omega
  have p1 : ¬ (p : Int) > (code.length : Int) := by omega
  have p2 : ((p : Int) == (code.length : Int)) = false := by
    rw [beq_eq_false_iff_ne]
    omega
  have X0 := Aside0.mk x0
  have X1 := Aside0.mk x1
  have X2 := Aside0.mk x2
  have X3 := Aside0.mk x3
  have X4 := Aside0.mk x4
  clear x0 x1 x2 x3 x4
  have e3 : (o == 3) = false := by simpa using hj3
  have e4 : (o == 4) = false := by simpa using hj4
  go_enter Tryd.func50, Tryd.ntmps50
  go_wp2_with (first
    | (go_at_call 40; (with_reducible refine (HK.out _ (by repeat (first | exact Below.refl _ _ | refine below_alloc ?_ _ | refine below_drew1 ?_ | refine pw_below_drewN ?_ _))).mono ?_); rintro e w1 ⟨⟨r0, rfl⟩, hb1⟩; have R0 := (hb1.block (w.heap.size) (by simp; try omega)).trans (rowT (p := _ = some (.cells _ 46 (0, 0)))); have R1 := (hb1.block (w.heap.size + 1) (by simp; try omega)).trans (rowT (p := _ = some (.cells _ 102 (0, 0)))); have R3 := (hb1.block (w.heap.size + 1 + 1) (by simp; try omega)).trans (rowT (p := _ = some (.cells _ 102 (0, 0)))); have hz1 : w.heap.size + 1 + 1 + 1 ≤ w1.heap.size := Nat.le_trans (by simp) hb1.size; have HB1 := Aside0.mk (show Below w.heap.size w w1 from Below.trans (by repeat (first | exact Below.refl _ _ | refine below_alloc ?_ _ | refine below_drew1 ?_ | refine pw_below_drewN ?_ _)) (hb1.mono (by simp; try omega))); clear hb1; have kp := fun j => cell_of_row w1 (w.heap.size) j _ _ _ R0; have ks := fun j => cell_of_row w1 (w.heap.size + 1) j _ _ _ R1; obtain ⟨_, ea, y0, y1, y2, y3, y4⟩ := at_T68 (Kd.C_below HC.out HB1.out) (p : Int) q0 q1; cases ea; rw [Int.toNat_natCast] at y0 y1 y2 y3 y4; rw [X0.out] at y0; rw [X1.out] at y1; rw [X2.out] at y2; rw [X3.out] at y3; rw [X4.out] at y4; have c22 : ∀ q r : Obj, ((w1.alloc q).alloc r).cell? ⟨w.heap.size + 1, 22, none⟩ = some (.int .i64 p) := fun q r => cell_more2 (by omega) ((ks 22).trans rfl) q r; have c23 : ∀ q r : Obj, ((w1.alloc q).alloc r).cell? ⟨w.heap.size + 1, 23, none⟩ = some (.int .i64 st) := fun q r => cell_more2 (by omega) ((ks 23).trans rfl) q r; have R3X : ∀ q r : Obj, ((w1.alloc q).alloc r).heap[w.heap.size + 1 + 1]? = _ := fun q r => row_old _ _ _ (by simp; omega) (row_old _ _ _ (by omega) R3); skip)
    | (go_at_call 74; (with_reducible refine (hN _ (by repeat (first | exact HB1.out | refine below_alloc ?_ _))).mono ?_); rintro e w2 ⟨rfl, hb2⟩; have hz2 : w1.heap.size + 1 + 1 ≤ w2.heap.size := Nat.le_trans (by simp) hb2.size; have b3 := (hb2.block (w.heap.size + 1 + 1) (by simp; omega)).trans (R3X _ _); have b0 := (hb2.block (w.heap.size) (by simp; omega)).trans (row_old _ _ _ (by simp; omega) (row_old _ _ _ (by omega) R0)); have b1 := (hb2.block (w.heap.size + 1) (by simp; omega)).trans (row_old _ _ _ (by simp; omega) (row_old _ _ _ (by omega) R1)); have bI := (hb2.block (w1.heap.size) (by simp <;> omega)).trans (rowT (p := _ = some (.cells _ 68 (0, 0)))); have bT := (hb2.block (w1.heap.size + 1) (by simp)).trans (rowT (p := _ = some (.cells _ 102 (0, 0)))); have HB2 := Aside0.mk (show Below w.heap.size w w2 from Below.trans (by repeat (first | exact HB1.out | refine below_alloc ?_ _)) (hb2.mono (by simp; omega))); have kp2 := fun q j => cell_of_row (w2.alloc q) _ j _ _ _ (row_old _ q _ (by omega) b0); have kI2 := fun q j => cell_of_row (w2.alloc q) _ j _ _ _ (row_old _ q _ (by omega) bI); clear hb2 R0 R1 R3)
    | (go_at_call 75; (with_reducible refine (hP _ (by repeat (first | exact HB2.out | refine below_alloc ?_ _))).mono ?_); rintro e w3 ⟨rfl, hb3⟩; have hz3 : w2.heap.size + 1 ≤ w3.heap.size := Nat.le_trans (by simp) hb3.size; have b33 := (hb3.block (w.heap.size + 1 + 1) (by simp; omega)).trans (row_old _ _ _ (by omega) b3); have b31 := (hb3.block (w.heap.size + 1) (by simp; omega)).trans (row_old _ _ _ (by omega) b1); have bI3 := (hb3.block (w1.heap.size) (by simp; omega)).trans (row_old _ _ _ (by omega) bI); have bT3 := (hb3.block (w1.heap.size + 1) (by simp; omega)).trans (row_old _ _ _ (by omega) bT); have HB3 := Aside0.mk (show Below w.heap.size w w3 from Below.trans (by repeat (first | exact HB2.out | refine below_alloc ?_ _)) (hb3.mono (by simp; omega))); have kI3 := fun q j => cell_of_row (w3.alloc q) _ j _ _ _ (row_old _ q _ (by omega) bI3); clear hb3)
    | (go_at_call 76; (with_reducible refine (hM _ (by repeat (first | exact HB3.out | refine below_alloc ?_ _))).mono ?_); rintro e w4 ⟨rfl, hb4⟩; have hz4 : w3.heap.size + 1 ≤ w4.heap.size := Nat.le_trans (by simp) hb4.size; have b43 := (hb4.block (w.heap.size + 1 + 1) (by simp; omega)).trans (row_old _ _ _ (by omega) b33); have b41 := (hb4.block (w.heap.size + 1) (by simp; omega)).trans (row_old _ _ _ (by omega) b31); have HB4 := Aside0.mk (show Below w.heap.size w w4 from Below.trans (by repeat (first | exact HB3.out | refine below_alloc ?_ _)) (hb4.mono (by simp; omega))); clear hb4)
    | (apply ldS; (with_reducible rfl); rfl; rfl; exact rowT; (first | rfl | assumption))
    | (apply srS; (with_reducible rfl); rfl; rfl; rfl; exact rowT; (first | rfl | assumption); (first | rfl | assumption); (first | rfl | assumption); exact setT))
  refine ret3S rfl rfl rfl rfl rfl rowT rfl ⟨rfl, ?_⟩
  repeat (first | exact HB4.out | refine below_alloc ?_ _ | refine below_row ?_ (by omega))
end
end Go.Proofs.YtfkfpcciacplkaaDoor.ST

namespace Go.Proofs.YtfkfpcciacplkaaDoor.ST
open Go.RowKit Go.Proofs.YtfkfpcciacplkaaDoorW.PrintWords Go.Proofs.YtfkfpcciacplkaaDoor.Scan Go.Proofs.YtfkfpcciacplkaaDoor.F Go.Proofs.YtfkfpcciacplkaaDoor.KP Go.Proofs.YtfkfpcciacplkaaDoor.SH Go.Proofs.YtfkfpcciacplkaaDoor.PL
set_option linter.unusedVariables false
theorem to_range (ts : List ByteArray) {t n : Int} (h : 0 ≤ to_ ts t n) : 0 ≤ n ∧ n < size ts t := by
  unfold to_ at h
  split at h
  · assumption
  · omega
theorem ints_kk {o : Nat} {x1 x2 x3 : Int} (h : intsB o x1 x2 x3 = true) : ((o = 1 ∨ o = 2 ∨ o = 4 ∨ o = 8 ∨ o = 14 ∨ o = 15) → x1 < 8) ∧ (o = 2 ∨ o = 9 → x2 < 8) ∧ (o = 2 → x3 < 8) := by
  unfold intsB at h
  refine ⟨fun e => ?_, fun e => ?_, fun e => ?_⟩
  · rcases e with rfl | rfl | rfl | rfl | rfl | rfl <;> (simp at h; omega)
  · rcases e with rfl | rfl <;> (simp at h; omega)
  · subst e
    simp at h
    omega
theorem SpP.kk {p : Pg} (h : SpP p) (j : Nat) (hj : j < p.code.length) :
    KK (atv p.ts p.la) (atv p.ts p.gl) (size p.ts) (to_ p.ts) (rd_T68 p.code j) := by
  obtain ⟨o, eo, q⟩ := h.all j hj
  obtain ⟨k5, k7, k15, k8, k9, k10, k11, k12, k13⟩ := q.kinds
  obtain ⟨ia, ib, ic⟩ := ints_kk q.ints
  have hL := h.locals
  have hG := h.globals
  have L : ∀ {a : Int}, 0 ≤ atv p.ts p.la a → a < 8 := fun h0 => by have := atv_lt h0; omega
  have G : ∀ {a : Int}, 0 ≤ atv p.ts p.gl a → a < 4 := fun h0 => by have := atv_lt h0; omega
  have E : ∀ {m : Nat}, (rd_T68 p.code j).f0 = m → o = m := fun e => by omega
  refine ⟨fun o => k5 (.inl (E o)), fun o => (k7 (E o)).2, fun o => ⟨(k8 (E o)).1, (k8 (E o)).2.1, (k8 (E o)).2.2.1⟩, fun o => ?_, fun o => (k9 (E o)).2, fun o => ?_, fun o => (k12 (E o)).2, fun o => (k13 (E o)).2, fun o => ia (by omega), fun o => ib (by omega), fun o => ic (E o), fun o => ?_, fun o => ?_, fun o => ?_, fun o => ?_, fun o => ?_⟩
  · obtain ⟨a, b, c⟩ := k10 (E o)
    have := to_range p.ts (t := atv p.ts p.la (rd_T68 p.code j).f2) (n := (rd_T68 p.code j).f4) (by rw [← c]; exact b)
    exact ⟨this.1, this.2, by rw [← c]; exact b, c⟩
  · obtain ⟨a, b, c⟩ := k11 (E o)
    have := to_range p.ts (t := atv p.ts p.la (rd_T68 p.code j).f1) (n := (rd_T68 p.code j).f4) (by rw [← c]; exact b)
    exact ⟨this.1, this.2, by rw [← c]; exact b, c⟩
  · rcases o with o | o | o | o | o | o | o
    · exact L (k5 (.inl (E o)))
    · exact L (k5 (.inr (E o)))
    · exact L (k7 (E o)).1
    · exact L (k9 (E o)).1
    · exact L (k10 (E o)).2.1
    · exact L (k11 (E o)).1
    · exact L (k12 (E o)).1
  · rcases o with o | o | o | o | o | o
    · exact L (by rw [← (k7 (E o)).2]; exact (k7 (E o)).1)
    · exact L (k8 (E o)).1
    · exact L (k10 (E o)).1
    · exact L (k11 (E o)).2.1
    · exact L (k13 (E o)).1
    · exact L (k15 (E o)).1
  · exact L (by rw [← (k15 (E o)).2]; exact (k15 (E o)).1)
  · exact G (by rw [← (k13 (E o)).2]; exact (k13 (E o)).1)
  · exact G (by rw [← (k12 (E o)).2]; exact (k12 (E o)).1)
end Go.Proofs.YtfkfpcciacplkaaDoor.ST

namespace Go.Proofs.YtfkfpcciacplkaaDoor.ST
open Go.RowKit Go.Proofs.YtfkfpcciacplkaaDoorW.PrintWords Go.Proofs.YtfkfpcciacplkaaDoor.Scan Go.Proofs.YtfkfpcciacplkaaDoor.F Go.Proofs.YtfkfpcciacplkaaDoor.KP Go.Proofs.YtfkfpcciacplkaaDoor.PL Go.Proofs.YtfkfpcciacplkaaDoor.ST0
set_option linter.unusedVariables false
set_option linter.unusedSectionVars false
def stA (n : Nat → Int) (O T : Value) (pc st : Int) : Array Value := #[.int .i64 (n 0), .int .i64 (n 1), .int .i64 (n 2), .int .i64 (n 3), .int .i64 (n 4), .int .i64 (n 5), .int .i64 (n 6), .int .i64 (n 7), .int .i64 (n 8), .int .i64 (n 9), .int .i64 (n 10), .int .i64 (n 11), .int .i64 (n 12), .int .i64 (n 13), .int .i64 (n 14), .int .i64 (n 15), .int .i64 (n 16), .int .i64 (n 17), .int .i64 (n 18), .int .i64 (n 19), O, T, .int .i64 pc, .int .i64 st]
theorem stA_X (n : Nat → Int) (k : Nat) (v : Int) (O T : Value) (pc st : Int) (h : k < 8) : #[.int .i64 (upd n k (v) 0), .int .i64 (upd n k (v) 1), .int .i64 (upd n k (v) 2), .int .i64 (upd n k (v) 3), .int .i64 (upd n k (v) 4), .int .i64 (upd n k (v) 5), .int .i64 (upd n k (v) 6), .int .i64 (upd n k (v) 7), .int .i64 (n 8), .int .i64 (n 9), .int .i64 (n 10), .int .i64 (n 11), .int .i64 (n 12), .int .i64 (n 13), .int .i64 (n 14), .int .i64 (n 15), .int .i64 (n 16), .int .i64 (n 17), .int .i64 (n 18), .int .i64 (n 19), O, T, .int .i64 pc, .int .i64 st] = stA (upd n k v) O T pc st := by
  unfold stA
  simp only [upd_ne n (k := k) (j := 8) v (by omega), upd_ne n (k := k) (j := 9) v (by omega), upd_ne n (k := k) (j := 10) v (by omega), upd_ne n (k := k) (j := 11) v (by omega), upd_ne n (k := k) (j := 12) v (by omega), upd_ne n (k := k) (j := 13) v (by omega), upd_ne n (k := k) (j := 14) v (by omega), upd_ne n (k := k) (j := 15) v (by omega), upd_ne n (k := k) (j := 16) v (by omega), upd_ne n (k := k) (j := 17) v (by omega), upd_ne n (k := k) (j := 18) v (by omega), upd_ne n (k := k) (j := 19) v (by omega)]
theorem stA_P (n : Nat → Int) (k : Nat) (v : Int) (O T : Value) (pc st : Int) (h : k < 8) : #[.int .i64 (n 0), .int .i64 (n 1), .int .i64 (n 2), .int .i64 (n 3), .int .i64 (n 4), .int .i64 (n 5), .int .i64 (n 6), .int .i64 (n 7), .int .i64 (upd n (8 + k) (v) 8), .int .i64 (upd n (8 + k) (v) 9), .int .i64 (upd n (8 + k) (v) 10), .int .i64 (upd n (8 + k) (v) 11), .int .i64 (upd n (8 + k) (v) 12), .int .i64 (upd n (8 + k) (v) 13), .int .i64 (upd n (8 + k) (v) 14), .int .i64 (upd n (8 + k) (v) 15), .int .i64 (n 16), .int .i64 (n 17), .int .i64 (n 18), .int .i64 (n 19), O, T, .int .i64 pc, .int .i64 st] = stA (upd n (8 + k) v) O T pc st := by
  unfold stA
  simp only [upd_ne n (k := 8 + k) (j := 0) v (by omega), upd_ne n (k := 8 + k) (j := 1) v (by omega), upd_ne n (k := 8 + k) (j := 2) v (by omega), upd_ne n (k := 8 + k) (j := 3) v (by omega), upd_ne n (k := 8 + k) (j := 4) v (by omega), upd_ne n (k := 8 + k) (j := 5) v (by omega), upd_ne n (k := 8 + k) (j := 6) v (by omega), upd_ne n (k := 8 + k) (j := 7) v (by omega), upd_ne n (k := 8 + k) (j := 16) v (by omega), upd_ne n (k := 8 + k) (j := 17) v (by omega), upd_ne n (k := 8 + k) (j := 18) v (by omega), upd_ne n (k := 8 + k) (j := 19) v (by omega)]
theorem stA_G (n : Nat → Int) (k : Nat) (v : Int) (O T : Value) (pc st : Int) (h : k < 4) : #[.int .i64 (n 0), .int .i64 (n 1), .int .i64 (n 2), .int .i64 (n 3), .int .i64 (n 4), .int .i64 (n 5), .int .i64 (n 6), .int .i64 (n 7), .int .i64 (n 8), .int .i64 (n 9), .int .i64 (n 10), .int .i64 (n 11), .int .i64 (n 12), .int .i64 (n 13), .int .i64 (n 14), .int .i64 (n 15), .int .i64 (upd n (16 + k) (v) 16), .int .i64 (upd n (16 + k) (v) 17), .int .i64 (upd n (16 + k) (v) 18), .int .i64 (upd n (16 + k) (v) 19), O, T, .int .i64 pc, .int .i64 st] = stA (upd n (16 + k) v) O T pc st := by
  unfold stA
  simp only [upd_ne n (k := 16 + k) (j := 0) v (by omega), upd_ne n (k := 16 + k) (j := 1) v (by omega), upd_ne n (k := 16 + k) (j := 2) v (by omega), upd_ne n (k := 16 + k) (j := 3) v (by omega), upd_ne n (k := 16 + k) (j := 4) v (by omega), upd_ne n (k := 16 + k) (j := 5) v (by omega), upd_ne n (k := 16 + k) (j := 6) v (by omega), upd_ne n (k := 16 + k) (j := 7) v (by omega), upd_ne n (k := 16 + k) (j := 8) v (by omega), upd_ne n (k := 16 + k) (j := 9) v (by omega), upd_ne n (k := 16 + k) (j := 10) v (by omega), upd_ne n (k := 16 + k) (j := 11) v (by omega), upd_ne n (k := 16 + k) (j := 12) v (by omega), upd_ne n (k := 16 + k) (j := 13) v (by omega), upd_ne n (k := 16 + k) (j := 14) v (by omega), upd_ne n (k := 16 + k) (j := 15) v (by omega)]
def IsS (w : World) (P : Nat → Prop) (s : PS) (cs : Array Value) : Prop :=
  ∃ oA hs oc tA tc, cs = stA s.n (.slice oA (hs : List Hd).length oc) (.slice tA s.out.length tc) s.pc s.steps ∧ hs.length ≤ oc ∧ s.out.length ≤ tc ∧ ObF w P oA hs s.objs ∧ OutF w P tA s.out
theorem IsS.step {w w' : World} {P : Nat → Prop} {s : PS} {cs : Array Value} (h : IsS w P s cs) (hb : ∀ k, P k → k < w.heap.size → w'.heap[k]? = w.heap[k]? ∧ k < w'.heap.size) : IsS w' P s cs := by
  obtain ⟨oA, hs, oc, tA, tc, e, h1, h2, h3, h4⟩ := h
  exact ⟨oA, hs, oc, tA, tc, e, h1, h2, h3.step hb, h4.step hb⟩
theorem IsS.mono {w : World} {P Q : Nat → Prop} {s : PS} {cs : Array Value} (h : IsS w P s cs) (hp : ∀ k, P k → Q k) : IsS w Q s cs := by
  obtain ⟨oA, hs, oc, tA, tc, e, h1, h2, h3, h4⟩ := h
  exact ⟨oA, hs, oc, tA, tc, e, h1, h2, h3.mono hp, h4.mono hp⟩
theorem IsS.below {w w' : World} {P : Nat → Prop} {s : PS} {cs : Array Value} (h : IsS w P s cs) (hb : Below w.heap.size w w') : IsS w' P s cs := h.step fun k _ hk => ⟨hb.block k hk, Nat.lt_of_lt_of_le hk hb.size⟩
theorem step_fin {w : World} {P : Nat → Prop} {u : PS} {f : Nat} {args : Array Value}
    (h : Calls Tryd.prog f args w fun e w' => ∃ U W w2, e = .returned (.tuple #[.agg U, .bool false, .int .i64 0]) ∧ U.size = 24 ∧ IsS w2 (fun k => (P k ∧ k < w.heap.size) ∨ W.heap.size ≤ k) u U ∧ Below w.heap.size w W ∧ w.heap.size + 1 + 1 + 1 ≤ W.heap.size ∧ (∀ k, (k < w.heap.size ∨ W.heap.size ≤ k) → k < w2.heap.size → w'.heap[k]? = w2.heap[k]? ∧ k < w'.heap.size) ∧ Below w.heap.size w w') :
    Calls Tryd.prog f args w fun e w' => ∃ cs', e = .returned (.tuple #[.agg cs', .bool false, .int .i64 0]) ∧ IsS w' (fun k => P k ∨ w.heap.size ≤ k) u cs' ∧ Below w.heap.size w w' := by
  refine h.mono ?_
  rintro e w' ⟨U, W, w2, rfl, _, hI, hb, hz, hk, hb2⟩
  refine ⟨U, rfl, (hI.step fun k hp hl => hk k (hp.imp (fun h => h.2) id) hl).mono fun k hp => hp.imp (fun h => h.1) fun h => by omega, hb2⟩
section
variable {w : World} {A0 : Option Addr} {c0 : Nat} {ts : List ByteArray} {la gl : ByteArray} {A3 : Option Addr} {c3 : Nat} {code : List S68} {P : Nat → Prop}
  (hT : Kd.C Kd.string w A0 ts.length ts) (hc0 : ts.length ≤ c0) (hC : Kd.C k68 w A3 code.length code) (hc3 : code.length ≤ c3) (hK : CkO w A0 c0 ts la gl A3 c3 code)
  (hLoc : ∀ a : Int, 0 ≤ a → a ≤ 255 → Ev (fun k => lockstitchref05_Local.f k ts la gl code a) (atv ts la a)) (hSz : ∀ x : Int, Ev (fun k => lockstitchref03_Size.f k ts x) (size ts x))
  {n : Nat → Int} {objs : List (List Int)} {out : List Int} {p : Nat} {st : Int} {oA tA : Option Addr} {hs : List Hd} {oc tc : Nat} (hO : ObF w P oA hs objs) (hoc : hs.length ≤ oc) (hTo : OutF w P tA out) (htc : out.length ≤ tc)
include hT hc0 hC hc3 hK hLoc hSz hO hoc hTo htc
set_option maxRecDepth 100000 in
theorem ps_end (hp : p = code.length) : Calls Tryd.prog 50 #[.agg #[.slice A0 ts.length c0, .string la, .string gl, .slice A3 code.length c3], .agg (stA n (.slice oA hs.length oc) (.slice tA out.length tc) p st)] w fun e w' => ∃ cs', e = .returned (.tuple #[.agg cs', .bool true, .int .i64 0]) ∧ IsS w' (fun k => P k ∨ w.heap.size ≤ k) ⟨n, objs, out, p, st⟩ cs' ∧ Below w.heap.size w w' := by
  refine (step_end w n oA tA hs.length oc out.length tc p st A0 c0 ts la gl A3 c3 code hT hc0 hC hc3 hK hp).mono ?_
  rintro e w' ⟨rfl, hb⟩
  exact ⟨_, rfl, ⟨oA, hs, oc, tA, tc, rfl, hoc, htc, (hO.below hb).mono fun k h => .inl h, (hTo.below hb).mono fun k h => .inl h⟩, hb⟩
set_option maxRecDepth 100000 in
theorem ps_jump (a b c : Nat) (N : Int) (hp : p < code.length) (x0 : (rd_T68 code p).f0 = 3) (x1 : (rd_T68 code p).f1 = (a : Nat)) (x2 : (rd_T68 code p).f2 = (b : Nat)) (x3 : (rd_T68 code p).f3 = (c : Nat)) (x4 : (rd_T68 code p).f4 = N) : Calls Tryd.prog 50 #[.agg #[.slice A0 ts.length c0, .string la, .string gl, .slice A3 code.length c3], .agg (stA n (.slice oA hs.length oc) (.slice tA out.length tc) p st)] w fun e w' => ∃ cs', e = .returned (.tuple #[.agg cs', .bool false, .int .i64 0]) ∧ IsS w' (fun k => P k ∨ w.heap.size ≤ k) ⟨n, objs, out, N, wrap64 (st + 1)⟩ cs' ∧ Below w.heap.size w w' := by
  refine (step_jump w n oA tA hs.length oc out.length tc p st A0 c0 ts la gl A3 c3 code hT hc0 hC hc3 hK a b c N hp x0 x1 x2 x3 x4).mono ?_
  rintro e w' ⟨rfl, hb⟩
  exact ⟨_, rfl, ⟨oA, hs, oc, tA, tc, rfl, hoc, htc, (hO.below hb).mono fun k h => .inl h, (hTo.below hb).mono fun k h => .inl h⟩, hb⟩
set_option maxRecDepth 100000 in
theorem ps_zero (a b c : Nat) (N : Int) (hp : p < code.length) (x0 : (rd_T68 code p).f0 = 4) (x1 : (rd_T68 code p).f1 = (a : Nat)) (x2 : (rd_T68 code p).f2 = (b : Nat)) (x3 : (rd_T68 code p).f3 = (c : Nat)) (x4 : (rd_T68 code p).f4 = N) (ha : (a : Int) < 8) (hz : n a = 0) : Calls Tryd.prog 50 #[.agg #[.slice A0 ts.length c0, .string la, .string gl, .slice A3 code.length c3], .agg (stA n (.slice oA hs.length oc) (.slice tA out.length tc) p st)] w fun e w' => ∃ cs', e = .returned (.tuple #[.agg cs', .bool false, .int .i64 0]) ∧ IsS w' (fun k => P k ∨ w.heap.size ≤ k) ⟨n, objs, out, N, wrap64 (st + 1)⟩ cs' ∧ Below w.heap.size w w' := by
  refine (step_zero w n oA tA hs.length oc out.length tc p st A0 c0 ts la gl A3 c3 code hT hc0 hC hc3 hK a b c N hp x0 x1 x2 x3 x4 ha hz).mono ?_
  rintro e w' ⟨rfl, hb⟩
  exact ⟨_, rfl, ⟨oA, hs, oc, tA, tc, rfl, hoc, htc, (hO.below hb).mono fun k h => .inl h, (hTo.below hb).mono fun k h => .inl h⟩, hb⟩
set_option maxRecDepth 100000 in
theorem ps_pass (a b c : Nat) (N : Int) (hp : p < code.length) (x0 : (rd_T68 code p).f0 = 4) (x1 : (rd_T68 code p).f1 = (a : Nat)) (x2 : (rd_T68 code p).f2 = (b : Nat)) (x3 : (rd_T68 code p).f3 = (c : Nat)) (x4 : (rd_T68 code p).f4 = N) (ha : (a : Int) < 8) (hz : ¬ n a = 0) : Calls Tryd.prog 50 #[.agg #[.slice A0 ts.length c0, .string la, .string gl, .slice A3 code.length c3], .agg (stA n (.slice oA hs.length oc) (.slice tA out.length tc) p st)] w fun e w' => ∃ cs', e = .returned (.tuple #[.agg cs', .bool false, .int .i64 0]) ∧ IsS w' (fun k => P k ∨ w.heap.size ≤ k) ⟨n, objs, out, (p : Int) + 1, wrap64 (st + 1)⟩ cs' ∧ Below w.heap.size w w' := by
  refine (step_pass w n oA tA hs.length oc out.length tc p st A0 c0 ts la gl A3 c3 code hT hc0 hC hc3 hK a b c N hp x0 x1 x2 x3 x4 ha hz).mono ?_
  rintro e w' ⟨rfl, hb⟩
  exact ⟨_, rfl, ⟨oA, hs, oc, tA, tc, rfl, hoc, htc, (hO.below hb).mono fun k h => .inl h, (hTo.below hb).mono fun k h => .inl h⟩, hb⟩
set_option maxRecDepth 100000 in
theorem ps_set (a b c : Nat) (N : Int) (hp : p < code.length) (x0 : (rd_T68 code p).f0 = 1) (x1 : (rd_T68 code p).f1 = (a : Nat)) (x2 : (rd_T68 code p).f2 = (b : Nat)) (x3 : (rd_T68 code p).f3 = (c : Nat)) (x4 : (rd_T68 code p).f4 = N) (ha : (a : Int) < 8) : Calls Tryd.prog 50 #[.agg #[.slice A0 ts.length c0, .string la, .string gl, .slice A3 code.length c3], .agg (stA n (.slice oA hs.length oc) (.slice tA out.length tc) p st)] w fun e w' => ∃ cs', e = .returned (.tuple #[.agg cs', .bool false, .int .i64 0]) ∧ IsS w' (fun k => P k ∨ w.heap.size ≤ k) ⟨upd n a N, objs, out, (p : Int) + 1, wrap64 (st + 1)⟩ cs' ∧ Below w.heap.size w w' :=
  step_fin (step_num w n oA tA hs.length oc out.length tc p st A0 c0 ts la gl A3 c3 code hT hc0 hC hc3 hK 1 a b c N hp x0 x1 x2 x3 x4 (by decide) (by decide) (fun W w2 U => IsS w2 (fun k => (P k ∧ k < w.heap.size) ∨ W.heap.size ≤ k) ⟨upd n a N, objs, out, (p : Int) + 1, wrap64 (st + 1)⟩ U) fun W hW => (num_set W n oA tA hs.length oc out.length tc ((p : Int) + 1) (wrap64 (st + 1)) a b c N ha).mono (by rintro e w' ⟨rfl, hb⟩; exact ⟨_, rfl, rfl, rfl, ⟨oA, hs, oc, tA, tc, stA_X n a N _ _ _ _ (by omega), hoc, htc, ((hO.bound.below hW).below hb).mono fun k h => .inl h, ((hTo.bound.below hW).below hb).mono fun k h => .inl h⟩, hb⟩))
set_option maxRecDepth 100000 in
theorem ps_add (a b c : Nat) (N : Int) (hp : p < code.length) (x0 : (rd_T68 code p).f0 = 2) (x1 : (rd_T68 code p).f1 = (a : Nat)) (x2 : (rd_T68 code p).f2 = (b : Nat)) (x3 : (rd_T68 code p).f3 = (c : Nat)) (x4 : (rd_T68 code p).f4 = N) (ha : (a : Int) < 8) (hb : (b : Int) < 8) (hc : (c : Int) < 8) : Calls Tryd.prog 50 #[.agg #[.slice A0 ts.length c0, .string la, .string gl, .slice A3 code.length c3], .agg (stA n (.slice oA hs.length oc) (.slice tA out.length tc) p st)] w fun e w' => ∃ cs', e = .returned (.tuple #[.agg cs', .bool false, .int .i64 0]) ∧ IsS w' (fun k => P k ∨ w.heap.size ≤ k) ⟨upd n a (wrap64 (n b + n c)), objs, out, (p : Int) + 1, wrap64 (st + 1)⟩ cs' ∧ Below w.heap.size w w' :=
  step_fin (step_num w n oA tA hs.length oc out.length tc p st A0 c0 ts la gl A3 c3 code hT hc0 hC hc3 hK 2 a b c N hp x0 x1 x2 x3 x4 (by decide) (by decide) (fun W w2 U => IsS w2 (fun k => (P k ∧ k < w.heap.size) ∨ W.heap.size ≤ k) ⟨upd n a (wrap64 (n b + n c)), objs, out, (p : Int) + 1, wrap64 (st + 1)⟩ U) fun W hW => (num_add W n oA tA hs.length oc out.length tc ((p : Int) + 1) (wrap64 (st + 1)) a b c N ha hb hc).mono (by rintro e w' ⟨rfl, hb⟩; exact ⟨_, rfl, rfl, rfl, ⟨oA, hs, oc, tA, tc, stA_X n a _ _ _ _ _ (by omega), hoc, htc, ((hO.bound.below hW).below hb).mono fun k h => .inl h, ((hTo.bound.below hW).below hb).mono fun k h => .inl h⟩, hb⟩))
set_option maxRecDepth 100000 in
theorem ps_same_eq (a b c : Nat) (N : Int) (hp : p < code.length) (x0 : (rd_T68 code p).f0 = 15) (x1 : (rd_T68 code p).f1 = (a : Nat)) (x2 : (rd_T68 code p).f2 = (b : Nat)) (x3 : (rd_T68 code p).f3 = (c : Nat)) (x4 : (rd_T68 code p).f4 = N) (ha : (a : Int) < 8) (hb : (b : Int) < 8) (hc : (c : Int) < 8) (hh : n (8 + b) = n (8 + c)) : Calls Tryd.prog 50 #[.agg #[.slice A0 ts.length c0, .string la, .string gl, .slice A3 code.length c3], .agg (stA n (.slice oA hs.length oc) (.slice tA out.length tc) p st)] w fun e w' => ∃ cs', e = .returned (.tuple #[.agg cs', .bool false, .int .i64 0]) ∧ IsS w' (fun k => P k ∨ w.heap.size ≤ k) ⟨upd n a 1, objs, out, (p : Int) + 1, wrap64 (st + 1)⟩ cs' ∧ Below w.heap.size w w' :=
  step_fin (step_num w n oA tA hs.length oc out.length tc p st A0 c0 ts la gl A3 c3 code hT hc0 hC hc3 hK 15 a b c N hp x0 x1 x2 x3 x4 (by decide) (by decide) (fun W w2 U => IsS w2 (fun k => (P k ∧ k < w.heap.size) ∨ W.heap.size ≤ k) ⟨upd n a 1, objs, out, (p : Int) + 1, wrap64 (st + 1)⟩ U) fun W hW => (num_same_eq W n oA tA hs.length oc out.length tc ((p : Int) + 1) (wrap64 (st + 1)) a b c N ha hb hc hh).mono (by rintro e w' ⟨rfl, hb⟩; exact ⟨_, rfl, rfl, rfl, ⟨oA, hs, oc, tA, tc, stA_X n a _ _ _ _ _ (by omega), hoc, htc, ((hO.bound.below hW).below hb).mono fun k h => .inl h, ((hTo.bound.below hW).below hb).mono fun k h => .inl h⟩, hb⟩))
set_option maxRecDepth 100000 in
theorem ps_same_ne (a b c : Nat) (N : Int) (hp : p < code.length) (x0 : (rd_T68 code p).f0 = 15) (x1 : (rd_T68 code p).f1 = (a : Nat)) (x2 : (rd_T68 code p).f2 = (b : Nat)) (x3 : (rd_T68 code p).f3 = (c : Nat)) (x4 : (rd_T68 code p).f4 = N) (ha : (a : Int) < 8) (hb : (b : Int) < 8) (hc : (c : Int) < 8) (hh : ¬ n (8 + b) = n (8 + c)) : Calls Tryd.prog 50 #[.agg #[.slice A0 ts.length c0, .string la, .string gl, .slice A3 code.length c3], .agg (stA n (.slice oA hs.length oc) (.slice tA out.length tc) p st)] w fun e w' => ∃ cs', e = .returned (.tuple #[.agg cs', .bool false, .int .i64 0]) ∧ IsS w' (fun k => P k ∨ w.heap.size ≤ k) ⟨upd n a 0, objs, out, (p : Int) + 1, wrap64 (st + 1)⟩ cs' ∧ Below w.heap.size w w' :=
  step_fin (step_num w n oA tA hs.length oc out.length tc p st A0 c0 ts la gl A3 c3 code hT hc0 hC hc3 hK 15 a b c N hp x0 x1 x2 x3 x4 (by decide) (by decide) (fun W w2 U => IsS w2 (fun k => (P k ∧ k < w.heap.size) ∨ W.heap.size ≤ k) ⟨upd n a 0, objs, out, (p : Int) + 1, wrap64 (st + 1)⟩ U) fun W hW => (num_same_ne W n oA tA hs.length oc out.length tc ((p : Int) + 1) (wrap64 (st + 1)) a b c N ha hb hc hh).mono (by rintro e w' ⟨rfl, hb⟩; exact ⟨_, rfl, rfl, rfl, ⟨oA, hs, oc, tA, tc, stA_X n a _ _ _ _ _ (by omega), hoc, htc, ((hO.bound.below hW).below hb).mono fun k h => .inl h, ((hTo.bound.below hW).below hb).mono fun k h => .inl h⟩, hb⟩))
set_option maxRecDepth 100000 in
theorem ps_print (a b c : Nat) (N : Int) (hp : p < code.length) (x0 : (rd_T68 code p).f0 = 14) (x1 : (rd_T68 code p).f1 = (a : Nat)) (x2 : (rd_T68 code p).f2 = (b : Nat)) (x3 : (rd_T68 code p).f3 = (c : Nat)) (x4 : (rd_T68 code p).f4 = N) (ha : (a : Int) < 8) (hl : out.length ≤ 1000000) : Calls Tryd.prog 50 #[.agg #[.slice A0 ts.length c0, .string la, .string gl, .slice A3 code.length c3], .agg (stA n (.slice oA hs.length oc) (.slice tA out.length tc) p st)] w fun e w' => ∃ cs', e = .returned (.tuple #[.agg cs', .bool false, .int .i64 0]) ∧ IsS w' (fun k => P k ∨ w.heap.size ≤ k) ⟨n, objs, (out ++ [n a]), (p : Int) + 1, wrap64 (st + 1)⟩ cs' ∧ Below w.heap.size w w' :=
  step_fin (step_num w n oA tA hs.length oc out.length tc p st A0 c0 ts la gl A3 c3 code hT hc0 hC hc3 hK 14 a b c N hp x0 x1 x2 x3 x4 (by decide) (by decide) (fun W w2 U => IsS w2 (fun k => (P k ∧ k < w.heap.size) ∨ W.heap.size ≤ k) ⟨n, objs, (out ++ [n a]), (p : Int) + 1, wrap64 (st + 1)⟩ U) fun W hW => (num_print W n oA tA hs.length oc out.length tc ((p : Int) + 1) (wrap64 (st + 1)) a b c N out rfl htc (hTo.below hW).now hl ha).mono (by rintro e w' ⟨A', c', rfl, hc', hq, hb⟩; exact ⟨_, rfl, rfl, rfl, ⟨oA, hs, oc, A', c', by simp [stA], hoc, by simpa using hc', ((hO.bound.below hW).below hb).mono fun k h => .inl h, hq.mono fun k h => .inr h⟩, hb⟩))
set_option maxRecDepth 100000 in
theorem ps_nil (a b c : Nat) (N : Int) (hp : p < code.length) (x0 : (rd_T68 code p).f0 = 6) (x1 : (rd_T68 code p).f1 = (a : Nat)) (x2 : (rd_T68 code p).f2 = (b : Nat)) (x3 : (rd_T68 code p).f3 = (c : Nat)) (x4 : (rd_T68 code p).f4 = N) (ha : (a : Int) < 8) : Calls Tryd.prog 50 #[.agg #[.slice A0 ts.length c0, .string la, .string gl, .slice A3 code.length c3], .agg (stA n (.slice oA hs.length oc) (.slice tA out.length tc) p st)] w fun e w' => ∃ cs', e = .returned (.tuple #[.agg cs', .bool false, .int .i64 0]) ∧ IsS w' (fun k => P k ∨ w.heap.size ≤ k) ⟨upd n (8 + a) 0, objs, out, (p : Int) + 1, wrap64 (st + 1)⟩ cs' ∧ Below w.heap.size w w' :=
  step_fin (step_ptr w n oA tA hs.length oc out.length tc p st A0 c0 ts la gl A3 c3 code hT hc0 hC hc3 hK 6 a b c N hp x0 x1 x2 x3 x4 (by decide) (by decide) (fun W w2 U => IsS w2 (fun k => (P k ∧ k < w.heap.size) ∨ W.heap.size ≤ k) ⟨upd n (8 + a) 0, objs, out, (p : Int) + 1, wrap64 (st + 1)⟩ U) (fun W hW => (num_other W n oA tA hs.length oc out.length tc ((p : Int) + 1) (wrap64 (st + 1)) a b c 6 N (by decide) (by decide) (by decide) (by decide)).mono fun e w' h => h) fun W hW => (ptr_nil W n oA tA hs.length oc out.length tc ((p : Int) + 1) (wrap64 (st + 1)) a b c N A0 c0 ts la gl A3 c3 code ha).mono (by rintro e w' ⟨rfl, hb⟩; exact ⟨_, rfl, rfl, rfl, ⟨oA, hs, oc, tA, tc, stA_P n a _ _ _ _ _ (by omega), hoc, htc, ((hO.bound.below hW).below hb).mono fun k h => .inl h, ((hTo.bound.below hW).below hb).mono fun k h => .inl h⟩, hb⟩))
set_option maxRecDepth 100000 in
theorem ps_move (a b c : Nat) (N : Int) (hp : p < code.length) (x0 : (rd_T68 code p).f0 = 7) (x1 : (rd_T68 code p).f1 = (a : Nat)) (x2 : (rd_T68 code p).f2 = (b : Nat)) (x3 : (rd_T68 code p).f3 = (c : Nat)) (x4 : (rd_T68 code p).f4 = N) (ha : (a : Int) < 8) (hb : (b : Int) < 8) : Calls Tryd.prog 50 #[.agg #[.slice A0 ts.length c0, .string la, .string gl, .slice A3 code.length c3], .agg (stA n (.slice oA hs.length oc) (.slice tA out.length tc) p st)] w fun e w' => ∃ cs', e = .returned (.tuple #[.agg cs', .bool false, .int .i64 0]) ∧ IsS w' (fun k => P k ∨ w.heap.size ≤ k) ⟨upd n (8 + a) (n (8 + b)), objs, out, (p : Int) + 1, wrap64 (st + 1)⟩ cs' ∧ Below w.heap.size w w' :=
  step_fin (step_ptr w n oA tA hs.length oc out.length tc p st A0 c0 ts la gl A3 c3 code hT hc0 hC hc3 hK 7 a b c N hp x0 x1 x2 x3 x4 (by decide) (by decide) (fun W w2 U => IsS w2 (fun k => (P k ∧ k < w.heap.size) ∨ W.heap.size ≤ k) ⟨upd n (8 + a) (n (8 + b)), objs, out, (p : Int) + 1, wrap64 (st + 1)⟩ U) (fun W hW => (num_other W n oA tA hs.length oc out.length tc ((p : Int) + 1) (wrap64 (st + 1)) a b c 7 N (by decide) (by decide) (by decide) (by decide)).mono fun e w' h => h) fun W hW => (ptr_move W n oA tA hs.length oc out.length tc ((p : Int) + 1) (wrap64 (st + 1)) a b c N A0 c0 ts la gl A3 c3 code ha hb).mono (by rintro e w' ⟨rfl, hb⟩; exact ⟨_, rfl, rfl, rfl, ⟨oA, hs, oc, tA, tc, stA_P n a _ _ _ _ _ (by omega), hoc, htc, ((hO.bound.below hW).below hb).mono fun k h => .inl h, ((hTo.bound.below hW).below hb).mono fun k h => .inl h⟩, hb⟩))
set_option maxRecDepth 100000 in
theorem ps_loadG (a b c : Nat) (N : Int) (hp : p < code.length) (x0 : (rd_T68 code p).f0 = 12) (x1 : (rd_T68 code p).f1 = (a : Nat)) (x2 : (rd_T68 code p).f2 = (b : Nat)) (x3 : (rd_T68 code p).f3 = (c : Nat)) (x4 : (rd_T68 code p).f4 = N) (ha : (a : Int) < 8) (hb : (b : Int) < 4) : Calls Tryd.prog 50 #[.agg #[.slice A0 ts.length c0, .string la, .string gl, .slice A3 code.length c3], .agg (stA n (.slice oA hs.length oc) (.slice tA out.length tc) p st)] w fun e w' => ∃ cs', e = .returned (.tuple #[.agg cs', .bool false, .int .i64 0]) ∧ IsS w' (fun k => P k ∨ w.heap.size ≤ k) ⟨upd n (8 + a) (n (16 + b)), objs, out, (p : Int) + 1, wrap64 (st + 1)⟩ cs' ∧ Below w.heap.size w w' :=
  step_fin (step_ptr w n oA tA hs.length oc out.length tc p st A0 c0 ts la gl A3 c3 code hT hc0 hC hc3 hK 12 a b c N hp x0 x1 x2 x3 x4 (by decide) (by decide) (fun W w2 U => IsS w2 (fun k => (P k ∧ k < w.heap.size) ∨ W.heap.size ≤ k) ⟨upd n (8 + a) (n (16 + b)), objs, out, (p : Int) + 1, wrap64 (st + 1)⟩ U) (fun W hW => (num_other W n oA tA hs.length oc out.length tc ((p : Int) + 1) (wrap64 (st + 1)) a b c 12 N (by decide) (by decide) (by decide) (by decide)).mono fun e w' h => h) fun W hW => (ptr_loadG W n oA tA hs.length oc out.length tc ((p : Int) + 1) (wrap64 (st + 1)) a b c N A0 c0 ts la gl A3 c3 code ha hb).mono (by rintro e w' ⟨rfl, hb⟩; exact ⟨_, rfl, rfl, rfl, ⟨oA, hs, oc, tA, tc, stA_P n a _ _ _ _ _ (by omega), hoc, htc, ((hO.bound.below hW).below hb).mono fun k h => .inl h, ((hTo.bound.below hW).below hb).mono fun k h => .inl h⟩, hb⟩))
set_option maxRecDepth 100000 in
theorem ps_storeG (a b c : Nat) (N : Int) (hp : p < code.length) (x0 : (rd_T68 code p).f0 = 13) (x1 : (rd_T68 code p).f1 = (a : Nat)) (x2 : (rd_T68 code p).f2 = (b : Nat)) (x3 : (rd_T68 code p).f3 = (c : Nat)) (x4 : (rd_T68 code p).f4 = N) (ha : (a : Int) < 4) (hb : (b : Int) < 8) : Calls Tryd.prog 50 #[.agg #[.slice A0 ts.length c0, .string la, .string gl, .slice A3 code.length c3], .agg (stA n (.slice oA hs.length oc) (.slice tA out.length tc) p st)] w fun e w' => ∃ cs', e = .returned (.tuple #[.agg cs', .bool false, .int .i64 0]) ∧ IsS w' (fun k => P k ∨ w.heap.size ≤ k) ⟨upd n (16 + a) (n (8 + b)), objs, out, (p : Int) + 1, wrap64 (st + 1)⟩ cs' ∧ Below w.heap.size w w' :=
  step_fin (step_ptr w n oA tA hs.length oc out.length tc p st A0 c0 ts la gl A3 c3 code hT hc0 hC hc3 hK 13 a b c N hp x0 x1 x2 x3 x4 (by decide) (by decide) (fun W w2 U => IsS w2 (fun k => (P k ∧ k < w.heap.size) ∨ W.heap.size ≤ k) ⟨upd n (16 + a) (n (8 + b)), objs, out, (p : Int) + 1, wrap64 (st + 1)⟩ U) (fun W hW => (num_other W n oA tA hs.length oc out.length tc ((p : Int) + 1) (wrap64 (st + 1)) a b c 13 N (by decide) (by decide) (by decide) (by decide)).mono fun e w' h => h) fun W hW => (ptr_storeG W n oA tA hs.length oc out.length tc ((p : Int) + 1) (wrap64 (st + 1)) a b c N A0 c0 ts la gl A3 c3 code ha hb).mono (by rintro e w' ⟨rfl, hb⟩; exact ⟨_, rfl, rfl, rfl, ⟨oA, hs, oc, tA, tc, stA_G n a _ _ _ _ _ (by omega), hoc, htc, ((hO.bound.below hW).below hb).mono fun k h => .inl h, ((hTo.bound.below hW).below hb).mono fun k h => .inl h⟩, hb⟩))
set_option maxRecDepth 100000 in
theorem ps_new (a b c : Nat) (N : Int) (hp : p < code.length) (x0 : (rd_T68 code p).f0 = 5) (x1 : (rd_T68 code p).f1 = (a : Nat)) (x2 : (rd_T68 code p).f2 = (b : Nat)) (x3 : (rd_T68 code p).f3 = (c : Nat)) (x4 : (rd_T68 code p).f4 = N) (ha : (a : Int) < 8) (hl : hs.length ≤ 1000000) (m k1 k2 : Nat) (t0 : Int) (hm : m ≤ 1000000) (h1 : lockstitchref05_Local.f k1 ts la gl code a = some t0) (h2 : lockstitchref03_Size.f k2 ts t0 = some (m : Int)) : Calls Tryd.prog 50 #[.agg #[.slice A0 ts.length c0, .string la, .string gl, .slice A3 code.length c3], .agg (stA n (.slice oA hs.length oc) (.slice tA out.length tc) p st)] w fun e w' => ∃ cs', e = .returned (.tuple #[.agg cs', .bool false, .int .i64 0]) ∧ IsS w' (fun k => P k ∨ w.heap.size ≤ k) ⟨upd n (8 + a) ((hs.length : Int) + 1), (objs ++ [List.replicate m 0]), out, (p : Int) + 1, wrap64 (st + 1)⟩ cs' ∧ Below w.heap.size w w' :=
  step_fin (step_ptr w n oA tA hs.length oc out.length tc p st A0 c0 ts la gl A3 c3 code hT hc0 hC hc3 hK 5 a b c N hp x0 x1 x2 x3 x4 (by decide) (by decide) (fun W w2 U => IsS w2 (fun k => (P k ∧ k < w.heap.size) ∨ W.heap.size ≤ k) ⟨upd n (8 + a) ((hs.length : Int) + 1), (objs ++ [List.replicate m 0]), out, (p : Int) + 1, wrap64 (st + 1)⟩ U) (fun W hW => (num_other W n oA tA hs.length oc out.length tc ((p : Int) + 1) (wrap64 (st + 1)) a b c 5 N (by decide) (by decide) (by decide) (by decide)).mono fun e w' h => h) fun W hW => (ptr_new W n oA tA oc out.length tc ((p : Int) + 1) (wrap64 (st + 1)) a b c N A0 c0 ts la gl A3 c3 code (fun k => P k ∧ k < w.heap.size) hs objs (hO.bound.below hW) hoc hl ha (Kd.C_below hT hW) hc0 (Kd.C_below hC hW) hc3 k1 k2 t0 m hm h1 h2).mono (by rintro e w' ⟨A', c', hs', rfl, hc', hq, hb⟩; exact ⟨_, rfl, rfl, rfl, ⟨A', hs', c', tA, tc, stA_P n a _ _ _ _ _ (by omega), hc', htc, hq, ((hTo.bound.below hW).below hb).mono fun k h => .inl h⟩, hb⟩))
set_option maxRecDepth 100000 in
theorem ps_loadI (a b c : Nat) (o f : Nat) (hp : p < code.length) (x0 : (rd_T68 code p).f0 = 8) (x1 : (rd_T68 code p).f1 = (a : Nat)) (x2 : (rd_T68 code p).f2 = (b : Nat)) (x3 : (rd_T68 code p).f3 = (c : Nat)) (x4 : (rd_T68 code p).f4 = (f : Nat)) (ho : o < hs.length) (hf : f < (objs.getD o []).length) (hq : n (8 + b) = (o : Int) + 1) (ha : (a : Int) < 8) (hb : (b : Int) < 8) : Calls Tryd.prog 50 #[.agg #[.slice A0 ts.length c0, .string la, .string gl, .slice A3 code.length c3], .agg (stA n (.slice oA hs.length oc) (.slice tA out.length tc) p st)] w fun e w' => ∃ cs', e = .returned (.tuple #[.agg cs', .bool false, .int .i64 0]) ∧ IsS w' (fun k => P k ∨ w.heap.size ≤ k) ⟨upd n a ((objs.getD o []).getD f 0), objs, out, (p : Int) + 1, wrap64 (st + 1)⟩ cs' ∧ Below w.heap.size w w' :=
  step_fin (step_mem w n oA tA hs.length oc out.length tc p st A0 c0 ts la gl A3 c3 code hT hc0 hC hc3 hK 8 a b c f hp x0 x1 x2 x3 x4 (by decide) (by decide) (fun W w2 U => IsS w2 (fun k => (P k ∧ k < w.heap.size) ∨ W.heap.size ≤ k) ⟨upd n a ((objs.getD o []).getD f 0), objs, out, (p : Int) + 1, wrap64 (st + 1)⟩ U) (fun W hW => (num_other W n oA tA hs.length oc out.length tc ((p : Int) + 1) (wrap64 (st + 1)) a b c 8 (f : Int) (by decide) (by decide) (by decide) (by decide)).mono fun e w' h => h) (fun W hW => (ptr_other W n oA tA hs.length oc out.length tc ((p : Int) + 1) (wrap64 (st + 1)) a b c 8 (f : Int) A0 c0 ts la gl A3 c3 code (by decide) (by decide) (by decide) (by decide) (by decide)).mono fun e w' h => h) fun W hW => (mem_loadI W n oA tA hs.length oc out.length tc ((p : Int) + 1) (wrap64 (st + 1)) a b c hs objs rfl (hO.below hW).now o f ho hf hq ha hb).mono (by rintro e w' ⟨rfl, hb⟩; exact ⟨_, rfl, rfl, rfl, ⟨oA, hs, oc, tA, tc, stA_X n a _ _ _ _ _ (by omega), hoc, htc, ((hO.bound.below hW).below hb).mono fun k h => .inl h, ((hTo.bound.below hW).below hb).mono fun k h => .inl h⟩, hb⟩))
set_option maxRecDepth 100000 in
theorem ps_loadP (a b c : Nat) (o f : Nat) (hp : p < code.length) (x0 : (rd_T68 code p).f0 = 10) (x1 : (rd_T68 code p).f1 = (a : Nat)) (x2 : (rd_T68 code p).f2 = (b : Nat)) (x3 : (rd_T68 code p).f3 = (c : Nat)) (x4 : (rd_T68 code p).f4 = (f : Nat)) (ho : o < hs.length) (hf : f < (objs.getD o []).length) (hq : n (8 + b) = (o : Int) + 1) (ha : (a : Int) < 8) (hb : (b : Int) < 8) : Calls Tryd.prog 50 #[.agg #[.slice A0 ts.length c0, .string la, .string gl, .slice A3 code.length c3], .agg (stA n (.slice oA hs.length oc) (.slice tA out.length tc) p st)] w fun e w' => ∃ cs', e = .returned (.tuple #[.agg cs', .bool false, .int .i64 0]) ∧ IsS w' (fun k => P k ∨ w.heap.size ≤ k) ⟨upd n (8 + a) ((objs.getD o []).getD f 0), objs, out, (p : Int) + 1, wrap64 (st + 1)⟩ cs' ∧ Below w.heap.size w w' :=
  step_fin (step_mem w n oA tA hs.length oc out.length tc p st A0 c0 ts la gl A3 c3 code hT hc0 hC hc3 hK 10 a b c f hp x0 x1 x2 x3 x4 (by decide) (by decide) (fun W w2 U => IsS w2 (fun k => (P k ∧ k < w.heap.size) ∨ W.heap.size ≤ k) ⟨upd n (8 + a) ((objs.getD o []).getD f 0), objs, out, (p : Int) + 1, wrap64 (st + 1)⟩ U) (fun W hW => (num_other W n oA tA hs.length oc out.length tc ((p : Int) + 1) (wrap64 (st + 1)) a b c 10 (f : Int) (by decide) (by decide) (by decide) (by decide)).mono fun e w' h => h) (fun W hW => (ptr_other W n oA tA hs.length oc out.length tc ((p : Int) + 1) (wrap64 (st + 1)) a b c 10 (f : Int) A0 c0 ts la gl A3 c3 code (by decide) (by decide) (by decide) (by decide) (by decide)).mono fun e w' h => h) fun W hW => (mem_loadP W n oA tA hs.length oc out.length tc ((p : Int) + 1) (wrap64 (st + 1)) a b c hs objs rfl (hO.below hW).now o f ho hf hq ha hb).mono (by rintro e w' ⟨rfl, hb⟩; exact ⟨_, rfl, rfl, rfl, ⟨oA, hs, oc, tA, tc, stA_P n a _ _ _ _ _ (by omega), hoc, htc, ((hO.bound.below hW).below hb).mono fun k h => .inl h, ((hTo.bound.below hW).below hb).mono fun k h => .inl h⟩, hb⟩))
set_option maxRecDepth 100000 in
theorem ps_storeI (a b c : Nat) (o f : Nat) (hp : p < code.length) (x0 : (rd_T68 code p).f0 = 9) (x1 : (rd_T68 code p).f1 = (a : Nat)) (x2 : (rd_T68 code p).f2 = (b : Nat)) (x3 : (rd_T68 code p).f3 = (c : Nat)) (x4 : (rd_T68 code p).f4 = (f : Nat)) (ho : o < hs.length) (hf : f < (objs.getD o []).length) (hl1 : hs.length ≤ 1000000) (hl2 : (objs.getD o []).length ≤ 1000000) (hq : n (8 + a) = (o : Int) + 1) (ha : (a : Int) < 8) (hb : (b : Int) < 8) : Calls Tryd.prog 50 #[.agg #[.slice A0 ts.length c0, .string la, .string gl, .slice A3 code.length c3], .agg (stA n (.slice oA hs.length oc) (.slice tA out.length tc) p st)] w fun e w' => ∃ cs', e = .returned (.tuple #[.agg cs', .bool false, .int .i64 0]) ∧ IsS w' (fun k => P k ∨ w.heap.size ≤ k) ⟨n, (objs.set o ((objs.getD o []).set f (n b))), out, (p : Int) + 1, wrap64 (st + 1)⟩ cs' ∧ Below w.heap.size w w' :=
  step_fin (step_mem w n oA tA hs.length oc out.length tc p st A0 c0 ts la gl A3 c3 code hT hc0 hC hc3 hK 9 a b c f hp x0 x1 x2 x3 x4 (by decide) (by decide) (fun W w2 U => IsS w2 (fun k => (P k ∧ k < w.heap.size) ∨ W.heap.size ≤ k) ⟨n, (objs.set o ((objs.getD o []).set f (n b))), out, (p : Int) + 1, wrap64 (st + 1)⟩ U) (fun W hW => (num_other W n oA tA hs.length oc out.length tc ((p : Int) + 1) (wrap64 (st + 1)) a b c 9 (f : Int) (by decide) (by decide) (by decide) (by decide)).mono fun e w' h => h) (fun W hW => (ptr_other W n oA tA hs.length oc out.length tc ((p : Int) + 1) (wrap64 (st + 1)) a b c 9 (f : Int) A0 c0 ts la gl A3 c3 code (by decide) (by decide) (by decide) (by decide) (by decide)).mono fun e w' h => h) fun W hW => (mem_storeI W n oA tA oc out.length tc ((p : Int) + 1) (wrap64 (st + 1)) a b c (fun k => P k ∧ k < w.heap.size) hs objs (hO.bound.below hW) hoc o f ho hf hl1 hl2 hq ha hb).mono (by rintro e w' ⟨A', c', hs', rfl, hc', hq, hb⟩; exact ⟨_, rfl, rfl, rfl, ⟨A', hs', c', tA, tc, rfl, hc', htc, hq, ((hTo.bound.below hW).below hb).mono fun k h => .inl h⟩, hb⟩))
set_option maxRecDepth 100000 in
theorem ps_storeP (a b c : Nat) (o f : Nat) (hp : p < code.length) (x0 : (rd_T68 code p).f0 = 11) (x1 : (rd_T68 code p).f1 = (a : Nat)) (x2 : (rd_T68 code p).f2 = (b : Nat)) (x3 : (rd_T68 code p).f3 = (c : Nat)) (x4 : (rd_T68 code p).f4 = (f : Nat)) (ho : o < hs.length) (hf : f < (objs.getD o []).length) (hl1 : hs.length ≤ 1000000) (hl2 : (objs.getD o []).length ≤ 1000000) (hq : n (8 + a) = (o : Int) + 1) (ha : (a : Int) < 8) (hb : (b : Int) < 8) : Calls Tryd.prog 50 #[.agg #[.slice A0 ts.length c0, .string la, .string gl, .slice A3 code.length c3], .agg (stA n (.slice oA hs.length oc) (.slice tA out.length tc) p st)] w fun e w' => ∃ cs', e = .returned (.tuple #[.agg cs', .bool false, .int .i64 0]) ∧ IsS w' (fun k => P k ∨ w.heap.size ≤ k) ⟨n, (objs.set o ((objs.getD o []).set f (n (8 + b)))), out, (p : Int) + 1, wrap64 (st + 1)⟩ cs' ∧ Below w.heap.size w w' :=
  step_fin (step_mem w n oA tA hs.length oc out.length tc p st A0 c0 ts la gl A3 c3 code hT hc0 hC hc3 hK 11 a b c f hp x0 x1 x2 x3 x4 (by decide) (by decide) (fun W w2 U => IsS w2 (fun k => (P k ∧ k < w.heap.size) ∨ W.heap.size ≤ k) ⟨n, (objs.set o ((objs.getD o []).set f (n (8 + b)))), out, (p : Int) + 1, wrap64 (st + 1)⟩ U) (fun W hW => (num_other W n oA tA hs.length oc out.length tc ((p : Int) + 1) (wrap64 (st + 1)) a b c 11 (f : Int) (by decide) (by decide) (by decide) (by decide)).mono fun e w' h => h) (fun W hW => (ptr_other W n oA tA hs.length oc out.length tc ((p : Int) + 1) (wrap64 (st + 1)) a b c 11 (f : Int) A0 c0 ts la gl A3 c3 code (by decide) (by decide) (by decide) (by decide) (by decide)).mono fun e w' h => h) fun W hW => (mem_storeP W n oA tA oc out.length tc ((p : Int) + 1) (wrap64 (st + 1)) a b c (fun k => P k ∧ k < w.heap.size) hs objs (hO.bound.below hW) hoc o f ho hf hl1 hl2 hq ha hb).mono (by rintro e w' ⟨A', c', hs', rfl, hc', hq, hb⟩; exact ⟨_, rfl, rfl, rfl, ⟨A', hs', c', tA, tc, rfl, hc', htc, hq, ((hTo.bound.below hW).below hb).mono fun k h => .inl h⟩, hb⟩))
set_option maxRecDepth 100000 in
theorem ps_none8 (a b c : Nat) (N : Int) (hp : p < code.length) (x0 : (rd_T68 code p).f0 = 8) (x1 : (rd_T68 code p).f1 = (a : Nat)) (x2 : (rd_T68 code p).f2 = (b : Nat)) (x3 : (rd_T68 code p).f3 = (c : Nat)) (x4 : (rd_T68 code p).f4 = N) (hx : (b : Int) < 8) (hq : n (8 + b) = 0) : Calls Tryd.prog 50 #[.agg #[.slice A0 ts.length c0, .string la, .string gl, .slice A3 code.length c3], .agg (stA n (.slice oA hs.length oc) (.slice tA out.length tc) p st)] w fun e w' => ∃ cs', e = .returned (.tuple #[.agg cs', .bool false, .int .i64 9]) ∧ IsS w' (fun k => P k ∨ w.heap.size ≤ k) ⟨n, objs, out, p, st⟩ cs' ∧ Below w.heap.size w w' := by
  refine (step_err w n oA tA hs.length oc out.length tc p st A0 c0 ts la gl A3 c3 code hT hc0 hC hc3 hK 8 a b c N hp x0 x1 x2 x3 x4 (by decide) (by decide) (fun W hW => (num_other W n oA tA hs.length oc out.length tc ((p : Int) + 1) (wrap64 (st + 1)) a b c 8 N (by decide) (by decide) (by decide) (by decide)).mono fun e w' h => h) (fun W hW => (ptr_other W n oA tA hs.length oc out.length tc ((p : Int) + 1) (wrap64 (st + 1)) a b c 8 N A0 c0 ts la gl A3 c3 code (by decide) (by decide) (by decide) (by decide) (by decide)).mono fun e w' h => h) fun W hW => (mem_none8 W n oA tA hs.length oc out.length tc ((p : Int) + 1) (wrap64 (st + 1)) a b c N hx hq).mono fun e w' h => h).mono ?_
  rintro e w' ⟨rfl, hb⟩
  exact ⟨_, rfl, ⟨oA, hs, oc, tA, tc, rfl, hoc, htc, (hO.below hb).mono fun k h => .inl h, (hTo.below hb).mono fun k h => .inl h⟩, hb⟩
set_option maxRecDepth 100000 in
theorem ps_none10 (a b c : Nat) (N : Int) (hp : p < code.length) (x0 : (rd_T68 code p).f0 = 10) (x1 : (rd_T68 code p).f1 = (a : Nat)) (x2 : (rd_T68 code p).f2 = (b : Nat)) (x3 : (rd_T68 code p).f3 = (c : Nat)) (x4 : (rd_T68 code p).f4 = N) (hx : (b : Int) < 8) (hq : n (8 + b) = 0) : Calls Tryd.prog 50 #[.agg #[.slice A0 ts.length c0, .string la, .string gl, .slice A3 code.length c3], .agg (stA n (.slice oA hs.length oc) (.slice tA out.length tc) p st)] w fun e w' => ∃ cs', e = .returned (.tuple #[.agg cs', .bool false, .int .i64 9]) ∧ IsS w' (fun k => P k ∨ w.heap.size ≤ k) ⟨n, objs, out, p, st⟩ cs' ∧ Below w.heap.size w w' := by
  refine (step_err w n oA tA hs.length oc out.length tc p st A0 c0 ts la gl A3 c3 code hT hc0 hC hc3 hK 10 a b c N hp x0 x1 x2 x3 x4 (by decide) (by decide) (fun W hW => (num_other W n oA tA hs.length oc out.length tc ((p : Int) + 1) (wrap64 (st + 1)) a b c 10 N (by decide) (by decide) (by decide) (by decide)).mono fun e w' h => h) (fun W hW => (ptr_other W n oA tA hs.length oc out.length tc ((p : Int) + 1) (wrap64 (st + 1)) a b c 10 N A0 c0 ts la gl A3 c3 code (by decide) (by decide) (by decide) (by decide) (by decide)).mono fun e w' h => h) fun W hW => (mem_none10 W n oA tA hs.length oc out.length tc ((p : Int) + 1) (wrap64 (st + 1)) a b c N hx hq).mono fun e w' h => h).mono ?_
  rintro e w' ⟨rfl, hb⟩
  exact ⟨_, rfl, ⟨oA, hs, oc, tA, tc, rfl, hoc, htc, (hO.below hb).mono fun k h => .inl h, (hTo.below hb).mono fun k h => .inl h⟩, hb⟩
set_option maxRecDepth 100000 in
theorem ps_none9 (a b c : Nat) (N : Int) (hp : p < code.length) (x0 : (rd_T68 code p).f0 = 9) (x1 : (rd_T68 code p).f1 = (a : Nat)) (x2 : (rd_T68 code p).f2 = (b : Nat)) (x3 : (rd_T68 code p).f3 = (c : Nat)) (x4 : (rd_T68 code p).f4 = N) (hx : (a : Int) < 8) (hq : n (8 + a) = 0) : Calls Tryd.prog 50 #[.agg #[.slice A0 ts.length c0, .string la, .string gl, .slice A3 code.length c3], .agg (stA n (.slice oA hs.length oc) (.slice tA out.length tc) p st)] w fun e w' => ∃ cs', e = .returned (.tuple #[.agg cs', .bool false, .int .i64 9]) ∧ IsS w' (fun k => P k ∨ w.heap.size ≤ k) ⟨n, objs, out, p, st⟩ cs' ∧ Below w.heap.size w w' := by
  refine (step_err w n oA tA hs.length oc out.length tc p st A0 c0 ts la gl A3 c3 code hT hc0 hC hc3 hK 9 a b c N hp x0 x1 x2 x3 x4 (by decide) (by decide) (fun W hW => (num_other W n oA tA hs.length oc out.length tc ((p : Int) + 1) (wrap64 (st + 1)) a b c 9 N (by decide) (by decide) (by decide) (by decide)).mono fun e w' h => h) (fun W hW => (ptr_other W n oA tA hs.length oc out.length tc ((p : Int) + 1) (wrap64 (st + 1)) a b c 9 N A0 c0 ts la gl A3 c3 code (by decide) (by decide) (by decide) (by decide) (by decide)).mono fun e w' h => h) fun W hW => (mem_none9 W n oA tA hs.length oc out.length tc ((p : Int) + 1) (wrap64 (st + 1)) a b c N hx hq).mono fun e w' h => h).mono ?_
  rintro e w' ⟨rfl, hb⟩
  exact ⟨_, rfl, ⟨oA, hs, oc, tA, tc, rfl, hoc, htc, (hO.below hb).mono fun k h => .inl h, (hTo.below hb).mono fun k h => .inl h⟩, hb⟩
set_option maxRecDepth 100000 in
theorem ps_none11 (a b c : Nat) (N : Int) (hp : p < code.length) (x0 : (rd_T68 code p).f0 = 11) (x1 : (rd_T68 code p).f1 = (a : Nat)) (x2 : (rd_T68 code p).f2 = (b : Nat)) (x3 : (rd_T68 code p).f3 = (c : Nat)) (x4 : (rd_T68 code p).f4 = N) (hx : (a : Int) < 8) (hq : n (8 + a) = 0) : Calls Tryd.prog 50 #[.agg #[.slice A0 ts.length c0, .string la, .string gl, .slice A3 code.length c3], .agg (stA n (.slice oA hs.length oc) (.slice tA out.length tc) p st)] w fun e w' => ∃ cs', e = .returned (.tuple #[.agg cs', .bool false, .int .i64 9]) ∧ IsS w' (fun k => P k ∨ w.heap.size ≤ k) ⟨n, objs, out, p, st⟩ cs' ∧ Below w.heap.size w w' := by
  refine (step_err w n oA tA hs.length oc out.length tc p st A0 c0 ts la gl A3 c3 code hT hc0 hC hc3 hK 11 a b c N hp x0 x1 x2 x3 x4 (by decide) (by decide) (fun W hW => (num_other W n oA tA hs.length oc out.length tc ((p : Int) + 1) (wrap64 (st + 1)) a b c 11 N (by decide) (by decide) (by decide) (by decide)).mono fun e w' h => h) (fun W hW => (ptr_other W n oA tA hs.length oc out.length tc ((p : Int) + 1) (wrap64 (st + 1)) a b c 11 N A0 c0 ts la gl A3 c3 code (by decide) (by decide) (by decide) (by decide) (by decide)).mono fun e w' h => h) fun W hW => (mem_none11 W n oA tA hs.length oc out.length tc ((p : Int) + 1) (wrap64 (st + 1)) a b c N hx hq).mono fun e w' h => h).mono ?_
  rintro e w' ⟨rfl, hb⟩
  exact ⟨_, rfl, ⟨oA, hs, oc, tA, tc, rfl, hoc, htc, (hO.below hb).mono fun k h => .inl h, (hTo.below hb).mono fun k h => .inl h⟩, hb⟩
end
end Go.Proofs.YtfkfpcciacplkaaDoor.ST

namespace Go.Proofs.YtfkfpcciacplkaaDoor.MS
open Go.RowKit Go.Proofs.YtfkfpcciacplkaaDoorW.PrintWords Go.Proofs.YtfkfpcciacplkaaDoor.ST0 Go.Proofs.YtfkfpcciacplkaaDoor.ST Go.Proofs.YtfkfpcciacplkaaDoor.PL Go.Proofs.YtfkfpcciacplkaaDoor.KP Go.Proofs.YtfkfpcciacplkaaDoor.F
set_option linter.unusedVariables false
structure Ch (S : Nat → Prop) (w w' : World) : Prop where
  os : w'.os = w.os
  tape : w'.tape = w.tape
  output : w'.output = w.output
  size : w.heap.size ≤ w'.heap.size
  block : ∀ k, k < w.heap.size → ¬ S k → w'.heap[k]? = w.heap[k]?
theorem Ch.refl (S : Nat → Prop) (w : World) : Ch S w w := ⟨rfl, rfl, rfl, Nat.le_refl _, fun _ _ _ => rfl⟩
theorem Ch.trans {S : Nat → Prop} {a b c : World} (h : Ch S a b) (k : Ch S b c) : Ch S a c :=
  ⟨k.os.trans h.os, k.tape.trans h.tape, k.output.trans h.output, Nat.le_trans h.size k.size, fun i hi hs => (k.block i (Nat.lt_of_lt_of_le hi h.size) hs).trans (h.block i hi hs)⟩
theorem Ch.of {S : Nat → Prop} {w w' : World} (h : Below w.heap.size w w') : Ch S w w' := ⟨h.os, h.tape, h.output, h.size, fun k hk _ => h.block k hk⟩
theorem Ch.mono {S T : Nat → Prop} {w w' : World} (h : Ch S w w') (hs : ∀ k, S k → T k) : Ch T w w' := ⟨h.os, h.tape, h.output, h.size, fun k hk ht => h.block k hk fun e => ht (hs k e)⟩
theorem Ch.alloc {S : Nat → Prop} {w W : World} (h : Ch S w W) (o : Obj) : Ch S w (W.alloc o) := h.trans (.of (below_alloc (Below.refl _ _) o))
theorem Ch.drew {S : Nat → Prop} {w W : World} (h : Ch S w W) : Ch S w W.drew := h.trans (.of (below_drew1 (Below.refl _ _)))
theorem Ch.set {S : Nat → Prop} {w W : World} (h : Ch S w W) {a : Addr} (ha : S a.block ∨ w.heap.size ≤ a.block) (v : Value) : Ch S w (W.setCell a v) := by
  have hb : Below a.block W (W.setCell a v) := (Below.refl a.block W).setCell (Nat.le_refl _) v
  refine ⟨hb.os.trans h.os, hb.tape.trans h.tape, hb.output.trans h.output, Nat.le_trans h.size hb.size, fun k hk hs => (heap_setCell_other W a k v fun e => ?_).trans (h.block k hk hs)⟩
  rcases ha with ha | ha
  · exact hs (e ▸ ha)
  · omega
theorem Ch.grown {S : Nat → Prop} {w W W' : World} {row : Option Nat} (h : Ch S w W) (hg : W.grownBy W' row) (hr : ∀ k, some k = row → S k ∨ w.heap.size ≤ k) : Ch S w W' :=
  ⟨hg.os.trans h.os, hg.tape.trans h.tape, hg.output.trans h.output, Nat.le_trans h.size hg.size, fun k hk hs => (hg.block k (Nat.lt_of_lt_of_le hk h.size) fun e => by
    rcases hr k e with h' | h'
    · exact hs h'
    · omega).trans (h.block k hk hs)⟩
theorem Ch.below {S : Nat → Prop} {w w' : World} (h : Ch S w w') {B : Nat} (hB : B ≤ w.heap.size) (hs : ∀ k, S k → B ≤ k) : Below B w w' := ⟨h.os, h.tape, h.output, h.size, fun k hk => h.block k (by omega) fun e => by have := hs k e; omega⟩
theorem Ch.below' {S : Nat → Prop} {w0 w w' : World} (h : Ch S w w') (hb : Below w0.heap.size w0 w) (hs : ∀ k, S k → w0.heap.size ≤ k) : Below w0.heap.size w0 w' := hb.trans (h.below hb.size hs)
theorem lt20 {k : Nat} (h : k < 20) : k = 0 ∨ k = 1 ∨ k = 2 ∨ k = 3 ∨ k = 4 ∨ k = 5 ∨ k = 6 ∨ k = 7 ∨ k = 8 ∨ k = 9 ∨ k = 10 ∨ k = 11 ∨ k = 12 ∨ k = 13 ∨ k = 14 ∨ k = 15 ∨ k = 16 ∨ k = 17 ∨ k = 18 ∨ k = 19 := by omega
theorem stA_get (n : Nat → Int) (O T : Value) (pc st : Int) {k : Nat} (h : k < 20) : (stA n O T pc st)[k]? = some (.int .i64 (n k)) := by
  rcases lt20 h with rfl | rfl | rfl | rfl | rfl | rfl | rfl | rfl | rfl | rfl | rfl | rfl | rfl | rfl | rfl | rfl | rfl | rfl | rfl | rfl <;> rfl
theorem stA_set (n : Nat → Int) (O T : Value) (pc st v : Int) {k : Nat} (h : k < 20) : (stA n O T pc st).setIfInBounds k (.int .i64 v) = stA (upd n k v) O T pc st := by
  rcases lt20 h with rfl | rfl | rfl | rfl | rfl | rfl | rfl | rfl | rfl | rfl | rfl | rfl | rfl | rfl | rfl | rfl | rfl | rfl | rfl | rfl <;> rfl
theorem row_n {w : World} {g : Nat} {n : Nat → Int} {O T : Value} {pc st : Int} (h : w.heap[g]? = some (.cells (stA n O T pc st) 88 (0, 0))) {k : Nat} (hk : k < 20) : w.cell? ⟨g, k, none⟩ = some (.int .i64 (n k)) := (blk_cell h k).trans (stA_get n O T pc st hk)
theorem row_set {w : World} {g : Nat} {n : Nat → Int} {O T : Value} {pc st : Int} (h : w.heap[g]? = some (.cells (stA n O T pc st) 88 (0, 0))) {k : Nat} (hk : k < 20) (v : Int) : (w.setCell ⟨g, k, none⟩ (.int .i64 v)).heap[g]? = some (.cells (stA (upd n k v) O T pc st) 88 (0, 0)) := by
  rw [← stA_set n O T pc st v hk]
  exact row_cellS _ h
end Go.Proofs.YtfkfpcciacplkaaDoor.MS

namespace Go.Proofs.YtfkfpcciacplkaaDoor.MS
open Go.RowKit Go.Proofs.YtfkfpcciacplkaaDoorW.PrintWords Go.Proofs.YtfkfpcciacplkaaDoor.ST0 Go.Proofs.YtfkfpcciacplkaaDoor.ST Go.Proofs.YtfkfpcciacplkaaDoor.PL Go.Proofs.YtfkfpcciacplkaaDoor.KP Go.Proofs.YtfkfpcciacplkaaDoor.F
set_option linter.unusedVariables false
abbrev hdv (hs : List Hd) : List Value := hs.map Hd.v
structure MSr (w : World) (g B : Nat) (s : PS) (oA : Option Addr) (hs : List Hd) (oc : Nat) (tA : Option Addr) (tc : Nat) : Prop where
  gB : g < B
  Bw : B ≤ w.heap.size
  row : w.heap[g]? = some (.cells (stA s.n (.slice oA hs.length oc) (.slice tA s.out.length tc) s.pc s.steps) 88 (0, 0))
  out : w.ownsRow B 2 1 (.slice tA s.out.length tc) s.out.length (nums .i64 s.out)
  hd : w.ownsRow B 23 1 (.slice oA hs.length oc) hs.length (hdv hs)
  len : hs.length = s.objs.length
  obj : ∀ j, j < hs.length → w.ownsRow B 2 1 (hs.getD j default).v (s.objs.getD j []).length (nums .i64 (s.objs.getD j []))
  far : ∀ j, j < hs.length → NeRow (hs.getD j default).v (.slice tA s.out.length tc)
  apart : ∀ i j, i < hs.length → j < hs.length → i ≠ j → NeRow (hs.getD i default).v (hs.getD j default).v
def MS (w : World) (g B : Nat) (s : PS) : Prop := ∃ oA hs oc tA tc, MSr w g B s oA hs oc tA tc
theorem own_ch {S : Nat → Prop} {w w' : World} (hc : Ch S w w') {B : Nat} {e : TypeId} {n : Nat} {v : Value} {xs : List Value} (ho : w.ownsRow B e 1 v n xs) (hS : ∀ k, B ≤ k → v.ownBlock = some k → ¬ S k) : w'.ownsRow B e 1 v n xs :=
  own_move ho fun k hk => hc.block k (own_lt ho k hk) (hS k (own_base ho k hk) hk)
theorem getD_snoc {α : Type} (l : List α) (x d : α) (i : Nat) : (l ++ [x]).getD i d = if i < l.length then l.getD i d else if i = l.length then x else d := getD_app l x d i
section
variable {w w' : World} {g B : Nat} {s : PS} {oA : Option Addr} {hs : List Hd} {oc : Nat} {tA : Option Addr} {tc : Nat} (h : MSr w g B s oA hs oc tA tc)
include h
theorem MSr.next (hc : Ch (fun k => k = g) w w') {n : Nat → Int} {pc st : Int} (hr : w'.heap[g]? = some (.cells (stA n (.slice oA hs.length oc) (.slice tA s.out.length tc) pc st) 88 (0, 0))) :
    MSr w' g B { s with n := n, pc := pc, steps := st } oA hs oc tA tc := by
  have hg := h.gB
  exact ⟨hg, Nat.le_trans h.Bw hc.size, hr, own_ch hc h.out (by intros; omega), own_ch hc h.hd (by intros; omega), h.len, fun j hj => own_ch hc (h.obj j hj) (by intros; omega), h.far, h.apart⟩
theorem MSr.print {g' cap : Nat} {v : Int} {n : Nat → Int} {pc st : Int} (hr : w'.heap[g]? = some (.cells (stA n (.slice oA hs.length oc) (.slice (some ⟨g', 0, none⟩) (s.out.length + 1) cap) pc st) 88 (0, 0)))
    (ho : w'.ownsRow B 2 1 (.slice (some ⟨g', 0, none⟩) (s.out.length + 1) cap) (s.out.length + 1) (nums .i64 (s.out ++ [v]))) (hat : (Value.slice tA s.out.length tc).ownBlock = some g' ∨ w.heap.size ≤ g')
    (hc : Ch (fun k => k = g ∨ (Value.slice tA s.out.length tc).ownBlock = some k) w w') : MSr w' g B { s with n := n, out := s.out ++ [v], pc := pc, steps := st } oA hs oc (some ⟨g', 0, none⟩) cap := by
  have hg := h.gB
  have hl : (s.out ++ [v]).length = s.out.length + 1 := by simp
  have hf : ∀ j, j < hs.length → ∀ k, (hs.getD j default).v.ownBlock = some k → k ≠ g' := fun j hj k hk e => by
    subst e
    rcases hat with ha | ha
    · exact h.far j hj k hk ha
    · have := own_lt (h.obj j hj) k hk
      omega
  refine ⟨hg, Nat.le_trans h.Bw hc.size, by rw [hl]; exact hr, by rw [hl]; exact ho, own_ch hc h.hd fun k hB hk hS => ?_, h.len, fun j hj => own_ch hc (h.obj j hj) fun k hB hk hS => ?_, fun j hj k hk e => ?_, h.apart⟩
  · rcases hS with e | e
    · omega
    · rcases own_type_ne h.hd h.out (by decide) with h1 | h1
      · rw [h1] at hk
        cases hk
      · exact h1 (hk.trans e.symm)
  · rcases hS with e | e
    · omega
    · exact h.far j hj k hk e
  · simp [Value.ownBlock] at e
    exact hf j hj k hk e.symm
theorem MSr.new {gh cap b m : Nat} {n : Nat → Int} {pc st : Int} (hr : w'.heap[g]? = some (.cells (stA n (.slice (some ⟨gh, 0, none⟩) (hs.length + 1) cap) (.slice tA s.out.length tc) pc st) 88 (0, 0)))
    (hh : w'.ownsRow B 23 1 (.slice (some ⟨gh, 0, none⟩) (hs.length + 1) cap) (hs.length + 1) (hdv hs ++ [.slice (some ⟨b, 0, none⟩) m m])) (ho : w'.ownsRow B 2 1 (.slice (some ⟨b, 0, none⟩) m m) m (nums .i64 (List.replicate m 0))) (hb : w.heap.size ≤ b)
    (hc : Ch (fun k => k = g ∨ (Value.slice oA hs.length oc).ownBlock = some k) w w') : MSr w' g B { s with n := n, objs := s.objs ++ [List.replicate m 0], pc := pc, steps := st } (some ⟨gh, 0, none⟩) (hs ++ [⟨some ⟨b, 0, none⟩, m, m⟩]) cap tA tc := by
  have hg := h.gB
  have hlen := h.len
  have hl : (hs ++ [(⟨some ⟨b, 0, none⟩, m, m⟩ : Hd)]).length = hs.length + 1 := by simp
  have hne : ∀ {n' : Nat} {v : Value} {xs : List Value}, w.ownsRow B 2 1 v n' xs → ∀ k, v.ownBlock = some k → ¬ (k = g ∨ (Value.slice oA hs.length oc).ownBlock = some k) := fun ho' k hk hS => by
    rcases hS with e | e
    · have := own_base ho' k hk
      omega
    · rcases own_type_ne ho' h.hd (by decide) with h1 | h1
      · rw [h1] at hk
        cases hk
      · exact h1 (hk.trans e.symm)
  have hbn : ∀ {n' : Nat} {v : Value} {xs : List Value}, w.ownsRow B 2 1 v n' xs → ∀ k, v.ownBlock = some k → k ≠ b := fun ho' k hk e => by
    have := own_lt ho' k hk
    omega
  refine ⟨hg, Nat.le_trans h.Bw hc.size, by rw [hl]; exact hr, own_ch hc h.out fun k _ hk => hne h.out k hk, ?_, by simp [hlen], fun j hj => ?_, fun j hj => ?_, fun i j hi hj e => ?_⟩
  · rw [hl]
    simpa [hdv, Hd.v] using hh
  · rw [hl] at hj
    show w'.ownsRow B _ 1 _ ((s.objs ++ [List.replicate m 0]).getD j []).length (nums .i64 ((s.objs ++ [List.replicate m 0]).getD j []))
    rw [getD_snoc, getD_snoc, ← hlen]
    by_cases e : j < hs.length
    · rw [if_pos e, if_pos e]
      exact own_ch hc (h.obj j e) fun k _ hk => hne (h.obj j e) k hk
    · rw [if_neg e, if_neg e, if_pos (by omega), if_pos (by omega), List.length_replicate]
      exact ho
  · rw [hl] at hj
    rw [getD_snoc]
    by_cases e : j < hs.length
    · rw [if_pos e]
      exact h.far j e
    · rw [if_neg e, if_pos (by omega)]
      intro k hk e'
      simp [Hd.v, Value.ownBlock] at hk
      exact hbn h.out k e' hk.symm
  · rw [hl] at hi hj
    rw [getD_snoc, getD_snoc]
    by_cases e1 : i < hs.length
    · by_cases e2 : j < hs.length
      · rw [if_pos e1, if_pos e2]
        exact h.apart i j e1 e2 e
      · rw [if_pos e1, if_neg e2, if_pos (by omega)]
        intro k hk e'
        simp [Hd.v, Value.ownBlock] at e'
        exact hbn (h.obj i e1) k hk e'.symm
    · rw [if_neg e1, if_pos (by omega), if_pos (by omega)]
      intro k hk e'
      simp [Hd.v, Value.ownBlock] at hk
      exact hbn (h.obj j (by omega)) k e' hk.symm
theorem MSr.put {o hB f : Nat} {v : Int} {xs : Array Value} {ty : TypeId} (ho : o < hs.length) (hA : (hs.getD o default).v.ownBlock = some hB) (hx : w.heap[hB]? = some (.cells xs ty (0, 0))) (hc : Ch (fun k => k = hB) w w')
    (hx' : w'.heap[hB]? = some (.cells (xs.setIfInBounds f (.int .i64 v)) ty (0, 0))) (hf : f < (s.objs.getD o []).length) : MSr w' g B { s with objs := s.objs.set o ((s.objs.getD o []).set f v) } oA hs oc tA tc := by
  have hg := h.gB
  have hlen := h.len
  have hbb := own_base (h.obj o ho) hB hA
  have hget : ∀ j, (s.objs.set o ((s.objs.getD o []).set f v)).getD j [] = if j = o then (s.objs.getD o []).set f v else s.objs.getD j [] := fun j => by
    rw [List.getD_eq_getElem?_getD, List.getElem?_set]
    by_cases e : o = j
    · rw [if_pos e, if_pos (by omega), if_pos e.symm]
      rfl
    · rw [if_neg e, if_neg (fun e' => e e'.symm), List.getD_eq_getElem?_getD]
  refine ⟨hg, Nat.le_trans h.Bw hc.size, (hc.block g (blk_lt h.row) (by omega)).trans h.row, own_ch hc h.out fun k _ hk e => h.far o ho hB hA (e ▸ hk), own_ch hc h.hd fun k _ hk e => ?_, by rw [List.length_set]; exact hlen, fun j hj => ?_, h.far, h.apart⟩
  · rcases own_type_ne (h.obj o ho) h.hd (by decide) with h1 | h1
    · rw [h1] at hA
      cases hA
    · exact h1 (hA.trans (by rw [hk, e]))
  · show w'.ownsRow B _ 1 _ ((s.objs.set o ((s.objs.getD o []).set f v)).getD j []).length (nums .i64 ((s.objs.set o ((s.objs.getD o []).set f v)).getD j []))
    rw [hget]
    by_cases e : j = o
    · subst e
      rw [if_pos rfl, List.length_set]
      obtain ⟨e1, e2⟩ := h.obj j ho
      refine ⟨by simp [nums] at e1 ⊢, .inr ?_⟩
      rcases e2 with ⟨e2, _⟩ | ⟨g2, cap, cur, e2, e3, e4, e5, e6, e7, e8⟩
      · rw [e2] at hA
        simp [Value.ownBlock] at hA
      · rw [e2] at hA
        simp [Value.ownBlock] at hA
        subst hA
        rw [hx] at e4
        injection e4 with e4
        injection e4 with e9 e10 _
        subst e9 e10
        refine ⟨g2, cap, _, e2, e3, hx', e5, e6, by rw [Array.size_setIfInBounds]; exact e7, ?_⟩
        rw [Array.toList_setIfInBounds, List.take_set, e8]
        simp [nums, List.map_set]
    · rw [if_neg e]
      exact own_ch hc (h.obj j hj) fun k _ hk e' => h.apart j o hj ho e k hk (by rw [hA, e'])
theorem MSr.at_ {o : Nat} (ho : o < hs.length) (hn : 0 < (s.objs.getD o []).length) : ∃ gh hB cap xs, oA = some ⟨gh, 0, none⟩ ∧ (hs.getD o default).v.ownBlock = some hB ∧
    w.cell? ((⟨gh, 0, none⟩ : Addr).add o) = some (.slice (some ⟨hB, 0, none⟩) (s.objs.getD o []).length cap) ∧ w.heap[hB]? = some (.cells xs 2 (0, 0)) ∧ hB ≠ g ∧ ∀ f, f < (s.objs.getD o []).length → xs[f]? = some (.int .i64 ((s.objs.getD o []).getD f 0)) := by
  obtain ⟨e1, e2⟩ := h.obj o ho
  rcases e2 with ⟨_, e2⟩ | ⟨hB, cap, xs, e2, e3, e4, e5, e6, e7, e8⟩
  · omega
  · rcases h.hd.2 with ⟨_, q2⟩ | ⟨gh, qc, ys, q2, _⟩
    · omega
    · have hc := h.hd.cells (g := gh) (by rw [q2]; rfl) o (hs.getD o default).v (by simp [hdv, List.getElem?_eq_getElem ho, List.getD_eq_getElem?_getD])
      rw [e2] at hc
      injection q2 with q3 _ _
      refine ⟨gh, hB, cap, xs, q3, by rw [e2]; rfl, hc, e4, by have := h.gB; omega, fun f hf => ?_⟩
      have h9 : (xs.toList.take ((s.objs.getD o []).length * 1))[f]? = some (.int .i64 ((s.objs.getD o []).getD f 0)) := by
        rw [e8, nums, List.getElem?_map, List.getElem?_eq_getElem hf, List.getD_eq_getElem?_getD (l := s.objs.getD o []), List.getElem?_eq_getElem hf]
        rfl
      rw [List.getElem?_take, if_pos (by omega)] at h9
      simpa using h9
end
end Go.Proofs.YtfkfpcciacplkaaDoor.MS

namespace Go.Proofs.YtfkfpcciacplkaaDoor.MS
open Go.RowKit Go.Proofs.YtfkfpcciacplkaaDoorW.PrintWords Go.Proofs.YtfkfpcciacplkaaDoor.ST0 Go.Proofs.YtfkfpcciacplkaaDoor.ST Go.Proofs.YtfkfpcciacplkaaDoor.PL Go.Proofs.YtfkfpcciacplkaaDoor.KP Go.Proofs.YtfkfpcciacplkaaDoor.F
set_option linter.unusedVariables false
set_option linter.unusedSectionVars false
set_option linter.unusedSimpArgs false
def rowP (o a b c : Nat) (N : Int) (n : Nat → Int) (pc : Int) : (Nat → Int) × Int :=
  if o = 1 then (upd n a N, pc + 1) else if o = 2 then (upd n a (wrap64 (n b + n c)), pc + 1) else if o = 3 then (n, N) else if o = 4 then (n, if n a = 0 then N else pc + 1)
  else if o = 6 then (upd n (8 + a) 0, pc + 1) else if o = 7 then (upd n (8 + a) (n (8 + b)), pc + 1) else if o = 12 then (upd n (8 + a) (n (16 + b)), pc + 1) else if o = 13 then (upd n (16 + a) (n (8 + b)), pc + 1)
  else (upd n a (if n (8 + b) = n (8 + c) then 1 else 0), pc + 1)
def RowOk (o a b c : Nat) : Prop := (o = 1 ∧ a < 8) ∨ (o = 2 ∧ a < 8 ∧ b < 8 ∧ c < 8) ∨ o = 3 ∨ (o = 4 ∧ a < 8) ∨ (o = 6 ∧ a < 8) ∨ (o = 7 ∧ a < 8 ∧ b < 8) ∨ (o = 12 ∧ a < 8 ∧ b < 4) ∨ (o = 13 ∧ a < 4 ∧ b < 8) ∨ (o = 15 ∧ a < 8 ∧ b < 8 ∧ c < 8)
section
variable (w : World) (g : Nat) (n : Nat → Int) (O T : Value) (pc st : Int) (hg : w.heap[g]? = some (.cells (stA n O T pc st) 88 (0, 0))) (hp0 : 0 ≤ pc) (hp1 : pc ≤ 1000) (A0 : Option Addr) (n0 c0 : Nat) (la gl : ByteArray) (A3 : Option Addr) (n3 c3 : Nat) (o a b c : Nat) (N : Int)
include hg hp0 hp1
set_option maxHeartbeats 8000000 in
set_option maxRecDepth 100000 in
theorem do_row (hop : RowOk o a b c) :
    Calls Tryd.prog 49 #[.pointer (some ⟨g, 0, none⟩), .agg #[.slice A0 n0 c0, .string la, .string gl, .slice A3 n3 c3], .agg #[.int .u8 o, .int .u8 a, .int .u8 b, .int .u8 c, .int .i64 N]] w fun e w' => e = .returned (.int .i64 0) ∧ w'.heap[g]? = some (.cells (stA (rowP o a b c N n pc).1 O T (rowP o a b c N n pc).2 (wrap64 (st + 1))) 88 (0, 0)) ∧ Ch (fun k => k = g) w w' := by
  have HG := Aside0.mk hg
  have hgw := blk_lt hg
  have a0 : (0 : Int) ≤ a := by omega
  have b0 : (0 : Int) ≤ b := by omega
  have d0 : (0 : Int) ≤ c := by omega
  have ep : wrap64 (pc + 1) = pc + 1 := by unfold wrap64; omega
  have HOP := Aside0.mk hop
  clear hg hop
  go_enter Tryd.func49, Tryd.ntmps49
  go_upto_region 1 with (fail)
  obtain ⟨W0, hW0⟩ : ∃ W0 : World, W0 = (w.alloc (.cells #[.slice A0 n0 c0, .string la, .string gl, .slice A3 n3 c3] 46)).alloc (.cells #[.int .u8 o, .int .u8 a, .int .u8 b, .int .u8 c, .int .i64 N] 68) := ⟨_, rfl⟩
  have RG : W0.heap[g]? = some (.cells (stA n O T pc st) 88 (0, 0)) := by rw [hW0]; exact row_old _ _ _ (by simp; omega) (row_old _ _ _ hgw HG.out)
  have RI : W0.heap[w.heap.size + 1]? = some (.cells #[.int .u8 o, .int .u8 a, .int .u8 b, .int .u8 c, .int .i64 N] 68 (0, 0)) := by rw [hW0]; exact row_new _ _ _ (by simp)
  have HW := Aside0.mk (show Ch (fun k => k = g) w W0 by rw [hW0]; exact ((Ch.refl _ _).alloc _).alloc _)
  rw [← hW0]
  clear hW0
  have HRG := Aside0.mk RG
  have HRI := Aside0.mk RI
  have k22 : W0.cell? ⟨g, 22, none⟩ = some (.int .i64 pc) := (blk_cell RG 22).trans rfl
  have k23 : W0.cell? ⟨g, 23, none⟩ = some (.int .i64 st) := (blk_cell RG 23).trans rfl
  have kf : ∀ j, W0.frozen? ⟨g, j, none⟩ = false := fun j => blk_frozen RG j
  have kI := fun j => cell_of_row W0 (w.heap.size + 1) j _ _ _ RI
  clear RG RI
  go_upto_region 3 with (fail)
  obtain ⟨W1, hW1⟩ : ∃ W1 : World, W1 = (W0.setCell ⟨g, 22, none⟩ (.int .i64 (pc + 1))).setCell ⟨g, 23, none⟩ (.int .i64 (wrap64 (st + 1))) := ⟨_, rfl⟩
  have RG : W1.heap[g]? = some (.cells (stA n O T (pc + 1) (wrap64 (st + 1))) 88 (0, 0)) := by rw [hW1]; exact row_cellS _ (row_cellS _ HRG.out)
  have RI : W1.heap[w.heap.size + 1]? = some (.cells #[.int .u8 o, .int .u8 a, .int .u8 b, .int .u8 c, .int .i64 N] 68 (0, 0)) := by rw [hW1]; exact row_cellO _ _ (by simp; omega) (row_cellO _ _ (by simp; omega) HRI.out)
  have HW := Aside0.mk (show Ch (fun k => k = g) w W1 by rw [hW1]; exact (HW.out.set (.inl rfl) _).set (.inl rfl) _)
  rw [← hW1]
  clear hW1 k22 k23 kf kI HRG HRI
  have HRG := Aside0.mk RG
  have HRI := Aside0.mk RI
  have kI := fun j => cell_of_row W1 (w.heap.size + 1) j _ _ _ RI
  have kf : ∀ j, W1.frozen? ⟨g, j, none⟩ = false := fun j => blk_frozen RG j
  have kN := fun (k : Nat) (h : k < 20) => row_n RG h
  have k22 : W1.cell? ⟨g, 22, none⟩ = some (.int .i64 (pc + 1)) := (blk_cell RG 22).trans rfl
  clear RG RI
  rcases HOP.out with ⟨rfl, ha⟩ | ⟨rfl, ha, hb, hc⟩ | rfl | ⟨rfl, ha⟩ | ⟨rfl, ha⟩ | ⟨rfl, ha, hb⟩ | ⟨rfl, ha, hb⟩ | ⟨rfl, ha, hb⟩ | ⟨rfl, ha, hb, hc⟩
  · have a8 : (a : Int) < 8 := by omega
    have kt := kN (a) (by omega)
    go_wp2
    go_still_tail 8, (by kernel_rfl)
    go_wp2
    go_ret
    exact ⟨rfl, row_drew (row_set HRG.out (k := a) (by omega) _), (HW.out.set (.inl rfl) _).drew⟩
  · have a8 : (a : Int) < 8 := by omega
    have b8 : (b : Int) < 8 := by omega
    have c8 : (c : Int) < 8 := by omega
    have kb := kN b (by omega)
    have kc := kN c (by omega)
    have kt := kN (a) (by omega)
    go_wp2
    go_still_tail 21, (by kernel_rfl)
    go_wp2
    go_ret
    exact ⟨rfl, row_drew (row_set HRG.out (k := a) (by omega) _), (HW.out.set (.inl rfl) _).drew⟩
  · go_wp2
    go_ret
    exact ⟨rfl, row_cellS _ HRG.out, HW.out.set (.inl rfl) _⟩
  · have a8 : (a : Int) < 8 := by omega
    have ka := kN a (by omega)
    by_cases hz : n a = 0
    · rw [hz] at ka
      have hq : rowP 4 a b c N n pc = (n, N) := by unfold rowP; simp [hz]
      go_wp2
      go_still (by kernel_rfl)
      go_wp2
      go_ret
      rw [hq]
      exact ⟨rfl, row_cellS _ (row_drew HRG.out), HW.out.drew.set (.inl rfl) _⟩
    · have hz' : (n a == 0) = false := beq_false_of_ne hz
      have hq : rowP 4 a b c N n pc = (n, pc + 1) := by unfold rowP; simp [hz]
      go_wp2
      go_still (by kernel_rfl)
      go_wp2
      go_ret
      rw [hq]
      exact ⟨rfl, row_drew HRG.out, HW.out.drew⟩
  · have a8 : (a : Int) < 8 := by omega
    have kt := kN (8 + a) (by omega)
    go_wp2
    go_still_tail 6, (by kernel_rfl)
    go_wp2
    go_ret
    exact ⟨rfl, row_drew (row_set HRG.out (k := 8 + a) (by omega) _), (HW.out.set (.inl rfl) _).drew⟩
  · have a8 : (a : Int) < 8 := by omega
    have b8 : (b : Int) < 8 := by omega
    have kb := kN (8 + b) (by omega)
    have kt := kN (8 + a) (by omega)
    go_wp2
    go_still_tail 13, (by kernel_rfl)
    go_wp2
    go_ret
    exact ⟨rfl, row_drew (row_set HRG.out (k := 8 + a) (by omega) _), (HW.out.set (.inl rfl) _).drew⟩
  · have a8 : (a : Int) < 8 := by omega
    have b4 : (b : Int) < 4 := by omega
    have kb := kN (16 + b) (by omega)
    have kt := kN (8 + a) (by omega)
    go_wp2
    go_still_tail 13, (by kernel_rfl)
    go_wp2
    go_ret
    exact ⟨rfl, row_drew (row_set HRG.out (k := 8 + a) (by omega) _), (HW.out.set (.inl rfl) _).drew⟩
  · have a4 : (a : Int) < 4 := by omega
    have b8 : (b : Int) < 8 := by omega
    have kb := kN (8 + b) (by omega)
    have kt := kN (16 + a) (by omega)
    go_wp2
    go_still_tail 13, (by kernel_rfl)
    go_wp2
    go_ret
    exact ⟨rfl, row_drew (row_set HRG.out (k := 16 + a) (by omega) _), (HW.out.set (.inl rfl) _).drew⟩
  · have a8 : (a : Int) < 8 := by omega
    have b8 : (b : Int) < 8 := by omega
    have c8 : (c : Int) < 8 := by omega
    have kt := kN a (by omega)
    go_wp2
    go_still_tail 6, (by kernel_rfl)
    go_upto_region 29 with (fail)
    obtain ⟨W2, hW2⟩ : ∃ W2 : World, W2 = (W1.setCell ⟨g, a, none⟩ (.int .i64 0)).drew := ⟨_, rfl⟩
    have RG := Aside0.mk (show W2.heap[g]? = some (.cells (stA (upd n a 0) O T (pc + 1) (wrap64 (st + 1))) 88 (0, 0)) by rw [hW2]; exact row_drew (row_set HRG.out (by omega) 0))
    have RI := Aside0.mk (show W2.heap[w.heap.size + 1]? = some (.cells #[.int .u8 15, .int .u8 a, .int .u8 b, .int .u8 c, .int .i64 N] 68 (0, 0)) by rw [hW2]; exact row_drew (row_cellO _ _ (by simp; omega) HRI.out))
    have HW := Aside0.mk (show Ch (fun k => k = g) w W2 by rw [hW2]; exact (HW.out.set (.inl rfl) _).drew)
    rw [← hW2]
    clear hW2 kt kI kf kN
    have kI := fun j => cell_of_row W2 (w.heap.size + 1) j _ _ _ RI.out
    have kf : ∀ j, W2.frozen? ⟨g, j, none⟩ = false := fun j => blk_frozen RG.out j
    have kb : W2.cell? ⟨g, 8 + b, none⟩ = some (.int .i64 (n (8 + b))) := by
      rw [← upd_ne n (k := a) (0 : Int) (show 8 + b ≠ a by omega)]
      exact row_n RG.out (by omega)
    have kc : W2.cell? ⟨g, 8 + c, none⟩ = some (.int .i64 (n (8 + c))) := by
      rw [← upd_ne n (k := a) (0 : Int) (show 8 + c ≠ a by omega)]
      exact row_n RG.out (by omega)
    have kt := row_n RG.out (k := a) (by omega)
    by_cases hh : n (8 + b) = n (8 + c)
    · have e1 : (n (8 + b) == n (8 + c)) = true := beq_iff_eq.2 hh
      have hq : rowP 15 a b c N n pc = (upd (upd n a 0) a 1, pc + 1) := by unfold rowP; simp [hh, upd_upd]
      go_wp2
      go_still (by kernel_rfl)
      go_upto_region 30 with (fail)
      obtain ⟨W3, hW3⟩ : ∃ W3 : World, W3 = ({ heap := W2.heap, tape := W2.tape, drawn := W2.drawn + 1, os := W2.os, output := W2.output } : World) := ⟨_, rfl⟩
      have RG := Aside0.mk (show W3.heap[g]? = some (.cells (stA (upd n a 0) O T (pc + 1) (wrap64 (st + 1))) 88 (0, 0)) by rw [hW3]; exact row_drew RG.out)
      have RI := Aside0.mk (show W3.heap[w.heap.size + 1]? = some (.cells #[.int .u8 15, .int .u8 a, .int .u8 b, .int .u8 c, .int .i64 N] 68 (0, 0)) by rw [hW3]; exact row_drew RI.out)
      have HW := Aside0.mk (show Ch (fun k => k = g) w W3 by rw [hW3]; exact HW.out.drew)
      rw [← hW3]
      clear hW3 kt kI kf kb kc
      have kI := fun j => cell_of_row W3 (w.heap.size + 1) j _ _ _ RI.out
      have kf : ∀ j, W3.frozen? ⟨g, j, none⟩ = false := fun j => blk_frozen RG.out j
      have kt := row_n RG.out (k := a) (by omega)
      go_still_tail 6, (by kernel_rfl)
      go_wp2
      go_ret
      rw [hq]
      exact ⟨rfl, row_drew (row_set RG.out (by omega) _), (HW.out.set (.inl rfl) _).drew⟩
    · have e1 : (n (8 + b) == n (8 + c)) = false := beq_false_of_ne hh
      have hq : rowP 15 a b c N n pc = (upd n a 0, pc + 1) := by unfold rowP; simp [hh]
      go_wp2
      go_still (by kernel_rfl)
      go_wp2
      go_ret
      rw [hq]
      exact ⟨rfl, row_drew RG.out, HW.out.drew⟩
end
end Go.Proofs.YtfkfpcciacplkaaDoor.MS

namespace Go.Proofs.YtfkfpcciacplkaaDoor.MS
open Go.RowKit Go.Proofs.YtfkfpcciacplkaaDoorW.PrintWords Go.Proofs.YtfkfpcciacplkaaDoor.ST0 Go.Proofs.YtfkfpcciacplkaaDoor.ST Go.Proofs.YtfkfpcciacplkaaDoor.PL Go.Proofs.YtfkfpcciacplkaaDoor.KP Go.Proofs.YtfkfpcciacplkaaDoor.F
set_option linter.unusedVariables false
set_option linter.unusedSectionVars false
set_option linter.unusedSimpArgs false
theorem row_drew_old (w : World) (o : Obj) {i : Nat} (h : i < w.heap.size) : ((w.alloc o).drew).heap[i]? = w.heap[i]? := heap_old2 w o h
theorem inf64' : (Tryd.prog.info? 2).map (fun i => (i.zero, i.size, i.bytes)) = some (some (.int .i64 0), 1, 8) := by kernel_rfl
section
variable (w : World) (g : Nat) (n : Nat → Int) (O : Value) (tA : Option Addr) (tc : Nat) (out : List Int) (pc st : Int) (hg : w.heap[g]? = some (.cells (stA n O (.slice tA out.length tc) pc st) 88 (0, 0))) (hp0 : 0 ≤ pc) (hp1 : pc ≤ 1000) (A0 : Option Addr) (n0 c0 : Nat) (la gl : ByteArray) (A3 : Option Addr) (n3 c3 : Nat) (a b c : Nat) (N : Int) (B : Nat) (hT : w.ownsRow B 2 1 (.slice tA out.length tc) out.length (nums .i64 out)) (hgB : g < B) (hBw : B ≤ w.heap.size) (hlo : out.length ≤ 1000000)
include hg hp0 hp1 hT hgB hBw hlo
set_option maxHeartbeats 8000000 in
set_option maxRecDepth 100000 in
theorem do_print_c (ha : (a : Int) < 8) :
    Calls Tryd.prog 49 #[.pointer (some ⟨g, 0, none⟩), .agg #[.slice A0 n0 c0, .string la, .string gl, .slice A3 n3 c3], .agg #[.int .u8 14, .int .u8 a, .int .u8 b, .int .u8 c, .int .i64 N]] w fun e w' => e = .returned (.int .i64 0) ∧ ∃ g' cap, w'.heap[g]? = some (.cells (stA n O (.slice (some ⟨g', 0, none⟩) (out.length + 1) cap) (pc + 1) (wrap64 (st + 1))) 88 (0, 0)) ∧ w'.ownsRow B 2 1 (.slice (some ⟨g', 0, none⟩) (out.length + 1) cap) (out.length + 1) (nums .i64 (out ++ [n a])) ∧ ((Value.slice tA out.length tc).ownBlock = some g' ∨ w.heap.size ≤ g') ∧ Ch (fun k => k = g ∨ (Value.slice tA out.length tc).ownBlock = some k) w w' := by
  have HG := Aside0.mk hg
  have hgw := blk_lt hg
  have a0 : (0 : Int) ≤ a := by omega
  have b0 : (0 : Int) ≤ b := by omega
  have d0 : (0 : Int) ≤ c := by omega
  have ep : wrap64 (pc + 1) = pc + 1 := by unfold wrap64; omega
  have HT := Aside0.mk hT
  clear hg hT
  go_enter Tryd.func49, Tryd.ntmps49
  go_upto_region 1 with (fail)
  obtain ⟨W0, hW0⟩ : ∃ W0 : World, W0 = (w.alloc (.cells #[.slice A0 n0 c0, .string la, .string gl, .slice A3 n3 c3] 46)).alloc (.cells #[.int .u8 14, .int .u8 a, .int .u8 b, .int .u8 c, .int .i64 N] 68) := ⟨_, rfl⟩
  have RG : W0.heap[g]? = some (.cells (stA n O (.slice tA out.length tc) pc st) 88 (0, 0)) := by rw [hW0]; exact row_old _ _ _ (by simp; omega) (row_old _ _ _ hgw HG.out)
  have RI : W0.heap[w.heap.size + 1]? = some (.cells #[.int .u8 14, .int .u8 a, .int .u8 b, .int .u8 c, .int .i64 N] 68 (0, 0)) := by rw [hW0]; exact row_new _ _ _ (by simp)
  have HW := Aside0.mk (show Ch (fun k => k = g) w W0 by rw [hW0]; exact ((Ch.refl _ _).alloc _).alloc _)
  rw [← hW0]
  clear hW0
  have HRG := Aside0.mk RG
  have HRI := Aside0.mk RI
  have k22 : W0.cell? ⟨g, 22, none⟩ = some (.int .i64 pc) := (blk_cell RG 22).trans rfl
  have k23 : W0.cell? ⟨g, 23, none⟩ = some (.int .i64 st) := (blk_cell RG 23).trans rfl
  have kf : ∀ j, W0.frozen? ⟨g, j, none⟩ = false := fun j => blk_frozen RG j
  have kI := fun j => cell_of_row W0 (w.heap.size + 1) j _ _ _ RI
  clear RG RI
  go_upto_region 3 with (fail)
  obtain ⟨W1, hW1⟩ : ∃ W1 : World, W1 = (W0.setCell ⟨g, 22, none⟩ (.int .i64 (pc + 1))).setCell ⟨g, 23, none⟩ (.int .i64 (wrap64 (st + 1))) := ⟨_, rfl⟩
  have RG : W1.heap[g]? = some (.cells (stA n O (.slice tA out.length tc) (pc + 1) (wrap64 (st + 1))) 88 (0, 0)) := by rw [hW1]; exact row_cellS _ (row_cellS _ HRG.out)
  have RI : W1.heap[w.heap.size + 1]? = some (.cells #[.int .u8 14, .int .u8 a, .int .u8 b, .int .u8 c, .int .i64 N] 68 (0, 0)) := by rw [hW1]; exact row_cellO _ _ (by simp; omega) (row_cellO _ _ (by simp; omega) HRI.out)
  have HW := Aside0.mk (show Ch (fun k => k = g) w W1 by rw [hW1]; exact (HW.out.set (.inl rfl) _).set (.inl rfl) _)
  rw [← hW1]
  clear hW1 k22 k23 kf kI HRG HRI
  have HRG := Aside0.mk RG
  have HRI := Aside0.mk RI
  have kI := fun j => cell_of_row W1 (w.heap.size + 1) j _ _ _ RI
  have kf : ∀ j, W1.frozen? ⟨g, j, none⟩ = false := fun j => blk_frozen RG j
  have kN := fun (k : Nat) (h : k < 20) => row_n RG h
  have k22 : W1.cell? ⟨g, 22, none⟩ = some (.int .i64 (pc + 1)) := (blk_cell RG 22).trans rfl
  clear RG RI
  have a8 : (a : Int) < 8 := ha
  have ka := kN a (by omega)
  have HO1 := Aside0.mk (show W1.ownsRow B 2 1 (.slice tA out.length tc) out.length (nums .i64 out) from own_move HT.out fun k hk => HW.out.block k (own_lt HT.out k hk) fun e => by have := own_base HT.out k hk; omega)
  have e21 : W1.cell? ⟨g, 21, none⟩ = some (.slice tA out.length tc) := (blk_cell HRG.out 21).trans rfl
  have n1 := World.new_ne _ _ e21
  have n2 := World.new_ne _ _ (blk_cell HRI.out 1)
  have hz := HW.out.size
  have hne := own_ne HO1.out HRG.out (by decide)
  have hzg := blk_lt HRG.out
  have eA : ∀ o, (W1.alloc o).cell? ⟨g, 21, none⟩ = some (.slice tA out.length tc) := fun o => (World.cell?_alloc_lt _ _ _ (show g < W1.heap.size by omega)).trans e21
  go_upto_region 26 with (fail)
  obtain ⟨i0, hi0, hz0, hz1, hz2⟩ := info_parts inf64'
  go_region_law ((refine step_append_lies _ (by rfl) _ _ _ (by rfl) B 2 i0 _ 1 8 Tryd.underlying23 hi0 hz0 hz1 hz2 rfl (by decide) (.slice tA out.length tc) out.length (nums .i64 out) (by rfl) (own_move HO1.out fun k hk => row_drew_old W1 _ (own_lt HO1.out k hk)) ⟨W1.heap.size, 0, none⟩ 1 1 [.int .i64 (n a)] (by rfl) rfl (World.news_of_block (cs := #[.int .i64 (n a)]) (heap_alloc_new W1 _)) (by simp [Value.oneCell']) (by decide) (by simp [maxLen]; omega) (by omega) (by simp; omega) (W1.heap.size + 1) (by simp) ?_; intro g' cap w2 hown hgrow hat hlt; have RG2 := (hgrow.block g (by simp; omega) hne).trans (row_drew (row_old W1 (.cells #[.int .i64 (n a)] 2) _ (blk_lt HRG.out) HRG.out)); have f21 := blk_frozen RG2 21; have k21 := (blk_cell RG2 21).trans (rfl : _ = some (Value.slice tA out.length tc)); have HO := Aside0.mk hown; have HRG2 := Aside0.mk RG2; have HGR := Aside0.mk hgrow; have HAT := Aside0.mk hat; clear hown RG2 hgrow hat hlt))
  all_goals
    go_wp2
    go_ret
    refine ⟨rfl, g', cap, row_cellS _ HRG2.out, ?_, ?_, ?_⟩
    · rw [show nums .i64 (out ++ [n a]) = nums .i64 out ++ [.int .i64 (n a)] by simp [nums]]
      exact own_setCell HO.out (p := ⟨g, 21, none⟩) (own_ne HO.out HRG2.out (by decide)) _
    · rcases HAT.out with h | h
      · exact .inl h
      · exact .inr (by omega)
    · refine ((((HW.out.mono fun k hk => .inl hk).alloc _).drew).grown HGR.out fun k hk => .inl (.inr hk.symm)).set (.inl (.inl rfl)) _
end
end Go.Proofs.YtfkfpcciacplkaaDoor.MS

namespace Go.Proofs.YtfkfpcciacplkaaDoor.MS
open Go.RowKit Go.Proofs.YtfkfpcciacplkaaDoorW.PrintWords Go.Proofs.YtfkfpcciacplkaaDoor.ST0 Go.Proofs.YtfkfpcciacplkaaDoor.ST Go.Proofs.YtfkfpcciacplkaaDoor.PL Go.Proofs.YtfkfpcciacplkaaDoor.KP Go.Proofs.YtfkfpcciacplkaaDoor.F
set_option linter.unusedVariables false
set_option linter.unusedSectionVars false
set_option linter.unusedSimpArgs false
section
variable (w : World) (g : Nat) (n : Nat → Int) (O T : Value) (pc st : Int) (hg : w.heap[g]? = some (.cells (stA n O T pc st) 88 (0, 0))) (hp0 : 0 ≤ pc) (hp1 : pc ≤ 1000) (A0 : Option Addr) (n0 c0 : Nat) (la gl : ByteArray) (A3 : Option Addr) (n3 c3 : Nat) (o : Int) (a b c : Nat) (N : Int)
include hg hp0 hp1
set_option maxHeartbeats 8000000 in
set_option maxRecDepth 100000 in
theorem do_load (hop : o = 8 ∨ o = 10) (R : Ending → World → Prop) (H : ∀ W, W.heap[g]? = some (.cells (stA n O T (pc + 1) (wrap64 (st + 1))) 88 (0, 0)) → Ch (fun k => k = g) w W → Calls Tryd.prog 72 #[.pointer (some ⟨g, 0, none⟩), .agg #[.int .u8 o, .int .u8 a, .int .u8 b, .int .u8 c, .int .i64 N]] W fun e w' => ∃ r : Int, e = .returned (.int .i64 r) ∧ R e w') :
    Calls Tryd.prog 49 #[.pointer (some ⟨g, 0, none⟩), .agg #[.slice A0 n0 c0, .string la, .string gl, .slice A3 n3 c3], .agg #[.int .u8 o, .int .u8 a, .int .u8 b, .int .u8 c, .int .i64 N]] w R := by
  have HH := Aside0.mk H
  have HG := Aside0.mk hg
  have hgw := blk_lt hg
  have a0 : (0 : Int) ≤ a := by omega
  have b0 : (0 : Int) ≤ b := by omega
  have d0 : (0 : Int) ≤ c := by omega
  have ep : wrap64 (pc + 1) = pc + 1 := by unfold wrap64; omega
  have HOP := Aside0.mk hop
  clear hg hop H
  go_enter Tryd.func49, Tryd.ntmps49
  go_upto_region 1 with (fail)
  obtain ⟨W0, hW0⟩ : ∃ W0 : World, W0 = (w.alloc (.cells #[.slice A0 n0 c0, .string la, .string gl, .slice A3 n3 c3] 46)).alloc (.cells #[.int .u8 o, .int .u8 a, .int .u8 b, .int .u8 c, .int .i64 N] 68) := ⟨_, rfl⟩
  have RG : W0.heap[g]? = some (.cells (stA n O T pc st) 88 (0, 0)) := by rw [hW0]; exact row_old _ _ _ (by simp; omega) (row_old _ _ _ hgw HG.out)
  have RI : W0.heap[w.heap.size + 1]? = some (.cells #[.int .u8 o, .int .u8 a, .int .u8 b, .int .u8 c, .int .i64 N] 68 (0, 0)) := by rw [hW0]; exact row_new _ _ _ (by simp)
  have HW := Aside0.mk (show Ch (fun k => k = g) w W0 by rw [hW0]; exact ((Ch.refl _ _).alloc _).alloc _)
  rw [← hW0]
  clear hW0
  have HRG := Aside0.mk RG
  have HRI := Aside0.mk RI
  have k22 : W0.cell? ⟨g, 22, none⟩ = some (.int .i64 pc) := (blk_cell RG 22).trans rfl
  have k23 : W0.cell? ⟨g, 23, none⟩ = some (.int .i64 st) := (blk_cell RG 23).trans rfl
  have kf : ∀ j, W0.frozen? ⟨g, j, none⟩ = false := fun j => blk_frozen RG j
  have kI := fun j => cell_of_row W0 (w.heap.size + 1) j _ _ _ RI
  clear RG RI
  go_upto_region 3 with (fail)
  obtain ⟨W1, hW1⟩ : ∃ W1 : World, W1 = (W0.setCell ⟨g, 22, none⟩ (.int .i64 (pc + 1))).setCell ⟨g, 23, none⟩ (.int .i64 (wrap64 (st + 1))) := ⟨_, rfl⟩
  have RG : W1.heap[g]? = some (.cells (stA n O T (pc + 1) (wrap64 (st + 1))) 88 (0, 0)) := by rw [hW1]; exact row_cellS _ (row_cellS _ HRG.out)
  have RI : W1.heap[w.heap.size + 1]? = some (.cells #[.int .u8 o, .int .u8 a, .int .u8 b, .int .u8 c, .int .i64 N] 68 (0, 0)) := by rw [hW1]; exact row_cellO _ _ (by simp; omega) (row_cellO _ _ (by simp; omega) HRI.out)
  have HW := Aside0.mk (show Ch (fun k => k = g) w W1 by rw [hW1]; exact (HW.out.set (.inl rfl) _).set (.inl rfl) _)
  rw [← hW1]
  clear hW1 k22 k23 kf kI HRG HRI
  have HRG := Aside0.mk RG
  have HRI := Aside0.mk RI
  have kI := fun j => cell_of_row W1 (w.heap.size + 1) j _ _ _ RI
  have kf : ∀ j, W1.frozen? ⟨g, j, none⟩ = false := fun j => blk_frozen RG j
  have kN := fun (k : Nat) (h : k < 20) => row_n RG h
  have k22 : W1.cell? ⟨g, 22, none⟩ = some (.int .i64 (pc + 1)) := (blk_cell RG 22).trans rfl
  clear RG RI
  rcases HOP.out with rfl | rfl
  all_goals
    go_wp2_with (go_at_call 72; (with_reducible refine (HH.out _ HRG.out HW.out).mono ?_); rintro e w2 ⟨r, rfl, hr⟩; have HRR := Aside0.mk hr; clear hr)
    exact HRR.out
set_option maxHeartbeats 8000000 in
set_option maxRecDepth 100000 in
theorem do_store (hop : o = 9 ∨ o = 11) (R : Ending → World → Prop) (H : ∀ W, W.heap[g]? = some (.cells (stA n O T (pc + 1) (wrap64 (st + 1))) 88 (0, 0)) → Ch (fun k => k = g) w W → Calls Tryd.prog 73 #[.pointer (some ⟨g, 0, none⟩), .agg #[.int .u8 o, .int .u8 a, .int .u8 b, .int .u8 c, .int .i64 N]] W fun e w' => ∃ r : Int, e = .returned (.int .i64 r) ∧ R e w') :
    Calls Tryd.prog 49 #[.pointer (some ⟨g, 0, none⟩), .agg #[.slice A0 n0 c0, .string la, .string gl, .slice A3 n3 c3], .agg #[.int .u8 o, .int .u8 a, .int .u8 b, .int .u8 c, .int .i64 N]] w R := by
  have HH := Aside0.mk H
  have HG := Aside0.mk hg
  have hgw := blk_lt hg
  have a0 : (0 : Int) ≤ a := by omega
  have b0 : (0 : Int) ≤ b := by omega
  have d0 : (0 : Int) ≤ c := by omega
  have ep : wrap64 (pc + 1) = pc + 1 := by unfold wrap64; omega
  have HOP := Aside0.mk hop
  clear hg hop H
  go_enter Tryd.func49, Tryd.ntmps49
  go_upto_region 1 with (fail)
  obtain ⟨W0, hW0⟩ : ∃ W0 : World, W0 = (w.alloc (.cells #[.slice A0 n0 c0, .string la, .string gl, .slice A3 n3 c3] 46)).alloc (.cells #[.int .u8 o, .int .u8 a, .int .u8 b, .int .u8 c, .int .i64 N] 68) := ⟨_, rfl⟩
  have RG : W0.heap[g]? = some (.cells (stA n O T pc st) 88 (0, 0)) := by rw [hW0]; exact row_old _ _ _ (by simp; omega) (row_old _ _ _ hgw HG.out)
  have RI : W0.heap[w.heap.size + 1]? = some (.cells #[.int .u8 o, .int .u8 a, .int .u8 b, .int .u8 c, .int .i64 N] 68 (0, 0)) := by rw [hW0]; exact row_new _ _ _ (by simp)
  have HW := Aside0.mk (show Ch (fun k => k = g) w W0 by rw [hW0]; exact ((Ch.refl _ _).alloc _).alloc _)
  rw [← hW0]
  clear hW0
  have HRG := Aside0.mk RG
  have HRI := Aside0.mk RI
  have k22 : W0.cell? ⟨g, 22, none⟩ = some (.int .i64 pc) := (blk_cell RG 22).trans rfl
  have k23 : W0.cell? ⟨g, 23, none⟩ = some (.int .i64 st) := (blk_cell RG 23).trans rfl
  have kf : ∀ j, W0.frozen? ⟨g, j, none⟩ = false := fun j => blk_frozen RG j
  have kI := fun j => cell_of_row W0 (w.heap.size + 1) j _ _ _ RI
  clear RG RI
  go_upto_region 3 with (fail)
  obtain ⟨W1, hW1⟩ : ∃ W1 : World, W1 = (W0.setCell ⟨g, 22, none⟩ (.int .i64 (pc + 1))).setCell ⟨g, 23, none⟩ (.int .i64 (wrap64 (st + 1))) := ⟨_, rfl⟩
  have RG : W1.heap[g]? = some (.cells (stA n O T (pc + 1) (wrap64 (st + 1))) 88 (0, 0)) := by rw [hW1]; exact row_cellS _ (row_cellS _ HRG.out)
  have RI : W1.heap[w.heap.size + 1]? = some (.cells #[.int .u8 o, .int .u8 a, .int .u8 b, .int .u8 c, .int .i64 N] 68 (0, 0)) := by rw [hW1]; exact row_cellO _ _ (by simp; omega) (row_cellO _ _ (by simp; omega) HRI.out)
  have HW := Aside0.mk (show Ch (fun k => k = g) w W1 by rw [hW1]; exact (HW.out.set (.inl rfl) _).set (.inl rfl) _)
  rw [← hW1]
  clear hW1 k22 k23 kf kI HRG HRI
  have HRG := Aside0.mk RG
  have HRI := Aside0.mk RI
  have kI := fun j => cell_of_row W1 (w.heap.size + 1) j _ _ _ RI
  have kf : ∀ j, W1.frozen? ⟨g, j, none⟩ = false := fun j => blk_frozen RG j
  have kN := fun (k : Nat) (h : k < 20) => row_n RG h
  have k22 : W1.cell? ⟨g, 22, none⟩ = some (.int .i64 (pc + 1)) := (blk_cell RG 22).trans rfl
  clear RG RI
  rcases HOP.out with rfl | rfl
  all_goals
    go_wp2_with (go_at_call 73; (with_reducible refine (HH.out _ HRG.out HW.out).mono ?_); rintro e w2 ⟨r, rfl, hr⟩; have HRR := Aside0.mk hr; clear hr)
    exact HRR.out
end
end Go.Proofs.YtfkfpcciacplkaaDoor.MS

namespace Go.Proofs.YtfkfpcciacplkaaDoor.MS
open Go.RowKit Go.Proofs.YtfkfpcciacplkaaDoorW.PrintWords Go.Proofs.YtfkfpcciacplkaaDoor.ST0 Go.Proofs.YtfkfpcciacplkaaDoor.ST Go.Proofs.YtfkfpcciacplkaaDoor.PL Go.Proofs.YtfkfpcciacplkaaDoor.KP Go.Proofs.YtfkfpcciacplkaaDoor.F
set_option linter.unusedVariables false
set_option linter.unusedSectionVars false
set_option linter.unusedSimpArgs false
section
variable (w : World) (g : Nat) (n : Nat → Int) (T : Value) (pc st : Int) (ad had : Addr) (ol oc m mc : Nat) (hg : w.heap[g]? = some (.cells (stA n (.slice (some ad) ol oc) T pc st) 88 (0, 0))) (a b c o f : Nat) (v : Int)
  (ho : o < ol) (hf : f < m) (hol : ol ≤ 1000000) (hh : w.cell? (ad.add o) = some (.slice (some had) m mc)) (hv : w.cell? (had.add f) = some (.int .i64 v))
include hg ho hf hol hh hv
set_option maxHeartbeats 4000000 in
set_option maxRecDepth 100000 in
theorem load_c (ha : a < 8) (hb : b < 8) (hq : n (8 + b) = (o : Int) + 1) (q : Nat) (hq2 : q = 8 ∨ q = 10) :
    Calls Tryd.prog 72 #[.pointer (some ⟨g, 0, none⟩), .agg #[.int .u8 q, .int .u8 a, .int .u8 b, .int .u8 c, .int .i64 f]] w fun e w' => e = .returned (.int .i64 0) ∧ w'.heap[g]? = some (.cells (stA (upd n (if q = 8 then a else 8 + a) v) (.slice (some ad) ol oc) T pc st) 88 (0, 0)) ∧ Ch (fun k => k = g) w w' := by
  have HG := Aside0.mk hg
  have hgw := blk_lt hg
  have a0 : (0 : Int) ≤ a := by omega
  have b0 : (0 : Int) ≤ b := by omega
  have a8 : (a : Int) < 8 := by omega
  have b8 : (b : Int) < 8 := by omega
  have o0 : (0 : Int) ≤ o := by omega
  have o1 : (o : Int) < ol := by omega
  have f0 : (0 : Int) ≤ f := by omega
  have f1 : (f : Int) < m := by omega
  have ew : IntKind.i64.wrap (o : Int) = o := by rw [IntKind.wrap_i64]; omega
  have ez : ((o : Int) + 1 == 0) = false := beq_false_of_ne (by omega)
  have e1 : ((o : Int) + 1 - 1) = o := by omega
  obtain ⟨W0, hW0⟩ : ∃ W0 : World, W0 = w.alloc (.cells #[.int .u8 q, .int .u8 a, .int .u8 b, .int .u8 c, .int .i64 f] 68) := ⟨_, rfl⟩
  have hb0 : Below w.heap.size w W0 := by rw [hW0]; exact below_alloc (Below.refl _ _) _
  have RG : W0.heap[g]? = some (.cells (stA n (.slice (some ad) ol oc) T pc st) 88 (0, 0)) := (hb0.block g hgw).trans hg
  have RI : W0.heap[w.heap.size]? = some (.cells #[.int .u8 q, .int .u8 a, .int .u8 b, .int .u8 c, .int .i64 f] 68 (0, 0)) := by rw [hW0]; exact heap_alloc_new _ _
  have HW := Aside0.mk (Ch.of (S := fun k => k = g) hb0)
  have HRG := Aside0.mk RG
  have kI := fun j => cell_of_row W0 w.heap.size j _ _ _ RI
  have kf : ∀ j, W0.frozen? ⟨g, j, none⟩ = false := fun j => blk_frozen RG j
  have kO : W0.cell? ⟨g, 20, none⟩ = some (.slice (some ad) ol oc) := (blk_cell RG 20).trans rfl
  have kb := (row_n RG (k := 8 + b) (by omega)).trans (by rw [hq])
  have hh0 := (hb0.cell (World.block_lt_of_cell? w _ hh)).trans hh
  have hv0 := (hb0.cell (World.block_lt_of_cell? w _ hv)).trans hv
  have HW0 := Aside0.mk hW0
  clear hh hv hg RG RI hb0 hW0
  go_enter Tryd.func72, Tryd.ntmps72
  go_upto_region 1 with (fail)
  rw [← HW0.out]
  go_still (by kernel_rfl)
  go_upto_region 4 with (fail)
  obtain ⟨W1, hW1⟩ : ∃ W1 : World, W1 = ({ heap := W0.heap, tape := W0.tape, drawn := W0.drawn + 1, os := W0.os, output := W0.output } : World) := ⟨_, rfl⟩
  have HE : ∀ p, W1.cell? p = W0.cell? p := fun p => by rw [hW1]; rfl
  have HRG := Aside0.mk (show W1.heap[g]? = some (.cells (stA n (.slice (some ad) ol oc) T pc st) 88 (0, 0)) by rw [hW1]; exact HRG.out)
  have HW := Aside0.mk (show Ch (fun k => k = g) w W1 by rw [hW1]; exact HW.out.drew)
  have kI := fun j => (HE _).trans (kI j)
  have kO := (HE _).trans kO
  have hh0 := (HE _).trans hh0
  have hv0 := (HE _).trans hv0
  first | rw [← hW1] | rw [show W0.drew = W1 from hW1.symm]
  clear hW1 HE kf
  have kf : ∀ j, W1.frozen? ⟨g, j, none⟩ = false := fun j => blk_frozen HRG.out j
  go_still (by kernel_rfl)
  go_upto_region 5 with (fail)
  obtain ⟨W2, hW2⟩ : ∃ W2 : World, W2 = ({ heap := W1.heap, tape := W1.tape, drawn := W1.drawn + 1, os := W1.os, output := W1.output } : World) := ⟨_, rfl⟩
  have HE : ∀ p, W2.cell? p = W1.cell? p := fun p => by rw [hW2]; rfl
  have HRG := Aside0.mk (show W2.heap[g]? = some (.cells (stA n (.slice (some ad) ol oc) T pc st) 88 (0, 0)) by rw [hW2]; exact HRG.out)
  have HW := Aside0.mk (show Ch (fun k => k = g) w W2 by rw [hW2]; exact HW.out.drew)
  have kI := fun j => (HE _).trans (kI j)
  have kO := (HE _).trans kO
  have hh0 := (HE _).trans hh0
  have hv0 := (HE _).trans hv0
  first | rw [← hW2] | rw [show W1.drew = W2 from hW2.symm]
  clear hW2 HE kf
  have kf : ∀ j, W2.frozen? ⟨g, j, none⟩ = false := fun j => blk_frozen HRG.out j
  rcases hq2 with rfl | rfl
  · have kt := row_n HRG.out (k := a) (by omega)
    go_wp2
    go_still_tail 7, (by kernel_rfl)
    go_wp2
    go_ret
    exact ⟨rfl, row_drew (row_set HRG.out (k := a) (by omega) _), (HW.out.set (.inl rfl) _).drew⟩
  · have kt := row_n HRG.out (k := 8 + a) (by omega)
    go_wp2
    go_still_tail 7, (by kernel_rfl)
    go_wp2
    go_ret
    exact ⟨rfl, row_drew (row_set HRG.out (k := 8 + a) (by omega) _), (HW.out.set (.inl rfl) _).drew⟩
end
section
variable (w : World) (g : Nat) (n : Nat → Int) (T : Value) (pc st : Int) (ad : Addr) (hB : Nat) (xs : Array Value) (ty : TypeId) (ol oc m mc : Nat) (hg : w.heap[g]? = some (.cells (stA n (.slice (some ad) ol oc) T pc st) 88 (0, 0))) (a b c o f : Nat) (v : Int)
  (ho : o < ol) (hf : f < m) (hol : ol ≤ 1000000) (hh : w.cell? (ad.add o) = some (.slice (some ⟨hB, 0, none⟩) m mc)) (hv : w.heap[hB]? = some (.cells xs ty (0, 0))) (hx : xs[f]? = some (.int .i64 v)) (hne : hB ≠ g)
include hg ho hf hol hh hv hx hne
set_option maxHeartbeats 4000000 in
set_option maxRecDepth 100000 in
theorem store_c (ha : a < 8) (hb : b < 8) (hq : n (8 + a) = (o : Int) + 1) (q : Nat) (hq2 : q = 9 ∨ q = 11) :
    Calls Tryd.prog 73 #[.pointer (some ⟨g, 0, none⟩), .agg #[.int .u8 q, .int .u8 a, .int .u8 b, .int .u8 c, .int .i64 f]] w fun e w' => e = .returned (.int .i64 0) ∧ w'.heap[g]? = some (.cells (stA n (.slice (some ad) ol oc) T pc st) 88 (0, 0)) ∧ w'.heap[hB]? = some (.cells (xs.setIfInBounds f (.int .i64 (n (if q = 9 then b else 8 + b)))) ty (0, 0)) ∧ Ch (fun k => k = hB) w w' := by
  have HG := Aside0.mk hg
  have hgw := blk_lt hg
  have a0 : (0 : Int) ≤ a := by omega
  have b0 : (0 : Int) ≤ b := by omega
  have a8 : (a : Int) < 8 := by omega
  have b8 : (b : Int) < 8 := by omega
  have o0 : (0 : Int) ≤ o := by omega
  have o1 : (o : Int) < ol := by omega
  have f0 : (0 : Int) ≤ f := by omega
  have f1 : (f : Int) < m := by omega
  have ew : IntKind.i64.wrap (o : Int) = o := by rw [IntKind.wrap_i64]; omega
  have ez : ((o : Int) + 1 == 0) = false := beq_false_of_ne (by omega)
  have e1 : ((o : Int) + 1 - 1) = o := by omega
  obtain ⟨W0, hW0⟩ : ∃ W0 : World, W0 = w.alloc (.cells #[.int .u8 q, .int .u8 a, .int .u8 b, .int .u8 c, .int .i64 f] 68) := ⟨_, rfl⟩
  have hb0 : Below w.heap.size w W0 := by rw [hW0]; exact below_alloc (Below.refl _ _) _
  have RG : W0.heap[g]? = some (.cells (stA n (.slice (some ad) ol oc) T pc st) 88 (0, 0)) := (hb0.block g hgw).trans hg
  have RI : W0.heap[w.heap.size]? = some (.cells #[.int .u8 q, .int .u8 a, .int .u8 b, .int .u8 c, .int .i64 f] 68 (0, 0)) := by rw [hW0]; exact heap_alloc_new _ _
  have HW := Aside0.mk (Ch.of (S := fun k => k = hB) hb0)
  have HRG := Aside0.mk RG
  have kI := fun j => cell_of_row W0 w.heap.size j _ _ _ RI
  have kf : ∀ j, W0.frozen? ⟨g, j, none⟩ = false := fun j => blk_frozen RG j
  have kO : W0.cell? ⟨g, 20, none⟩ = some (.slice (some ad) ol oc) := (blk_cell RG 20).trans rfl
  have kb := (row_n RG (k := 8 + a) (by omega)).trans (by rw [hq])
  have hh0 := (hb0.cell (World.block_lt_of_cell? w _ hh)).trans hh
  have HV := Aside0.mk ((hb0.block hB (blk_lt hv)).trans hv)
  have HW0 := Aside0.mk hW0
  clear hh hv hg RG RI hb0 hW0
  go_enter Tryd.func73, Tryd.ntmps73
  go_upto_region 1 with (fail)
  rw [← HW0.out]
  go_still (by kernel_rfl)
  go_upto_region 4 with (fail)
  obtain ⟨W1, hW1⟩ : ∃ W1 : World, W1 = ({ heap := W0.heap, tape := W0.tape, drawn := W0.drawn + 1, os := W0.os, output := W0.output } : World) := ⟨_, rfl⟩
  have HE : ∀ p, W1.cell? p = W0.cell? p := fun p => by rw [hW1]; rfl
  have HRG := Aside0.mk (show W1.heap[g]? = some (.cells (stA n (.slice (some ad) ol oc) T pc st) 88 (0, 0)) by rw [hW1]; exact HRG.out)
  have HW := Aside0.mk (show Ch (fun k => k = hB) w W1 by rw [hW1]; exact HW.out.drew)
  have kI := fun j => (HE _).trans (kI j)
  have kO := (HE _).trans kO
  have hh0 := (HE _).trans hh0
  have HV := Aside0.mk (show W1.heap[hB]? = some (.cells xs ty (0, 0)) by rw [hW1]; exact HV.out)
  first | rw [← hW1] | rw [show W0.drew = W1 from hW1.symm]
  clear hW1 HE kf
  have kf : ∀ j, W1.frozen? ⟨hB, j, none⟩ = false := fun j => blk_frozen HV.out j
  have kv : W1.cell? ⟨hB, f, none⟩ = some (.int .i64 v) := (blk_cell HV.out f).trans hx
  rcases hq2 with rfl | rfl
  · have kt := row_n HRG.out (k := b) (by omega)
    go_wp2
    go_still_tail 18, (by kernel_rfl)
    go_wp2
    go_ret
    exact ⟨rfl, row_drew (row_cellO _ _ (Ne.symm hne) HRG.out), row_drew (row_cellS _ HV.out), (HW.out.set (.inl rfl) _).drew⟩
  · have kt := row_n HRG.out (k := 8 + b) (by omega)
    go_wp2
    go_still_tail 18, (by kernel_rfl)
    go_wp2
    go_ret
    exact ⟨rfl, row_drew (row_cellO _ _ (Ne.symm hne) HRG.out), row_drew (row_cellS _ HV.out), (HW.out.set (.inl rfl) _).drew⟩
end
set_option maxHeartbeats 4000000 in
set_option maxRecDepth 100000 in
theorem load_zero (w : World) (g : Nat) (n : Nat → Int) (O T : Value) (pc st : Int) (hg : w.heap[g]? = some (.cells (stA n O T pc st) 88 (0, 0))) (a b c q : Nat) (N : Int) (hb : b < 8) (hq : n (8 + b) = 0) :
    Calls Tryd.prog 72 #[.pointer (some ⟨g, 0, none⟩), .agg #[.int .u8 q, .int .u8 a, .int .u8 b, .int .u8 c, .int .i64 N]] w fun e w' => e = .returned (.int .i64 9) ∧ Below w.heap.size w w' := by
  have hgw := blk_lt hg
  have a0 : (0 : Int) ≤ a := by omega
  have b0 : (0 : Int) ≤ b := by omega
  have b8 : (b : Int) < 8 := by omega
  obtain ⟨W0, hW0⟩ : ∃ W0 : World, W0 = w.alloc (.cells #[.int .u8 q, .int .u8 a, .int .u8 b, .int .u8 c, .int .i64 N] 68) := ⟨_, rfl⟩
  have hb0 : Below w.heap.size w W0 := by rw [hW0]; exact below_alloc (Below.refl _ _) _
  have RG : W0.heap[g]? = some (.cells (stA n O T pc st) 88 (0, 0)) := (hb0.block g hgw).trans hg
  have kI := fun j => cell_of_row W0 w.heap.size j _ _ _ (show W0.heap[w.heap.size]? = some (.cells #[.int .u8 q, .int .u8 a, .int .u8 b, .int .u8 c, .int .i64 N] 68 (0, 0)) by rw [hW0]; exact heap_alloc_new _ _)
  have kb := (row_n RG (k := 8 + b) (by omega)).trans (by rw [hq])
  have HB := Aside0.mk hb0
  have HW0 := Aside0.mk hW0
  clear hg RG hb0 hW0
  go_enter Tryd.func72, Tryd.ntmps72
  go_upto_region 1 with (fail)
  rw [← HW0.out]
  go_still (by kernel_rfl)
  go_wp2
  go_ret
  exact ⟨rfl, below_drew1 HB.out⟩
set_option maxHeartbeats 4000000 in
set_option maxRecDepth 100000 in
theorem store_zero (w : World) (g : Nat) (n : Nat → Int) (O T : Value) (pc st : Int) (hg : w.heap[g]? = some (.cells (stA n O T pc st) 88 (0, 0))) (a b c q : Nat) (N : Int) (hb : a < 8) (hq : n (8 + a) = 0) :
    Calls Tryd.prog 73 #[.pointer (some ⟨g, 0, none⟩), .agg #[.int .u8 q, .int .u8 a, .int .u8 b, .int .u8 c, .int .i64 N]] w fun e w' => e = .returned (.int .i64 9) ∧ Below w.heap.size w w' := by
  have hgw := blk_lt hg
  have a0 : (0 : Int) ≤ a := by omega
  have b0 : (0 : Int) ≤ b := by omega
  have b8 : (a : Int) < 8 := by omega
  obtain ⟨W0, hW0⟩ : ∃ W0 : World, W0 = w.alloc (.cells #[.int .u8 q, .int .u8 a, .int .u8 b, .int .u8 c, .int .i64 N] 68) := ⟨_, rfl⟩
  have hb0 : Below w.heap.size w W0 := by rw [hW0]; exact below_alloc (Below.refl _ _) _
  have RG : W0.heap[g]? = some (.cells (stA n O T pc st) 88 (0, 0)) := (hb0.block g hgw).trans hg
  have kI := fun j => cell_of_row W0 w.heap.size j _ _ _ (show W0.heap[w.heap.size]? = some (.cells #[.int .u8 q, .int .u8 a, .int .u8 b, .int .u8 c, .int .i64 N] 68 (0, 0)) by rw [hW0]; exact heap_alloc_new _ _)
  have kb := (row_n RG (k := 8 + a) (by omega)).trans (by rw [hq])
  have HB := Aside0.mk hb0
  have HW0 := Aside0.mk hW0
  clear hg RG hb0 hW0
  go_enter Tryd.func73, Tryd.ntmps73
  go_upto_region 1 with (fail)
  rw [← HW0.out]
  go_still (by kernel_rfl)
  go_wp2
  go_ret
  exact ⟨rfl, below_drew1 HB.out⟩
end Go.Proofs.YtfkfpcciacplkaaDoor.MS

namespace Go.Proofs.YtfkfpcciacplkaaDoor.MS
open Go.RowKit Go.Proofs.YtfkfpcciacplkaaDoorW.PrintWords Go.Proofs.YtfkfpcciacplkaaDoor.ST0 Go.Proofs.YtfkfpcciacplkaaDoor.ST Go.Proofs.YtfkfpcciacplkaaDoor.PL Go.Proofs.YtfkfpcciacplkaaDoor.KP Go.Proofs.YtfkfpcciacplkaaDoor.F Go.Proofs.YtfkfpcciacplkaaDoor.Scan Go.Proofs.YtfkfpcciacplkaaDoor.PK
set_option linter.unusedVariables false
set_option linter.unusedSectionVars false
set_option linter.unusedSimpArgs false
def ldO : Oper := { dst := some 87, op := .load 86 (.tmp 86), type := 86, pos := "model.go:49", after := #[{ on := 3, ground := .data }], guard := none }
attribute [local go_sem] ldO
theorem pSize_c (p : Pg) (w : World) (h : p.On w) (t : Int) : Calls Tryd.prog 70 #[.slice p.A0 p.ts.length p.c0, .int .i64 t] w fun e w' => e = .returned (.int .i64 (size p.ts t)) ∧ Below w.heap.size w w' := by
  obtain ⟨k, hk⟩ := ev_at (kind_Size_ev p.ts h.hl h.hs t)
  exact (kind_Size.calls k p.A0 p.c0 p.ts t _ w h.hT h.hc0 hk).mono fun e w' h => ⟨h.1, h.2.below⟩
theorem size_nat (ts : List ByteArray) (t : Int) : ∃ m : Nat, size ts t = m ∧ m ≤ 6 := ⟨_, rfl, typ_le ts t⟩
section
variable (p : Pg) (w0 w : World) (g B : Nat) (s : PS) (oA : Option Addr) (hs : List Hd) (oc : Nat) (tA : Option Addr) (tc : Nat) (hp : p.On w0) (hb0 : Below w0.heap.size w0 w) (hg0 : w0.heap.size ≤ g) (h : MSr w g B s oA hs oc tA tc) (h0 : 0 ≤ s.pc) (h1 : s.pc ≤ 1000) (a b c : Nat) (N : Int) (ha : (a : Int) < 8) (hln : hs.length ≤ 1000000)
include hp hb0 hg0 h h0 h1 ha hln
set_option maxHeartbeats 8000000 in
set_option maxRecDepth 100000 in
theorem do_new : Calls Tryd.prog 49 #[.pointer (some ⟨g, 0, none⟩), p.v, .agg #[.int .u8 5, .int .u8 a, .int .u8 b, .int .u8 c, .int .i64 N]] w fun e w' => e = .returned (.int .i64 0) ∧
    MS w' g B { s with n := upd s.n (8 + a) ((s.objs.length + 1 : Nat) : Int), objs := s.objs ++ [List.replicate (size p.ts (atv p.ts p.la a)).toNat 0], pc := s.pc + 1, steps := wrap64 (s.steps + 1) } ∧ Ch (fun k => k = g ∨ B ≤ k) w w' := by
  obtain ⟨m, em, m6⟩ := size_nat p.ts (atv p.ts p.la a)
  have HL := Aside0.mk (show ∀ W, Below w0.heap.size w0 W → Calls Tryd.prog 71 #[p.v, .int .u8 a] W fun e w' => e = .returned (.int .i64 (atv p.ts p.la a)) ∧ Below W.heap.size W w' from fun W hW => pLocal_c p W (hp.below hW) a (by omega) (by omega))
  have HS := Aside0.mk (show ∀ W, Below w0.heap.size w0 W → Calls Tryd.prog 70 #[.slice p.A0 p.ts.length p.c0, .int .i64 (atv p.ts p.la a)] W fun e w' => e = .returned (.int .i64 m) ∧ Below W.heap.size W w' from fun W hW => by
    rw [← em]
    exact pSize_c p W (hp.below hW) _)
  rw [em, Int.toNat_natCast]
  have HM := Aside0.mk h
  have hgB := h.gB
  have hBw := h.Bw
  obtain ⟨A0, c0, ts, la, gl, A3, c3, code⟩ := p
  obtain ⟨n, objs, out, pc, st⟩ := s
  obtain ⟨n0, hn0⟩ : ∃ n0, n0 = ts.length := ⟨_, rfl⟩
  obtain ⟨n3, hn3⟩ : ∃ n3, n3 = code.length := ⟨_, rfl⟩
  simp only at HL HS h0 h1
  show Calls _ _ #[_, .agg #[.slice A0 ts.length c0, .string la, .string gl, .slice A3 code.length c3], _] _ _
  change Aside0 (∀ W, Below w0.heap.size w0 W → Calls Tryd.prog 71 #[.agg #[.slice A0 ts.length c0, .string la, .string gl, .slice A3 code.length c3], .int .u8 a] W fun e w' => e = .returned (.int .i64 (atv ts la a)) ∧ Below W.heap.size W w') at HL
  generalize atv ts la a = t0 at HL HS
  rw [← hn0, ← hn3] at HL
  rw [← hn0] at HS
  rw [← hn0, ← hn3]
  have hmk := print_make_of (P := Tryd.prog) 23 2 (.int .i64 0) 8 Tryd.underlying23 info_i rfl (by decide) m (by omega)
  have HG := Aside0.mk h.row
  have hgw := blk_lt h.row
  have HB0 := Aside0.mk hb0
  have HOL := Aside0.mk h.len
  have a0 : (0 : Int) ≤ a := by omega
  have ep : wrap64 (pc + 1) = pc + 1 := by unfold wrap64; omega
  clear h hb0 hp em hn0 hn3
  simp only at HG HOL
  go_enter Tryd.func49, Tryd.ntmps49
  go_upto_region 1 with (fail)
  obtain ⟨W0, hW0⟩ : ∃ W0 : World, W0 = (w.alloc (.cells #[.slice A0 n0 c0, .string la, .string gl, .slice A3 n3 c3] 46)).alloc (.cells #[.int .u8 5, .int .u8 a, .int .u8 b, .int .u8 c, .int .i64 N] 68) := ⟨_, rfl⟩
  have HRG := Aside0.mk (show W0.heap[g]? = some (.cells (stA n (.slice oA hs.length oc) (.slice tA out.length tc) pc st) 88 (0, 0)) by rw [hW0]; exact row_old _ _ _ (by simp; omega) (row_old _ _ _ hgw HG.out))
  have HRI := Aside0.mk (show W0.heap[w.heap.size + 1]? = some (.cells #[.int .u8 5, .int .u8 a, .int .u8 b, .int .u8 c, .int .i64 N] 68 (0, 0)) by rw [hW0]; exact row_new _ _ _ (by simp))
  have HRP := Aside0.mk (show W0.heap[w.heap.size]? = some (.cells #[.slice A0 n0 c0, .string la, .string gl, .slice A3 n3 c3] 46 (0, 0)) by rw [hW0]; exact row_old _ _ _ (by simp) (row_new _ _ _ rfl))
  have HW := Aside0.mk (show Ch (fun k => k = g) w W0 by rw [hW0]; exact ((Ch.refl _ _).alloc _).alloc _)
  rw [← hW0]
  clear hW0
  have k22 : W0.cell? ⟨g, 22, none⟩ = some (.int .i64 pc) := (blk_cell HRG.out 22).trans rfl
  have k23 : W0.cell? ⟨g, 23, none⟩ = some (.int .i64 st) := (blk_cell HRG.out 23).trans rfl
  have kf : ∀ j, W0.frozen? ⟨g, j, none⟩ = false := fun j => blk_frozen HRG.out j
  have kI := fun j => cell_of_row W0 (w.heap.size + 1) j _ _ _ HRI.out
  go_upto_region 3 with (fail)
  obtain ⟨W1, hW1⟩ : ∃ W1 : World, W1 = (W0.setCell ⟨g, 22, none⟩ (.int .i64 (pc + 1))).setCell ⟨g, 23, none⟩ (.int .i64 (wrap64 (st + 1))) := ⟨_, rfl⟩
  have HRG := Aside0.mk (show W1.heap[g]? = some (.cells (stA n (.slice oA hs.length oc) (.slice tA out.length tc) (pc + 1) (wrap64 (st + 1))) 88 (0, 0)) by rw [hW1]; exact row_cellS _ (row_cellS _ HRG.out))
  have HRI := Aside0.mk (show W1.heap[w.heap.size + 1]? = some (.cells #[.int .u8 5, .int .u8 a, .int .u8 b, .int .u8 c, .int .i64 N] 68 (0, 0)) by rw [hW1]; exact row_cellO _ _ (by simp; omega) (row_cellO _ _ (by simp; omega) HRI.out))
  have HRP := Aside0.mk (show W1.heap[w.heap.size]? = some (.cells #[.slice A0 n0 c0, .string la, .string gl, .slice A3 n3 c3] 46 (0, 0)) by rw [hW1]; exact row_cellO _ _ (by simp; omega) (row_cellO _ _ (by simp; omega) HRP.out))
  have HW := Aside0.mk (show Ch (fun k => k = g) w W1 by rw [hW1]; exact (HW.out.set (.inl rfl) _).set (.inl rfl) _)
  rw [← hW1]
  clear hW1 k22 k23 kf kI
  have hI0 : W1.cell? ⟨w.heap.size + 1, 0, none⟩ = some (.int .u8 5) := (cell_of_row _ _ 0 _ _ _ HRI.out).trans rfl
  go_upto_region 15 with (fail)
  have HBW := Aside0.mk (HW.out.below' HB0.out (fun k e => by omega) : Below w0.heap.size w0 W1)
  have hz1 := blk_lt HRI.out
  have eO : W1.cell? ⟨g, 20, none⟩ = some (.slice oA hs.length oc) := (blk_cell HRG.out 20).trans rfl
  have eF : ∀ j, W1.frozen? ⟨g, j, none⟩ = false := fun j => blk_frozen HRG.out j
  have e0 : W1.cell? ⟨w.heap.size, 0, none⟩ = some (.slice A0 n0 c0) := (cell_of_row _ _ 0 _ _ _ HRP.out).trans rfl
  have e1 : W1.cell? ⟨w.heap.size, 1, none⟩ = some (.string la) := (cell_of_row _ _ 1 _ _ _ HRP.out).trans rfl
  have e2 : W1.cell? ⟨w.heap.size, 2, none⟩ = some (.string gl) := (cell_of_row _ _ 2 _ _ _ HRP.out).trans rfl
  have e3 : W1.cell? ⟨w.heap.size, 3, none⟩ = some (.slice A3 n3 c3) := (cell_of_row _ _ 3 _ _ _ HRP.out).trans rfl
  have e5 : W1.cell? ⟨w.heap.size + 1, 1, none⟩ = some (.int .u8 a) := (cell_of_row _ _ 1 _ _ _ HRI.out).trans rfl
  clear hI0
  have hzg : g < w.heap.size := hgw
  have gn0 : ¬ w.heap.size = g := by omega
  have gn1 : ¬ w.heap.size + 1 = g := by omega
  have gn2 : ¬ g = w.heap.size := by omega
  have gn3 : ¬ g = w.heap.size + 1 := by omega
  have HO1 := Aside0.mk (own_ch HW.out HM.out.hd fun k hB hk e => by omega)
  have on : ∀ k, w.heap.size ≤ k → some k ≠ (Value.slice oA hs.length oc).ownBlock := fun k hk e => by have := own_lt HM.out.hd _ e.symm; omega
  have og : some g ≠ (Value.slice oA hs.length oc).ownBlock := fun e => by have := own_base HM.out.hd _ e.symm; omega
  obtain ⟨i0, hi0, hq0, hq1, hq2⟩ := info_parts info_h
  rw [show ({ dst := some 87, op := .load 86 (.tmp 86), type := 86, pos := "model.go:49", after := #[{ on := 3, ground := .data }], guard := none } : Oper) = ldO from rfl]
  go_region_held3 (fun w' => w'.cell? ⟨w.heap.size, 0, none⟩ = some (.slice A0 n0 c0) ∧ w'.cell? ⟨w.heap.size, 1, none⟩ = some (.string la) ∧ w'.cell? ⟨w.heap.size, 2, none⟩ = some (.string gl) ∧ w'.cell? ⟨w.heap.size, 3, none⟩ = some (.slice A3 n3 c3) ∧ w'.cell? ⟨w.heap.size + 1, 1, none⟩ = some (.int .u8 a))
    (first
      | exact ⟨e0, e1, e2, e3, e5⟩
      | go_keep)
    (first
      | (go_at_call 71; (with_reducible refine (HL.out _ ?side1).mono ?_); (case side1 => exact below_drew1 HBW.out); rintro e w1 ⟨rfl, hb1⟩; have HB1 := Aside0.mk hb1; have HBW := Aside0.mk ((below_drew1 HBW.out).trans (hb1.mono (below_drew1 HBW.out).size)); have eO := (hb1.cell (p := ⟨g, 20, none⟩) (show g < W1.heap.size by omega)).trans eO; have e0 := (hb1.cell (p := ⟨w.heap.size, 0, none⟩) (show w.heap.size < W1.heap.size by omega)).trans e0; have e1 := (hb1.cell (p := ⟨w.heap.size, 1, none⟩) (show w.heap.size < W1.heap.size by omega)).trans e1; have e2 := (hb1.cell (p := ⟨w.heap.size, 2, none⟩) (show w.heap.size < W1.heap.size by omega)).trans e2; have e3 := (hb1.cell (p := ⟨w.heap.size, 3, none⟩) (show w.heap.size < W1.heap.size by omega)).trans e3; have e5 := (hb1.cell (p := ⟨w.heap.size + 1, 1, none⟩) (show w.heap.size + 1 < W1.heap.size by omega)).trans e5; have hzw : W1.heap.size ≤ w1.heap.size := hb1.size; clear hb1)
      | (go_at_call 70; (with_reducible refine (HS.out _ HBW.out).mono ?_); rintro e w2 ⟨rfl, hb2⟩; have HB2 := Aside0.mk (show Below W1.heap.size W1 w2 from (below_drew1 (Below.refl _ _)).trans (HB1.out.trans (hb2.mono hzw))); have eO := (hb2.cell (p := ⟨g, 20, none⟩) (show g < w1.heap.size by omega)).trans eO; have eA : ∀ o, (w2.alloc o).cell? ⟨g, 20, none⟩ = some (.slice oA hs.length oc) := fun o => (World.cell?_alloc_lt _ _ _ (show g < w2.heap.size from Nat.lt_of_lt_of_le (by omega) hb2.size)).trans eO; have eA2 : ∀ o o', ((w2.alloc o).alloc o').cell? ⟨g, 20, none⟩ = some (.slice oA hs.length oc) := fun o o' => (World.cell?_alloc_lt _ _ _ (show g < (w2.alloc o).heap.size from Nat.lt_of_lt_of_le (by omega) (Nat.le_trans hb2.size (by simp)))).trans (eA o); have e0 := (hb2.cell (p := ⟨w.heap.size, 0, none⟩) (show w.heap.size < w1.heap.size by omega)).trans e0; have e1 := (hb2.cell (p := ⟨w.heap.size, 1, none⟩) (show w.heap.size < w1.heap.size by omega)).trans e1; have e2 := (hb2.cell (p := ⟨w.heap.size, 2, none⟩) (show w.heap.size < w1.heap.size by omega)).trans e2; have e3 := (hb2.cell (p := ⟨w.heap.size, 3, none⟩) (show w.heap.size < w1.heap.size by omega)).trans e3; have e5 := (hb2.cell (p := ⟨w.heap.size + 1, 1, none⟩) (show w.heap.size + 1 < w1.heap.size by omega)).trans e5; have hzw2 : w1.heap.size ≤ w2.heap.size := hb2.size; clear hb2)
      | (refine step_append_lies _ (by rfl) _ _ _ (by rfl) B 23 i0 _ 1 24 Tryd.underlying86 hi0 hq0 hq1 hq2 rfl (by decide) (.slice oA hs.length oc) hs.length (hdv hs) (by rfl) (((own_move HO1.out fun k hk => HB2.out.block k (own_lt HO1.out k hk)).alloc _).alloc _) ⟨w2.heap.size + 1, 0, none⟩ 1 1 [.slice (some ⟨w2.heap.size, 0, none⟩) m m] (by rfl) rfl (World.news_of_block (cs := #[.slice (some ⟨w2.heap.size, 0, none⟩) m m]) (row_new _ _ _ (by simp))) (by simp [Value.oneCell']) (by decide) (by simp [maxLen]; omega) (by omega) (by simp; omega) (w2.heap.size + 1 + 1) (by simp) ?_; intro g' cap w3 hown hgrow hat hlt; have hbk : ∀ k, k < w2.heap.size → some k ≠ (Value.slice oA hs.length oc).ownBlock → w3.heap[k]? = w2.heap[k]? := (fun k hk hne => (hgrow.block k (by simp; omega) hne).trans ((heap_old2 _ _ (by simp; omega)).trans (heap_old2 _ _ hk))); have hb3 : ∀ k j, k < w2.heap.size → some k ≠ (Value.slice oA hs.length oc).ownBlock → w3.cell? ⟨k, j, none⟩ = w2.cell? ⟨k, j, none⟩ := (fun k j hk hne => World.cell?_of_block (hbk k hk hne)); have eO3 := (hb3 g 20 (by omega) og).trans eO; have eF : ∀ j, w3.frozen? ⟨g, j, none⟩ = false := (fun j => blk_frozen ((hbk g (by omega) og).trans ((HB2.out.block g (by omega)).trans HRG.out)) j); have e0 := (hb3 w.heap.size 0 (by omega) (on _ (by omega))).trans e0; have e1 := (hb3 w.heap.size 1 (by omega) (on _ (by omega))).trans e1; have e2 := (hb3 w.heap.size 2 (by omega) (on _ (by omega))).trans e2; have e3 := (hb3 w.heap.size 3 (by omega) (on _ (by omega))).trans e3; have e5 := (hb3 (w.heap.size + 1) 1 (by omega) (on _ (by omega))).trans e5; have HOW := Aside0.mk hown; have HGR := Aside0.mk hgrow; have HAT := Aside0.mk hat; have HBK := Aside0.mk hbk; clear hown hgrow hat hbk hb3))
  all_goals
    have hz3 : w2.heap.size + 1 + 1 ≤ w3.heap.size := by have := HGR.out.size; simpa using this
    have hzg2 : w.heap.size + 1 < w2.heap.size := by omega
    have RG3 := (HBK.out g (by omega) og).trans ((HB2.out.block g (by omega)).trans HRG.out)
    have RI3 := (HBK.out (w.heap.size + 1) hzg2 (on _ (by omega))).trans ((HB2.out.block (w.heap.size + 1) hz1).trans HRI.out)
    obtain ⟨W4, hW4⟩ : ∃ W4 : World, W4 = w3.setCell ⟨g, 20, none⟩ (.slice (some ⟨g', 0, none⟩) (hs.length + 1) cap) := ⟨_, rfl⟩
    have HRG4 := Aside0.mk (show W4.heap[g]? = some (.cells (stA n (.slice (some ⟨g', 0, none⟩) (hs.length + 1) cap) (.slice tA out.length tc) (pc + 1) (wrap64 (st + 1))) 88 (0, 0)) by rw [hW4]; exact row_cellS _ RG3)
    have HRI4 := Aside0.mk (show W4.heap[w.heap.size + 1]? = some (.cells #[.int .u8 5, .int .u8 a, .int .u8 b, .int .u8 c, .int .i64 N] 68 (0, 0)) by rw [hW4]; exact row_cellO _ _ (by simp; omega) RI3)
    have HHD4 := Aside0.mk (show W4.ownsRow B 23 1 (.slice (some ⟨g', 0, none⟩) (hs.length + 1) cap) (hs.length + 1) (hdv hs ++ [.slice (some ⟨w2.heap.size, 0, none⟩) m m]) by rw [hW4]; exact own_setCell HOW.out (p := ⟨g, 20, none⟩) (own_ne HOW.out RG3 (by decide)) _)
    have HOB4 := Aside0.mk (show W4.ownsRow B 2 1 (.slice (some ⟨w2.heap.size, 0, none⟩) m m) m (nums .i64 (List.replicate m 0)) by
      have h1 := (own_made_of (enc := Value.int .i64) (d := (0 : Int)) w2 B 2 m (by omega) (by omega)).alloc (.cells #[.slice (some ⟨w2.heap.size, 0, none⟩) m m] 23)
      have h2 := own_move h1 (w1 := w3) fun k hk => by
        obtain rfl : w2.heap.size = k := by simpa [Value.ownBlock] using hk
        exact HGR.out.block _ (by simp; omega) (on _ (by omega))
      rw [hW4]
      exact own_setCell h2 (p := ⟨g, 20, none⟩) (fun e => by simp [Value.ownBlock] at e; omega) _)
    have HC4 := Aside0.mk (show Ch (fun k => k = g ∨ (Value.slice oA hs.length oc).ownBlock = some k) w W4 by
      rw [hW4]
      exact ((((((HW.out.mono fun k hk => .inl hk).trans (.of HB2.out)).alloc _).alloc _).grown HGR.out fun k hk => .inl (.inr hk.symm)).set (.inl (.inl rfl)) _))
    have hzz : w.heap.size ≤ w2.heap.size := by omega
    first | rw [← hW4] | rw [show World.setCell w3 _ _ = W4 from hW4.symm]
    clear e0 e1 e2 e3 e5 eO eO3 eA eA2 eF hW4 hzw hzw2 hz3 hmk
    have kI := (cell_of_row W4 _ 1 _ _ _ HRI4.out).trans (rfl : _ = some (Value.int .u8 a))
    have kO : W4.cell? ⟨g, 20, none⟩ = some (.slice (some ⟨g', 0, none⟩) (hs.length + 1) cap) := (blk_cell HRG4.out 20).trans rfl
    have kt := row_n HRG4.out (k := 8 + a) (by omega)
    have kf : ∀ j, W4.frozen? ⟨g, j, none⟩ = false := fun j => blk_frozen HRG4.out j
    go_wp2
    go_still_tail 11, (by kernel_rfl)
    go_wp2
    go_ret
    have hr := row_set HRG4.out (k := 8 + a) (by omega) ((hs.length : Int) + 1)
    refine ⟨rfl, ⟨some ⟨g', 0, none⟩, hs ++ [⟨some ⟨w2.heap.size, 0, none⟩, m, m⟩], cap, tA, tc, ?_⟩, ?_⟩
    · have q1 := own_setCell HHD4.out (p := ⟨g, 8 + a, none⟩) (own_ne HHD4.out HRG4.out (by decide)) (.int .i64 ((hs.length : Int) + 1))
      have q2 := own_setCell HOB4.out (p := ⟨g, 8 + a, none⟩) (own_ne HOB4.out HRG4.out (by decide)) (.int .i64 ((hs.length : Int) + 1))
      have q3 := HM.out.new (row_drew hr) (w' := (W4.setCell ⟨g, 8 + a, none⟩ (.int .i64 ((hs.length : Int) + 1))).drew) q1 q2 hzz ((HC4.out.set (.inl (.inl rfl)) _).drew)
      rw [← HOL.out]
      exact q3
    · refine ((HC4.out.set (.inl (.inl rfl)) _).drew).mono fun k hk => ?_
      rcases hk with e | e
      · exact .inl e
      · exact .inr (own_base HM.out.hd k e)
end
end Go.Proofs.YtfkfpcciacplkaaDoor.MS

namespace Go.Proofs.YtfkfpcciacplkaaDoor.ST
open Go.RowKit Go.Proofs.YtfkfpcciacplkaaDoorW.PrintWords Go.Proofs.YtfkfpcciacplkaaDoor.Scan Go.Proofs.YtfkfpcciacplkaaDoor.F Go.Proofs.YtfkfpcciacplkaaDoor.KP Go.Proofs.YtfkfpcciacplkaaDoor.PL Go.Proofs.YtfkfpcciacplkaaDoor.ST0
set_option linter.unusedVariables false
set_option linter.unusedSectionVars false
section
variable {w : World} {A0 : Option Addr} {c0 : Nat} {ts : List ByteArray} {la gl : ByteArray} {A3 : Option Addr} {c3 : Nat} {code : List S68} {P : Nat → Prop}
  (hT : Kd.C Kd.string w A0 ts.length ts) (hc0 : ts.length ≤ c0) (hC : Kd.C k68 w A3 code.length code) (hc3 : code.length ≤ c3) (hK : CkO w A0 c0 ts la gl A3 c3 code)
  (hsp : SpP ⟨A0, c0, ts, la, gl, A3, c3, code⟩) (hl : (ts.length : Int) ≤ 9223372036854775807) (hsz : ∀ s ∈ ts, (s.size : Int) ≤ 9223372036854775807) (hla : Fit la) (hgl : Fit gl) (hw : WfC code)
  {s : PS} {cs : Array Value} (hS : IsS w P s cs) {ty : List Int} (hW : WT (atv ts la) (atv ts gl) (size ts) (to_ ts) ty s) (h0 : 0 ≤ s.pc) (h1 : s.pc ≤ code.length) (hn1 : s.objs.length ≤ 1000000) (hn2 : s.out.length ≤ 1000000)
include hT hc0 hC hc3 hK hsp hl hsz hla hgl hw hS hW h0 h1 hn1 hn2
theorem Step_ps : Calls Tryd.prog 50 #[.agg #[.slice A0 ts.length c0, .string la, .string gl, .slice A3 code.length c3], .agg cs] w fun e w' =>
    ∃ cs', e = .returned (.tuple #[.agg cs', .bool (stepP (size ts) (atv ts la) code s).2.1, .int .i64 (stepP (size ts) (atv ts la) code s).2.2]) ∧ IsS w' (fun k => P k ∨ w.heap.size ≤ k) (stepP (size ts) (atv ts la) code s).1 cs' ∧ Below w.heap.size w w' := by
  obtain ⟨oA, hs, oc, tA, tc, rfl, hoc, htc, hO, hTo⟩ := hS
  obtain ⟨p, hp⟩ := Int.eq_ofNat_of_zero_le h0
  obtain ⟨n, objs, out, pc, st⟩ := s
  simp only at hp hoc htc hO hTo hn1 hn2 h0 h1 ⊢
  subst hp
  have hLoc : ∀ a : Int, 0 ≤ a → a ≤ 255 → Ev (fun k => lockstitchref05_Local.f k ts la gl code a) (atv ts la a) := fun a ha0 ha1 => ev_bind (at_ev ts hl hsz la hla a ha0 ha1) ev_const
  have hSz : ∀ x : Int, Ev (fun k => lockstitchref03_Size.f k ts x) (size ts x) := fun x => ref_Size_ev ts hl hsz x
  have hlen := hO.now.len
  have hWl : ty.length = objs.length := hW.len
  by_cases he : (p : Int) = code.length
  · have e : stepP (size ts) (atv ts la) code ⟨n, objs, out, p, st⟩ = (⟨n, objs, out, p, st⟩, true, 0) := if_pos he
    rw [e]
    exact ps_end hT hc0 hC hc3 hK hLoc hSz hO hoc hTo htc (by omega)
  have hpl : p < code.length := by omega
  have hx := hw.rd p hpl
  have kk : KK (atv ts la) (atv ts gl) (size ts) (to_ ts) (rd_T68 code p) := SpP.kk hsp p hpl
  have hop : 1 ≤ (rd_T68 code p).f0 ∧ (rd_T68 code p).f0 ≤ 15 := by
    obtain ⟨o, eo, q⟩ := hsp.all p hpl
    have := q.op
    simp only at eo
    omega
  obtain ⟨⟨o0, _⟩, ⟨a0, a9⟩, ⟨b0, b9⟩, ⟨c0', c9⟩, _⟩ := hx
  obtain ⟨a, ha⟩ := Int.eq_ofNat_of_zero_le a0
  obtain ⟨b, hb⟩ := Int.eq_ofNat_of_zero_le b0
  obtain ⟨c, hc⟩ := Int.eq_ofNat_of_zero_le c0'
  obtain ⟨N, hN⟩ : ∃ N, (rd_T68 code p).f4 = N := ⟨_, rfl⟩
  have kia := kk.ia
  have kib := kk.ib
  have kic := kk.ic
  have kpa := kk.pa
  have kpb := kk.pb
  have kpc := kk.pc
  have kga := kk.ga
  have kgb := kk.gb
  rw [ha] at kia kpa kga
  rw [hb] at kib kpb kgb
  rw [hc] at kic kpc
  have FLD : ∀ {q : Nat} {t : Int}, (q : Int) < 8 → atv ts la (q : Int) = t → ¬ n (8 + q) = 0 → 0 ≤ N → N < size ts t → ∃ o f : Nat, n (8 + q) = (o : Int) + 1 ∧ N = (f : Int) ∧ o < hs.length ∧ f < (objs.getD o []).length ∧ (objs.getD o []).length ≤ 1000000 := by
    intro q t hq et hz hN0 hN1
    have : 1 ≤ n (8 + q) ∧ n (8 + q) ≤ ty.length ∧ ty.getD (n (8 + q) - 1).toNat (-1) = atv ts la q := (hW.ps q (by omega)).resolve_left hz
    obtain ⟨g1, g2, g3⟩ := this
    rw [et] at g3
    have hol := hW.os (n (8 + q) - 1).toNat (by show (n (8 + q) - 1).toNat < objs.length; omega)
    simp only at hol
    rw [g3] at hol
    have h6 := typ_le ts t
    have hs6 : size ts t ≤ 6 := by unfold size; omega
    exact ⟨(n (8 + q) - 1).toNat, N.toNat, by omega, by omega, by omega, by omega, by omega⟩
  unfold stepP
  simp only
  rw [if_neg he]
  by_cases o3 : (rd_T68 code p).f0 = 3
  · rw [if_pos (.inl o3)]
    simp only
    rw [hN]
    exact ps_jump hT hc0 hC hc3 hK hLoc hSz hO hoc hTo htc a b c N hpl o3 ha hb hc hN
  by_cases o4 : (rd_T68 code p).f0 = 4
  · have hx8 := kia (by omega)
    by_cases hz : n a = 0
    · rw [if_pos (.inr ⟨o4, by rw [ha]; simpa using hz⟩)]
      simp only
      rw [hN]
      exact ps_zero hT hc0 hC hc3 hK hLoc hSz hO hoc hTo htc a b c N hpl o4 ha hb hc hN hx8 hz
    · rw [if_neg (by rintro (e | e); exact o3 e; exact hz (by have := e.2; rw [ha] at this; simpa using this)), if_pos o4]
      simp only
      exact ps_pass hT hc0 hC hc3 hK hLoc hSz hO hoc hTo htc a b c N hpl o4 ha hb hc hN hx8 hz
  rw [if_neg (by rintro (e | e); exact o3 e; exact o4 e.1), if_neg o4]
  unfold stepN
  simp only
  rw [ha, hb, hc, hN]
  simp only [Int.toNat_natCast]
  by_cases g1 : (rd_T68 code p).f0 = 1
  · rw [if_pos g1]
    exact ps_set hT hc0 hC hc3 hK hLoc hSz hO hoc hTo htc a b c N hpl g1 ha hb hc hN (kia (by omega))
  rw [if_neg g1]
  by_cases g2 : (rd_T68 code p).f0 = 2
  · rw [if_pos g2]
    exact ps_add hT hc0 hC hc3 hK hLoc hSz hO hoc hTo htc a b c N hpl g2 ha hb hc hN (kia (by omega)) (kib (by omega)) (kic (by omega))
  rw [if_neg g2]
  by_cases g15 : (rd_T68 code p).f0 = 15
  · rw [if_pos g15]
    by_cases hh : n (8 + b) = n (8 + c)
    · rw [if_pos hh]
      exact ps_same_eq hT hc0 hC hc3 hK hLoc hSz hO hoc hTo htc a b c N hpl g15 ha hb hc hN (kia (by omega)) (kpb (by omega)) (kpc (by omega)) hh
    · rw [if_neg hh]
      exact ps_same_ne hT hc0 hC hc3 hK hLoc hSz hO hoc hTo htc a b c N hpl g15 ha hb hc hN (kia (by omega)) (kpb (by omega)) (kpc (by omega)) hh
  rw [if_neg g15]
  by_cases g14 : (rd_T68 code p).f0 = 14
  · rw [if_pos g14]
    exact ps_print hT hc0 hC hc3 hK hLoc hSz hO hoc hTo htc a b c N hpl g14 ha hb hc hN (kia (by omega)) hn2
  rw [if_neg g14]
  by_cases g5 : (rd_T68 code p).f0 = 5
  · rw [if_pos g5]
    obtain ⟨k1, e1⟩ := ev_at (hLoc (a : Int) (by omega) (by omega))
    obtain ⟨k2, e2⟩ := ev_at (hSz (atv ts la (a : Int)))
    have h6 := typ_le ts (atv ts la (a : Int))
    have en : size ts (atv ts la (a : Int)) = (((size ts (atv ts la (a : Int))).toNat : Nat) : Int) := by unfold size; omega
    rw [en] at e2
    have e5 : ((objs.length + 1 : Nat) : Int) = (hs.length : Int) + 1 := by omega
    rw [e5]
    exact ps_new hT hc0 hC hc3 hK hLoc hSz hO hoc hTo htc a b c N hpl g5 ha hb hc hN (kpa (by omega)) (by omega) (size ts (atv ts la (a : Int))).toNat k1 k2 _ (by unfold size; omega) e1 e2
  rw [if_neg g5]
  by_cases g6 : (rd_T68 code p).f0 = 6
  · rw [if_pos g6]
    exact ps_nil hT hc0 hC hc3 hK hLoc hSz hO hoc hTo htc a b c N hpl g6 ha hb hc hN (kpa (by omega))
  rw [if_neg g6]
  by_cases g7 : (rd_T68 code p).f0 = 7
  · rw [if_pos g7]
    exact ps_move hT hc0 hC hc3 hK hLoc hSz hO hoc hTo htc a b c N hpl g7 ha hb hc hN (kpa (by omega)) (kpb (by omega))
  rw [if_neg g7]
  by_cases g12 : (rd_T68 code p).f0 = 12
  · rw [if_pos g12]
    exact ps_loadG hT hc0 hC hc3 hK hLoc hSz hO hoc hTo htc a b c N hpl g12 ha hb hc hN (kpa (by omega)) (kgb (by omega))
  rw [if_neg g12]
  by_cases g13 : (rd_T68 code p).f0 = 13
  · rw [if_pos g13]
    exact ps_storeG hT hc0 hC hc3 hK hLoc hSz hO hoc hTo htc a b c N hpl g13 ha hb hc hN (kga (by omega)) (kpb (by omega))
  rw [if_neg g13]
  by_cases g8 : (rd_T68 code p).f0 = 8
  · rw [if_pos g8]
    by_cases hz : n (8 + b) = 0
    · rw [if_pos hz]
      exact ps_none8 hT hc0 hC hc3 hK hLoc hSz hO hoc hTo htc a b c N hpl g8 ha hb hc hN (kpb (by omega)) hz
    · rw [if_neg hz]
      obtain ⟨_, k2, k3⟩ := kk.loadI g8
      rw [hb, hN] at k3
      rw [hN] at k2
      obtain ⟨o, f, q1, q2, q3, q4, _⟩ := FLD (kpb (by omega)) rfl hz k2 k3
      have ef : fld objs (n (8 + b)) N = (objs.getD o []).getD f 0 := by unfold fld; rw [q1, q2]; simp
      rw [ef]
      exact ps_loadI hT hc0 hC hc3 hK hLoc hSz hO hoc hTo htc a b c o f hpl g8 ha hb hc (hN.trans q2) q3 q4 q1 (kia (by omega)) (kpb (by omega))
  rw [if_neg g8]
  by_cases g10 : (rd_T68 code p).f0 = 10
  · rw [if_pos g10]
    by_cases hz : n (8 + b) = 0
    · rw [if_pos hz]
      exact ps_none10 hT hc0 hC hc3 hK hLoc hSz hO hoc hTo htc a b c N hpl g10 ha hb hc hN (kpb (by omega)) hz
    · rw [if_neg hz]
      obtain ⟨k2, k3, _⟩ := kk.loadP g10
      rw [hb, hN] at k3
      rw [hN] at k2
      obtain ⟨o, f, q1, q2, q3, q4, _⟩ := FLD (kpb (by omega)) rfl hz k2 k3
      have ef : fld objs (n (8 + b)) N = (objs.getD o []).getD f 0 := by unfold fld; rw [q1, q2]; simp
      rw [ef]
      exact ps_loadP hT hc0 hC hc3 hK hLoc hSz hO hoc hTo htc a b c o f hpl g10 ha hb hc (hN.trans q2) q3 q4 q1 (kpa (by omega)) (kpb (by omega))
  rw [if_neg g10]
  by_cases g9 : (rd_T68 code p).f0 = 9
  · rw [if_pos g9]
    by_cases hz : n (8 + a) = 0
    · rw [if_pos hz]
      exact ps_none9 hT hc0 hC hc3 hK hLoc hSz hO hoc hTo htc a b c N hpl g9 ha hb hc hN (kpa (by omega)) hz
    · rw [if_neg hz]
      obtain ⟨k2, k3, _⟩ := kk.storeI g9
      rw [ha, hN] at k3
      rw [hN] at k2
      obtain ⟨o, f, q1, q2, q3, q4, q5⟩ := FLD (kpa (by omega)) rfl hz k2 k3
      have ef : ∀ v, putF objs (n (8 + a)) N v = objs.set o ((objs.getD o []).set f v) := fun v => by unfold putF; rw [q1, q2]; simp
      rw [ef]
      exact ps_storeI hT hc0 hC hc3 hK hLoc hSz hO hoc hTo htc a b c o f hpl g9 ha hb hc (hN.trans q2) q3 q4 (by omega) q5 q1 (kpa (by omega)) (kib (by omega))
  rw [if_neg g9]
  have g11 : (rd_T68 code p).f0 = 11 := by omega
  by_cases hz : n (8 + a) = 0
  · rw [if_pos hz]
    exact ps_none11 hT hc0 hC hc3 hK hLoc hSz hO hoc hTo htc a b c N hpl g11 ha hb hc hN (kpa (by omega)) hz
  · rw [if_neg hz]
    obtain ⟨k2, k3, _⟩ := kk.storeP g11
    rw [ha, hN] at k3
    rw [hN] at k2
    obtain ⟨o, f, q1, q2, q3, q4, q5⟩ := FLD (kpa (by omega)) rfl hz k2 k3
    have ef : ∀ v, putF objs (n (8 + a)) N v = objs.set o ((objs.getD o []).set f v) := fun v => by unfold putF; rw [q1, q2]; simp
    rw [ef]
    exact ps_storeP hT hc0 hC hc3 hK hLoc hSz hO hoc hTo htc a b c o f hpl g11 ha hb hc (hN.trans q2) q3 q4 (by omega) q5 q1 (kpa (by omega)) (kpb (by omega))
end
end Go.Proofs.YtfkfpcciacplkaaDoor.ST

namespace Go.Proofs.YtfkfpcciacplkaaDoor.ST
open Go.RowKit Go.Proofs.YtfkfpcciacplkaaDoorW.PrintWords Go.Proofs.YtfkfpcciacplkaaDoor.Scan Go.Proofs.YtfkfpcciacplkaaDoor.F Go.Proofs.YtfkfpcciacplkaaDoor.KP Go.Proofs.YtfkfpcciacplkaaDoor.PL Go.Proofs.YtfkfpcciacplkaaDoor.ST0
set_option linter.unusedVariables false
set_option linter.unusedSectionVars false
theorem fst_eq {α β : Type} {a c : α} {b d : β} (e : (a, b) = (c, d)) : a = c := congrArg Prod.fst e
theorem stepN_pc {sz loc : Int → Int} {x : S68} {s u : PS} (e : stepN sz loc x s = some u) : u.pc = s.pc ∧ u.steps = s.steps := by
  unfold stepN at e
  by_cases o1 : x.f0 = 1
  · rw [if_pos o1] at e
    obtain rfl := Option.some.inj e
    exact ⟨rfl, rfl⟩
  rw [if_neg o1] at e
  by_cases o2 : x.f0 = 2
  · rw [if_pos o2] at e
    obtain rfl := Option.some.inj e
    exact ⟨rfl, rfl⟩
  rw [if_neg o2] at e
  by_cases o15 : x.f0 = 15
  · rw [if_pos o15] at e
    obtain rfl := Option.some.inj e
    exact ⟨rfl, rfl⟩
  rw [if_neg o15] at e
  by_cases o14 : x.f0 = 14
  · rw [if_pos o14] at e
    obtain rfl := Option.some.inj e
    exact ⟨rfl, rfl⟩
  rw [if_neg o14] at e
  by_cases o5 : x.f0 = 5
  · rw [if_pos o5] at e
    obtain rfl := Option.some.inj e
    exact ⟨rfl, rfl⟩
  rw [if_neg o5] at e
  by_cases o6 : x.f0 = 6
  · rw [if_pos o6] at e
    obtain rfl := Option.some.inj e
    exact ⟨rfl, rfl⟩
  rw [if_neg o6] at e
  by_cases o7 : x.f0 = 7
  · rw [if_pos o7] at e
    obtain rfl := Option.some.inj e
    exact ⟨rfl, rfl⟩
  rw [if_neg o7] at e
  by_cases o12 : x.f0 = 12
  · rw [if_pos o12] at e
    obtain rfl := Option.some.inj e
    exact ⟨rfl, rfl⟩
  rw [if_neg o12] at e
  by_cases o13 : x.f0 = 13
  · rw [if_pos o13] at e
    obtain rfl := Option.some.inj e
    exact ⟨rfl, rfl⟩
  rw [if_neg o13] at e
  by_cases o8 : x.f0 = 8
  · rw [if_pos o8] at e
    split at e
    · cases e
    · obtain rfl := Option.some.inj e
      exact ⟨rfl, rfl⟩
  rw [if_neg o8] at e
  by_cases o10 : x.f0 = 10
  · rw [if_pos o10] at e
    split at e
    · cases e
    · obtain rfl := Option.some.inj e
      exact ⟨rfl, rfl⟩
  rw [if_neg o10] at e
  by_cases o9 : x.f0 = 9
  · rw [if_pos o9] at e
    split at e
    · cases e
    · obtain rfl := Option.some.inj e
      exact ⟨rfl, rfl⟩
  rw [if_neg o9] at e
  split at e
  · cases e
  · obtain rfl := Option.some.inj e
    exact ⟨rfl, rfl⟩
theorem stepN_len {sz loc : Int → Int} {x : S68} {s u : PS} (e : stepN sz loc x s = some u) : u.objs.length ≤ s.objs.length + 1 ∧ u.out.length ≤ s.out.length + 1 ∧ s.objs.length ≤ u.objs.length := by
  have hp : ∀ o f v, (putF s.objs o f v).length = s.objs.length := fun o f v => by unfold putF; rw [List.length_set]
  unfold stepN at e
  by_cases o1 : x.f0 = 1
  · rw [if_pos o1] at e
    obtain rfl := Option.some.inj e
    exact ⟨Nat.le_succ _, Nat.le_succ _, Nat.le_refl _⟩
  rw [if_neg o1] at e
  by_cases o2 : x.f0 = 2
  · rw [if_pos o2] at e
    obtain rfl := Option.some.inj e
    exact ⟨Nat.le_succ _, Nat.le_succ _, Nat.le_refl _⟩
  rw [if_neg o2] at e
  by_cases o15 : x.f0 = 15
  · rw [if_pos o15] at e
    obtain rfl := Option.some.inj e
    exact ⟨Nat.le_succ _, Nat.le_succ _, Nat.le_refl _⟩
  rw [if_neg o15] at e
  by_cases o14 : x.f0 = 14
  · rw [if_pos o14] at e
    obtain rfl := Option.some.inj e
    exact ⟨Nat.le_succ _, by simp, Nat.le_refl _⟩
  rw [if_neg o14] at e
  by_cases o5 : x.f0 = 5
  · rw [if_pos o5] at e
    obtain rfl := Option.some.inj e
    exact ⟨by simp, Nat.le_succ _, by simp⟩
  rw [if_neg o5] at e
  by_cases o6 : x.f0 = 6
  · rw [if_pos o6] at e
    obtain rfl := Option.some.inj e
    exact ⟨Nat.le_succ _, Nat.le_succ _, Nat.le_refl _⟩
  rw [if_neg o6] at e
  by_cases o7 : x.f0 = 7
  · rw [if_pos o7] at e
    obtain rfl := Option.some.inj e
    exact ⟨Nat.le_succ _, Nat.le_succ _, Nat.le_refl _⟩
  rw [if_neg o7] at e
  by_cases o12 : x.f0 = 12
  · rw [if_pos o12] at e
    obtain rfl := Option.some.inj e
    exact ⟨Nat.le_succ _, Nat.le_succ _, Nat.le_refl _⟩
  rw [if_neg o12] at e
  by_cases o13 : x.f0 = 13
  · rw [if_pos o13] at e
    obtain rfl := Option.some.inj e
    exact ⟨Nat.le_succ _, Nat.le_succ _, Nat.le_refl _⟩
  rw [if_neg o13] at e
  by_cases o8 : x.f0 = 8
  · rw [if_pos o8] at e
    split at e
    · cases e
    · obtain rfl := Option.some.inj e
      exact ⟨Nat.le_succ _, Nat.le_succ _, Nat.le_refl _⟩
  rw [if_neg o8] at e
  by_cases o10 : x.f0 = 10
  · rw [if_pos o10] at e
    split at e
    · cases e
    · obtain rfl := Option.some.inj e
      exact ⟨Nat.le_succ _, Nat.le_succ _, Nat.le_refl _⟩
  rw [if_neg o10] at e
  by_cases o9 : x.f0 = 9
  · rw [if_pos o9] at e
    split at e
    · cases e
    · obtain rfl := Option.some.inj e
      exact ⟨by rw [hp]; exact Nat.le_succ _, Nat.le_succ _, by rw [hp]; exact Nat.le_refl _⟩
  rw [if_neg o9] at e
  split at e
  · cases e
  · obtain rfl := Option.some.inj e
    exact ⟨by rw [hp]; exact Nat.le_succ _, Nat.le_succ _, by rw [hp]; exact Nat.le_refl _⟩
structure SInv (ts : List ByteArray) (la gl : ByteArray) (code : List S68) (i : Nat) (s : PS) : Prop where
  pc0 : 0 ≤ s.pc
  pc1 : s.pc ≤ code.length
  wt : ∃ ty, WT (atv ts la) (atv ts gl) (size ts) (to_ ts) ty s
  objs : s.objs.length ≤ i
  out : s.out.length ≤ i
def PS0 : PS := ⟨fun _ => 0, [], [], 0, 0⟩
theorem SInv.start (ts : List ByteArray) (la gl : ByteArray) (code : List S68) : SInv ts la gl code 0 PS0 := ⟨Int.le_refl _, Int.natCast_nonneg _, ⟨[], WT.start _ _ _ _⟩, Nat.le_refl _, Nat.le_refl _⟩
theorem SInv.step {p : Pg} (h : SpP p) (hw : WfC p.code) {i : Nat} {s u : PS} (hI : SInv p.ts p.la p.gl p.code i s) (e : stepP (size p.ts) (atv p.ts p.la) p.code s = (u, false, 0)) : s.pc < p.code.length ∧ SInv p.ts p.la p.gl p.code (i + 1) u := by
  have hlt : s.pc < p.code.length := by
    rcases Int.lt_or_le s.pc p.code.length with h' | h'
    · exact h'
    · have : s.pc = p.code.length := by have := hI.pc1; omega
      unfold stepP at e
      rw [if_pos this] at e
      have := congrArg (fun p => p.2.1) e
      simp at this
  obtain ⟨ty, hty⟩ := hI.wt
  have h0 := hI.pc0
  obtain ⟨q, hq⟩ := Int.eq_ofNat_of_zero_le h0
  have hql : q < p.code.length := by omega
  have hx := hw.rd q hql
  have kk := SpP.kk h q hql
  obtain ⟨o, eo, qq⟩ := h.all q hql
  have hop := qq.op
  have hj := qq.jump
  have ho := hI.objs
  have ht := hI.out
  unfold stepP at e
  rw [if_neg (by omega), hq] at e
  by_cases hc : (rd_T68 p.code q).f0 = 3 ∨ ((rd_T68 p.code q).f0 = 4 ∧ s.n (rd_T68 p.code q).f1.toNat = 0)
  · rw [if_pos hc] at e
    obtain rfl := fst_eq e
    have := hj (by omega)
    exact ⟨hlt, this.1, this.2, ⟨ty, hty.pc _ _ _⟩, Nat.le_succ_of_le ho, Nat.le_succ_of_le ht⟩
  · rw [if_neg hc] at e
    by_cases h4 : (rd_T68 p.code q).f0 = 4
    · rw [if_pos h4] at e
      obtain rfl := fst_eq e
      exact ⟨hlt, by show (0 : Int) ≤ (q : Int) + 1; omega, by show (q : Int) + 1 ≤ _; omega, ⟨ty, hty.pc _ _ _⟩, Nat.le_succ_of_le ho, Nat.le_succ_of_le ht⟩
    · rw [if_neg h4] at e
      split at e
      · rename_i w hw'
        obtain rfl := fst_eq e
        have h5 := stepN_len hw'
        have h6 := (stepN_pc hw').1
        simp only at h5 h6
        exact ⟨hlt, by rw [h6]; omega, by rw [h6]; omega, stepN_wt kk hx.2.1.1 hx.2.2.1.1 (by omega) ⟨fun hh => hc (.inl hh), h4⟩ (hty.pc ((q : Int) + 1) (wrap64 (s.steps + 1)) s.out) hw', by omega, by omega⟩
      · have := congrArg (fun p => p.2.2) e
        simp at this
def runP (sz loc : Int → Int) (code : List S68) : Nat → PS → List Int × Int
  | 0, s => if (stepP sz loc code s).2.1 = true ∨ (stepP sz loc code s).2.2 ≠ 0 then (s.out, (stepP sz loc code s).2.2) else (s.out, 10)
  | k + 1, s => if (stepP sz loc code s).2.1 = true ∨ (stepP sz loc code s).2.2 ≠ 0 then (s.out, (stepP sz loc code s).2.2) else runP sz loc code k (stepP sz loc code s).1
structure LW (Ws wr : World) (s : PS) (cs : Array Value) : Prop where
  below : Below Ws.heap.size Ws wr
  row : wr.heap[Ws.heap.size]? = some (.cells cs 102 (0, 0))
  is : IsS wr (fun k => k ≠ Ws.heap.size) s cs
theorem LW.start (Ws : World) : LW Ws (Ws.alloc (.cells #[.int .i64 0, .int .i64 0, .int .i64 0, .int .i64 0, .int .i64 0, .int .i64 0, .int .i64 0, .int .i64 0, .int .i64 0, .int .i64 0, .int .i64 0, .int .i64 0, .int .i64 0, .int .i64 0, .int .i64 0, .int .i64 0, .int .i64 0, .int .i64 0, .int .i64 0, .int .i64 0, .slice none 0 0, .slice none 0 0, .int .i64 0, .int .i64 0] 102)) PS0 #[.int .i64 0, .int .i64 0, .int .i64 0, .int .i64 0, .int .i64 0, .int .i64 0, .int .i64 0, .int .i64 0, .int .i64 0, .int .i64 0, .int .i64 0, .int .i64 0, .int .i64 0, .int .i64 0, .int .i64 0, .int .i64 0, .int .i64 0, .int .i64 0, .int .i64 0, .int .i64 0, .slice none 0 0, .slice none 0 0, .int .i64 0, .int .i64 0] :=
  ⟨below_alloc (Below.refl _ _) _, heap_alloc_new _ _, none, [], 0, none, 0, rfl, Nat.le_refl _, Nat.le_refl _, fun W' _ => Objs.none W', fun W' _ => Kd.C_nil _ W'⟩
theorem LW.next {Ws wr w4 : World} {s u : PS} {cs cs' : Array Value} (h : LW Ws wr s cs) (hb : Below wr.heap.size wr w4) (hu : IsS w4 (fun k => k ≠ Ws.heap.size ∨ wr.heap.size ≤ k) u cs') (o : Obj) :
    LW Ws ((w4.alloc o).setRow Ws.heap.size cs') u cs' := by
  have hlt : Ws.heap.size < wr.heap.size := (Array.getElem?_eq_some_iff.1 h.row).1
  have h4 : w4.heap[Ws.heap.size]? = some (.cells cs 102 (0, 0)) := (hb.block _ hlt).trans h.row
  have hsz := hb.size
  refine ⟨below_row (below_alloc (below_step h.below hb) _) (Nat.le_refl _), ?_, ?_⟩
  · exact setRow_heap _ _ _ _ _ _ ((heap_old2 w4 o (by omega)).trans h4)
  · refine (hu.step fun k hk hl => ⟨?_, ?_⟩).mono fun k hk => (by rcases hk with hk | hk <;> omega)
    · exact (setRow_other _ _ k _ (by rcases hk with hk | hk <;> omega)).trans (heap_old2 w4 o hl)
    · simp
      omega
theorem LW.cell {Ws wr : World} {s : PS} {cs : Array Value} (h : LW Ws wr s cs) : ∃ oA hs oc tA tc, cs = stA s.n (.slice oA (hs : List Hd).length oc) (.slice tA s.out.length tc) s.pc s.steps ∧ hs.length = s.objs.length ∧
    (∀ j v, (stA s.n (.slice oA hs.length oc) (.slice tA s.out.length tc) s.pc s.steps)[j]? = some v → wr.cell? ⟨Ws.heap.size, j, none⟩ = some v) := by
  obtain ⟨oA, hs, oc, tA, tc, e, h1, h2, h3, h4⟩ := h.is
  refine ⟨oA, hs, oc, tA, tc, e, h3.now.len, fun j v hv => ?_⟩
  rw [cell_of_row _ _ j _ _ _ h.row, e]
  exact hv
theorem IsS.size {w : World} {P : Nat → Prop} {s : PS} {cs : Array Value} (h : IsS w P s cs) : cs.size = 24 := by
  obtain ⟨oA, hs, oc, tA, tc, rfl, _⟩ := h
  rfl
theorem IsS.one {w : World} {P : Nat → Prop} {s : PS} {cs : Array Value} (h : IsS w P s cs) : cs.toList.all (·.oneCell') = true := by
  obtain ⟨oA, hs, oc, tA, tc, rfl, _⟩ := h
  rfl
end Go.Proofs.YtfkfpcciacplkaaDoor.ST

namespace Go.Proofs.YtfkfpcciacplkaaDoor.MS
open Go.RowKit Go.Proofs.YtfkfpcciacplkaaDoorW.PrintWords Go.Proofs.YtfkfpcciacplkaaDoor.ST0 Go.Proofs.YtfkfpcciacplkaaDoor.ST Go.Proofs.YtfkfpcciacplkaaDoor.PL Go.Proofs.YtfkfpcciacplkaaDoor.KP Go.Proofs.YtfkfpcciacplkaaDoor.F
set_option linter.unusedVariables false
set_option linter.unusedSectionVars false
section
variable {sz loc : Int → Int} {code : List S68} {s : PS} {o a b c : Nat} {N : Int} (hpc : s.pc < code.length) (hx : rd_T68 code s.pc = ⟨o, a, b, c, N⟩)
include hpc hx
theorem step_n (h3 : o ≠ 3) (h4 : o ≠ 4) : stepP sz loc code s = match stepN sz loc ⟨o, a, b, c, N⟩ { s with pc := s.pc + 1, steps := wrap64 (s.steps + 1) } with | some u => (u, false, 0) | none => (s, false, 9) := by
  unfold stepP
  rw [if_neg (by omega), hx, if_neg (by simp only; omega), if_neg (by simp only; omega)]
  cases stepN sz loc ⟨o, a, b, c, N⟩ { s with pc := s.pc + 1, steps := wrap64 (s.steps + 1) } <;> rfl
theorem rowP_step (h : RowOk o a b c) : stepP sz loc code s = ({ s with n := (rowP o a b c N s.n s.pc).1, pc := (rowP o a b c N s.n s.pc).2, steps := wrap64 (s.steps + 1) }, false, 0) := by
  rcases h with ⟨rfl, ha⟩ | ⟨rfl, ha, hb, hc⟩ | rfl | ⟨rfl, ha⟩ | ⟨rfl, ha⟩ | ⟨rfl, ha, hb⟩ | ⟨rfl, ha, hb⟩ | ⟨rfl, ha, hb⟩ | ⟨rfl, ha, hb, hc⟩
  · rw [step_n hpc hx (by decide) (by decide)]
    simp [stepN, rowP]
  · rw [step_n hpc hx (by decide) (by decide)]
    simp [stepN, rowP]
  · unfold stepP
    rw [if_neg (by omega), hx]
    simp [rowP]
  · unfold stepP
    rw [if_neg (by omega), hx]
    by_cases hz : s.n a = 0
    · simp [rowP, hz]
    · simp [rowP, hz]
  · rw [step_n hpc hx (by decide) (by decide)]
    simp [stepN, rowP]
  · rw [step_n hpc hx (by decide) (by decide)]
    simp [stepN, rowP]
  · rw [step_n hpc hx (by decide) (by decide)]
    simp [stepN, rowP]
  · rw [step_n hpc hx (by decide) (by decide)]
    simp [stepN, rowP]
  · rw [step_n hpc hx (by decide) (by decide)]
    simp [stepN, rowP]
end
def DoR (p : Pg) (w : World) (g B : Nat) (s : PS) (e : Ending) (w' : World) : Prop :=
  ∃ r u, e = .returned (.int .i64 r) ∧ MS w' g B u ∧ Ch (fun k => k = g ∨ B ≤ k) w w' ∧ (stepP (size p.ts) (atv p.ts p.la) p.code s).2 = (false, r) ∧ (r = 0 → u = (stepP (size p.ts) (atv p.ts p.la) p.code s).1) ∧ u.out.take s.out.length = s.out ∧ s.out.length ≤ u.out.length
section
variable (p : Pg) (w0 w : World) (g B : Nat) (s : PS) (i : Nat) (hp : p.On w0) (hb0 : Below w0.heap.size w0 w) (hg0 : w0.heap.size ≤ g) (hM : MS w g B s) (hI : SInv p.ts p.la p.gl p.code i s) (hi : i ≤ 900000) (hlt : s.pc < p.code.length) (hs : SpP p) (o a b c : Nat) (N : Int) (hx : rd_T68 p.code s.pc = ⟨o, a, b, c, N⟩)
include hp hb0 hg0 hM hI hi hlt hs hx
theorem do_c : Calls Tryd.prog 49 #[.pointer (some ⟨g, 0, none⟩), p.v, .agg #[.int .u8 o, .int .u8 a, .int .u8 b, .int .u8 c, .int .i64 N]] w (DoR p w g B s) := by
  obtain ⟨oA, hds, oc, tA, tc, h⟩ := hM
  have h0 := hI.pc0
  have h200 := hs.len.2
  have hob := hI.objs
  have hou := hI.out
  have hlen := h.len
  obtain ⟨ty, hty⟩ := hI.wt
  have htl := hty.len
  have hw := hp.hw
  obtain ⟨q, hq⟩ := Int.eq_ofNat_of_zero_le h0
  have hql : q < p.code.length := by omega
  have kk := SpP.kk hs q hql
  rw [← hq, hx] at kk
  obtain ⟨o', eo, qq⟩ := hs.all q hql
  have hop := qq.op
  rw [← hq, hx] at eo
  simp only at eo
  have eo : o = o' := by omega
  rw [← eo] at hop
  have row : RowOk o a b c → Calls Tryd.prog 49 #[.pointer (some ⟨g, 0, none⟩), p.v, .agg #[.int .u8 o, .int .u8 a, .int .u8 b, .int .u8 c, .int .i64 N]] w (DoR p w g B s) := fun hr => by
    refine (do_row w g s.n _ _ s.pc s.steps h.row h0 (by omega) p.A0 p.ts.length p.c0 p.la p.gl p.A3 p.code.length p.c3 o a b c N hr).mono ?_
    rintro e w' ⟨rfl, hr', hc⟩
    have hstep := rowP_step (sz := size p.ts) (loc := atv p.ts p.la) hlt hx hr
    exact ⟨0, _, rfl, ⟨_, _, _, _, _, h.next hc hr'⟩, hc.mono fun k e => .inl e, by rw [hstep], fun _ => by rw [hstep], List.take_length, Nat.le_refl _⟩
  have ia := kk.ia
  have ib := kk.ib
  have ic := kk.ic
  have pa := kk.pa
  have pb := kk.pb
  have pc := kk.pc
  have ga := kk.ga
  have gb := kk.gb
  simp only at ia ib ic pa pb pc ga gb
  have ob : ∀ P t : Int, Pt ty t P → P ≠ 0 → ∃ k : Nat, P = (k : Int) + 1 ∧ k < hds.length ∧ (s.objs.getD k []).length = (size p.ts t).toNat := fun P t hP hn => by
    rcases hP with h' | ⟨h1, h2, h3⟩
    · exact absurd h' hn
    · refine ⟨(P - 1).toNat, by omega, by omega, ?_⟩
      rw [hty.os _ (by omega), h3]
  have cases15 : o = 1 ∨ o = 2 ∨ o = 3 ∨ o = 4 ∨ o = 5 ∨ o = 6 ∨ o = 7 ∨ (o = 8 ∨ o = 10) ∨ (o = 9 ∨ o = 11) ∨ o = 12 ∨ o = 13 ∨ o = 14 ∨ o = 15 := by omega
  rcases cases15 with e | e | e | e | e | e | e | e | e | e | e | e | e
  · exact row (.inl ⟨e, by have := ia (by omega); omega⟩)
  · exact row (.inr (.inl ⟨e, by have := ia (by omega); omega, by have := ib (by omega); omega, by have := ic (by omega); omega⟩))
  · exact row (.inr (.inr (.inl e)))
  · exact row (.inr (.inr (.inr (.inl ⟨e, by have := ia (by omega); omega⟩))))
  · subst e
    have ha := pa (by omega)
    refine (do_new p w0 w g B s oA hds oc tA tc hp hb0 hg0 h h0 (by omega) a b c N (by omega) (by omega)).mono ?_
    rintro e w' ⟨rfl, hMS, hc⟩
    have hstep := step_n (sz := size p.ts) (loc := atv p.ts p.la) hlt hx (by decide) (by decide)
    simp [stepN] at hstep
    exact ⟨0, _, rfl, hMS, hc, by rw [hstep], fun _ => by rw [hstep]; rfl, List.take_length, Nat.le_refl _⟩
  · exact row (.inr (.inr (.inr (.inr (.inl ⟨e, by have := pa (by omega); omega⟩)))))
  · exact row (.inr (.inr (.inr (.inr (.inr (.inl ⟨e, by have := pa (by omega); omega, by have := pb (by omega); omega⟩))))))
  · have hb8 := pb (by omega)
    have hP := hty.ps b (by omega)
    by_cases hz : s.n (8 + b) = 0
    · refine (do_load w g s.n _ _ s.pc s.steps h.row h0 (by omega) p.A0 p.ts.length p.c0 p.la p.gl p.A3 p.code.length p.c3 o a b c N (by omega) (DoR p w g B s) fun W hW hc => ?_)
      refine (load_zero W g s.n _ _ _ _ hW a b c o N (by omega) hz).mono ?_
      rintro e2 w' ⟨rfl, hb⟩
      refine ⟨9, rfl, 9, _, rfl, ⟨_, _, _, _, _, h.next (hc.trans (.of hb)) ((hb.block g (blk_lt hW)).trans hW)⟩, (hc.trans (.of hb)).mono fun k e => .inl e, ?_, fun h => absurd h (by decide), List.take_length, Nat.le_refl _⟩
      rw [step_n (sz := size p.ts) (loc := atv p.ts p.la) hlt hx (by omega) (by omega)]
      rcases e with rfl | rfl <;> simp [stepN, hz]
    · obtain ⟨k, ek, hk, hkl⟩ := ob _ _ hP hz
      have hf : 0 ≤ N ∧ N < size p.ts (atv p.ts p.la b) := by
        rcases e with rfl | rfl
        · exact ⟨(kk.loadI rfl).2.1, (kk.loadI rfl).2.2⟩
        · exact ⟨(kk.loadP rfl).1, (kk.loadP rfl).2.1⟩
      obtain ⟨f, rfl⟩ := Int.eq_ofNat_of_zero_le hf.1
      have hfl : f < (s.objs.getD k []).length := by omega
      obtain ⟨gh, hB, cap, xs, rfl, hA, hcell, hblk, hne, hv⟩ := h.at_ hk (by omega)
      have ha8 : a < 8 := by
        rcases e with rfl | rfl
        · have := ia (by omega)
          omega
        · have := pa (by omega)
          omega
      have hgB := h.gB
      have hhB := own_base (h.obj k hk) hB hA
      have hghB := own_base h.hd gh rfl
      refine (do_load w g s.n _ _ s.pc s.steps h.row h0 (by omega) p.A0 p.ts.length p.c0 p.la p.gl p.A3 p.code.length p.c3 o a b c f (by omega) (DoR p w g B s) fun W hW hc => ?_)
      have hcell' : W.cell? ((⟨gh, 0, none⟩ : Addr).add k) = some (.slice (some ⟨hB, 0, none⟩) (s.objs.getD k []).length cap) := (World.cell?_of_block (hc.block _ (World.block_lt_of_cell? w _ hcell) (by rw [Addr.add_lit]; show gh ≠ g; omega))).trans hcell
      have hblk' := (hc.block hB (blk_lt hblk) hne).trans hblk
      have hv' : W.cell? ((⟨hB, 0, none⟩ : Addr).add f) = some (.int .i64 ((s.objs.getD k []).getD f 0)) := by
        rw [Addr.add_lit, Nat.zero_add, cell_of_row W hB f xs _ _ hblk']
        exact hv f hfl
      refine (load_c W g s.n _ _ _ ⟨gh, 0, none⟩ ⟨hB, 0, none⟩ hds.length oc (s.objs.getD k []).length cap hW a b c k f _ hk hfl (by omega) hcell' hv' ha8 (by omega) ek o e).mono ?_
      rintro e2 w' ⟨rfl, hr', hc'⟩
      refine ⟨0, rfl, 0, _, rfl, ⟨_, _, _, _, _, h.next (hc.trans hc') hr'⟩, (hc.trans hc').mono fun k e => .inl e, ?_, fun _ => ?_, List.take_length, Nat.le_refl _⟩
      all_goals
        rw [step_n (sz := size p.ts) (loc := atv p.ts p.la) hlt hx (by omega) (by omega)]
        rcases e with rfl | rfl <;> (simp [stepN, fld, ek]; rw [if_neg (by omega)])
  · have ha8 := pa (by omega)
    have hP := hty.ps a (by omega)
    by_cases hz : s.n (8 + a) = 0
    · refine (do_store w g s.n _ _ s.pc s.steps h.row h0 (by omega) p.A0 p.ts.length p.c0 p.la p.gl p.A3 p.code.length p.c3 o a b c N (by omega) (DoR p w g B s) fun W hW hc => ?_)
      refine (store_zero W g s.n _ _ _ _ hW a b c o N (by omega) hz).mono ?_
      rintro e2 w' ⟨rfl, hb⟩
      refine ⟨9, rfl, 9, _, rfl, ⟨_, _, _, _, _, h.next (hc.trans (.of hb)) ((hb.block g (blk_lt hW)).trans hW)⟩, (hc.trans (.of hb)).mono fun k e => .inl e, ?_, fun h => absurd h (by decide), List.take_length, Nat.le_refl _⟩
      rw [step_n (sz := size p.ts) (loc := atv p.ts p.la) hlt hx (by omega) (by omega)]
      rcases e with rfl | rfl <;> simp [stepN, hz]
    · obtain ⟨k, ek, hk, hkl⟩ := ob _ _ hP hz
      have hf : 0 ≤ N ∧ N < size p.ts (atv p.ts p.la a) := by
        rcases e with rfl | rfl
        · exact ⟨(kk.storeI rfl).1, (kk.storeI rfl).2.1⟩
        · exact ⟨(kk.storeP rfl).1, (kk.storeP rfl).2.1⟩
      obtain ⟨f, rfl⟩ := Int.eq_ofNat_of_zero_le hf.1
      have hfl : f < (s.objs.getD k []).length := by omega
      obtain ⟨gh, hB, cap, xs, rfl, hA, hcell, hblk, hne, hv⟩ := h.at_ hk (by omega)
      have hb8 : b < 8 := by
        rcases e with rfl | rfl
        · have := ib (by omega)
          omega
        · have := pb (by omega)
          omega
      have hgB := h.gB
      have hhB := own_base (h.obj k hk) hB hA
      have hghB := own_base h.hd gh rfl
      refine (do_store w g s.n _ _ s.pc s.steps h.row h0 (by omega) p.A0 p.ts.length p.c0 p.la p.gl p.A3 p.code.length p.c3 o a b c f (by omega) (DoR p w g B s) fun W hW hc => ?_)
      have hM1 := h.next hc hW
      have hcell' : W.cell? ((⟨gh, 0, none⟩ : Addr).add k) = some (.slice (some ⟨hB, 0, none⟩) (s.objs.getD k []).length cap) := (World.cell?_of_block (hc.block _ (World.block_lt_of_cell? w _ hcell) (by rw [Addr.add_lit]; show gh ≠ g; omega))).trans hcell
      have hblk' := (hc.block hB (blk_lt hblk) hne).trans hblk
      refine (store_c W g s.n _ _ _ ⟨gh, 0, none⟩ hB xs _ hds.length oc (s.objs.getD k []).length cap hW a b c k f _ hk hfl (by omega) hcell' hblk' (hv f hfl) hne (by omega) hb8 ek o e).mono ?_
      rintro e2 w' ⟨rfl, hr', hx', hc'⟩
      have hM2 := hM1.put hk hA hblk' hc' hx' hfl
      refine ⟨0, rfl, 0, _, rfl, ⟨_, _, _, _, _, hM2⟩, (hc.mono fun k e => .inl e).trans (hc'.mono fun k e => .inr (by omega)), ?_, fun _ => ?_, List.take_length, Nat.le_refl _⟩
      all_goals
        rw [step_n (sz := size p.ts) (loc := atv p.ts p.la) hlt hx (by omega) (by omega)]
        rcases e with rfl | rfl <;> (simp [stepN, putF, ek]; rw [if_neg (by omega)])
  · exact row (.inr (.inr (.inr (.inr (.inr (.inr (.inl ⟨e, by have := pa (by omega); omega, by have := gb (by omega); omega⟩)))))))
  · exact row (.inr (.inr (.inr (.inr (.inr (.inr (.inr (.inl ⟨e, by have := ga (by omega); omega, by have := pb (by omega); omega⟩))))))))
  · subst e
    have ha := ia (by omega)
    refine (do_print_c w g s.n _ tA tc s.out s.pc s.steps h.row h0 (by omega) p.A0 p.ts.length p.c0 p.la p.gl p.A3 p.code.length p.c3 a b c N B h.out h.gB h.Bw (by omega) ha).mono ?_
    rintro e w' ⟨rfl, g', cap, hr', ho', hat, hc⟩
    have hstep := step_n (sz := size p.ts) (loc := atv p.ts p.la) hlt hx (by decide) (by decide)
    simp [stepN] at hstep
    refine ⟨0, _, rfl, ⟨_, _, _, _, _, h.print hr' ho' hat hc⟩, hc.mono fun k hk => ?_, by rw [hstep], fun _ => by rw [hstep], by simp, by simp⟩
    rcases hk with e | e
    · exact .inl e
    · exact .inr (own_base h.out k e)
  · exact row (.inr (.inr (.inr (.inr (.inr (.inr (.inr (.inr ⟨e, by have := ia (by omega); omega, by have := pb (by omega); omega, by have := pc (by omega); omega⟩))))))))
end
end Go.Proofs.YtfkfpcciacplkaaDoor.MS

/- Texts of this claim, pruned to what it needs and laid together by prune.py. -/
import Derived.Test.YtocechpmgfhenaaGreatDoorPC23
import Derived.Test.YtocechpmgfhenaaGreatDoorPC24
import Derived.Test.YtocechpmgfhenaaGreatDoorPC1
import Derived.Test.YtocechpmgfhenaaGreatDoorPC2
import Derived.Test.YtocechpmgfhenaaGreatDoorPC21
import Derived.Test.YtocechpmgfhenaaGreatDoorProg
import Derived.WalkKit
import Derived.KernelRfl
import Derived.RowKit3
import Derived.Laws.Rows
import Derived.Below
import Derived.Deep.Draws
import Derived.Deep.AppendLies
import Derived.Maps.AppendAt
import Derived.OwnWalk
import Derived.Laws.BytesArg
import Derived.Laws.MakeOwn
import Derived.Laws.OwnMore
import Derived.Deep.OwnRows
import Derived.Tactics
import Derived.Lib.ConvBytes
import Derived.Laws.Slices
import Derived.Deep.LoopGhost
import Derived.Deep.QuietTactic
import Derived.BigQuiet
import Derived.WideLaws
import Derived.Deep.DeepCutAuto
import Derived.Deep.CutBlock
import Derived.Deep.RegionHeld3
import Derived.Lib.AppendStr
import Derived.ArgAppend
import Derived.Laws.IdiomCopy
import Derived.OrdersHeld
import Derived.Laws.BitsLemmas
import Derived.RowKit
import Derived.Test.YtocechpmgfhenaaGreatDoorPC3
import Derived.Test.YtocechpmgfhenaaGreatDoorPC4
import Derived.Test.YtocechpmgfhenaaGreatDoorPC5
import Derived.Test.YtocechpmgfhenaaGreatDoorPC6
import Derived.Test.YtocechpmgfhenaaGreatDoorPC7
import Derived.Test.YtocechpmgfhenaaGreatDoorPC8
import Derived.Test.YtocechpmgfhenaaGreatDoorPC9
import Derived.Test.YtocechpmgfhenaaGreatDoorPC10
import Derived.Test.YtocechpmgfhenaaGreatDoorPC11
import Derived.Test.YtocechpmgfhenaaGreatDoorPC12
import Derived.Test.YtocechpmgfhenaaGreatDoorPC13
import Derived.Test.YtocechpmgfhenaaGreatDoorPC14
import Derived.Test.YtocechpmgfhenaaGreatDoorPC15
import Derived.Test.YtocechpmgfhenaaGreatDoorPC16
import Derived.Test.YtocechpmgfhenaaGreatDoorPC17
import Derived.Test.YtocechpmgfhenaaGreatDoorPC18
import Derived.Test.YtocechpmgfhenaaGreatDoorPC19
import Derived.Test.YtocechpmgfhenaaGreatDoorPC20
import Derived.SizedLaws
import Derived.ChangeArms
import Derived.Test.YtocechpmgfhenaaGreatDoorPC0
import Derived.Sort.OwnSortedInts
import Derived.OneCell
import Derived.RegionTactic
import Derived.Deep.RegionWith
import Derived.StillTailTactics
namespace Go.Proofs.YtocechpmgfhenaaGreatDoor.KP
open Go.RowKit Go.Proofs.YtocechpmgfhenaaGreatDoorW.PrintWords Go.Proofs.YtocechpmgfhenaaGreatDoor.Scan Go.Proofs.YtocechpmgfhenaaGreatDoor.F
def dg (c n : Int) : Int := if 48 ≤ c ∧ c - 48 < n then c - 48 else -1
theorem ref_digit_val {c n : Int} (h0 : 0 ≤ c) (h1 : c ≤ 255) : lockstitchref03_digit.f c n = some (dg c n) := by
  unfold lockstitchref03_digit.f dg
  by_cases h : c < 48
  · rw [if_pos h, if_neg (by omega)]
  · have e : (c - 48) % 256 = c - 48 := by omega
    rw [if_neg h, e]
    by_cases h' : c - 48 < n
    · rw [if_neg (by omega), if_pos (by omega)]
    · rw [if_pos (by omega), if_neg (by omega)]
def OkC (n c : Int) : Prop := c = 105 ∨ 0 ≤ dg c n
instance (n c : Int) : Decidable (OkC n c) := by unfold OkC; infer_instance
def AllC (n : Int) (s : ByteArray) : Prop := ∀ j : Int, 0 ≤ j → j < s.size → OkC n (bt s j)
def AllD (n : Int) (s : ByteArray) : Prop := ∀ j : Int, 0 ≤ j → j < s.size → 0 ≤ dg (bt s j) n
def OkT (n : Int) (s : ByteArray) : Prop := 1 ≤ s.size ∧ s.size ≤ 6 ∧ AllC n s
def Rt (ts : List ByteArray) : Prop := (∀ i : Int, 0 ≤ i → i < ts.length → OkT ts.length (rdOf ByteArray.empty ts i)) ∧ 1 ≤ ts.length ∧ ts.length ≤ 8
open Classical in
noncomputable def right (ts : List ByteArray) : Bool := decide (Rt ts)
open Classical in
noncomputable def refs (ts : List ByteArray) (s : ByteArray) : Bool := decide (Rt ts ∧ AllD ts.length s)
theorem right_iff (ts : List ByteArray) : right ts = true ↔ Rt ts := by simp [right]
theorem refs_iff (ts : List ByteArray) (s : ByteArray) : refs ts s = true ↔ Rt ts ∧ AllD ts.length s := by simp [refs]
theorem wrap_succ {i n : Int} (h0 : 0 ≤ i) (h : i < n) (hn : n ≤ 9223372036854775807) : wrap64 (i + 1) = i + 1 := by unfold wrap64; omega
theorem toList_nil (s : ByteArray) : s.toList = [] ↔ s.size = 0 := by
  rw [ByteArray.toList_eq]
  constructor
  · intro h
    have := data_length s
    rw [h] at this
    simpa using this.symm
  · intro h
    have := data_length s
    rw [h] at this
    exact List.length_eq_zero_iff.1 this
theorem rd_size (ts : List ByteArray) (hs : ∀ s ∈ ts, (s.size : Int) ≤ 9223372036854775807) (i : Int) : ((rdOf ByteArray.empty ts i).size : Int) ≤ 9223372036854775807 := by
  unfold rdOf
  rw [List.getD_eq_getElem?_getD]
  cases h : ts[i.toNat]? with
  | none => simp
  | some s => exact hs s (List.mem_of_getElem? h)
theorem ref_l1_step (ts : List ByteArray) (i : Int) (s : ByteArray) (hz : (s.size : Int) ≤ 9223372036854775807) (j : Int) (q : Bool) (h0 : 0 ≤ j) (h1 : j < s.size) (hk : OkC ts.length (bt s j))
    (hq : Ev (fun k => lockstitchref03_Right.l1 k ts i s (j + 1)) q) : Ev (fun k => lockstitchref03_Right.l1 k ts i s j) q := by
  refine ev_step (fun k => ?_) hq
  have hb := bt_range s j
  show lockstitchref03_Right.l1 (k + 1) ts i s j = lockstitchref03_Right.l1 k ts i s (j + 1)
  rw [lockstitchref03_Right.l1, if_pos h1, if_pos h0, wrap_succ h0 h1 hz]
  by_cases hc : bt s j = 105
  · rw [if_pos hc]
  · rw [if_neg hc, ref_digit_val hb.1 hb.2, Option.bind_some, if_neg (by have := hk.resolve_left hc; omega)]
theorem ref_l1_bad (ts : List ByteArray) (i : Int) (s : ByteArray) (j : Int) (h0 : 0 ≤ j) (h1 : j < s.size) (hk : ¬ OkC ts.length (bt s j)) :
    Ev (fun k => lockstitchref03_Right.l1 k ts i s j) false := by
  refine ev_some fun k => ?_
  have hb := bt_range s j
  rw [lockstitchref03_Right.l1, if_pos h1, if_pos h0]
  rw [if_neg (fun hc => hk (.inl hc)), ref_digit_val hb.1 hb.2, Option.bind_some, if_pos (by have : ¬ 0 ≤ dg (bt s j) ts.length := fun hd => hk (.inr hd); omega)]
theorem ref_Right_ev (ts : List ByteArray) (hl : (ts.length : Int) ≤ 9223372036854775807) (hs : ∀ s ∈ ts, (s.size : Int) ≤ 9223372036854775807) : Ev (fun k => lockstitchref03_Right.f k ts) (right ts) := by
  classical
  have H1 : ∀ i q, 0 ≤ i → i < (ts.length : Int) → OkT ts.length (rdOf ByteArray.empty ts i) → Ev (fun k => lockstitchref03_Right.l0 k ts (i + 1)) q → Ev (fun k => lockstitchref03_Right.l0 k ts i) q := by
    intro i q h0 h1 hk hq
    have hz := rd_size ts hs i
    refine ev_step (f := fun k => lockstitchref03_Right.l1 k ts i (rdOf ByteArray.empty ts i) 0) (fun k => ?_) ?_
    · show lockstitchref03_Right.l0 (k + 1) ts i = _
      rw [lockstitchref03_Right.l0, if_pos h1, if_pos h0]
    · refine scan0_good (fun k j => lockstitchref03_Right.l1 k ts i (rdOf ByteArray.empty ts i) j) _ q _ (by omega) (fun j q' a b c d => ref_l1_step ts i _ hz j q' a b c d) ?_ hk.2.2
      refine ev_step (fun k => ?_) hq
      show lockstitchref03_Right.l1 (k + 1) _ _ _ _ = _
      have := hk.1
      have := hk.2.1
      rw [lockstitchref03_Right.l1, if_neg (by omega), if_neg (by omega), if_neg (by omega), wrap_succ h0 h1 hl]
  have H2 : ∀ i, 0 ≤ i → i < (ts.length : Int) → ¬ OkT ts.length (rdOf ByteArray.empty ts i) → Ev (fun k => lockstitchref03_Right.l0 k ts i) false := by
    intro i h0 h1 hk
    have hz := rd_size ts hs i
    refine ev_step (f := fun k => lockstitchref03_Right.l1 k ts i (rdOf ByteArray.empty ts i) 0) (fun k => ?_) ?_
    · show lockstitchref03_Right.l0 (k + 1) ts i = _
      rw [lockstitchref03_Right.l0, if_pos h1, if_pos h0]
    · by_cases ha : AllC ts.length (rdOf ByteArray.empty ts i)
      · refine scan0_good (fun k j => lockstitchref03_Right.l1 k ts i (rdOf ByteArray.empty ts i) j) _ false _ (by omega) (fun j q' a b c d => ref_l1_step ts i _ hz j q' a b c d) (ev_some fun k => ?_) ha
        rw [lockstitchref03_Right.l1, if_neg (by omega)]
        by_cases h1' : ((rdOf ByteArray.empty ts i).size : Int) < 1
        · rw [if_pos h1']
        · rw [if_neg h1', if_pos]
          have : ¬ (1 ≤ (rdOf ByteArray.empty ts i).size ∧ (rdOf ByteArray.empty ts i).size ≤ 6) := fun h => hk ⟨h.1, h.2, ha⟩
          omega
      · exact scan0_bad (fun k j => lockstitchref03_Right.l1 k ts i (rdOf ByteArray.empty ts i) j) _ false (fun j => OkC ts.length (bt (rdOf ByteArray.empty ts i) j)) (by omega) (fun j q' a b c d => ref_l1_step ts i _ hz j q' a b c d) (fun j a b c => ref_l1_bad ts i _ j a b c) ha
  show Ev (fun k => lockstitchref03_Right.l0 k ts 0) (right ts)
  by_cases h : ∀ i : Int, 0 ≤ i → i < ts.length → OkT ts.length (rdOf ByteArray.empty ts i)
  · have e : right ts = decide (1 ≤ ts.length ∧ ts.length ≤ 8) := by
      unfold right
      rw [decide_eq_decide]
      exact ⟨fun x => x.2, fun x => ⟨h, x⟩⟩
    rw [e]
    refine scan0_good (fun k i => lockstitchref03_Right.l0 k ts i) _ _ _ (by omega) H1 (ev_some fun k => ?_) h
    simp only [lockstitchref03_Right.l0]
    rw [if_neg (by omega)]
    by_cases h : 1 ≤ ts.length
    · rw [if_pos (by omega)]
      congr 1
      rw [decide_eq_decide]
      omega
    · rw [if_neg (by omega)]
      congr 1
      symm
      rw [decide_eq_false_iff_not]
      omega
  · have e : right ts = false := by
      unfold right
      rw [decide_eq_false_iff_not]
      exact fun x => h x.1
    rw [e]
    exact scan0_bad (fun k i => lockstitchref03_Right.l0 k ts i) _ false _ (by omega) H1 H2 h
theorem ref_Refs_ev (ts : List ByteArray) (s : ByteArray) (hl : (ts.length : Int) ≤ 9223372036854775807) (hs : ∀ s ∈ ts, (s.size : Int) ≤ 9223372036854775807) (hz : (s.size : Int) ≤ 9223372036854775807) :
    Ev (fun k => lockstitchref03_Refs.f k ts s) (refs ts s) := by
  classical
  have H1 : ∀ i q, 0 ≤ i → i < (s.size : Int) → 0 ≤ dg (bt s i) ts.length → Ev (fun k => lockstitchref03_Refs.l0 k ts s (i + 1)) q → Ev (fun k => lockstitchref03_Refs.l0 k ts s i) q := by
    intro i q h0 h1 hk hq
    have hb := bt_range s i
    refine ev_step (fun k => ?_) hq
    show lockstitchref03_Refs.l0 (k + 1) _ _ _ = lockstitchref03_Refs.l0 k ts s (i + 1)
    rw [lockstitchref03_Refs.l0, if_pos h1, if_pos h0, ref_digit_val hb.1 hb.2, Option.bind_some, if_neg (by omega), wrap_succ h0 h1 hz]
  have H2 : ∀ i, 0 ≤ i → i < (s.size : Int) → ¬ 0 ≤ dg (bt s i) ts.length → Ev (fun k => lockstitchref03_Refs.l0 k ts s i) false := by
    intro i h0 h1 hk
    have hb := bt_range s i
    refine ev_some fun k => ?_
    rw [lockstitchref03_Refs.l0, if_pos h1, if_pos h0, ref_digit_val hb.1 hb.2, Option.bind_some, if_pos (by omega)]
  show Ev (fun k => lockstitchref03_Refs.l0 k ts s 0) (refs ts s)
  by_cases h : AllD ts.length s
  · have e : refs ts s = right ts := by
      unfold refs right
      rw [decide_eq_decide]
      exact ⟨fun x => x.1, fun x => ⟨x, h⟩⟩
    rw [e]
    refine scan0_good (fun k i => lockstitchref03_Refs.l0 k ts s i) _ _ _ (by omega) H1 ?_ h
    refine ev_step (f := fun k => (lockstitchref03_Right.f k ts).bind fun t => some t) (fun k => ?_) (ev_bind (ref_Right_ev ts hl hs) ev_const)
    show lockstitchref03_Refs.l0 (k + 1) _ _ _ = _
    rw [lockstitchref03_Refs.l0, if_neg (by omega)]
  · have e : refs ts s = false := by
      unfold refs
      rw [decide_eq_false_iff_not]
      exact fun x => h x.2
    rw [e]
    exact scan0_bad (fun k i => lockstitchref03_Refs.l0 k ts s i) _ false _ (by omega) H1 H2 h
def Is (ts : List ByteArray) (t : Int) : Prop := Rt ts ∧ 0 ≤ t ∧ t < ts.length
open Classical in
noncomputable def typ (ts : List ByteArray) (t : Int) : ByteArray := if Is ts t then rdOf ByteArray.empty ts t else ⟨#[]⟩
theorem typ_is {ts : List ByteArray} {t : Int} (h : Is ts t) : typ ts t = rdOf ByteArray.empty ts t := by unfold typ; rw [if_pos h]
theorem typ_not {ts : List ByteArray} {t : Int} (h : ¬ Is ts t) : typ ts t = ⟨#[]⟩ := by unfold typ; rw [if_neg h]
theorem typ_ok {ts : List ByteArray} {t : Int} (h : Is ts t) : OkT ts.length (typ ts t) := by rw [typ_is h]; exact h.1.1 t h.2.1 h.2.2
theorem typ_le (ts : List ByteArray) (t : Int) : (typ ts t).size ≤ 6 := by
  by_cases h : Is ts t
  · exact (typ_ok h).2.1
  · rw [typ_not h]; decide
noncomputable def size (ts : List ByteArray) (t : Int) : Int := ((typ ts t).size : Int)
open Classical in
noncomputable def to_ (ts : List ByteArray) (t f : Int) : Int := if 0 ≤ f ∧ f < size ts t then dg (bt (typ ts t) f) ts.length else -1
theorem right_cases (ts : List ByteArray) : (right ts = true ∧ Rt ts) ∨ (right ts = false ∧ ¬ Rt ts) := by
  classical
  by_cases h : Rt ts
  · exact .inl ⟨(right_iff ts).2 h, h⟩
  · refine .inr ⟨?_, h⟩
    cases e : right ts
    · rfl
    · exact absurd ((right_iff ts).1 e) h
section
variable (ts : List ByteArray) (hl : (ts.length : Int) ≤ 9223372036854775807) (hs : ∀ s ∈ ts, (s.size : Int) ≤ 9223372036854775807)
include hl hs
open Classical in
theorem ref_is_ev (t : Int) : Ev (fun k => lockstitchref03_is.f k ts t) (decide (Is ts t)) := by
  refine ev_bind (ref_Right_ev ts hl hs) (ev_all fun k => ?_)
  rcases right_cases ts with ⟨e, h⟩ | ⟨e, h⟩
  · rw [e, if_pos rfl]
    by_cases h0 : t ≥ 0
    · rw [if_pos h0]
      congr 1
      rw [decide_eq_decide]
      exact ⟨fun x => ⟨h, h0, x⟩, fun x => x.2.2⟩
    · rw [if_neg h0]
      congr 1
      symm
      rw [decide_eq_false_iff_not]
      exact fun x => h0 x.2.1
  · rw [e, if_neg (by decide)]
    congr 1
    symm
    rw [decide_eq_false_iff_not]
    exact fun x => h x.1
theorem ref_Size_ev (t : Int) : Ev (fun k => lockstitchref03_Size.f k ts t) (size ts t) := by
  classical
  refine ev_bind (ref_is_ev ts hl hs t) (ev_all fun k => ?_)
  unfold size
  by_cases h : Is ts t
  · rw [decide_eq_true h, if_pos rfl, if_pos h.2.1, if_pos h.2.2, typ_is h]
  · rw [decide_eq_false h, if_neg (by decide), typ_not h]
    rfl
theorem ref_To_ev (t f : Int) : Ev (fun k => lockstitchref03_To.f k ts t f) (to_ ts t f) := by
  classical
  refine ev_bind (ref_is_ev ts hl hs t) (ev_all fun k => ?_)
  unfold to_ size
  by_cases h : Is ts t
  · have hb := bt_range (rdOf ByteArray.empty ts t) f
    rw [decide_eq_true h, if_pos rfl, typ_is h]
    by_cases h0 : f < 0
    · rw [if_pos h0, if_neg (by omega)]
    · by_cases h1 : f ≥ (rdOf ByteArray.empty ts t).size
      · rw [if_neg h0, if_pos h.2.1, if_pos h.2.2, if_pos h1, if_neg (by omega)]
      · rw [if_neg h0, if_pos h.2.1, if_pos h.2.2, if_neg h1, if_pos (by omega), if_pos (by omega), ref_digit_val hb.1 hb.2, if_pos (by omega)]
        rfl
  · rw [decide_eq_false h, if_neg (by decide), typ_not h, if_neg]
    have : (⟨#[]⟩ : ByteArray).size = 0 := rfl
    omega
end
noncomputable def mk (ts : List ByteArray) (t : Int) : Nat → Int
  | 0 => 0
  | i + 1 => mk ts t i + if 0 ≤ to_ ts t i then 2 ^ i else 0
noncomputable def mask (ts : List ByteArray) (t : Int) : Int := mk ts t (typ ts t).size
section
variable (ts : List ByteArray) (hl : (ts.length : Int) ≤ 9223372036854775807) (hs : ∀ s ∈ ts, (s.size : Int) ≤ 9223372036854775807)
include hl hs
end
def Few (ts : List ByteArray) : Prop := (∀ i : Int, 0 ≤ i → i < ts.length → ((rdOf ByteArray.empty ts i).size : Int) ≤ 50) ∧ ts.length ≤ 20
open Classical in
theorem rd_eq (xs : List Int) (i : Nat) (h : i < xs.length) : rd xs i = xs[i] := by
  unfold rd
  rw [Int.toNat_natCast, List.getD_eq_getElem?_getD, List.getElem?_eq_getElem h, Option.getD_some]
end Go.Proofs.YtocechpmgfhenaaGreatDoor.KP

namespace Go.Proofs.YtocechpmgfhenaaGreatDoor.SH
set_option linter.unusedVariables false
def intsB (o : Nat) (f1 f2 f3 : Int) : Bool := if o = 1 ∨ o = 4 ∨ o = 8 ∨ o = 14 ∨ o = 15 then decide (f1 < 8) else if o = 2 then decide (f1 < 8) && (decide (f2 < 8) && decide (f3 < 8)) else if o = 9 then decide (f2 < 8) else true
end Go.Proofs.YtocechpmgfhenaaGreatDoor.SH

namespace Go.Proofs.YtocechpmgfhenaaGreatDoor.PL
open Go.RowKit Go.Proofs.YtocechpmgfhenaaGreatDoorW.PrintWords Go.Proofs.YtocechpmgfhenaaGreatDoor.F Go.Proofs.YtocechpmgfhenaaGreatDoor.KP Go.Proofs.YtocechpmgfhenaaGreatDoor.CR Go.Proofs.YtocechpmgfhenaaGreatDoor.SH
set_option linter.unusedVariables false
noncomputable def atv (ts : List ByteArray) (s : ByteArray) (a : Int) : Int := if a < s.size ∧ refs ts (s.extract a.toNat (a + 1).toNat) = true then (bt s a - 48) % 256 else -1
def KindsP (ts : List ByteArray) (la gl : ByteArray) (o : Nat) (f1 f2 f3 f4 : Int) : Prop :=
  (o = 5 ∨ o = 6 → 0 ≤ atv ts la f1) ∧ (o = 7 → 0 ≤ atv ts la f1 ∧ atv ts la f1 = atv ts la f2) ∧ (o = 15 → 0 ≤ atv ts la f2 ∧ atv ts la f2 = atv ts la f3) ∧
  (o = 8 → 0 ≤ atv ts la f2 ∧ 0 ≤ f4 ∧ f4 < size ts (atv ts la f2) ∧ to_ ts (atv ts la f2) f4 < 0) ∧ (o = 9 → 0 ≤ atv ts la f1 ∧ 0 ≤ f4 ∧ f4 < size ts (atv ts la f1) ∧ to_ ts (atv ts la f1) f4 < 0) ∧
  (o = 10 → 0 ≤ atv ts la f2 ∧ 0 ≤ atv ts la f1 ∧ atv ts la f1 = to_ ts (atv ts la f2) f4) ∧ (o = 11 → 0 ≤ atv ts la f1 ∧ 0 ≤ atv ts la f2 ∧ atv ts la f2 = to_ ts (atv ts la f1) f4) ∧
  (o = 12 → 0 ≤ atv ts la f1 ∧ atv ts la f1 = atv ts gl f2) ∧ (o = 13 → 0 ≤ atv ts la f2 ∧ atv ts la f2 = atv ts gl f1)
structure InsP (ts : List ByteArray) (la gl : ByteArray) (n : Nat) (o : Nat) (f1 f2 f3 f4 : Int) : Prop where
  op : 1 ≤ o ∧ o ≤ 15
  right : rightB o f1 f2 f3 f4 = true
  jump : o = 3 ∨ o = 4 → 0 ≤ f4 ∧ f4 ≤ n
  ints : intsB o f1 f2 f3 = true
  kinds : KindsP ts la gl o f1 f2 f3 f4
end Go.Proofs.YtocechpmgfhenaaGreatDoor.PL

namespace Go.Proofs.YtocechpmgfhenaaGreatDoor.PL
open Go.RowKit Go.Proofs.YtocechpmgfhenaaGreatDoorW.PrintWords Go.Proofs.YtocechpmgfhenaaGreatDoor.Scan Go.Proofs.YtocechpmgfhenaaGreatDoor.F Go.Proofs.YtocechpmgfhenaaGreatDoor.KP Go.Proofs.YtocechpmgfhenaaGreatDoor.CR Go.Proofs.YtocechpmgfhenaaGreatDoor.SH Go.Proofs.YtocechpmgfhenaaGreatDoor.FM
set_option linter.unusedVariables false
set_option linter.unusedSectionVars false
abbrev Fit (s : ByteArray) : Prop := (s.size : Int) ≤ 9223372036854775807
theorem extract_fit {s : ByteArray} (h : Fit s) (a b : Nat) : Fit (s.extract a b) := by
  unfold Fit at *
  rw [ByteArray.size_extract]
  omega
def WfI (x0 x1 x2 x3 x4 : Int) : Prop := (0 ≤ x0 ∧ x0 ≤ 255) ∧ (0 ≤ x1 ∧ x1 ≤ 255) ∧ (0 ≤ x2 ∧ x2 ≤ 255) ∧ (0 ≤ x3 ∧ x3 ≤ 255) ∧ -9223372036854775808 ≤ x4 ∧ x4 ≤ 9223372036854775807
def WfC (code : List S46) : Prop := ∀ x ∈ code, WfI x.f0 x.f1 x.f2 x.f3 x.f4
structure Pg where
  A0 : Option Addr
  c0 : Nat
  ts : List ByteArray
  la : ByteArray
  gl : ByteArray
  A3 : Option Addr
  c3 : Nat
  code : List S46
abbrev Pg.v (p : Pg) : Value := .agg #[.slice p.A0 p.ts.length p.c0, .string p.la, .string p.gl, .slice p.A3 p.code.length p.c3]
structure Pg.In (p : Pg) (w : World) : Prop where
  hT : Kd.C Kd.string w p.A0 p.ts.length p.ts
  hc0 : p.ts.length ≤ p.c0
  hC : Kd.C k46 w p.A3 p.code.length p.code
  hc3 : p.code.length ≤ p.c3
  hs : ∀ s ∈ p.ts, Fit s
  hla : Fit p.la
  hgl : Fit p.gl
  hw : WfC p.code
  tb : TB w
theorem Pg.In.below {p : Pg} {w w' : World} (h : p.In w) (hb : Below w.heap.size w w') : p.In w' := ⟨Kd.C_below h.hT hb, h.hc0, Kd.C_below h.hC hb, h.hc3, h.hs, h.hla, h.hgl, h.hw, TB_below h.tb hb⟩
theorem Pg.In.hl {p : Pg} {w : World} (h : p.In w) : (p.ts.length : Int) ≤ 9223372036854775807 := by have := Kd.C_max h.hT; omega
theorem Pg.In.hc {p : Pg} {w : World} (h : p.In w) : (p.code.length : Int) ≤ 9223372036854775807 := by have := Kd.C_max h.hC; omega
section
variable (ts : List ByteArray) (hl : (ts.length : Int) ≤ 9223372036854775807) (hs : ∀ s ∈ ts, (s.size : Int) ≤ 9223372036854775807) (la gl : ByteArray) (code : List S46)
include hl hs
theorem at_ev (s : ByteArray) (hz : Fit s) (a : Int) (h0 : 0 ≤ a) (h255 : a ≤ 255) : Ev (fun k => lockstitchref05_at.f k ts s a) (atv ts s a) := by
  have e : wrap64 a = a := by unfold wrap64; omega
  have e1 : wrap64 (a + 1) = a + 1 := by unfold wrap64; omega
  unfold lockstitchref05_at.f atv
  simp only [e, e1]
  by_cases h : a ≥ (s.size : Int)
  · refine Ev.congr (fun k => if_pos h) ?_
    rw [if_neg (fun hh => by omega)]
    exact ev_const
  · have hr := ref_Refs_ev ts (s.extract a.toNat (a + 1).toNat) hl hs (extract_fit hz _ _)
    refine Ev.congr (fun k => if_neg h) (Ev.congr (fun k => if_pos h0) (Ev.congr (fun k => if_pos (by omega)) (Ev.congr (fun k => if_pos (by omega)) (ev_bind hr ?_))))
    by_cases hb : refs ts (s.extract a.toNat (a + 1).toNat) = true
    · refine Ev.congr (fun k => if_pos hb) (Ev.congr (fun k => if_pos h0) (Ev.congr (fun k => if_pos (by omega)) ?_))
      rw [if_pos ⟨by omega, hb⟩]
      exact ev_const
    · refine Ev.congr (fun k => if_neg hb) ?_
      rw [if_neg (fun hh => hb hh.2)]
      exact ev_const
noncomputable def numB (ts : List ByteArray) (t n : Int) : Bool := if n < 0 ∨ n ≥ size ts t then false else decide (to_ ts t n < 0)
theorem number_ev (t n : Int) : Ev (fun k => lockstitchref05_number.f k ts la gl code t n) (numB ts t n) := by
  unfold numB
  by_cases h0 : n < 0
  · rw [if_pos (.inl h0)]
    exact Ev.congr (fun k => if_pos h0) ev_const
  · by_cases h1 : n ≥ size ts t
    · rw [if_pos (.inr h1)]
      exact Ev.congr (fun k => if_neg h0) (ev_bind (ref_Size_ev ts hl hs t) (Ev.congr (fun k => if_pos h1) ev_const))
    · rw [if_neg (by rintro (h | h); exact h0 h; exact h1 h)]
      exact Ev.congr (fun k => if_neg h0) (ev_bind (ref_Size_ev ts hl hs t) (Ev.congr (fun k => if_neg h1) (ev_bind (ref_To_ev ts hl hs t n) ev_const)))
theorem to_ev (t n : Int) : Ev (fun k => lockstitchref05_to.f k ts la gl code t n) (to_ ts t n) := by
  by_cases h0 : n < 0
  · rw [show to_ ts t n = -1 from if_neg (by omega)]
    exact Ev.congr (fun k => if_pos h0) ev_const
  · refine Ev.congr (fun k => if_neg h0) ?_
    by_cases h6 : n > 6
    · have := typ_le ts t
      rw [show to_ ts t n = -1 from if_neg (by unfold size; omega)]
      exact Ev.congr (fun k => if_pos h6) ev_const
    · exact Ev.congr (fun k => if_neg h6) (ev_bind (ref_To_ev ts hl hs t n) ev_const)
end
section
variable (p : Pg) (w : World) (h : p.In w)
include h
theorem Local_c (a : Int) (h0 : 0 ≤ a) (h1 : a ≤ 255) : Calls Tryz.prog 45 #[p.v, .int .u8 a] w fun e w' => e = .returned (.int .i64 (atv p.ts p.la a)) ∧ Below w.heap.size w w' := by
  obtain ⟨k, hk⟩ := ev_at (ev_bind (f := fun _ x => some x) (at_ev p.ts h.hl h.hs p.la h.hla a h0 h1) ev_const)
  exact lockstitchref05_Local.calls k p.A0 p.c0 p.ts p.la p.gl p.A3 p.c3 p.code a _ w h.hT h.hc0 h.hC h.hc3 hk
theorem Glob_c (a : Int) (h0 : 0 ≤ a) (h1 : a ≤ 255) : Calls Tryz.prog 55 #[p.v, .int .u8 a] w fun e w' => e = .returned (.int .i64 (atv p.ts p.gl a)) ∧ Below w.heap.size w w' := by
  obtain ⟨k, hk⟩ := ev_at (ev_bind (f := fun _ x => some x) (at_ev p.ts h.hl h.hs p.gl h.hgl a h0 h1) ev_const)
  exact lockstitchref05_Glob.calls k p.A0 p.c0 p.ts p.la p.gl p.A3 p.c3 p.code a _ w h.hT h.hc0 h.hC h.hc3 hk
theorem number_c (t n : Int) : Calls Tryz.prog 53 #[p.v, .int .i64 t, .int .i64 n] w fun e w' => e = .returned (.bool (numB p.ts t n)) ∧ Below w.heap.size w w' := by
  obtain ⟨k, hk⟩ := ev_at (number_ev p.ts h.hl h.hs p.la p.gl p.code t n)
  exact lockstitchref05_number.calls k p.A0 p.c0 p.ts p.la p.gl p.A3 p.c3 p.code t n _ w h.hT h.hc0 h.hC h.hc3 hk
theorem to_c (t n : Int) : Calls Tryz.prog 54 #[p.v, .int .i64 t, .int .i64 n] w fun e w' => e = .returned (.int .i64 (to_ p.ts t n)) ∧ Below w.heap.size w w' := by
  obtain ⟨k, hk⟩ := ev_at (to_ev p.ts h.hl h.hs p.la p.gl p.code t n)
  exact lockstitchref05_to.calls k p.A0 p.c0 p.ts p.la p.gl p.A3 p.c3 p.code t n _ w h.hT h.hc0 h.hC h.hc3 hk
end
def oneB (a b : Int) : Bool := decide (0 ≤ a) && a == b
theorem one_c (w : World) (a b : Int) : Calls Tryz.prog 52 #[.int .i64 a, .int .i64 b] w fun e w' => e = .returned (.bool (oneB a b)) ∧ Below w.heap.size w w' := by
  refine (lockstitchref05_one.calls a b (oneB a b) w ?_).mono fun e w' h => ⟨h.1, h.2.below⟩
  unfold lockstitchref05_one.f oneB
  by_cases h : a ≥ 0
  · rw [if_pos h, decide_eq_true (by omega : 0 ≤ a)]
    rfl
  · rw [if_neg h, decide_eq_false (by omega : ¬ 0 ≤ a)]
    rfl
def InsAt (ts : List ByteArray) (la gl : ByteArray) (code : List S46) (j : Nat) : Prop :=
  ∃ o : Nat, (rd_T46 code j).f0 = o ∧ InsP ts la gl code.length o (rd_T46 code j).f1 (rd_T46 code j).f2 (rd_T46 code j).f3 (rd_T46 code j).f4
structure SpP (p : Pg) : Prop where
  refs : refs p.ts p.la = true ∧ KP.refs p.ts p.gl = true
  locals : p.la.size ≤ 8
  globals : p.gl.size ≤ 4
  len : 1 ≤ p.code.length ∧ p.code.length ≤ 200
  all : ∀ j, j < p.code.length → InsAt p.ts p.la p.gl p.code j
theorem WfC.rd {code : List S46} (h : WfC code) (i : Nat) (hi : i < code.length) : WfI (rd_T46 code i).f0 (rd_T46 code i).f1 (rd_T46 code i).f2 (rd_T46 code i).f3 (rd_T46 code i).f4 := by
  have e : rd_T46 code i = code[i] := by
    unfold rd_T46
    rw [Int.toNat_natCast, List.getD_eq_getElem?_getD, List.getElem?_eq_getElem hi]
    rfl
  rw [e]
  exact h _ (List.getElem_mem hi)
end Go.Proofs.YtocechpmgfhenaaGreatDoor.PL

namespace Go.Proofs.YtocechpmgfhenaaGreatDoor.ST0
open Go.RowKit Go.Proofs.YtocechpmgfhenaaGreatDoorW.PrintWords
set_option linter.unusedVariables false
theorem row_new (w : World) (cs : Array Value) (t : TypeId) {i : Nat} (h : i = w.heap.size) : (w.alloc (.cells cs t)).heap[i]? = some (.cells cs t (0, 0)) := by
  subst h
  exact heap_alloc_new w _
theorem row_old (w : World) (o p : Obj) {i : Nat} (h : i < w.heap.size) (hp : w.heap[i]? = some p) : (w.alloc o).heap[i]? = some p := by
  rw [← hp]
  show (w.heap.push o)[i]? = w.heap[i]?
  rw [Array.getElem?_push, if_neg (Nat.ne_of_lt h)]
theorem row_drewN {w : World} {n i : Nat} {p : Obj} (hp : w.heap[i]? = some p) : (w.drewN n).heap[i]? = some p := hp
theorem row_drew {w : World} {i : Nat} {p : Obj} (hp : w.heap[i]? = some p) : w.drew.heap[i]? = some p := hp
theorem set_drew {w w1 : World} {i : Nat} {cs : Array Value} (hp : w.setRow i cs = w1) : w.drew.setRow i cs = w1.drew := by
  subst hp
  rfl
theorem set_new (w : World) (c cs : Array Value) (t : TypeId) {i : Nat} (h : i = w.heap.size) : (w.alloc (.cells c t)).setRow i cs = w.alloc (.cells cs t) := by
  subst h
  simp only [World.setRow, World.alloc]
  congr 1
  apply Array.ext_getElem?
  intro i
  rw [Array.getElem?_modify]
  by_cases h : w.heap.size = i
  · subst h
    simp
  · have h' : ¬ i = w.heap.size := fun e => h e.symm
    simp [h, h', Array.getElem?_push]
theorem set_old (w w1 : World) (o : Obj) (cs : Array Value) {i : Nat} (h : i < w.heap.size) (hp : w.setRow i cs = w1) : (w.alloc o).setRow i cs = w1.alloc o := by
  subst hp
  simp only [World.setRow, World.alloc]
  congr 1
  apply Array.ext_getElem?
  intro j
  have hne : ¬ i = w.heap.size := Nat.ne_of_lt h
  by_cases e : i = j
  · subst e
    simp [Array.getElem?_modify, Array.getElem?_push, hne]
  · simp [Array.getElem?_modify, Array.getElem?_push, e]
theorem row_cellO {w : World} {i : Nat} {p : Obj} (a : Addr) (v : Value) (h : i ≠ a.block) (hp : w.heap[i]? = some p) : (w.setCell a v).heap[i]? = some p := (heap_setCell_other w a i v h).trans hp
theorem row_cellS {w : World} {i j : Nat} {c : Array Value} {t : TypeId} (v : Value) (hp : w.heap[i]? = some (.cells c t (0, 0))) : (w.setCell ⟨i, j, none⟩ v).heap[i]? = some (.cells (c.setIfInBounds j v) t (0, 0)) := heap_setCell_same w i j c t v hp
theorem below_row {w W : World} {g : Nat} {cs : Array Value} (h : Below w.heap.size w W) (hg : w.heap.size ≤ g) : Below w.heap.size w (W.setRow g cs) :=
  ⟨h.os, h.tape, h.output, by have := h.size; simpa [World.setRow] using this, fun k hk => (setRow_other W g k cs (by omega)).trans (h.block k hk)⟩
theorem bcell {B : Nat} {W w1 : World} (hb : Below B W w1) : (∀ b o, b < B → w1.cell? ⟨b, o, none⟩ = W.cell? ⟨b, o, none⟩) ∧ (∀ b o, b < B → w1.frozen? ⟨b, o, none⟩ = W.frozen? ⟨b, o, none⟩) :=
  ⟨fun b o h => hb.cell (p := ⟨b, o, none⟩) h, fun b o h => hb.frozen (p := ⟨b, o, none⟩) h⟩
theorem own_le {w : World} {base n c : Nat} {e : TypeId} {k : IntKind} {A : Option Addr} {xs : List Int} (h : w.ownsRow base e 1 (.slice A n c) n (nums k xs)) : n ≤ c := by
  rcases h.2 with ⟨e1, _⟩ | ⟨g, cap, cur, e1, _, _, hc, _⟩
  · injection e1 with _ e2 e3
    omega
  · injection e1 with _ e2 e3
    omega
theorem row_setS {w : World} {i : Nat} {old cs : Array Value} {t : TypeId} (hp : w.heap[i]? = some (.cells old t (0, 0))) : (w.setRow i cs).heap[i]? = some (.cells cs t (0, 0)) := setRow_heap w i old cs t (0, 0) hp
theorem rowT {p : Prop} (h : p := by repeat (first | (with_reducible assumption) | (with_reducible apply row_cellS) | (with_reducible apply row_cellO; focus (first | (simp; done) | (simp <;> omega))) | (with_reducible refine row_new _ _ _ ?_; focus (simp; done)) | (with_reducible refine row_old _ _ _ ?_ ?_; focus (first | omega | (simp <;> omega))) | (with_reducible apply row_drew) | (with_reducible apply row_drewN) | (with_reducible apply row_setS))) : p := h
theorem setT {p : Prop} (h : p := by repeat (first | (with_reducible apply set_new; focus (simp; done)) | (with_reducible apply set_old; focus (simp <;> omega)) | (with_reducible apply set_drew) | (with_reducible rfl))) : p := h
end Go.Proofs.YtocechpmgfhenaaGreatDoor.ST0

namespace Go.Proofs.YtocechpmgfhenaaGreatDoor.PK
open Go.RowKit Go.Proofs.YtocechpmgfhenaaGreatDoorW.PrintWords Go.Proofs.YtocechpmgfhenaaGreatDoorW.PrintLast Go.Proofs.YtocechpmgfhenaaGreatDoorW.PrintMore
attribute [local go_sem] max2_int min2_int max_two min_two max_three min_three max_four min_four
set_option linter.unusedVariables false
set_option linter.unusedSimpArgs false
open Go.Proofs.YtocechpmgfhenaaGreatDoor.F
end Go.Proofs.YtocechpmgfhenaaGreatDoor.PK

namespace Go.Proofs.YtocechpmgfhenaaGreatDoor.PK
open Go.RowKit Go.Proofs.YtocechpmgfhenaaGreatDoorW.PrintWords Go.Proofs.YtocechpmgfhenaaGreatDoorW.PrintLast Go.Proofs.YtocechpmgfhenaaGreatDoorW.PrintMore
attribute [local go_sem] max2_int min2_int max_two min_two max_three min_three max_four min_four
set_option linter.unusedVariables false
set_option linter.unusedSimpArgs false
open Go.Proofs.YtocechpmgfhenaaGreatDoor.F
noncomputable def kind_digit.f (a0 : Int) (a1 : Int) : Option (Int) := if (wrap64 ((wrap64 (a0)) - 48)) ≥ 0 then (if (wrap64 ((wrap64 (a0)) - 48)) < a1 then (some (wrap64 ((wrap64 (a0)) - 48))) else (some (-1))) else (some (-1))
set_option maxHeartbeats 8000000 in
set_option maxRecDepth 100000 in
theorem kind_digit.calls (a0 : Int) (a1 : Int) (r : Int) (w : World) (h : kind_digit.f a0 a1 = some r) :
    Calls Tryz.prog 82 #[.int .u8 a0, .int .i64 a1] w fun e w' => e = .returned (.int .i64 r) ∧ Drawn0 w w' := by
  have H : (if (wrap64 ((wrap64 (a0)) - 48)) ≥ 0 then (if (wrap64 ((wrap64 (a0)) - 48)) < a1 then (some (wrap64 ((wrap64 (a0)) - 48))) else (some (-1))) else (some (-1))) = some r := h
  clear h
  by_cases c3 : (wrap64 ((wrap64 (a0)) - 48)) ≥ 0
  · rw [if_pos c3] at H
    have c3b0 : decide (0 ≤ (wrap64 ((wrap64 (a0)) - 48))) = true := decide_eq_true c3
    clear c3
    by_cases c4 : (wrap64 ((wrap64 (a0)) - 48)) < a1
    · rw [if_pos c4] at H
      have c4b0 : decide ((wrap64 ((wrap64 (a0)) - 48)) < a1) = true := decide_eq_true c4
      clear c4
      obtain rfl := Option.some.inj H
      go_enter Tryz.func82, Tryz.ntmps82
      go_wp2
      go_ret
      exact ⟨by first | rfl | (simp; done) | (simp [*]; done), by repeat (first | exact Drawn0.refl _ | apply Drawn0.step)⟩
    · rw [if_neg c4] at H
      have c4b0 : decide ((wrap64 ((wrap64 (a0)) - 48)) < a1) = false := decide_eq_false c4
      clear c4
      obtain rfl := Option.some.inj H
      go_enter Tryz.func82, Tryz.ntmps82
      go_wp2
      go_ret
      exact ⟨by first | rfl | (simp; done) | (simp [*]; done), by repeat (first | exact Drawn0.refl _ | apply Drawn0.step)⟩
  · rw [if_neg c3] at H
    have c3b0 : decide (0 ≤ (wrap64 ((wrap64 (a0)) - 48))) = false := decide_eq_false c3
    clear c3
    obtain rfl := Option.some.inj H
    go_enter Tryz.func82, Tryz.ntmps82
    go_wp2
    go_ret
    exact ⟨by first | rfl | (simp; done) | (simp [*]; done), by repeat (first | exact Drawn0.refl _ | apply Drawn0.step)⟩
mutual
noncomputable def kind_Right.l0 : Nat → List ByteArray → List ByteArray → Int → Int → Option (Bool)
  | 0, _, _, _, _ => none
  | k + 1, x0, x6, x7, x8 => if x8 < x7 then (if 0 ≤ x8 then (if x8 < (x6.length : Int) then (if (rdOf ByteArray.empty x6 x8).toList = ([] : List UInt8) then (kind_Right.j1 k x0 (rdOf ByteArray.empty x6 x8) x6 x7 x8 true) else (kind_Right.j1 k x0 (rdOf ByteArray.empty x6 x8) x6 x7 x8 (decide (((rdOf ByteArray.empty x6 x8).size : Int) > 6)))) else (none)) else (none)) else (if (x0.length : Int) ≥ 1 then (some (decide ((x0.length : Int) ≤ 8))) else (some false))
noncomputable def kind_Right.j1 : Nat → List ByteArray → ByteArray → List ByteArray → Int → Int → Bool → Option (Bool)
  | 0, _, _, _, _, _, _ => none
  | k + 1, x0, x4, x6, x7, x8, x18 => if x18 = true then (some false) else (kind_Right.l1 k x0 x4 x6 x7 x8 (x4.size : Int) 0)
noncomputable def kind_Right.l1 : Nat → List ByteArray → ByteArray → List ByteArray → Int → Int → Int → Int → Option (Bool)
  | 0, _, _, _, _, _, _, _ => none
  | k + 1, x0, x4, x6, x7, x8, x20, x21 => if x21 < x20 then (if 0 ≤ x21 then (if x21 < (x4.size : Int) then (if (bt x4 x21) = 105 then (kind_Right.l1 k x0 x4 x6 x7 x8 x20 (wrap64 (x21 + 1))) else ((kind_digit.f (bt x4 x21) (x0.length : Int)).bind fun t102 => (if t102 < 0 then (some false) else (kind_Right.l1 k x0 x4 x6 x7 x8 x20 (wrap64 (x21 + 1)))))) else (none)) else (none)) else (kind_Right.l0 k x0 x6 x7 (wrap64 (x8 + 1)))
end
noncomputable def kind_Right.f (k : Nat) (l0 : List ByteArray) : Option (Bool) := kind_Right.l0 k l0 l0 (l0.length : Int) 0
theorem kind_Right.mono_l : ∀ k, (∀ y0 y1 y2 y3, LeO (kind_Right.l0 k y0 y1 y2 y3) (kind_Right.l0 (k + 1) y0 y1 y2 y3)) ∧ (∀ y0 y1 y2 y3 y4 y5, LeO (kind_Right.j1 k y0 y1 y2 y3 y4 y5) (kind_Right.j1 (k + 1) y0 y1 y2 y3 y4 y5)) ∧ (∀ y0 y1 y2 y3 y4 y5 y6, LeO (kind_Right.l1 k y0 y1 y2 y3 y4 y5 y6) (kind_Right.l1 (k + 1) y0 y1 y2 y3 y4 y5 y6))
  | 0 => ⟨fun _ _ _ _ r h => by simp [kind_Right.l0] at h, fun _ _ _ _ _ _ r h => by simp [kind_Right.j1] at h, fun _ _ _ _ _ _ _ r h => by simp [kind_Right.l1] at h⟩
  | k + 1 => by
    obtain ⟨ih0, ih1, ih2⟩ := kind_Right.mono_l k
    refine ⟨?_, ?_, ?_⟩
    · intro y0 y1 y2 y3
      unfold kind_Right.l0
      repeat' first
      | (with_reducible exact ih0 _ _ _ _)
      | (with_reducible exact ih1 _ _ _ _ _ _)
      | (with_reducible exact ih2 _ _ _ _ _ _ _)
      | (with_reducible exact LeO.refl _)
      | (with_reducible exact LeO.none _)
      | (with_reducible refine LeO.ite ?_ ?_)
      | (with_reducible refine LeO.bind ?_ (fun _ => ?_))
      | exact ih0 _ _ _ _
      | exact ih1 _ _ _ _ _ _
      | exact ih2 _ _ _ _ _ _ _
      | exact LeO.none _
      | refine LeO.ite ?_ ?_
      | refine LeO.bind ?_ (fun _ => ?_)
    · intro y0 y1 y2 y3 y4 y5
      unfold kind_Right.j1
      repeat' first
      | (with_reducible exact ih0 _ _ _ _)
      | (with_reducible exact ih1 _ _ _ _ _ _)
      | (with_reducible exact ih2 _ _ _ _ _ _ _)
      | (with_reducible exact LeO.refl _)
      | (with_reducible exact LeO.none _)
      | (with_reducible refine LeO.ite ?_ ?_)
      | (with_reducible refine LeO.bind ?_ (fun _ => ?_))
      | exact ih0 _ _ _ _
      | exact ih1 _ _ _ _ _ _
      | exact ih2 _ _ _ _ _ _ _
      | exact LeO.none _
      | refine LeO.ite ?_ ?_
      | refine LeO.bind ?_ (fun _ => ?_)
    · intro y0 y1 y2 y3 y4 y5 y6
      unfold kind_Right.l1
      repeat' first
      | (with_reducible exact ih0 _ _ _ _)
      | (with_reducible exact ih1 _ _ _ _ _ _)
      | (with_reducible exact ih2 _ _ _ _ _ _ _)
      | (with_reducible exact LeO.refl _)
      | (with_reducible exact LeO.none _)
      | (with_reducible refine LeO.ite ?_ ?_)
      | (with_reducible refine LeO.bind ?_ (fun _ => ?_))
      | exact ih0 _ _ _ _
      | exact ih1 _ _ _ _ _ _
      | exact ih2 _ _ _ _ _ _ _
      | exact LeO.none _
      | refine LeO.ite ?_ ?_
      | refine LeO.bind ?_ (fun _ => ?_)
theorem kind_Right.mono : ∀ a0 k, LeO (kind_Right.f k a0) (kind_Right.f (k + 1) a0) := by
  intro a0 k
  obtain ⟨ih0, ih1, ih2⟩ := kind_Right.mono_l k
  unfold kind_Right.f
  repeat' first
      | (with_reducible exact ih0 _ _ _ _)
      | (with_reducible exact ih1 _ _ _ _ _ _)
      | (with_reducible exact ih2 _ _ _ _ _ _ _)
      | (with_reducible exact LeO.refl _)
      | (with_reducible exact LeO.none _)
      | (with_reducible refine LeO.ite ?_ ?_)
      | (with_reducible refine LeO.bind ?_ (fun _ => ?_))
      | exact ih0 _ _ _ _
      | exact ih1 _ _ _ _ _ _
      | exact ih2 _ _ _ _ _ _ _
      | exact LeO.none _
      | refine LeO.ite ?_ ?_
      | refine LeO.bind ?_ (fun _ => ?_)
set_option maxHeartbeats 8000000 in
set_option maxRecDepth 100000 in
theorem kind_Right.calls (k : Nat) (A0 : Option Addr) (c0 : Nat) (l0 : List ByteArray) (r : Bool) (w : World) (hr0 : Kd.C Kd.string w A0 l0.length l0) (hc0 : l0.length ≤ c0) (h : kind_Right.f k l0 = some r) :
    Calls Tryz.prog 83 #[.slice A0 l0.length c0] w fun e w' => e = .returned (.bool r) ∧ Drawn0 w w' := by
  have HR0 := Aside0.mk hr0
  have HC0 := Aside0.mk hc0
  clear hr0 hc0
  have H : (kind_Right.l0 k l0 l0 (l0.length : Int) 0) = some r := h
  clear h
  have H' := Aside0.mk H
  clear H
  go_enter Tryz.func83, Tryz.ntmps83
  go_wp2
  go_loopg [8] k (fun kq v8 w' => ∃ (x8_1 : Int), v8 = .int .i64 x8_1 ∧ Aside0 (kind_Right.l0 kq l0 l0 (l0.length : Int) x8_1 = some r) ∧ Aside0 (kq ≤ k) ∧ Drawn0 w w')
  case atStart => exact ⟨(0), (by first | rfl | (simp; done) | (simp [*]; done)), H', ⟨Nat.le_refl _⟩, by repeat (first | exact Drawn0.refl _ | apply Drawn0.step)⟩
  case round =>
    clear H'
    obtain ⟨x8_1, rfl, HA, HK1, ⟨m1, rfl⟩⟩ := hrel
    cases gk with
    | zero => exact absurd HA.out (by simp [kind_Right.l0])
    | succ k1 =>
      have H := HA.out
      clear HA
      simp only [kind_Right.l0] at H
      by_cases c2 : x8_1 < (l0.length : Int)
      · rw [if_pos c2] at H
        have c2b0 : decide (x8_1 < (l0.length : Int)) = true := decide_eq_true c2
        clear c2
        by_cases c3 : 0 ≤ x8_1
        · rw [if_pos c3] at H
          have c3b0 : decide (0 ≤ x8_1) = true := decide_eq_true c3
          clear c3
          by_cases c4 : x8_1 < (l0.length : Int)
          · rw [if_pos c4] at H
            have c4b0 : decide (x8_1 < (l0.length : Int)) = true := decide_eq_true c4
            clear c4
            have HC5 := Aside0.mk H
            clear H
            have p101 : 0 ≤ (x8_1 : Int) := of_decide_eq_true (by first | (with_reducible assumption) | assumption)
            have q101 : x8_1 < (l0.length : Int) := of_decide_eq_true (by first | (with_reducible assumption) | assumption)
            obtain ⟨ad101, e101, hx101_0⟩ := Kd.at_string HR0.out x8_1 p101 q101
            cases e101
            replace p101 := eq_true p101
            replace q101 := eq_true q101
            go_upto_region 4 with (fail)
            go_cut [18] (fun v18 wc => ∃ (kq : Nat) (x18_4 : Bool), v18 = .bool x18_4 ∧ Aside0 (kind_Right.j1 kq l0 (rdOf ByteArray.empty l0 x8_1) l0 (l0.length : Int) x8_1 x18_4 = some r) ∧ Aside0 (kq ≤ k1) ∧ Drawn0 w wc)
            case first =>
              have H := HC5.out
              clear HC5
              by_cases c6 : (rdOf ByteArray.empty l0 x8_1).toList = ([] : List UInt8)
              · rw [if_pos c6] at H
                have c6b0 : ((rdOf ByteArray.empty l0 x8_1).toList == ([] : List UInt8)) = true := beq_iff_eq.mpr c6
                have c6b1 : ((rdOf ByteArray.empty l0 x8_1).toList != ([] : List UInt8)) = false := bne_eq_false_iff_eq.mpr c6
                clear c6
                (first | rw [c6b0] | (simp only [i64_w, i32_w]; rw [c6b0]) | skip)
                have H' := Aside0.mk H
                clear H
                go_wp2
                go_meet
                case rel => exact ⟨_, (true), (by first | rfl | (simp; done) | (simp [*]; done)), H', ⟨by have := HK1.out; first | omega | exact Nat.le_refl _⟩, by repeat (first | exact Drawn0.refl _ | apply Drawn0.step)⟩
              · rw [if_neg c6] at H
                have c6b0 : ((rdOf ByteArray.empty l0 x8_1).toList == ([] : List UInt8)) = false := beq_eq_false_iff_ne.mpr c6
                have c6b1 : ((rdOf ByteArray.empty l0 x8_1).toList != ([] : List UInt8)) = true := bne_iff_ne.mpr c6
                (first | rw [c6b0] | (simp only [i64_w, i32_w]; rw [c6b0]) | skip)
                have H' := Aside0.mk H
                clear H
                go_wp2
                go_meet
                case rel => exact ⟨_, (decide (((rdOf ByteArray.empty l0 x8_1).size : Int) > 6)), (by first | rfl | (simp; done) | (simp [*]; done)), H', ⟨by have := HK1.out; first | omega | exact Nat.le_refl _⟩, by repeat (first | exact Drawn0.refl _ | apply Drawn0.step)⟩
            case rest =>
              clear HC5
              try clear p1
              try clear q1
              try clear hx1
              try clear c2
              try clear c2b0
              try clear p2
              try clear c3
              try clear c3b0
              try clear c4
              try clear c4b0
              try clear c6
              try clear c6b0
              try clear c6b1
              try clear hx101_0
              try clear p101
              try clear q101
              obtain ⟨kq, x18_4, rfl, HA, HJ4, ⟨mc4, rfl⟩⟩ := hcut
              cases kq with
              | zero => exact absurd HA.out (by simp [kind_Right.j1])
              | succ kj4 =>
                have H := HA.out
                clear HA
                simp only [kind_Right.j1] at H
                by_cases c7 : x18_4 = true
                · subst c7
                  have H1 : (some false) = some r := by rw [if_pos rfl] at H; exact H
                  clear H
                  have H := H1
                  clear H1
                  obtain rfl := Option.some.inj H
                  go_wp2
                  go_ret
                  exact ⟨by first | rfl | (simp; done) | (simp [*]; done), by repeat (first | exact Drawn0.refl _ | apply Drawn0.step)⟩
                · replace c7 := Bool.eq_false_iff.mpr c7
                  subst c7
                  have H1 : (kind_Right.l1 kj4 l0 (rdOf ByteArray.empty l0 x8_1) l0 (l0.length : Int) x8_1 ((rdOf ByteArray.empty l0 x8_1).size : Int) 0) = some r := by rw [if_neg (show ¬ (false = true) by decide)] at H; exact H
                  clear H
                  have H := H1
                  clear H1
                  have H' := Aside0.mk H
                  clear H
                  go_wp2
                  go_loopg [21] kj4 (fun kq v21 w' => ∃ (x21_3 : Int), v21 = .int .i64 x21_3 ∧ Aside0 (kind_Right.l1 kq l0 (rdOf ByteArray.empty l0 x8_1) l0 (l0.length : Int) x8_1 ((rdOf ByteArray.empty l0 x8_1).size : Int) x21_3 = some r) ∧ Aside0 (kq ≤ kj4) ∧ Drawn0 w w')
                  case atStart => exact ⟨(0), (by first | rfl | (simp; done) | (simp [*]; done)), H', ⟨Nat.le_refl _⟩, by repeat (first | exact Drawn0.refl _ | apply Drawn0.step)⟩
                  case round =>
                    clear H'
                    try clear p1
                    try clear q1
                    try clear hx1
                    try clear c2
                    try clear c2b0
                    try clear p2
                    try clear c3
                    try clear c3b0
                    try clear c4
                    try clear c4b0
                    try clear c6
                    try clear c6b0
                    try clear c6b1
                    try clear c7
                    try clear hx101_0
                    try clear p1
                    try clear p101
                    try clear p2
                    try clear q1
                    try clear q101
                    obtain ⟨x21_3, rfl, HA, HK3, ⟨m3, rfl⟩⟩ := hrel
                    cases gk with
                    | zero => exact absurd HA.out (by simp [kind_Right.l1])
                    | succ k3 =>
                      have H := HA.out
                      clear HA
                      simp only [kind_Right.l1] at H
                      by_cases c8 : x21_3 < ((rdOf ByteArray.empty l0 x8_1).size : Int)
                      · rw [if_pos c8] at H
                        have c8b0 : decide (x21_3 < ((rdOf ByteArray.empty l0 x8_1).size : Int)) = true := decide_eq_true c8
                        clear c8
                        by_cases c9 : 0 ≤ x21_3
                        · rw [if_pos c9] at H
                          have c9b0 : decide (0 ≤ x21_3) = true := decide_eq_true c9
                          clear c9
                          by_cases c10 : x21_3 < ((rdOf ByteArray.empty l0 x8_1).size : Int)
                          · rw [if_pos c10] at H
                            have c10b0 : decide (x21_3 < ((rdOf ByteArray.empty l0 x8_1).size : Int)) = true := decide_eq_true c10
                            clear c10
                            by_cases c12 : (bt (rdOf ByteArray.empty l0 x8_1) x21_3) = 105
                            · rw [if_pos c12] at H
                              have c12b0 : ((bt (rdOf ByteArray.empty l0 x8_1) x21_3) == 105) = true := beq_iff_eq.mpr c12
                              have c12b1 : ((bt (rdOf ByteArray.empty l0 x8_1) x21_3) != 105) = false := bne_eq_false_iff_eq.mpr c12
                              clear c12
                              have H' := Aside0.mk H
                              clear H
                              have p11 : 0 ≤ (x21_3 : Int) := of_decide_eq_true (by first | (with_reducible assumption) | assumption)
                              have q11 : x21_3 < ((rdOf ByteArray.empty l0 x8_1).size : Int) := of_decide_eq_true (by first | (with_reducible assumption) | assumption)
                              have hx11 := bt_at (rdOf ByteArray.empty l0 x8_1) x21_3
                              replace p11 := eq_true p11
                              replace q11 := eq_true q11
                              go_wp2
                              go_roundg k3
                              case measure => have := HK1.out; have := HJ4.out; have := HK3.out; omega
                              case rel => exact ⟨(wrap64 (x21_3 + 1)), (by first | rfl | (simp; done) | (simp [*]; done)), H', ⟨by have := HK1.out; have := HJ4.out; have := HK3.out; omega⟩, by repeat (first | exact Drawn0.refl _ | apply Drawn0.step)⟩
                            · rw [if_neg c12] at H
                              have c12b0 : ((bt (rdOf ByteArray.empty l0 x8_1) x21_3) == 105) = false := beq_eq_false_iff_ne.mpr c12
                              have c12b1 : ((bt (rdOf ByteArray.empty l0 x8_1) x21_3) != 105) = true := bne_iff_ne.mpr c12
                              replace H := Option.bind_eq_some_iff.mp H
                              obtain ⟨t102, A140, H⟩ := H
                              replace H : (if t102 < 0 then (some false) else (kind_Right.l1 k3 l0 (rdOf ByteArray.empty l0 x8_1) l0 (l0.length : Int) x8_1 ((rdOf ByteArray.empty l0 x8_1).size : Int) (wrap64 (x21_3 + 1)))) = some r := H
                              have A14 := Aside0.mk A140
                              clear A140
                              by_cases c15 : t102 < 0
                              · rw [if_pos c15] at H
                                have c15b0 : decide (t102 < 0) = true := decide_eq_true c15
                                clear c15
                                obtain rfl := Option.some.inj H
                                have p11 : 0 ≤ (x21_3 : Int) := of_decide_eq_true (by first | (with_reducible assumption) | assumption)
                                have q11 : x21_3 < ((rdOf ByteArray.empty l0 x8_1).size : Int) := of_decide_eq_true (by first | (with_reducible assumption) | assumption)
                                have hx11 := bt_at (rdOf ByteArray.empty l0 x8_1) x21_3
                                replace p11 := eq_true p11
                                replace q11 := eq_true q11
                                have p13 : 0 ≤ (x21_3 : Int) := of_decide_eq_true (by first | (with_reducible assumption) | assumption)
                                have q13 : x21_3 < ((rdOf ByteArray.empty l0 x8_1).size : Int) := of_decide_eq_true (by first | (with_reducible assumption) | assumption)
                                have hx13 := bt_at (rdOf ByteArray.empty l0 x8_1) x21_3
                                replace p13 := eq_true p13
                                replace q13 := eq_true q13
                                go_wp2_with (first | (go_at_call 82; (with_reducible refine (kind_digit.calls (bt (rdOf ByteArray.empty l0 x8_1) x21_3) (l0.length : Int) t102 _ A14.out).mono ?_); rintro e w' ⟨rfl, ⟨nd, rfl⟩⟩))
                                go_ret
                                exact ⟨by first | rfl | (simp; done) | (simp [*]; done), by repeat (first | exact Drawn0.refl _ | apply Drawn0.step)⟩
                              · rw [if_neg c15] at H
                                have c15b0 : decide (t102 < 0) = false := decide_eq_false c15
                                clear c15
                                have H' := Aside0.mk H
                                clear H
                                have p11 : 0 ≤ (x21_3 : Int) := of_decide_eq_true (by first | (with_reducible assumption) | assumption)
                                have q11 : x21_3 < ((rdOf ByteArray.empty l0 x8_1).size : Int) := of_decide_eq_true (by first | (with_reducible assumption) | assumption)
                                have hx11 := bt_at (rdOf ByteArray.empty l0 x8_1) x21_3
                                replace p11 := eq_true p11
                                replace q11 := eq_true q11
                                have p13 : 0 ≤ (x21_3 : Int) := of_decide_eq_true (by first | (with_reducible assumption) | assumption)
                                have q13 : x21_3 < ((rdOf ByteArray.empty l0 x8_1).size : Int) := of_decide_eq_true (by first | (with_reducible assumption) | assumption)
                                have hx13 := bt_at (rdOf ByteArray.empty l0 x8_1) x21_3
                                replace p13 := eq_true p13
                                replace q13 := eq_true q13
                                go_wp2_with (first | (go_at_call 82; (with_reducible refine (kind_digit.calls (bt (rdOf ByteArray.empty l0 x8_1) x21_3) (l0.length : Int) t102 _ A14.out).mono ?_); rintro e w' ⟨rfl, ⟨nd, rfl⟩⟩))
                                go_roundg k3
                                case measure => have := HK1.out; have := HJ4.out; have := HK3.out; omega
                                case rel => exact ⟨(wrap64 (x21_3 + 1)), (by first | rfl | (simp; done) | (simp [*]; done)), H', ⟨by have := HK1.out; have := HJ4.out; have := HK3.out; omega⟩, by repeat (first | exact Drawn0.refl _ | apply Drawn0.step)⟩
                          · rw [if_neg c10] at H
                            exact absurd H (by simp)
                        · rw [if_neg c9] at H
                          exact absurd H (by simp)
                      · rw [if_neg c8] at H
                        have c8b0 : decide (x21_3 < ((rdOf ByteArray.empty l0 x8_1).size : Int)) = false := decide_eq_false c8
                        clear c8
                        have H' := Aside0.mk H
                        clear H
                        go_wp2
                        go_roundg k3
                        case measure => have := HK1.out; have := HJ4.out; have := HK3.out; omega
                        case rel => exact ⟨(wrap64 (x8_1 + 1)), (by first | rfl | (simp; done) | (simp [*]; done)), H', ⟨by have := HK1.out; have := HJ4.out; have := HK3.out; omega⟩, by repeat (first | exact Drawn0.refl _ | apply Drawn0.step)⟩
          · rw [if_neg c4] at H
            exact absurd H (by simp)
        · rw [if_neg c3] at H
          exact absurd H (by simp)
      · rw [if_neg c2] at H
        have c2b0 : decide (x8_1 < (l0.length : Int)) = false := decide_eq_false c2
        clear c2
        by_cases c16 : (l0.length : Int) ≥ 1
        · rw [if_pos c16] at H
          have c16b0 : decide (1 ≤ (l0.length : Int)) = true := decide_eq_true c16
          have c16b1 : decide (1 ≤ l0.length) = true := decide_eq_true (by omega)
          clear c16
          obtain rfl := Option.some.inj H
          go_wp2
          go_ret
          exact ⟨by first | rfl | (simp; done) | (simp [*]; done), by repeat (first | exact Drawn0.refl _ | apply Drawn0.step)⟩
        · rw [if_neg c16] at H
          have c16b0 : decide (1 ≤ (l0.length : Int)) = false := decide_eq_false c16
          have c16b1 : decide (1 ≤ l0.length) = false := decide_eq_false (by omega)
          clear c16
          obtain rfl := Option.some.inj H
          go_wp2
          go_ret
          exact ⟨by first | rfl | (simp; done) | (simp [*]; done), by repeat (first | exact Drawn0.refl _ | apply Drawn0.step)⟩
noncomputable def kind_Refs.l0 : Nat → List ByteArray → ByteArray → Int → Int → Option (Bool)
  | 0, _, _, _, _ => none
  | k + 1, x0, x1, x7, x8 => if x8 < x7 then (if 0 ≤ x8 then (if x8 < (x1.size : Int) then ((kind_digit.f (bt x1 x8) (x0.length : Int)).bind fun t103 => (if t103 < 0 then (some false) else (kind_Refs.l0 k x0 x1 x7 (wrap64 (x8 + 1))))) else (none)) else (none)) else ((kind_Right.f k x0).bind fun t104 => (some t104))
noncomputable def kind_Refs.f (k : Nat) (l0 : List ByteArray) (a1 : ByteArray) : Option (Bool) := kind_Refs.l0 k l0 a1 (a1.size : Int) 0
set_option maxHeartbeats 8000000 in
set_option maxRecDepth 100000 in
theorem kind_Refs.calls (k : Nat) (A0 : Option Addr) (c0 : Nat) (l0 : List ByteArray) (a1 : ByteArray) (r : Bool) (w : World) (hr0 : Kd.C Kd.string w A0 l0.length l0) (hc0 : l0.length ≤ c0) (h : kind_Refs.f k l0 a1 = some r) :
    Calls Tryz.prog 57 #[.slice A0 l0.length c0, .string a1] w fun e w' => e = .returned (.bool r) ∧ Drawn0 w w' := by
  have HR0 := Aside0.mk hr0
  have HC0 := Aside0.mk hc0
  clear hr0 hc0
  have H : (kind_Refs.l0 k l0 a1 (a1.size : Int) 0) = some r := h
  clear h
  have H' := Aside0.mk H
  clear H
  go_enter Tryz.func57, Tryz.ntmps57
  go_wp2
  go_loopg [8] k (fun kq v8 w' => ∃ (x8_1 : Int), v8 = .int .i64 x8_1 ∧ Aside0 (kind_Refs.l0 kq l0 a1 (a1.size : Int) x8_1 = some r) ∧ Aside0 (kq ≤ k) ∧ Drawn0 w w')
  case atStart => exact ⟨(0), (by first | rfl | (simp; done) | (simp [*]; done)), H', ⟨Nat.le_refl _⟩, by repeat (first | exact Drawn0.refl _ | apply Drawn0.step)⟩
  case round =>
    clear H'
    try clear p2
    obtain ⟨x8_1, rfl, HA, HK1, ⟨m1, rfl⟩⟩ := hrel
    cases gk with
    | zero => exact absurd HA.out (by simp [kind_Refs.l0])
    | succ k1 =>
      have H := HA.out
      clear HA
      simp only [kind_Refs.l0] at H
      by_cases c3 : x8_1 < (a1.size : Int)
      · rw [if_pos c3] at H
        have c3b0 : decide (x8_1 < (a1.size : Int)) = true := decide_eq_true c3
        clear c3
        by_cases c4 : 0 ≤ x8_1
        · rw [if_pos c4] at H
          have c4b0 : decide (0 ≤ x8_1) = true := decide_eq_true c4
          clear c4
          by_cases c5 : x8_1 < (a1.size : Int)
          · rw [if_pos c5] at H
            have c5b0 : decide (x8_1 < (a1.size : Int)) = true := decide_eq_true c5
            clear c5
            replace H := Option.bind_eq_some_iff.mp H
            obtain ⟨t103, A70, H⟩ := H
            replace H : (if t103 < 0 then (some false) else (kind_Refs.l0 k1 l0 a1 (a1.size : Int) (wrap64 (x8_1 + 1)))) = some r := H
            have A7 := Aside0.mk A70
            clear A70
            by_cases c8 : t103 < 0
            · rw [if_pos c8] at H
              have c8b0 : decide (t103 < 0) = true := decide_eq_true c8
              clear c8
              obtain rfl := Option.some.inj H
              have p6 : 0 ≤ (x8_1 : Int) := of_decide_eq_true (by first | (with_reducible assumption) | assumption)
              have q6 : x8_1 < (a1.size : Int) := of_decide_eq_true (by first | (with_reducible assumption) | assumption)
              have hx6 := bt_at a1 x8_1
              replace p6 := eq_true p6
              replace q6 := eq_true q6
              go_wp2_with (first | ((with_reducible refine gate_callee (f := 82) rfl ?_); refine goesL_ (some 16) rfl rfl Tryz.func82 (by kernel_rfl) rfl #[.int .u8 (bt a1 x8_1), .int .i64 (l0.length : Int)] rfl (by (try simp only [List.map_toArray, List.map_cons, List.map_nil]); first | done | rfl | (simp only [List.length_drop, List.length_take]; rfl)) ?_; (with_reducible refine (kind_digit.calls (bt a1 x8_1) (l0.length : Int) t103 _ A7.out).mono ?_); rintro e w' ⟨rfl, ⟨nd, rfl⟩⟩; refine ⟨_, rfl, ?_⟩))
              go_ret
              exact ⟨by first | rfl | (simp; done) | (simp [*]; done), by repeat (first | exact Drawn0.refl _ | apply Drawn0.step)⟩
            · rw [if_neg c8] at H
              have c8b0 : decide (t103 < 0) = false := decide_eq_false c8
              clear c8
              have H' := Aside0.mk H
              clear H
              have p6 : 0 ≤ (x8_1 : Int) := of_decide_eq_true (by first | (with_reducible assumption) | assumption)
              have q6 : x8_1 < (a1.size : Int) := of_decide_eq_true (by first | (with_reducible assumption) | assumption)
              have hx6 := bt_at a1 x8_1
              replace p6 := eq_true p6
              replace q6 := eq_true q6
              go_wp2_with (first | ((with_reducible refine gate_callee (f := 82) rfl ?_); refine goesL_ (some 16) rfl rfl Tryz.func82 (by kernel_rfl) rfl #[.int .u8 (bt a1 x8_1), .int .i64 (l0.length : Int)] rfl (by (try simp only [List.map_toArray, List.map_cons, List.map_nil]); first | done | rfl | (simp only [List.length_drop, List.length_take]; rfl)) ?_; (with_reducible refine (kind_digit.calls (bt a1 x8_1) (l0.length : Int) t103 _ A7.out).mono ?_); rintro e w' ⟨rfl, ⟨nd, rfl⟩⟩; refine ⟨_, rfl, ?_⟩))
              go_roundg k1
              case measure => have := HK1.out; omega
              case rel => exact ⟨(wrap64 (x8_1 + 1)), (by first | rfl | (simp; done) | (simp [*]; done)), H', ⟨by have := HK1.out; omega⟩, by repeat (first | exact Drawn0.refl _ | apply Drawn0.step)⟩
          · rw [if_neg c5] at H
            exact absurd H (by simp)
        · rw [if_neg c4] at H
          exact absurd H (by simp)
      · rw [if_neg c3] at H
        have c3b0 : decide (x8_1 < (a1.size : Int)) = false := decide_eq_false c3
        clear c3
        replace H := Option.bind_eq_some_iff.mp H
        obtain ⟨t104, A90, H⟩ := H
        replace H : (some t104) = some r := H
        have A9 := Aside0.mk A90
        clear A90
        obtain rfl := Option.some.inj H
        go_wp2_with (first | ((with_reducible refine gate_callee (f := 83) rfl ?_); refine goesL_ (some 20) rfl rfl Tryz.func83 (by kernel_rfl) rfl #[.slice A0 l0.length c0] rfl (by (try simp only [List.map_toArray, List.map_cons, List.map_nil]); first | done | rfl | (simp only [List.length_drop, List.length_take]; rfl)) ?_; (with_reducible refine (kind_Right.calls k1 _ _ l0 t104 _ ?side1 ?side2 A9.out).mono ?_); (case side1 => repeat (first | exact HR0.out | (with_reducible refine Kd.C_alloc ?_ _) | (with_reducible refine Kd.C_drewN ?_ _) | (with_reducible refine Kd.C_drew ?_))); (case side2 => exact HC0.out); rintro e w' ⟨rfl, ⟨nd, rfl⟩⟩; refine ⟨_, rfl, ?_⟩))
        go_ret
        exact ⟨by first | rfl | (simp; done) | (simp [*]; done), by repeat (first | exact Drawn0.refl _ | apply Drawn0.step)⟩
noncomputable def kind_of.f (k : Nat) (l0 : List ByteArray) (a1 : Int) : Option (ByteArray) := (kind_Right.f k l0).bind fun t105 => (if t105 = true then (if a1 < 0 then (some (⟨#[]⟩ : ByteArray)) else (if a1 ≥ (l0.length : Int) then (some (⟨#[]⟩ : ByteArray)) else (if 0 ≤ a1 then (if a1 < (l0.length : Int) then (some (rdOf ByteArray.empty l0 a1)) else (none)) else (none)))) else (some (⟨#[]⟩ : ByteArray)))
set_option maxHeartbeats 8000000 in
set_option maxRecDepth 100000 in
theorem kind_of.calls (k : Nat) (A0 : Option Addr) (c0 : Nat) (l0 : List ByteArray) (a1 : Int) (r : ByteArray) (w : World) (hr0 : Kd.C Kd.string w A0 l0.length l0) (hc0 : l0.length ≤ c0) (h : kind_of.f k l0 a1 = some r) :
    Calls Tryz.prog 100 #[.slice A0 l0.length c0, .int .i64 a1] w fun e w' => e = .returned (.string r) ∧ Drawn0 w w' := by
  have HR0 := Aside0.mk hr0
  have HC0 := Aside0.mk hc0
  clear hr0 hc0
  have H : ((kind_Right.f k l0).bind fun t105 => (if t105 = true then (if a1 < 0 then (some (⟨#[]⟩ : ByteArray)) else (if a1 ≥ (l0.length : Int) then (some (⟨#[]⟩ : ByteArray)) else (if 0 ≤ a1 then (if a1 < (l0.length : Int) then (some (rdOf ByteArray.empty l0 a1)) else (none)) else (none)))) else (some (⟨#[]⟩ : ByteArray)))) = some r := h
  clear h
  replace H := Option.bind_eq_some_iff.mp H
  obtain ⟨t105, A30, H⟩ := H
  replace H : (if t105 = true then (if a1 < 0 then (some (⟨#[]⟩ : ByteArray)) else (if a1 ≥ (l0.length : Int) then (some (⟨#[]⟩ : ByteArray)) else (if 0 ≤ a1 then (if a1 < (l0.length : Int) then (some (rdOf ByteArray.empty l0 a1)) else (none)) else (none)))) else (some (⟨#[]⟩ : ByteArray))) = some r := H
  have A3 := Aside0.mk A30
  clear A30
  by_cases c4 : t105 = true
  · subst c4
    have H1 : (if a1 < 0 then (some (⟨#[]⟩ : ByteArray)) else (if a1 ≥ (l0.length : Int) then (some (⟨#[]⟩ : ByteArray)) else (if 0 ≤ a1 then (if a1 < (l0.length : Int) then (some (rdOf ByteArray.empty l0 a1)) else (none)) else (none)))) = some r := by rw [if_pos rfl] at H; exact H
    clear H
    have H := H1
    clear H1
    by_cases c5 : a1 < 0
    · rw [if_pos c5] at H
      have c5b0 : decide (a1 < 0) = true := decide_eq_true c5
      clear c5
      obtain rfl := Option.some.inj H
      go_enter Tryz.func100, Tryz.ntmps100
      go_wp2_with (first | ((with_reducible refine gate_callee (f := 83) rfl ?_); refine goesL_ (some 6) rfl rfl Tryz.func83 (by kernel_rfl) rfl #[.slice A0 l0.length c0] rfl (by (try simp only [List.map_toArray, List.map_cons, List.map_nil]); first | done | rfl | (simp only [List.length_drop, List.length_take]; rfl)) ?_; (with_reducible refine (kind_Right.calls k _ _ l0 true _ ?side1 ?side2 A3.out).mono ?_); (case side1 => repeat (first | exact HR0.out | (with_reducible refine Kd.C_alloc ?_ _) | (with_reducible refine Kd.C_drewN ?_ _) | (with_reducible refine Kd.C_drew ?_))); (case side2 => exact HC0.out); rintro e w' ⟨rfl, ⟨nd, rfl⟩⟩; refine ⟨_, rfl, ?_⟩))
      go_ret
      exact ⟨by first | rfl | (simp; done) | (simp [*]; done), by repeat (first | exact Drawn0.refl _ | apply Drawn0.step)⟩
    · rw [if_neg c5] at H
      have c5b0 : decide (a1 < 0) = false := decide_eq_false c5
      clear c5
      by_cases c6 : a1 ≥ (l0.length : Int)
      · rw [if_pos c6] at H
        have c6b0 : decide ((l0.length : Int) ≤ a1) = true := decide_eq_true c6
        clear c6
        obtain rfl := Option.some.inj H
        go_enter Tryz.func100, Tryz.ntmps100
        go_wp2_with (first | ((with_reducible refine gate_callee (f := 83) rfl ?_); refine goesL_ (some 6) rfl rfl Tryz.func83 (by kernel_rfl) rfl #[.slice A0 l0.length c0] rfl (by (try simp only [List.map_toArray, List.map_cons, List.map_nil]); first | done | rfl | (simp only [List.length_drop, List.length_take]; rfl)) ?_; (with_reducible refine (kind_Right.calls k _ _ l0 true _ ?side1 ?side2 A3.out).mono ?_); (case side1 => repeat (first | exact HR0.out | (with_reducible refine Kd.C_alloc ?_ _) | (with_reducible refine Kd.C_drewN ?_ _) | (with_reducible refine Kd.C_drew ?_))); (case side2 => exact HC0.out); rintro e w' ⟨rfl, ⟨nd, rfl⟩⟩; refine ⟨_, rfl, ?_⟩))
        go_ret
        exact ⟨by first | rfl | (simp; done) | (simp [*]; done), by repeat (first | exact Drawn0.refl _ | apply Drawn0.step)⟩
      · rw [if_neg c6] at H
        have c6b0 : decide ((l0.length : Int) ≤ a1) = false := decide_eq_false c6
        clear c6
        by_cases c7 : 0 ≤ a1
        · rw [if_pos c7] at H
          have c7b0 : decide (0 ≤ a1) = true := decide_eq_true c7
          clear c7
          by_cases c8 : a1 < (l0.length : Int)
          · rw [if_pos c8] at H
            have c8b0 : decide (a1 < (l0.length : Int)) = true := decide_eq_true c8
            clear c8
            obtain rfl := Option.some.inj H
            go_enter Tryz.func100, Tryz.ntmps100
            go_wp2_with (first | ((with_reducible refine gate_callee (f := 83) rfl ?_); refine goesL_ (some 6) rfl rfl Tryz.func83 (by kernel_rfl) rfl #[.slice A0 l0.length c0] rfl (by (try simp only [List.map_toArray, List.map_cons, List.map_nil]); first | done | rfl | (simp only [List.length_drop, List.length_take]; rfl)) ?_; (with_reducible refine (kind_Right.calls k _ _ l0 true _ ?side1 ?side2 A3.out).mono ?_); (case side1 => repeat (first | exact HR0.out | (with_reducible refine Kd.C_alloc ?_ _) | (with_reducible refine Kd.C_drewN ?_ _) | (with_reducible refine Kd.C_drew ?_))); (case side2 => exact HC0.out); rintro e w' ⟨rfl, ⟨nd, rfl⟩⟩; refine ⟨_, rfl, ?_⟩; have p106 : 0 ≤ (a1 : Int) := of_decide_eq_true (by first | (with_reducible assumption) | assumption); have q106 : a1 < (l0.length : Int) := of_decide_eq_true (by first | (with_reducible assumption) | assumption); obtain ⟨ad106, e106, hx106_0⟩ := Kd.at_string HR0.out a1 p106 q106; cases e106; replace p106 := eq_true p106; replace q106 := eq_true q106))
            go_ret
            exact ⟨by first | rfl | (simp; done) | (simp [*]; done), by repeat (first | exact Drawn0.refl _ | apply Drawn0.step)⟩
          · rw [if_neg c8] at H
            exact absurd H (by simp)
        · rw [if_neg c7] at H
          exact absurd H (by simp)
  · replace c4 := Bool.eq_false_iff.mpr c4
    subst c4
    have H1 : (some (⟨#[]⟩ : ByteArray)) = some r := by rw [if_neg (show ¬ (false = true) by decide)] at H; exact H
    clear H
    have H := H1
    clear H1
    obtain rfl := Option.some.inj H
    go_enter Tryz.func100, Tryz.ntmps100
    go_wp2_with (first | ((with_reducible refine gate_callee (f := 83) rfl ?_); refine goesL_ (some 6) rfl rfl Tryz.func83 (by kernel_rfl) rfl #[.slice A0 l0.length c0] rfl (by (try simp only [List.map_toArray, List.map_cons, List.map_nil]); first | done | rfl | (simp only [List.length_drop, List.length_take]; rfl)) ?_; (with_reducible refine (kind_Right.calls k _ _ l0 false _ ?side1 ?side2 A3.out).mono ?_); (case side1 => repeat (first | exact HR0.out | (with_reducible refine Kd.C_alloc ?_ _) | (with_reducible refine Kd.C_drewN ?_ _) | (with_reducible refine Kd.C_drew ?_))); (case side2 => exact HC0.out); rintro e w' ⟨rfl, ⟨nd, rfl⟩⟩; refine ⟨_, rfl, ?_⟩))
    go_ret
    exact ⟨by first | rfl | (simp; done) | (simp [*]; done), by repeat (first | exact Drawn0.refl _ | apply Drawn0.step)⟩
noncomputable def kind_Size.f (k : Nat) (l0 : List ByteArray) (a1 : Int) : Option (Int) := (kind_of.f k l0 a1).bind fun t107 => (some (t107.size : Int))
set_option maxHeartbeats 8000000 in
set_option maxRecDepth 100000 in
theorem kind_Size.calls (k : Nat) (A0 : Option Addr) (c0 : Nat) (l0 : List ByteArray) (a1 : Int) (r : Int) (w : World) (hr0 : Kd.C Kd.string w A0 l0.length l0) (hc0 : l0.length ≤ c0) (h : kind_Size.f k l0 a1 = some r) :
    Calls Tryz.prog 72 #[.slice A0 l0.length c0, .int .i64 a1] w fun e w' => e = .returned (.int .i64 r) ∧ Drawn0 w w' := by
  have HR0 := Aside0.mk hr0
  have HC0 := Aside0.mk hc0
  clear hr0 hc0
  have H : ((kind_of.f k l0 a1).bind fun t107 => (some (t107.size : Int))) = some r := h
  clear h
  replace H := Option.bind_eq_some_iff.mp H
  obtain ⟨t107, A30, H⟩ := H
  replace H : (some (t107.size : Int)) = some r := H
  have A3 := Aside0.mk A30
  clear A30
  obtain rfl := Option.some.inj H
  go_enter Tryz.func72, Tryz.ntmps72
  go_wp2_with (first | ((with_reducible refine gate_callee (f := 100) rfl ?_); refine goesL_ (some 7) rfl rfl Tryz.func100 (by kernel_rfl) rfl #[.slice A0 l0.length c0, .int .i64 a1] rfl (by (try simp only [List.map_toArray, List.map_cons, List.map_nil]); first | done | rfl | (simp only [List.length_drop, List.length_take]; rfl)) ?_; (with_reducible refine (kind_of.calls k _ _ l0 a1 t107 _ ?side1 ?side2 A3.out).mono ?_); (case side1 => repeat (first | exact HR0.out | (with_reducible refine Kd.C_alloc ?_ _) | (with_reducible refine Kd.C_drewN ?_ _) | (with_reducible refine Kd.C_drew ?_))); (case side2 => exact HC0.out); rintro e w' ⟨rfl, ⟨nd, rfl⟩⟩; refine ⟨_, rfl, ?_⟩))
  go_ret
  exact ⟨by first | rfl | (simp; done) | (simp [*]; done), by repeat (first | exact Drawn0.refl _ | apply Drawn0.step)⟩
noncomputable def kind_To.f (k : Nat) (l0 : List ByteArray) (a1 : Int) (a2 : Int) : Option (Int) := (kind_of.f k l0 a1).bind fun t108 => (if a2 < 0 then (some (-1)) else (if a2 ≥ (t108.size : Int) then (some (-1)) else (if 0 ≤ a2 then (if a2 < (t108.size : Int) then ((kind_digit.f (bt t108 a2) (l0.length : Int)).bind fun t109 => (some t109)) else (none)) else (none))))
set_option maxHeartbeats 8000000 in
set_option maxRecDepth 100000 in
theorem kind_To.calls (k : Nat) (A0 : Option Addr) (c0 : Nat) (l0 : List ByteArray) (a1 : Int) (a2 : Int) (r : Int) (w : World) (hr0 : Kd.C Kd.string w A0 l0.length l0) (hc0 : l0.length ≤ c0) (h : kind_To.f k l0 a1 a2 = some r) :
    Calls Tryz.prog 105 #[.slice A0 l0.length c0, .int .i64 a1, .int .i64 a2] w fun e w' => e = .returned (.int .i64 r) ∧ Drawn0 w w' := by
  have HR0 := Aside0.mk hr0
  have HC0 := Aside0.mk hc0
  clear hr0 hc0
  have H : ((kind_of.f k l0 a1).bind fun t108 => (if a2 < 0 then (some (-1)) else (if a2 ≥ (t108.size : Int) then (some (-1)) else (if 0 ≤ a2 then (if a2 < (t108.size : Int) then ((kind_digit.f (bt t108 a2) (l0.length : Int)).bind fun t109 => (some t109)) else (none)) else (none))))) = some r := h
  clear h
  replace H := Option.bind_eq_some_iff.mp H
  obtain ⟨t108, A40, H⟩ := H
  replace H : (if a2 < 0 then (some (-1)) else (if a2 ≥ (t108.size : Int) then (some (-1)) else (if 0 ≤ a2 then (if a2 < (t108.size : Int) then ((kind_digit.f (bt t108 a2) (l0.length : Int)).bind fun t109 => (some t109)) else (none)) else (none)))) = some r := H
  have A4 := Aside0.mk A40
  clear A40
  by_cases c5 : a2 < 0
  · rw [if_pos c5] at H
    have c5b0 : decide (a2 < 0) = true := decide_eq_true c5
    clear c5
    obtain rfl := Option.some.inj H
    go_enter Tryz.func105, Tryz.ntmps105
    go_wp2_with (first | ((with_reducible refine gate_callee (f := 100) rfl ?_); refine goesL_ (some 10) rfl rfl Tryz.func100 (by kernel_rfl) rfl #[.slice A0 l0.length c0, .int .i64 a1] rfl (by (try simp only [List.map_toArray, List.map_cons, List.map_nil]); first | done | rfl | (simp only [List.length_drop, List.length_take]; rfl)) ?_; (with_reducible refine (kind_of.calls k _ _ l0 a1 t108 _ ?side1 ?side2 A4.out).mono ?_); (case side1 => repeat (first | exact HR0.out | (with_reducible refine Kd.C_alloc ?_ _) | (with_reducible refine Kd.C_drewN ?_ _) | (with_reducible refine Kd.C_drew ?_))); (case side2 => exact HC0.out); rintro e w' ⟨rfl, ⟨nd, rfl⟩⟩; refine ⟨_, rfl, ?_⟩))
    go_ret
    exact ⟨by first | rfl | (simp; done) | (simp [*]; done), by repeat (first | exact Drawn0.refl _ | apply Drawn0.step)⟩
  · rw [if_neg c5] at H
    have c5b0 : decide (a2 < 0) = false := decide_eq_false c5
    clear c5
    by_cases c6 : a2 ≥ (t108.size : Int)
    · rw [if_pos c6] at H
      have c6b0 : decide ((t108.size : Int) ≤ a2) = true := decide_eq_true c6
      clear c6
      obtain rfl := Option.some.inj H
      go_enter Tryz.func105, Tryz.ntmps105
      go_wp2_with (first | ((with_reducible refine gate_callee (f := 100) rfl ?_); refine goesL_ (some 10) rfl rfl Tryz.func100 (by kernel_rfl) rfl #[.slice A0 l0.length c0, .int .i64 a1] rfl (by (try simp only [List.map_toArray, List.map_cons, List.map_nil]); first | done | rfl | (simp only [List.length_drop, List.length_take]; rfl)) ?_; (with_reducible refine (kind_of.calls k _ _ l0 a1 t108 _ ?side1 ?side2 A4.out).mono ?_); (case side1 => repeat (first | exact HR0.out | (with_reducible refine Kd.C_alloc ?_ _) | (with_reducible refine Kd.C_drewN ?_ _) | (with_reducible refine Kd.C_drew ?_))); (case side2 => exact HC0.out); rintro e w' ⟨rfl, ⟨nd, rfl⟩⟩; refine ⟨_, rfl, ?_⟩))
      go_ret
      exact ⟨by first | rfl | (simp; done) | (simp [*]; done), by repeat (first | exact Drawn0.refl _ | apply Drawn0.step)⟩
    · rw [if_neg c6] at H
      have c6b0 : decide ((t108.size : Int) ≤ a2) = false := decide_eq_false c6
      clear c6
      by_cases c7 : 0 ≤ a2
      · rw [if_pos c7] at H
        have c7b0 : decide (0 ≤ a2) = true := decide_eq_true c7
        clear c7
        by_cases c8 : a2 < (t108.size : Int)
        · rw [if_pos c8] at H
          have c8b0 : decide (a2 < (t108.size : Int)) = true := decide_eq_true c8
          clear c8
          replace H := Option.bind_eq_some_iff.mp H
          obtain ⟨t109, A100, H⟩ := H
          replace H : (some t109) = some r := H
          have A10 := Aside0.mk A100
          clear A100
          obtain rfl := Option.some.inj H
          go_enter Tryz.func105, Tryz.ntmps105
          go_wp2_with (first | ((with_reducible refine gate_callee (f := 100) rfl ?_); refine goesL_ (some 10) rfl rfl Tryz.func100 (by kernel_rfl) rfl #[.slice A0 l0.length c0, .int .i64 a1] rfl (by (try simp only [List.map_toArray, List.map_cons, List.map_nil]); first | done | rfl | (simp only [List.length_drop, List.length_take]; rfl)) ?_; (with_reducible refine (kind_of.calls k _ _ l0 a1 t108 _ ?side1 ?side2 A4.out).mono ?_); (case side1 => repeat (first | exact HR0.out | (with_reducible refine Kd.C_alloc ?_ _) | (with_reducible refine Kd.C_drewN ?_ _) | (with_reducible refine Kd.C_drew ?_))); (case side2 => exact HC0.out); rintro e w' ⟨rfl, ⟨nd, rfl⟩⟩; refine ⟨_, rfl, ?_⟩; have p9 : 0 ≤ (a2 : Int) := of_decide_eq_true (by first | (with_reducible assumption) | assumption); have q9 : a2 < (t108.size : Int) := of_decide_eq_true (by first | (with_reducible assumption) | assumption); have hx9 := bt_at t108 a2; replace p9 := eq_true p9; replace q9 := eq_true q9) | ((with_reducible refine gate_callee (f := 82) rfl ?_); refine goesL_ (some 24) rfl rfl Tryz.func82 (by kernel_rfl) rfl #[.int .u8 (bt t108 a2), .int .i64 (l0.length : Int)] rfl (by (try simp only [List.map_toArray, List.map_cons, List.map_nil]); first | done | rfl | (simp only [List.length_drop, List.length_take]; rfl)) ?_; (with_reducible refine (kind_digit.calls (bt t108 a2) (l0.length : Int) t109 _ A10.out).mono ?_); rintro e w' ⟨rfl, ⟨nd, rfl⟩⟩; refine ⟨_, rfl, ?_⟩))
          go_ret
          exact ⟨by first | rfl | (simp; done) | (simp [*]; done), by repeat (first | exact Drawn0.refl _ | apply Drawn0.step)⟩
        · rw [if_neg c8] at H
          exact absurd H (by simp)
      · rw [if_neg c7] at H
        exact absurd H (by simp)
noncomputable def check_named.f (k : Nat) (l0 : List ByteArray) (a1 : ByteArray) (a2 : Int) : Option (Int) := if (wrap64 (a2)) ≥ (a1.size : Int) then (some (-1)) else (if 0 ≤ (wrap64 (a2)) then (if (wrap64 (a2)) ≤ (wrap64 ((wrap64 (a2)) + 1)) then (if (wrap64 ((wrap64 (a2)) + 1)) ≤ (a1.size : Int) then ((kind_Refs.f k l0 (a1.extract ((wrap64 (a2)) : Int).toNat ((wrap64 ((wrap64 (a2)) + 1)) : Int).toNat)).bind fun t110 => (if t110 = true then (if 0 ≤ a2 then (if a2 < (a1.size : Int) then (some (((bt a1 a2) - 48) % 256)) else (none)) else (none)) else (some (-1)))) else (none)) else (none)) else (none))
set_option maxHeartbeats 8000000 in
set_option maxRecDepth 100000 in
theorem check_named.calls (k : Nat) (A0 : Option Addr) (c0 : Nat) (l0 : List ByteArray) (a1 : ByteArray) (a2 : Int) (r : Int) (w : World) (hr0 : Kd.C Kd.string w A0 l0.length l0) (hc0 : l0.length ≤ c0) (h : check_named.f k l0 a1 a2 = some r) :
    Calls Tryz.prog 101 #[.slice A0 l0.length c0, .string a1, .int .u8 a2] w fun e w' => e = .returned (.int .i64 r) ∧ Drawn0 w w' := by
  have HR0 := Aside0.mk hr0
  have HC0 := Aside0.mk hc0
  clear hr0 hc0
  have H : (if (wrap64 (a2)) ≥ (a1.size : Int) then (some (-1)) else (if 0 ≤ (wrap64 (a2)) then (if (wrap64 (a2)) ≤ (wrap64 ((wrap64 (a2)) + 1)) then (if (wrap64 ((wrap64 (a2)) + 1)) ≤ (a1.size : Int) then ((kind_Refs.f k l0 (a1.extract ((wrap64 (a2)) : Int).toNat ((wrap64 ((wrap64 (a2)) + 1)) : Int).toNat)).bind fun t110 => (if t110 = true then (if 0 ≤ a2 then (if a2 < (a1.size : Int) then (some (((bt a1 a2) - 48) % 256)) else (none)) else (none)) else (some (-1)))) else (none)) else (none)) else (none))) = some r := h
  clear h
  by_cases c4 : (wrap64 (a2)) ≥ (a1.size : Int)
  · rw [if_pos c4] at H
    have c4b0 : decide ((a1.size : Int) ≤ (wrap64 (a2))) = true := decide_eq_true c4
    clear c4
    obtain rfl := Option.some.inj H
    go_enter Tryz.func101, Tryz.ntmps101
    go_wp2
    go_ret
    exact ⟨by first | rfl | (simp; done) | (simp [*]; done), by repeat (first | exact Drawn0.refl _ | apply Drawn0.step)⟩
  · rw [if_neg c4] at H
    have c4b0 : decide ((a1.size : Int) ≤ (wrap64 (a2))) = false := decide_eq_false c4
    clear c4
    obtain ⟨ji5, hji5⟩ : ∃ j_ : Int, (wrap64 (a2)) = j_ := ⟨_, rfl⟩
    replace H : (if 0 ≤ (ji5) then (if (ji5) ≤ (wrap64 ((ji5) + 1)) then (if (wrap64 ((ji5) + 1)) ≤ (a1.size : Int) then ((kind_Refs.f k l0 (a1.extract ((ji5) : Int).toNat ((wrap64 ((ji5) + 1)) : Int).toNat)).bind fun t110 => (if t110 = true then (if 0 ≤ a2 then (if a2 < (a1.size : Int) then (some (((bt a1 a2) - 48) % 256)) else (none)) else (none)) else (some (-1)))) else (none)) else (none)) else (none)) = some r := by first | (rw [hji5] at H; exact H) | (simp only [hji5] at H ⊢; exact H)
    (try rw [hji5] at c4b0)
    have hji5w : (IntKind.i64.wrap (a2)) = ji5 := (i64_w _).trans hji5
    by_cases c6 : 0 ≤ (ji5)
    · rw [if_pos c6] at H
      have c6b0 := eq_true c6
      have c6b1 : decide (0 ≤ (ji5)) = true := decide_eq_true c6
      clear c6
      by_cases c7 : (ji5) ≤ (wrap64 ((ji5) + 1))
      · rw [if_pos c7] at H
        have c7b0 := eq_true c7
        have c7b1 : decide ((ji5) ≤ (wrap64 ((ji5) + 1))) = true := decide_eq_true c7
        by_cases c8 : (wrap64 ((ji5) + 1)) ≤ (a1.size : Int)
        · rw [if_pos c8] at H
          have c8b0 := eq_true c8
          have c8b1 : decide ((wrap64 ((ji5) + 1)) ≤ (a1.size : Int)) = true := decide_eq_true c8
          replace H := Option.bind_eq_some_iff.mp H
          obtain ⟨t110, A90, H⟩ := H
          replace H : (if t110 = true then (if 0 ≤ a2 then (if a2 < (a1.size : Int) then (some (((bt a1 a2) - 48) % 256)) else (none)) else (none)) else (some (-1))) = some r := H
          have A9 := Aside0.mk A90
          clear A90
          by_cases c10 : t110 = true
          · subst c10
            have H1 : (if 0 ≤ a2 then (if a2 < (a1.size : Int) then (some (((bt a1 a2) - 48) % 256)) else (none)) else (none)) = some r := by rw [if_pos rfl] at H; exact H
            clear H
            have H := H1
            clear H1
            by_cases c11 : 0 ≤ a2
            · rw [if_pos c11] at H
              have c11b0 : decide (0 ≤ a2) = true := decide_eq_true c11
              clear c11
              by_cases c12 : a2 < (a1.size : Int)
              · rw [if_pos c12] at H
                have c12b0 : decide (a2 < (a1.size : Int)) = true := decide_eq_true c12
                clear c12
                obtain rfl := Option.some.inj H
                go_enter Tryz.func101, Tryz.ntmps101
                go_wp2_with (first | (go_at_call 57; (with_reducible refine (kind_Refs.calls k _ _ l0 (a1.extract ((ji5) : Int).toNat ((wrap64 ((ji5) + 1)) : Int).toNat) true _ ?side1 ?side2 A9.out).mono ?_); (case side1 => repeat (first | exact HR0.out | (with_reducible refine Kd.C_alloc ?_ _) | (with_reducible refine Kd.C_drewN ?_ _) | (with_reducible refine Kd.C_drew ?_))); (case side2 => exact HC0.out); rintro e w' ⟨rfl, ⟨nd, rfl⟩⟩; have p13 : 0 ≤ (a2 : Int) := of_decide_eq_true (by first | (with_reducible assumption) | assumption); have q13 : a2 < (a1.size : Int) := of_decide_eq_true (by first | (with_reducible assumption) | assumption); have hx13 := bt_at a1 a2; replace p13 := eq_true p13; replace q13 := eq_true q13))
                go_ret
                exact ⟨by first | rfl | (simp; done) | (simp only [← hji5] <;> (first | rfl | simp)) | (simp [*]; done), by repeat (first | exact Drawn0.refl _ | apply Drawn0.step)⟩
              · rw [if_neg c12] at H
                exact absurd H (by simp)
            · rw [if_neg c11] at H
              exact absurd H (by simp)
          · replace c10 := Bool.eq_false_iff.mpr c10
            subst c10
            have H1 : (some (-1)) = some r := by rw [if_neg (show ¬ (false = true) by decide)] at H; exact H
            clear H
            have H := H1
            clear H1
            obtain rfl := Option.some.inj H
            go_enter Tryz.func101, Tryz.ntmps101
            go_wp2_with (first | (go_at_call 57; (with_reducible refine (kind_Refs.calls k _ _ l0 (a1.extract ((ji5) : Int).toNat ((wrap64 ((ji5) + 1)) : Int).toNat) false _ ?side1 ?side2 A9.out).mono ?_); (case side1 => repeat (first | exact HR0.out | (with_reducible refine Kd.C_alloc ?_ _) | (with_reducible refine Kd.C_drewN ?_ _) | (with_reducible refine Kd.C_drew ?_))); (case side2 => exact HC0.out); rintro e w' ⟨rfl, ⟨nd, rfl⟩⟩))
            go_ret
            exact ⟨by first | rfl | (simp; done) | (simp only [← hji5] <;> (first | rfl | simp)) | (simp [*]; done), by repeat (first | exact Drawn0.refl _ | apply Drawn0.step)⟩
        · rw [if_neg c8] at H
          exact absurd H (by simp)
      · rw [if_neg c7] at H
        exact absurd H (by simp)
    · rw [if_neg c6] at H
      exact absurd H (by simp)
noncomputable def check_Local.f (k : Nat) (l0_0 : List ByteArray) (a0_1 : ByteArray) (a0_2 : ByteArray) (l0_3 : List (S46)) (a1 : Int) : Option (Int) := (check_named.f k l0_0 a0_1 a1).bind fun t112 => (some t112)
set_option maxHeartbeats 8000000 in
set_option maxRecDepth 100000 in
theorem check_Local.calls (k : Nat) (A0_0 : Option Addr) (c0_0 : Nat) (l0_0 : List ByteArray) (a0_1 : ByteArray) (a0_2 : ByteArray) (A0_3 : Option Addr) (c0_3 : Nat) (l0_3 : List (S46)) (a1 : Int) (r : Int) (w : World) (hr0_0 : Kd.C Kd.string w A0_0 l0_0.length l0_0) (hc0_0 : l0_0.length ≤ c0_0) (hr0_3 : Kd.C k46 w A0_3 l0_3.length l0_3) (hc0_3 : l0_3.length ≤ c0_3) (h : check_Local.f k l0_0 a0_1 a0_2 l0_3 a1 = some r) :
    Calls Tryz.prog 73 #[.agg #[.slice A0_0 l0_0.length c0_0, .string a0_1, .string a0_2, .slice A0_3 l0_3.length c0_3], .int .u8 a1] w fun e w' => e = .returned (.int .i64 r) ∧ Below w.heap.size w w' := by
  have hu25 := Tryz.underlying25
  have HR0_0 := Aside0.mk hr0_0
  have HC0_0 := Aside0.mk hc0_0
  clear hr0_0 hc0_0
  have HR0_3 := Aside0.mk hr0_3
  have HC0_3 := Aside0.mk hc0_3
  clear hr0_3 hc0_3
  have HB := Aside0.mk (Below.refl w.heap.size w)
  have H : ((check_named.f k l0_0 a0_1 a1).bind fun t112 => (some t112)) = some r := h
  clear h
  replace H := Option.bind_eq_some_iff.mp H
  obtain ⟨t112, A30, H⟩ := H
  replace H : (some t112) = some r := H
  have A3 := Aside0.mk A30
  clear A30
  obtain rfl := Option.some.inj H
  go_enter Tryz.func73, Tryz.ntmps73
  go_wp2_with (first | ((with_reducible refine gate_dst (N := 2) rfl ?_); refine box_event ?hg (N := 2) ?hd (cs := #[.slice A0_0 l0_0.length c0_0, .string a0_1, .string a0_2, .slice A0_3 l0_3.length c0_3]) (t := 25) ?hr ?_; (case hd => rfl); (case hg => rfl); (case hr => first | (go_simp; done) | (go_simp; rfl)); intro gb111 hg w4 hbox hb; have n0_ := Aside0.mk (below_step (by repeat (first | (with_reducible first | exact HB.out | apply below_alloc | apply pw_below_drewN | apply below_drew1) | exact HB.out)) hb); have n1_ := Aside0.mk (hbox); have n2_ := Aside0.mk ((by rw [hg]; exact (below_size (by repeat (first | (with_reducible first | exact HB.out | apply below_alloc | apply pw_below_drewN | apply below_drew1) | exact HB.out))) : w.heap.size ≤ gb111)); have n3_ := Aside0.mk ((by rw [hg]; exact (below_size (by repeat (first | (with_reducible first | exact HB.out | apply below_alloc | apply pw_below_drewN | apply below_drew1) | exact HB.out))) : w.heap.size ≤ gb111)); clear HB; have HB := n0_; have BK111 := n1_; have GW111 := n2_; have GE111 := n3_; clear n0_ n1_ n2_ n3_; clear hb hbox hg; have hcz5_0 : w4.cell? ⟨gb111, 0, none⟩ = some (.slice A0_0 l0_0.length c0_0) := (blk_cell BK111.out 0).trans rfl; have hcz5_1 : w4.cell? ⟨gb111, 1, none⟩ = some (.string a0_1) := (blk_cell BK111.out 1).trans rfl; have hcz5_2 : w4.cell? ⟨gb111, 2, none⟩ = some (.string a0_2) := (blk_cell BK111.out 2).trans rfl; have hcz5_3 : w4.cell? ⟨gb111, 3, none⟩ = some (.slice A0_3 l0_3.length c0_3) := (blk_cell BK111.out 3).trans rfl; have hfz5_0 := blk_frozen BK111.out 0; have hfz5_1 := blk_frozen BK111.out 1; have hfz5_2 := blk_frozen BK111.out 2; have hfz5_3 := blk_frozen BK111.out 3) | ((with_reducible refine gate_callee (f := 101) rfl ?_); refine goesL_ (some 10) rfl rfl Tryz.func101 (by kernel_rfl) rfl #[.slice A0_0 l0_0.length c0_0, .string a0_1, .int .u8 a1] rfl (by (try simp only [List.map_toArray, List.map_cons, List.map_nil]); first | done | rfl | (simp only [List.length_drop, List.length_take]; rfl)) ?_; (with_reducible refine (check_named.calls k _ _ l0_0 a0_1 a1 t112 _ ?side1 ?side2 A3.out).mono ?_); (case side1 => repeat (first | exact (Kd.C_below HR0_0.out HB.out) | (with_reducible refine Kd.C_alloc ?_ _) | (with_reducible refine Kd.C_drewN ?_ _) | (with_reducible refine Kd.C_drew ?_))); (case side2 => exact HC0_0.out); rintro e w' ⟨rfl, ⟨nd, rfl⟩⟩; refine ⟨_, rfl, ?_⟩))
  go_ret
  exact ⟨by first | rfl | (simp [errW_none, errW_some] <;> rfl) | (simp [*, errW_none, errW_some] <;> rfl), by repeat (first | (with_reducible first | exact HB.out | apply below_alloc | apply pw_below_drewN | apply below_drew1 | refine below_set ?_ GE111.out) | exact HB.out)⟩
noncomputable def check_Glob.f (k : Nat) (l0_0 : List ByteArray) (a0_1 : ByteArray) (a0_2 : ByteArray) (l0_3 : List (S46)) (a1 : Int) : Option (Int) := (check_named.f k l0_0 a0_2 a1).bind fun t114 => (some t114)
set_option maxHeartbeats 8000000 in
set_option maxRecDepth 100000 in
theorem check_Glob.calls (k : Nat) (A0_0 : Option Addr) (c0_0 : Nat) (l0_0 : List ByteArray) (a0_1 : ByteArray) (a0_2 : ByteArray) (A0_3 : Option Addr) (c0_3 : Nat) (l0_3 : List (S46)) (a1 : Int) (r : Int) (w : World) (hr0_0 : Kd.C Kd.string w A0_0 l0_0.length l0_0) (hc0_0 : l0_0.length ≤ c0_0) (hr0_3 : Kd.C k46 w A0_3 l0_3.length l0_3) (hc0_3 : l0_3.length ≤ c0_3) (h : check_Glob.f k l0_0 a0_1 a0_2 l0_3 a1 = some r) :
    Calls Tryz.prog 90 #[.agg #[.slice A0_0 l0_0.length c0_0, .string a0_1, .string a0_2, .slice A0_3 l0_3.length c0_3], .int .u8 a1] w fun e w' => e = .returned (.int .i64 r) ∧ Below w.heap.size w w' := by
  have hu25 := Tryz.underlying25
  have HR0_0 := Aside0.mk hr0_0
  have HC0_0 := Aside0.mk hc0_0
  clear hr0_0 hc0_0
  have HR0_3 := Aside0.mk hr0_3
  have HC0_3 := Aside0.mk hc0_3
  clear hr0_3 hc0_3
  have HB := Aside0.mk (Below.refl w.heap.size w)
  have H : ((check_named.f k l0_0 a0_2 a1).bind fun t114 => (some t114)) = some r := h
  clear h
  replace H := Option.bind_eq_some_iff.mp H
  obtain ⟨t114, A30, H⟩ := H
  replace H : (some t114) = some r := H
  have A3 := Aside0.mk A30
  clear A30
  obtain rfl := Option.some.inj H
  go_enter Tryz.func90, Tryz.ntmps90
  go_wp2_with (first | ((with_reducible refine gate_dst (N := 2) rfl ?_); refine box_event ?hg (N := 2) ?hd (cs := #[.slice A0_0 l0_0.length c0_0, .string a0_1, .string a0_2, .slice A0_3 l0_3.length c0_3]) (t := 25) ?hr ?_; (case hd => rfl); (case hg => rfl); (case hr => first | (go_simp; done) | (go_simp; rfl)); intro gb113 hg w4 hbox hb; have n0_ := Aside0.mk (below_step (by repeat (first | (with_reducible first | exact HB.out | apply below_alloc | apply pw_below_drewN | apply below_drew1) | exact HB.out)) hb); have n1_ := Aside0.mk (hbox); have n2_ := Aside0.mk ((by rw [hg]; exact (below_size (by repeat (first | (with_reducible first | exact HB.out | apply below_alloc | apply pw_below_drewN | apply below_drew1) | exact HB.out))) : w.heap.size ≤ gb113)); have n3_ := Aside0.mk ((by rw [hg]; exact (below_size (by repeat (first | (with_reducible first | exact HB.out | apply below_alloc | apply pw_below_drewN | apply below_drew1) | exact HB.out))) : w.heap.size ≤ gb113)); clear HB; have HB := n0_; have BK113 := n1_; have GW113 := n2_; have GE113 := n3_; clear n0_ n1_ n2_ n3_; clear hb hbox hg; have hcz5_0 : w4.cell? ⟨gb113, 0, none⟩ = some (.slice A0_0 l0_0.length c0_0) := (blk_cell BK113.out 0).trans rfl; have hcz5_1 : w4.cell? ⟨gb113, 1, none⟩ = some (.string a0_1) := (blk_cell BK113.out 1).trans rfl; have hcz5_2 : w4.cell? ⟨gb113, 2, none⟩ = some (.string a0_2) := (blk_cell BK113.out 2).trans rfl; have hcz5_3 : w4.cell? ⟨gb113, 3, none⟩ = some (.slice A0_3 l0_3.length c0_3) := (blk_cell BK113.out 3).trans rfl; have hfz5_0 := blk_frozen BK113.out 0; have hfz5_1 := blk_frozen BK113.out 1; have hfz5_2 := blk_frozen BK113.out 2; have hfz5_3 := blk_frozen BK113.out 3) | ((with_reducible refine gate_callee (f := 101) rfl ?_); refine goesL_ (some 10) rfl rfl Tryz.func101 (by kernel_rfl) rfl #[.slice A0_0 l0_0.length c0_0, .string a0_2, .int .u8 a1] rfl (by (try simp only [List.map_toArray, List.map_cons, List.map_nil]); first | done | rfl | (simp only [List.length_drop, List.length_take]; rfl)) ?_; (with_reducible refine (check_named.calls k _ _ l0_0 a0_2 a1 t114 _ ?side1 ?side2 A3.out).mono ?_); (case side1 => repeat (first | exact (Kd.C_below HR0_0.out HB.out) | (with_reducible refine Kd.C_alloc ?_ _) | (with_reducible refine Kd.C_drewN ?_ _) | (with_reducible refine Kd.C_drew ?_))); (case side2 => exact HC0_0.out); rintro e w' ⟨rfl, ⟨nd, rfl⟩⟩; refine ⟨_, rfl, ?_⟩))
  go_ret
  exact ⟨by first | rfl | (simp [errW_none, errW_some] <;> rfl) | (simp [*, errW_none, errW_some] <;> rfl), by repeat (first | (with_reducible first | exact HB.out | apply below_alloc | apply pw_below_drewN | apply below_drew1 | refine below_set ?_ GE113.out) | exact HB.out)⟩
end Go.Proofs.YtocechpmgfhenaaGreatDoor.PK

namespace Go.Proofs.YtocechpmgfhenaaGreatDoor.PK
open Go.RowKit Go.Proofs.YtocechpmgfhenaaGreatDoorW.PrintWords Go.Proofs.YtocechpmgfhenaaGreatDoorW.PrintLast Go.Proofs.YtocechpmgfhenaaGreatDoorW.PrintMore
attribute [local go_sem] max2_int min2_int max_two min_two max_three min_three max_four min_four
set_option linter.unusedVariables false
set_option linter.unusedSimpArgs false
open Go.Proofs.YtocechpmgfhenaaGreatDoor.F
noncomputable def check_field.f (k : Nat) (l0_0 : List ByteArray) (a0_1 : ByteArray) (a0_2 : ByteArray) (l0_3 : List (S46)) (a1 : Int) (a2 : Int) : Option (Int × Bool) := if a1 < 0 then (some ((-1), false)) else (if a2 < 0 then (some ((-1), false)) else ((kind_Size.f k l0_0 a1).bind fun t116 => (if a2 ≥ t116 then (some ((-1), false)) else ((kind_To.f k l0_0 a1 a2).bind fun t117 => (some (t117, true))))))
set_option maxHeartbeats 8000000 in
set_option maxRecDepth 100000 in
theorem check_field.calls (k : Nat) (A0_0 : Option Addr) (c0_0 : Nat) (l0_0 : List ByteArray) (a0_1 : ByteArray) (a0_2 : ByteArray) (A0_3 : Option Addr) (c0_3 : Nat) (l0_3 : List (S46)) (a1 : Int) (a2 : Int) (r1 : Int) (r2 : Bool) (w : World) (hr0_0 : Kd.C Kd.string w A0_0 l0_0.length l0_0) (hc0_0 : l0_0.length ≤ c0_0) (hr0_3 : Kd.C k46 w A0_3 l0_3.length l0_3) (hc0_3 : l0_3.length ≤ c0_3) (h : check_field.f k l0_0 a0_1 a0_2 l0_3 a1 a2 = some (r1, r2)) :
    Calls Tryz.prog 89 #[.agg #[.slice A0_0 l0_0.length c0_0, .string a0_1, .string a0_2, .slice A0_3 l0_3.length c0_3], .int .i64 a1, .int .i64 a2] w fun e w' => e = .returned (.tuple #[.int .i64 r1, .bool r2]) ∧ Below w.heap.size w w' := by
  have hu25 := Tryz.underlying25
  have HR0_0 := Aside0.mk hr0_0
  have HC0_0 := Aside0.mk hc0_0
  clear hr0_0 hc0_0
  have HR0_3 := Aside0.mk hr0_3
  have HC0_3 := Aside0.mk hc0_3
  clear hr0_3 hc0_3
  have HB := Aside0.mk (Below.refl w.heap.size w)
  have H : (if a1 < 0 then (some ((-1), false)) else (if a2 < 0 then (some ((-1), false)) else ((kind_Size.f k l0_0 a1).bind fun t116 => (if a2 ≥ t116 then (some ((-1), false)) else ((kind_To.f k l0_0 a1 a2).bind fun t117 => (some (t117, true))))))) = some (r1, r2) := h
  clear h
  by_cases c4 : a1 < 0
  · rw [if_pos c4] at H
    have c4b0 : decide (a1 < 0) = true := decide_eq_true c4
    clear c4
    simp only [Option.some.injEq, Prod.mk.injEq] at H
    obtain ⟨rfl, rfl⟩ := H
    go_enter Tryz.func89, Tryz.ntmps89
    go_wp2_with (first | ((with_reducible refine gate_dst (N := 3) rfl ?_); refine box_event ?hg (N := 3) ?hd (cs := #[.slice A0_0 l0_0.length c0_0, .string a0_1, .string a0_2, .slice A0_3 l0_3.length c0_3]) (t := 25) ?hr ?_; (case hd => rfl); (case hg => rfl); (case hr => first | (go_simp; done) | (go_simp; rfl)); intro gb115 hg w5 hbox hb; have n0_ := Aside0.mk (below_step (by repeat (first | (with_reducible first | exact HB.out | apply below_alloc | apply pw_below_drewN | apply below_drew1) | exact HB.out)) hb); have n1_ := Aside0.mk (hbox); have n2_ := Aside0.mk ((by rw [hg]; exact (below_size (by repeat (first | (with_reducible first | exact HB.out | apply below_alloc | apply pw_below_drewN | apply below_drew1) | exact HB.out))) : w.heap.size ≤ gb115)); have n3_ := Aside0.mk ((by rw [hg]; exact (below_size (by repeat (first | (with_reducible first | exact HB.out | apply below_alloc | apply pw_below_drewN | apply below_drew1) | exact HB.out))) : w.heap.size ≤ gb115)); clear HB; have HB := n0_; have BK115 := n1_; have GW115 := n2_; have GE115 := n3_; clear n0_ n1_ n2_ n3_; clear hb hbox hg))
    go_ret2
    exact ⟨by first | rfl | (simp [errW_none, errW_some] <;> rfl) | (simp [*, errW_none, errW_some] <;> rfl), by repeat (first | (with_reducible first | exact HB.out | apply below_alloc | apply pw_below_drewN | apply below_drew1 | refine below_set ?_ GE115.out) | exact HB.out)⟩
  · rw [if_neg c4] at H
    have c4b0 : decide (a1 < 0) = false := decide_eq_false c4
    clear c4
    by_cases c6 : a2 < 0
    · rw [if_pos c6] at H
      have c6b0 : decide (a2 < 0) = true := decide_eq_true c6
      clear c6
      simp only [Option.some.injEq, Prod.mk.injEq] at H
      obtain ⟨rfl, rfl⟩ := H
      go_enter Tryz.func89, Tryz.ntmps89
      go_wp2_with (first | ((with_reducible refine gate_dst (N := 3) rfl ?_); refine box_event ?hg (N := 3) ?hd (cs := #[.slice A0_0 l0_0.length c0_0, .string a0_1, .string a0_2, .slice A0_3 l0_3.length c0_3]) (t := 25) ?hr ?_; (case hd => rfl); (case hg => rfl); (case hr => first | (go_simp; done) | (go_simp; rfl)); intro gb115 hg w7 hbox hb; have n0_ := Aside0.mk (below_step (by repeat (first | (with_reducible first | exact HB.out | apply below_alloc | apply pw_below_drewN | apply below_drew1) | exact HB.out)) hb); have n1_ := Aside0.mk (hbox); have n2_ := Aside0.mk ((by rw [hg]; exact (below_size (by repeat (first | (with_reducible first | exact HB.out | apply below_alloc | apply pw_below_drewN | apply below_drew1) | exact HB.out))) : w.heap.size ≤ gb115)); have n3_ := Aside0.mk ((by rw [hg]; exact (below_size (by repeat (first | (with_reducible first | exact HB.out | apply below_alloc | apply pw_below_drewN | apply below_drew1) | exact HB.out))) : w.heap.size ≤ gb115)); clear HB; have HB := n0_; have BK115 := n1_; have GW115 := n2_; have GE115 := n3_; clear n0_ n1_ n2_ n3_; clear hb hbox hg))
      go_ret2
      exact ⟨by first | rfl | (simp [errW_none, errW_some] <;> rfl) | (simp [*, errW_none, errW_some] <;> rfl), by repeat (first | (with_reducible first | exact HB.out | apply below_alloc | apply pw_below_drewN | apply below_drew1 | refine below_set ?_ GE115.out) | exact HB.out)⟩
    · rw [if_neg c6] at H
      have c6b0 : decide (a2 < 0) = false := decide_eq_false c6
      clear c6
      replace H := Option.bind_eq_some_iff.mp H
      obtain ⟨t116, A80, H⟩ := H
      replace H : (if a2 ≥ t116 then (some ((-1), false)) else ((kind_To.f k l0_0 a1 a2).bind fun t117 => (some (t117, true)))) = some (r1, r2) := H
      have A8 := Aside0.mk A80
      clear A80
      by_cases c9 : a2 ≥ t116
      · rw [if_pos c9] at H
        have c9b0 : decide (t116 ≤ a2) = true := decide_eq_true c9
        clear c9
        simp only [Option.some.injEq, Prod.mk.injEq] at H
        obtain ⟨rfl, rfl⟩ := H
        go_enter Tryz.func89, Tryz.ntmps89
        go_wp2_with (first | ((with_reducible refine gate_dst (N := 3) rfl ?_); refine box_event ?hg (N := 3) ?hd (cs := #[.slice A0_0 l0_0.length c0_0, .string a0_1, .string a0_2, .slice A0_3 l0_3.length c0_3]) (t := 25) ?hr ?_; (case hd => rfl); (case hg => rfl); (case hr => first | (go_simp; done) | (go_simp; rfl)); intro gb115 hg w10 hbox hb; have n0_ := Aside0.mk (below_step (by repeat (first | (with_reducible first | exact HB.out | apply below_alloc | apply pw_below_drewN | apply below_drew1) | exact HB.out)) hb); have n1_ := Aside0.mk (hbox); have n2_ := Aside0.mk ((by rw [hg]; exact (below_size (by repeat (first | (with_reducible first | exact HB.out | apply below_alloc | apply pw_below_drewN | apply below_drew1) | exact HB.out))) : w.heap.size ≤ gb115)); have n3_ := Aside0.mk ((by rw [hg]; exact (below_size (by repeat (first | (with_reducible first | exact HB.out | apply below_alloc | apply pw_below_drewN | apply below_drew1) | exact HB.out))) : w.heap.size ≤ gb115)); clear HB; have HB := n0_; have BK115 := n1_; have GW115 := n2_; have GE115 := n3_; clear n0_ n1_ n2_ n3_; clear hb hbox hg; have hcz11_0 : w10.cell? ⟨gb115, 0, none⟩ = some (.slice A0_0 l0_0.length c0_0) := (blk_cell BK115.out 0).trans rfl; have hcz11_1 : w10.cell? ⟨gb115, 1, none⟩ = some (.string a0_1) := (blk_cell BK115.out 1).trans rfl; have hcz11_2 : w10.cell? ⟨gb115, 2, none⟩ = some (.string a0_2) := (blk_cell BK115.out 2).trans rfl; have hcz11_3 : w10.cell? ⟨gb115, 3, none⟩ = some (.slice A0_3 l0_3.length c0_3) := (blk_cell BK115.out 3).trans rfl; have hfz11_0 := blk_frozen BK115.out 0; have hfz11_1 := blk_frozen BK115.out 1; have hfz11_2 := blk_frozen BK115.out 2; have hfz11_3 := blk_frozen BK115.out 3) | (go_at_call 72; (with_reducible refine (kind_Size.calls k _ _ l0_0 a1 t116 _ ?side1 ?side2 A8.out).mono ?_); (case side1 => repeat (first | exact (Kd.C_below HR0_0.out HB.out) | (with_reducible refine Kd.C_alloc ?_ _) | (with_reducible refine Kd.C_drewN ?_ _) | (with_reducible refine Kd.C_drew ?_))); (case side2 => exact HC0_0.out); rintro e w' ⟨rfl, ⟨nd, rfl⟩⟩))
        go_ret2
        exact ⟨by first | rfl | (simp [errW_none, errW_some] <;> rfl) | (simp [*, errW_none, errW_some] <;> rfl), by repeat (first | (with_reducible first | exact HB.out | apply below_alloc | apply pw_below_drewN | apply below_drew1 | refine below_set ?_ GE115.out) | exact HB.out)⟩
      · rw [if_neg c9] at H
        have c9b0 : decide (t116 ≤ a2) = false := decide_eq_false c9
        clear c9
        replace H := Option.bind_eq_some_iff.mp H
        obtain ⟨t117, A120, H⟩ := H
        replace H : (some (t117, true)) = some (r1, r2) := H
        have A12 := Aside0.mk A120
        clear A120
        simp only [Option.some.injEq, Prod.mk.injEq] at H
        obtain ⟨rfl, rfl⟩ := H
        go_enter Tryz.func89, Tryz.ntmps89
        go_wp2_with (first | ((with_reducible refine gate_dst (N := 3) rfl ?_); refine box_event ?hg (N := 3) ?hd (cs := #[.slice A0_0 l0_0.length c0_0, .string a0_1, .string a0_2, .slice A0_3 l0_3.length c0_3]) (t := 25) ?hr ?_; (case hd => rfl); (case hg => rfl); (case hr => first | (go_simp; done) | (go_simp; rfl)); intro gb115 hg w13 hbox hb; have n0_ := Aside0.mk (below_step (by repeat (first | (with_reducible first | exact HB.out | apply below_alloc | apply pw_below_drewN | apply below_drew1) | exact HB.out)) hb); have n1_ := Aside0.mk (hbox); have n2_ := Aside0.mk ((by rw [hg]; exact (below_size (by repeat (first | (with_reducible first | exact HB.out | apply below_alloc | apply pw_below_drewN | apply below_drew1) | exact HB.out))) : w.heap.size ≤ gb115)); have n3_ := Aside0.mk ((by rw [hg]; exact (below_size (by repeat (first | (with_reducible first | exact HB.out | apply below_alloc | apply pw_below_drewN | apply below_drew1) | exact HB.out))) : w.heap.size ≤ gb115)); clear HB; have HB := n0_; have BK115 := n1_; have GW115 := n2_; have GE115 := n3_; clear n0_ n1_ n2_ n3_; clear hb hbox hg; have hcz14_0 : w13.cell? ⟨gb115, 0, none⟩ = some (.slice A0_0 l0_0.length c0_0) := (blk_cell BK115.out 0).trans rfl; have hcz14_1 : w13.cell? ⟨gb115, 1, none⟩ = some (.string a0_1) := (blk_cell BK115.out 1).trans rfl; have hcz14_2 : w13.cell? ⟨gb115, 2, none⟩ = some (.string a0_2) := (blk_cell BK115.out 2).trans rfl; have hcz14_3 : w13.cell? ⟨gb115, 3, none⟩ = some (.slice A0_3 l0_3.length c0_3) := (blk_cell BK115.out 3).trans rfl; have hfz14_0 := blk_frozen BK115.out 0; have hfz14_1 := blk_frozen BK115.out 1; have hfz14_2 := blk_frozen BK115.out 2; have hfz14_3 := blk_frozen BK115.out 3) | (go_at_call 72; (with_reducible refine (kind_Size.calls k _ _ l0_0 a1 t116 _ ?side1 ?side2 A8.out).mono ?_); (case side1 => repeat (first | exact (Kd.C_below HR0_0.out HB.out) | (with_reducible refine Kd.C_alloc ?_ _) | (with_reducible refine Kd.C_drewN ?_ _) | (with_reducible refine Kd.C_drew ?_))); (case side2 => exact HC0_0.out); rintro e w' ⟨rfl, ⟨nd, rfl⟩⟩) | ((with_reducible refine gate_callee (f := 105) rfl ?_); refine goesL_ (some 26) rfl rfl Tryz.func105 (by kernel_rfl) rfl #[.slice A0_0 l0_0.length c0_0, .int .i64 a1, .int .i64 a2] rfl (by (try simp only [List.map_toArray, List.map_cons, List.map_nil]); first | done | rfl | (simp only [List.length_drop, List.length_take]; rfl)) ?_; (with_reducible refine (kind_To.calls k _ _ l0_0 a1 a2 t117 _ ?side1 ?side2 A12.out).mono ?_); (case side1 => repeat (first | exact (Kd.C_below HR0_0.out (by repeat (first | (with_reducible first | exact HB.out | apply below_alloc | apply pw_below_drewN | apply below_drew1 | refine below_set ?_ GE115.out) | exact HB.out))) | (with_reducible refine Kd.C_alloc ?_ _) | (with_reducible refine Kd.C_drewN ?_ _) | (with_reducible refine Kd.C_drew ?_))); (case side2 => exact HC0_0.out); rintro e w' ⟨rfl, ⟨nd, rfl⟩⟩; refine ⟨_, rfl, ?_⟩))
        go_ret2
        exact ⟨by first | rfl | (simp [errW_none, errW_some] <;> rfl) | (simp [*, errW_none, errW_some] <;> rfl), by repeat (first | (with_reducible first | exact HB.out | apply below_alloc | apply pw_below_drewN | apply below_drew1 | refine below_set ?_ GE115.out) | exact HB.out)⟩
noncomputable def check_number.f (k : Nat) (l0_0 : List ByteArray) (a0_1 : ByteArray) (a0_2 : ByteArray) (l0_3 : List (S46)) (a1 : Int) (a2 : Int) : Option (Bool) := (check_field.f k l0_0 a0_1 a0_2 l0_3 a1 a2).bind fun bt119 => (if bt119.2 = true then (some (decide (bt119.1 < 0))) else (some false))
set_option maxHeartbeats 8000000 in
set_option maxRecDepth 100000 in
theorem check_number.calls (k : Nat) (A0_0 : Option Addr) (c0_0 : Nat) (l0_0 : List ByteArray) (a0_1 : ByteArray) (a0_2 : ByteArray) (A0_3 : Option Addr) (c0_3 : Nat) (l0_3 : List (S46)) (a1 : Int) (a2 : Int) (r : Bool) (w : World) (hr0_0 : Kd.C Kd.string w A0_0 l0_0.length l0_0) (hc0_0 : l0_0.length ≤ c0_0) (hr0_3 : Kd.C k46 w A0_3 l0_3.length l0_3) (hc0_3 : l0_3.length ≤ c0_3) (h : check_number.f k l0_0 a0_1 a0_2 l0_3 a1 a2 = some r) :
    Calls Tryz.prog 88 #[.agg #[.slice A0_0 l0_0.length c0_0, .string a0_1, .string a0_2, .slice A0_3 l0_3.length c0_3], .int .i64 a1, .int .i64 a2] w fun e w' => e = .returned (.bool r) ∧ Below w.heap.size w w' := by
  have hu25 := Tryz.underlying25
  have HR0_0 := Aside0.mk hr0_0
  have HC0_0 := Aside0.mk hc0_0
  clear hr0_0 hc0_0
  have HR0_3 := Aside0.mk hr0_3
  have HC0_3 := Aside0.mk hc0_3
  clear hr0_3 hc0_3
  have HB := Aside0.mk (Below.refl w.heap.size w)
  have H : ((check_field.f k l0_0 a0_1 a0_2 l0_3 a1 a2).bind fun bt119 => (if bt119.2 = true then (some (decide (bt119.1 < 0))) else (some false))) = some r := h
  clear h
  replace H := Option.bind_eq_some_iff.mp H
  obtain ⟨⟨t119, t120⟩, A40, H⟩ := H
  replace H : (if t120 = true then (some (decide (t119 < 0))) else (some false)) = some r := H
  have A4 := Aside0.mk A40
  clear A40
  by_cases c5 : t120 = true
  · subst c5
    have H1 : (some (decide (t119 < 0))) = some r := by rw [if_pos rfl] at H; exact H
    clear H
    have H := H1
    clear H1
    obtain rfl := Option.some.inj H
    go_enter Tryz.func88, Tryz.ntmps88
    go_wp2_with (first | ((with_reducible refine gate_dst (N := 3) rfl ?_); refine box_event ?hg (N := 3) ?hd (cs := #[.slice A0_0 l0_0.length c0_0, .string a0_1, .string a0_2, .slice A0_3 l0_3.length c0_3]) (t := 25) ?hr ?_; (case hd => rfl); (case hg => rfl); (case hr => first | (go_simp; done) | (go_simp; rfl)); intro gb118 hg w6 hbox hb; have n0_ := Aside0.mk (below_step (by repeat (first | (with_reducible first | exact HB.out | apply below_alloc | apply pw_below_drewN | apply below_drew1) | exact HB.out)) hb); have n1_ := Aside0.mk (hbox); have n2_ := Aside0.mk ((by rw [hg]; exact (below_size (by repeat (first | (with_reducible first | exact HB.out | apply below_alloc | apply pw_below_drewN | apply below_drew1) | exact HB.out))) : w.heap.size ≤ gb118)); have n3_ := Aside0.mk ((by rw [hg]; exact (below_size (by repeat (first | (with_reducible first | exact HB.out | apply below_alloc | apply pw_below_drewN | apply below_drew1) | exact HB.out))) : w.heap.size ≤ gb118)); clear HB; have HB := n0_; have BK118 := n1_; have GW118 := n2_; have GE118 := n3_; clear n0_ n1_ n2_ n3_; clear hb hbox hg; have hcz7_0 : w6.cell? ⟨gb118, 0, none⟩ = some (.slice A0_0 l0_0.length c0_0) := (blk_cell BK118.out 0).trans rfl; have hcz7_1 : w6.cell? ⟨gb118, 1, none⟩ = some (.string a0_1) := (blk_cell BK118.out 1).trans rfl; have hcz7_2 : w6.cell? ⟨gb118, 2, none⟩ = some (.string a0_2) := (blk_cell BK118.out 2).trans rfl; have hcz7_3 : w6.cell? ⟨gb118, 3, none⟩ = some (.slice A0_3 l0_3.length c0_3) := (blk_cell BK118.out 3).trans rfl; have hfz7_0 := blk_frozen BK118.out 0; have hfz7_1 := blk_frozen BK118.out 1; have hfz7_2 := blk_frozen BK118.out 2; have hfz7_3 := blk_frozen BK118.out 3) | ((with_reducible refine gate_callee (f := 89) rfl ?_); refine goesL_ (some 13) rfl rfl Tryz.func89 (by kernel_rfl) rfl #[.agg #[.slice A0_0 l0_0.length c0_0, .string a0_1, .string a0_2, .slice A0_3 l0_3.length c0_3], .int .i64 a1, .int .i64 a2] rfl (by (try simp only [List.map_toArray, List.map_cons, List.map_nil]); first | done | rfl | (simp only [List.length_drop, List.length_take]; rfl)) ?_; (with_reducible refine (check_field.calls k _ _ l0_0 a0_1 a0_2 _ _ l0_3 a1 a2 t119 true _ ?side1 ?side2 ?side3 ?side4 A4.out).mono ?_); (case side1 => repeat (first | exact (Kd.C_below HR0_0.out HB.out) | (with_reducible refine Kd.C_alloc ?_ _) | (with_reducible refine Kd.C_drewN ?_ _) | (with_reducible refine Kd.C_drew ?_))); (case side2 => exact HC0_0.out); (case side3 => repeat (first | exact (Kd.C_below HR0_3.out HB.out) | (with_reducible refine Kd.C_alloc ?_ _) | (with_reducible refine Kd.C_drewN ?_ _) | (with_reducible refine Kd.C_drew ?_))); (case side4 => exact HC0_3.out); rintro e w8 ⟨rfl, hb⟩; refine ⟨_, rfl, ?_⟩; have n0_ := Aside0.mk (blk_below (g := gb118) (o := .cells #[.slice A0_0 l0_0.length c0_0, .string a0_1, .string a0_2, .slice A0_3 l0_3.length c0_3] 25 (0, 0)) (by (with_reducible repeat (first | refine blk_drewN ?_ _ | refine blk_drew ?_ | refine blk_alloc ?_ _)); exact BK118.out) hb); have n1_ := Aside0.mk (below_step (by repeat (first | (with_reducible first | exact HB.out | apply below_alloc | apply pw_below_drewN | apply below_drew1 | refine below_set ?_ GE118.out) | exact HB.out)) hb); clear BK118; clear HB; have BK118 := n0_; have HB := n1_; clear n0_ n1_; (try clear hb); (try clear hb2); (try clear hk); (try clear hi)))
    go_ret
    exact ⟨by first | rfl | (simp [errW_none, errW_some] <;> rfl) | (simp [*, errW_none, errW_some] <;> rfl), by repeat (first | (with_reducible first | exact HB.out | apply below_alloc | apply pw_below_drewN | apply below_drew1 | refine below_set ?_ GE118.out) | exact HB.out)⟩
  · replace c5 := Bool.eq_false_iff.mpr c5
    subst c5
    have H1 : (some false) = some r := by rw [if_neg (show ¬ (false = true) by decide)] at H; exact H
    clear H
    have H := H1
    clear H1
    obtain rfl := Option.some.inj H
    go_enter Tryz.func88, Tryz.ntmps88
    go_wp2_with (first | ((with_reducible refine gate_dst (N := 3) rfl ?_); refine box_event ?hg (N := 3) ?hd (cs := #[.slice A0_0 l0_0.length c0_0, .string a0_1, .string a0_2, .slice A0_3 l0_3.length c0_3]) (t := 25) ?hr ?_; (case hd => rfl); (case hg => rfl); (case hr => first | (go_simp; done) | (go_simp; rfl)); intro gb118 hg w9 hbox hb; have n0_ := Aside0.mk (below_step (by repeat (first | (with_reducible first | exact HB.out | apply below_alloc | apply pw_below_drewN | apply below_drew1) | exact HB.out)) hb); have n1_ := Aside0.mk (hbox); have n2_ := Aside0.mk ((by rw [hg]; exact (below_size (by repeat (first | (with_reducible first | exact HB.out | apply below_alloc | apply pw_below_drewN | apply below_drew1) | exact HB.out))) : w.heap.size ≤ gb118)); have n3_ := Aside0.mk ((by rw [hg]; exact (below_size (by repeat (first | (with_reducible first | exact HB.out | apply below_alloc | apply pw_below_drewN | apply below_drew1) | exact HB.out))) : w.heap.size ≤ gb118)); clear HB; have HB := n0_; have BK118 := n1_; have GW118 := n2_; have GE118 := n3_; clear n0_ n1_ n2_ n3_; clear hb hbox hg; have hcz10_0 : w9.cell? ⟨gb118, 0, none⟩ = some (.slice A0_0 l0_0.length c0_0) := (blk_cell BK118.out 0).trans rfl; have hcz10_1 : w9.cell? ⟨gb118, 1, none⟩ = some (.string a0_1) := (blk_cell BK118.out 1).trans rfl; have hcz10_2 : w9.cell? ⟨gb118, 2, none⟩ = some (.string a0_2) := (blk_cell BK118.out 2).trans rfl; have hcz10_3 : w9.cell? ⟨gb118, 3, none⟩ = some (.slice A0_3 l0_3.length c0_3) := (blk_cell BK118.out 3).trans rfl; have hfz10_0 := blk_frozen BK118.out 0; have hfz10_1 := blk_frozen BK118.out 1; have hfz10_2 := blk_frozen BK118.out 2; have hfz10_3 := blk_frozen BK118.out 3) | ((with_reducible refine gate_callee (f := 89) rfl ?_); refine goesL_ (some 13) rfl rfl Tryz.func89 (by kernel_rfl) rfl #[.agg #[.slice A0_0 l0_0.length c0_0, .string a0_1, .string a0_2, .slice A0_3 l0_3.length c0_3], .int .i64 a1, .int .i64 a2] rfl (by (try simp only [List.map_toArray, List.map_cons, List.map_nil]); first | done | rfl | (simp only [List.length_drop, List.length_take]; rfl)) ?_; (with_reducible refine (check_field.calls k _ _ l0_0 a0_1 a0_2 _ _ l0_3 a1 a2 t119 false _ ?side1 ?side2 ?side3 ?side4 A4.out).mono ?_); (case side1 => repeat (first | exact (Kd.C_below HR0_0.out HB.out) | (with_reducible refine Kd.C_alloc ?_ _) | (with_reducible refine Kd.C_drewN ?_ _) | (with_reducible refine Kd.C_drew ?_))); (case side2 => exact HC0_0.out); (case side3 => repeat (first | exact (Kd.C_below HR0_3.out HB.out) | (with_reducible refine Kd.C_alloc ?_ _) | (with_reducible refine Kd.C_drewN ?_ _) | (with_reducible refine Kd.C_drew ?_))); (case side4 => exact HC0_3.out); rintro e w11 ⟨rfl, hb⟩; refine ⟨_, rfl, ?_⟩; have n0_ := Aside0.mk (blk_below (g := gb118) (o := .cells #[.slice A0_0 l0_0.length c0_0, .string a0_1, .string a0_2, .slice A0_3 l0_3.length c0_3] 25 (0, 0)) (by (with_reducible repeat (first | refine blk_drewN ?_ _ | refine blk_drew ?_ | refine blk_alloc ?_ _)); exact BK118.out) hb); have n1_ := Aside0.mk (below_step (by repeat (first | (with_reducible first | exact HB.out | apply below_alloc | apply pw_below_drewN | apply below_drew1 | refine below_set ?_ GE118.out) | exact HB.out)) hb); clear BK118; clear HB; have BK118 := n0_; have HB := n1_; clear n0_ n1_; (try clear hb); (try clear hb2); (try clear hk); (try clear hi)))
    go_ret
    exact ⟨by first | rfl | (simp [errW_none, errW_some] <;> rfl) | (simp [*, errW_none, errW_some] <;> rfl), by repeat (first | (with_reducible first | exact HB.out | apply below_alloc | apply pw_below_drewN | apply below_drew1 | refine below_set ?_ GE118.out) | exact HB.out)⟩
noncomputable def check_one.f (a0 : Int) (a1 : Int) : Option (Bool) := if a0 ≥ 0 then (some (a0 == a1)) else (some false)
set_option maxHeartbeats 8000000 in
set_option maxRecDepth 100000 in
theorem check_one.calls (a0 : Int) (a1 : Int) (r : Bool) (w : World) (h : check_one.f a0 a1 = some r) :
    Calls Tryz.prog 87 #[.int .i64 a0, .int .i64 a1] w fun e w' => e = .returned (.bool r) ∧ Drawn0 w w' := by
  have H : (if a0 ≥ 0 then (some (a0 == a1)) else (some false)) = some r := h
  clear h
  by_cases c3 : a0 ≥ 0
  · rw [if_pos c3] at H
    have c3b0 : decide (0 ≤ a0) = true := decide_eq_true c3
    clear c3
    obtain rfl := Option.some.inj H
    go_enter Tryz.func87, Tryz.ntmps87
    go_wp2
    go_ret
    exact ⟨by first | rfl | (simp; done) | (simp [*]; done), by repeat (first | exact Drawn0.refl _ | apply Drawn0.step)⟩
  · rw [if_neg c3] at H
    have c3b0 : decide (0 ≤ a0) = false := decide_eq_false c3
    clear c3
    obtain rfl := Option.some.inj H
    go_enter Tryz.func87, Tryz.ntmps87
    go_wp2
    go_ret
    exact ⟨by first | rfl | (simp; done) | (simp [*]; done), by repeat (first | exact Drawn0.refl _ | apply Drawn0.step)⟩
noncomputable def check_ints.l0 : Nat → List Int → Int → Int → Option (Bool)
  | 0, _, _, _ => none
  | k + 1, x5, x6, x7 => if x7 < x6 then (if 0 ≤ x7 then (if x7 < (x5.length : Int) then (if (rd x5 x7) ≥ 8 then (some false) else (check_ints.l0 k x5 x6 (wrap64 (x7 + 1)))) else (none)) else (none)) else (some true)
noncomputable def check_ints.f (k : Nat) (l0 : List Int) : Option (Bool) := check_ints.l0 k l0 (l0.length : Int) 0
set_option maxHeartbeats 8000000 in
set_option maxRecDepth 100000 in
theorem check_ints.calls (k : Nat) (A0 : Option Addr) (c0 : Nat) (l0 : List Int) (r : Bool) (w : World) (hr0 : Kd.C (Kd.int .u8) w A0 l0.length l0) (hc0 : l0.length ≤ c0) (h : check_ints.f k l0 = some r) :
    Calls Tryz.prog 86 #[.slice A0 l0.length c0] w fun e w' => e = .returned (.bool r) ∧ Drawn0 w w' := by
  have HR0 := Aside0.mk hr0
  have HC0 := Aside0.mk hc0
  clear hr0 hc0
  have H : (check_ints.l0 k l0 (l0.length : Int) 0) = some r := h
  clear h
  have H' := Aside0.mk H
  clear H
  go_enter Tryz.func86, Tryz.ntmps86
  go_wp2
  go_loopg [7] k (fun kq v7 w' => ∃ (x7_1 : Int), v7 = .int .i64 x7_1 ∧ Aside0 (check_ints.l0 kq l0 (l0.length : Int) x7_1 = some r) ∧ Aside0 (kq ≤ k) ∧ Drawn0 w w')
  case atStart => exact ⟨(0), (by first | rfl | (simp; done) | (simp [*]; done)), H', ⟨Nat.le_refl _⟩, by repeat (first | exact Drawn0.refl _ | apply Drawn0.step)⟩
  case round =>
    clear H'
    obtain ⟨x7_1, rfl, HA, HK1, ⟨m1, rfl⟩⟩ := hrel
    cases gk with
    | zero => exact absurd HA.out (by simp [check_ints.l0])
    | succ k1 =>
      have H := HA.out
      clear HA
      simp only [check_ints.l0] at H
      by_cases c2 : x7_1 < (l0.length : Int)
      · rw [if_pos c2] at H
        have c2b0 : decide (x7_1 < (l0.length : Int)) = true := decide_eq_true c2
        clear c2
        by_cases c3 : 0 ≤ x7_1
        · rw [if_pos c3] at H
          have c3b0 : decide (0 ≤ x7_1) = true := decide_eq_true c3
          clear c3
          by_cases c4 : x7_1 < (l0.length : Int)
          · rw [if_pos c4] at H
            have c4b0 : decide (x7_1 < (l0.length : Int)) = true := decide_eq_true c4
            clear c4
            by_cases c5 : (rd l0 x7_1) ≥ 8
            · rw [if_pos c5] at H
              have c5b0 : decide (8 ≤ (rd l0 x7_1)) = true := decide_eq_true c5
              clear c5
              obtain rfl := Option.some.inj H
              have p121 : 0 ≤ (x7_1 : Int) := of_decide_eq_true (by first | (with_reducible assumption) | assumption)
              have q121 : x7_1 < (l0.length : Int) := of_decide_eq_true (by first | (with_reducible assumption) | assumption)
              obtain ⟨ad121, e121, hx121_0⟩ := Kd.at_int HR0.out x7_1 p121 q121
              cases e121
              replace p121 := eq_true p121
              replace q121 := eq_true q121
              go_wp2
              go_ret
              exact ⟨by first | rfl | (simp; done) | (simp [*]; done), by repeat (first | exact Drawn0.refl _ | apply Drawn0.step)⟩
            · rw [if_neg c5] at H
              have c5b0 : decide (8 ≤ (rd l0 x7_1)) = false := decide_eq_false c5
              clear c5
              have H' := Aside0.mk H
              clear H
              have p121 : 0 ≤ (x7_1 : Int) := of_decide_eq_true (by first | (with_reducible assumption) | assumption)
              have q121 : x7_1 < (l0.length : Int) := of_decide_eq_true (by first | (with_reducible assumption) | assumption)
              obtain ⟨ad121, e121, hx121_0⟩ := Kd.at_int HR0.out x7_1 p121 q121
              cases e121
              replace p121 := eq_true p121
              replace q121 := eq_true q121
              go_wp2
              go_roundg k1
              case measure => have := HK1.out; omega
              case rel => exact ⟨(wrap64 (x7_1 + 1)), (by first | rfl | (simp; done) | (simp [*]; done)), H', ⟨by have := HK1.out; omega⟩, by repeat (first | exact Drawn0.refl _ | apply Drawn0.step)⟩
          · rw [if_neg c4] at H
            exact absurd H (by simp)
        · rw [if_neg c3] at H
          exact absurd H (by simp)
      · rw [if_neg c2] at H
        have c2b0 : decide (x7_1 < (l0.length : Int)) = false := decide_eq_false c2
        clear c2
        obtain rfl := Option.some.inj H
        go_wp2
        go_ret
        exact ⟨by first | rfl | (simp; done) | (simp [*]; done), by repeat (first | exact Drawn0.refl _ | apply Drawn0.step)⟩
end Go.Proofs.YtocechpmgfhenaaGreatDoor.PK

namespace Go.Proofs.YtocechpmgfhenaaGreatDoor.PK
open Go.RowKit Go.Proofs.YtocechpmgfhenaaGreatDoorW.PrintWords Go.Proofs.YtocechpmgfhenaaGreatDoorW.PrintLast Go.Proofs.YtocechpmgfhenaaGreatDoorW.PrintMore
attribute [local go_sem] max2_int min2_int max_two min_two max_three min_three max_four min_four
set_option linter.unusedVariables false
set_option linter.unusedSimpArgs false
open Go.Proofs.YtocechpmgfhenaaGreatDoor.F
end Go.Proofs.YtocechpmgfhenaaGreatDoor.PK

namespace Go.Proofs.YtocechpmgfhenaaGreatDoor.KP
open Go.RowKit Go.Proofs.YtocechpmgfhenaaGreatDoorW.PrintWords Go.Proofs.YtocechpmgfhenaaGreatDoor.Scan Go.Proofs.YtocechpmgfhenaaGreatDoor.F Go.Proofs.YtocechpmgfhenaaGreatDoor.PK
theorem kind_digit_val {c n : Int} (h0 : 0 ≤ c) (h1 : c ≤ 255) : kind_digit.f c n = some (dg c n) := by
  have e1 : wrap64 c = c := by unfold wrap64; omega
  have e2 : wrap64 (c - 48) = c - 48 := by unfold wrap64; omega
  unfold kind_digit.f dg
  rw [e1, e2]
  by_cases h : 48 ≤ c
  · by_cases h' : c - 48 < n
    · rw [if_pos (by omega), if_pos h', if_pos ⟨h, h'⟩]
    · rw [if_pos (by omega), if_neg h', if_neg (by omega)]
  · rw [if_neg (by omega), if_neg (by omega)]
theorem kind_l1_step (ts : List ByteArray) (i : Int) (s : ByteArray) (hz : (s.size : Int) ≤ 9223372036854775807) (j : Int) (q : Bool) (h0 : 0 ≤ j) (h1 : j < s.size) (hk : OkC ts.length (bt s j))
    (hq : Ev (fun k => kind_Right.l1 k ts s ts (ts.length : Int) i (s.size : Int) (j + 1)) q) : Ev (fun k => kind_Right.l1 k ts s ts (ts.length : Int) i (s.size : Int) j) q := by
  refine ev_step (fun k => ?_) hq
  have hb := bt_range s j
  show kind_Right.l1 (k + 1) ts s ts (ts.length : Int) i (s.size : Int) j = kind_Right.l1 k ts s ts (ts.length : Int) i (s.size : Int) (j + 1)
  rw [kind_Right.l1, if_pos h1, if_pos h0, if_pos h1, wrap_succ h0 h1 hz]
  by_cases hc : bt s j = 105
  · rw [if_pos hc]
  · rw [if_neg hc, kind_digit_val hb.1 hb.2, Option.bind_some, if_neg (by have := hk.resolve_left hc; omega)]
theorem kind_l1_bad (ts : List ByteArray) (i : Int) (s : ByteArray) (j : Int) (h0 : 0 ≤ j) (h1 : j < s.size) (hk : ¬ OkC ts.length (bt s j)) :
    Ev (fun k => kind_Right.l1 k ts s ts (ts.length : Int) i (s.size : Int) j) false := by
  refine ev_some fun k => ?_
  have hb := bt_range s j
  rw [kind_Right.l1, if_pos h1, if_pos h0, if_pos h1]
  rw [if_neg (fun hc => hk (.inl hc)), kind_digit_val hb.1 hb.2, Option.bind_some, if_pos (by have : ¬ 0 ≤ dg (bt s j) ts.length := fun hd => hk (.inr hd); omega)]
theorem kind_Right_ev (ts : List ByteArray) (hl : (ts.length : Int) ≤ 9223372036854775807) (hs : ∀ s ∈ ts, (s.size : Int) ≤ 9223372036854775807) : Ev (fun k => kind_Right.f k ts) (right ts) := by
  classical
  have H1 : ∀ i q, 0 ≤ i → i < (ts.length : Int) → OkT ts.length (rdOf ByteArray.empty ts i) → Ev (fun k => kind_Right.l0 k ts ts (ts.length : Int) (i + 1)) q → Ev (fun k => kind_Right.l0 k ts ts (ts.length : Int) i) q := by
    intro i q h0 h1 hk hq
    have hz := rd_size ts hs i
    have hlen : (rdOf ByteArray.empty ts i).toList ≠ [] := fun e => by
      have := (toList_nil _).1 e
      have := hk.1
      omega
    refine ev_step (f := fun k => kind_Right.j1 k ts (rdOf ByteArray.empty ts i) ts (ts.length : Int) i false) (fun k => ?_) (ev_step (f := fun k => kind_Right.l1 k ts (rdOf ByteArray.empty ts i) ts (ts.length : Int) i ((rdOf ByteArray.empty ts i).size : Int) 0) (fun k => ?_) ?_)
    · show kind_Right.l0 (k + 1) ts ts (ts.length : Int) i = _
      rw [kind_Right.l0, if_pos h1, if_pos h0, if_pos h1, if_neg hlen]
      congr 1
      rw [decide_eq_false_iff_not]
      have := hk.2.1
      omega
    · show kind_Right.j1 (k + 1) _ _ _ _ _ _ = _
      rw [kind_Right.j1, if_neg (by decide)]
    · refine scan0_good (fun k j => kind_Right.l1 k ts (rdOf ByteArray.empty ts i) ts (ts.length : Int) i ((rdOf ByteArray.empty ts i).size : Int) j) _ q _ (by omega) (fun j q' a b c d => kind_l1_step ts i _ hz j q' a b c d) ?_ hk.2.2
      refine ev_step (fun k => ?_) hq
      show kind_Right.l1 (k + 1) _ _ _ _ _ _ _ = _
      rw [kind_Right.l1, if_neg (by omega), wrap_succ h0 h1 hl]
  have H2 : ∀ i, 0 ≤ i → i < (ts.length : Int) → ¬ OkT ts.length (rdOf ByteArray.empty ts i) → Ev (fun k => kind_Right.l0 k ts ts (ts.length : Int) i) false := by
    intro i h0 h1 hk
    have hz := rd_size ts hs i
    by_cases he : (rdOf ByteArray.empty ts i).toList = []
    · refine ev_step (f := fun k => kind_Right.j1 k ts (rdOf ByteArray.empty ts i) ts (ts.length : Int) i true) (fun k => ?_) (ev_some fun k => ?_)
      · show kind_Right.l0 (k + 1) ts ts (ts.length : Int) i = _
        rw [kind_Right.l0, if_pos h1, if_pos h0, if_pos h1, if_pos he]
      · rw [kind_Right.j1, if_pos rfl]
    · have hn : (rdOf ByteArray.empty ts i).size ≠ 0 := fun e => he ((toList_nil _).2 e)
      refine ev_step (f := fun k => kind_Right.j1 k ts (rdOf ByteArray.empty ts i) ts (ts.length : Int) i (decide (((rdOf ByteArray.empty ts i).size : Int) > 6))) (fun k => ?_) ?_
      · show kind_Right.l0 (k + 1) ts ts (ts.length : Int) i = _
        rw [kind_Right.l0, if_pos h1, if_pos h0, if_pos h1, if_neg he]
      · by_cases h6 : ((rdOf ByteArray.empty ts i).size : Int) > 6
        · refine ev_some fun k => ?_
          rw [kind_Right.j1, if_pos (decide_eq_true h6)]
        · refine ev_step (f := fun k => kind_Right.l1 k ts (rdOf ByteArray.empty ts i) ts (ts.length : Int) i ((rdOf ByteArray.empty ts i).size : Int) 0) (fun k => ?_) ?_
          · show kind_Right.j1 (k + 1) _ _ _ _ _ _ = _
            rw [kind_Right.j1, if_neg (by simpa using h6)]
          · exact scan0_bad (fun k j => kind_Right.l1 k ts (rdOf ByteArray.empty ts i) ts (ts.length : Int) i ((rdOf ByteArray.empty ts i).size : Int) j) _ false (fun j => OkC ts.length (bt (rdOf ByteArray.empty ts i) j)) (by omega) (fun j q' a b c d => kind_l1_step ts i _ hz j q' a b c d) (fun j a b c => kind_l1_bad ts i _ j a b c) fun ha => hk ⟨by omega, by omega, ha⟩
  show Ev (fun k => kind_Right.l0 k ts ts (ts.length : Int) 0) (right ts)
  by_cases h : ∀ i : Int, 0 ≤ i → i < ts.length → OkT ts.length (rdOf ByteArray.empty ts i)
  · have e : right ts = decide (1 ≤ ts.length ∧ ts.length ≤ 8) := by
      unfold right
      rw [decide_eq_decide]
      exact ⟨fun x => x.2, fun x => ⟨h, x⟩⟩
    rw [e]
    refine scan0_good (fun k i => kind_Right.l0 k ts ts (ts.length : Int) i) _ _ _ (by omega) H1 (ev_some fun k => ?_) h
    simp only [kind_Right.l0]
    rw [if_neg (by omega)]
    by_cases h : 1 ≤ ts.length
    · rw [if_pos (by omega)]
      congr 1
      rw [decide_eq_decide]
      omega
    · rw [if_neg (by omega)]
      congr 1
      symm
      rw [decide_eq_false_iff_not]
      omega
  · have e : right ts = false := by
      unfold right
      rw [decide_eq_false_iff_not]
      exact fun x => h x.1
    rw [e]
    exact scan0_bad (fun k i => kind_Right.l0 k ts ts (ts.length : Int) i) _ false _ (by omega) H1 H2 h
theorem kind_Refs_ev (ts : List ByteArray) (s : ByteArray) (hl : (ts.length : Int) ≤ 9223372036854775807) (hs : ∀ s ∈ ts, (s.size : Int) ≤ 9223372036854775807) (hz : (s.size : Int) ≤ 9223372036854775807) :
    Ev (fun k => kind_Refs.f k ts s) (refs ts s) := by
  classical
  have H1 : ∀ i q, 0 ≤ i → i < (s.size : Int) → 0 ≤ dg (bt s i) ts.length → Ev (fun k => kind_Refs.l0 k ts s (s.size : Int) (i + 1)) q → Ev (fun k => kind_Refs.l0 k ts s (s.size : Int) i) q := by
    intro i q h0 h1 hk hq
    have hb := bt_range s i
    refine ev_step (fun k => ?_) hq
    show kind_Refs.l0 (k + 1) _ _ _ _ = kind_Refs.l0 k ts s (s.size : Int) (i + 1)
    rw [kind_Refs.l0, if_pos h1, if_pos h0, if_pos h1, kind_digit_val hb.1 hb.2, Option.bind_some, if_neg (by omega), wrap_succ h0 h1 hz]
  have H2 : ∀ i, 0 ≤ i → i < (s.size : Int) → ¬ 0 ≤ dg (bt s i) ts.length → Ev (fun k => kind_Refs.l0 k ts s (s.size : Int) i) false := by
    intro i h0 h1 hk
    have hb := bt_range s i
    refine ev_some fun k => ?_
    rw [kind_Refs.l0, if_pos h1, if_pos h0, if_pos h1, kind_digit_val hb.1 hb.2, Option.bind_some, if_pos (by omega)]
  show Ev (fun k => kind_Refs.l0 k ts s (s.size : Int) 0) (refs ts s)
  by_cases h : AllD ts.length s
  · have e : refs ts s = right ts := by
      unfold refs right
      rw [decide_eq_decide]
      exact ⟨fun x => x.1, fun x => ⟨x, h⟩⟩
    rw [e]
    refine scan0_good (fun k i => kind_Refs.l0 k ts s (s.size : Int) i) _ _ _ (by omega) H1 ?_ h
    refine ev_step (f := fun k => (kind_Right.f k ts).bind fun t => some t) (fun k => ?_) (ev_bind (kind_Right_ev ts hl hs) ev_const)
    show kind_Refs.l0 (k + 1) _ _ _ _ = _
    rw [kind_Refs.l0, if_neg (by omega)]
  · have e : refs ts s = false := by
      unfold refs
      rw [decide_eq_false_iff_not]
      exact fun x => h x.2
    rw [e]
    exact scan0_bad (fun k i => kind_Refs.l0 k ts s (s.size : Int) i) _ false _ (by omega) H1 H2 h
section
variable (ts : List ByteArray) (hl : (ts.length : Int) ≤ 9223372036854775807) (hs : ∀ s ∈ ts, (s.size : Int) ≤ 9223372036854775807)
include hl hs
theorem kind_of_ev (t : Int) : Ev (fun k => kind_of.f k ts t) (typ ts t) := by
  refine ev_bind (kind_Right_ev ts hl hs) (ev_all fun k => ?_)
  rcases right_cases ts with ⟨e, h⟩ | ⟨e, h⟩
  · rw [e, if_pos rfl]
    by_cases h0 : t < 0
    · rw [if_pos h0, typ_not fun x => by have := x.2.1; omega]
    · by_cases h1 : t ≥ ts.length
      · rw [if_neg h0, if_pos h1, typ_not fun x => by have := x.2.2; omega]
      · rw [if_neg h0, if_neg h1, if_pos (by omega), if_pos (by omega), typ_is ⟨h, by omega, by omega⟩]
  · rw [e, if_neg (by decide), typ_not fun x => h x.1]
theorem kind_Size_ev (t : Int) : Ev (fun k => kind_Size.f k ts t) (size ts t) :=
  ev_bind (kind_of_ev ts hl hs t) (ev_all fun _ => rfl)
theorem kind_To_ev (t f : Int) : Ev (fun k => kind_To.f k ts t f) (to_ ts t f) := by
  refine ev_bind (kind_of_ev ts hl hs t) (ev_all fun k => ?_)
  have hb := bt_range (typ ts t) f
  unfold to_ size
  by_cases h0 : f < 0
  · rw [if_pos h0, if_neg (by omega)]
  · by_cases h1 : f ≥ (typ ts t).size
    · rw [if_neg h0, if_pos h1, if_neg (by omega)]
    · rw [if_neg h0, if_neg h1, if_pos (by omega), if_pos (by omega), kind_digit_val hb.1 hb.2, if_pos (by omega)]
      rfl
end
end Go.Proofs.YtocechpmgfhenaaGreatDoor.KP

namespace Go.Proofs.YtocechpmgfhenaaGreatDoor.PL
open Go.RowKit Go.Proofs.YtocechpmgfhenaaGreatDoorW.PrintWords Go.Proofs.YtocechpmgfhenaaGreatDoor.Scan Go.Proofs.YtocechpmgfhenaaGreatDoor.F Go.Proofs.YtocechpmgfhenaaGreatDoor.KP Go.Proofs.YtocechpmgfhenaaGreatDoor.CR Go.Proofs.YtocechpmgfhenaaGreatDoor.SH Go.Proofs.YtocechpmgfhenaaGreatDoor.FM Go.Proofs.YtocechpmgfhenaaGreatDoor.PK
set_option linter.unusedVariables false
set_option linter.unusedSectionVars false
structure Pg.On (p : Pg) (w : World) : Prop where
  hT : Kd.C Kd.string w p.A0 p.ts.length p.ts
  hc0 : p.ts.length ≤ p.c0
  hC : Kd.C k46 w p.A3 p.code.length p.code
  hc3 : p.code.length ≤ p.c3
  hs : ∀ s ∈ p.ts, Fit s
  hla : p.la.size ≤ 1000000000000000
  hgl : p.gl.size ≤ 1000000000000000
  hw : WfC p.code
  ot : OT w
theorem Pg.On.below {p : Pg} {w w' : World} (h : p.On w) (hb : Below w.heap.size w w') : p.On w' := ⟨Kd.C_below h.hT hb, h.hc0, Kd.C_below h.hC hb, h.hc3, h.hs, h.hla, h.hgl, h.hw, OT_below h.ot hb⟩
theorem Pg.On.hl {p : Pg} {w : World} (h : p.On w) : (p.ts.length : Int) ≤ 9223372036854775807 := by have := Kd.C_max h.hT; omega
theorem Pg.On.hc {p : Pg} {w : World} (h : p.On w) : (p.code.length : Int) ≤ 9223372036854775807 := by have := Kd.C_max h.hC; omega
theorem named_ev (ts : List ByteArray) (hl : (ts.length : Int) ≤ 9223372036854775807) (hs : ∀ s ∈ ts, (s.size : Int) ≤ 9223372036854775807) (s : ByteArray) (hz : Fit s) (a : Int) (h0 : 0 ≤ a) (h255 : a ≤ 255) : Ev (fun k => check_named.f k ts s a) (atv ts s a) := by
  have e : wrap64 a = a := by unfold wrap64; omega
  have e1 : wrap64 (a + 1) = a + 1 := by unfold wrap64; omega
  unfold check_named.f atv
  simp only [e, e1]
  by_cases h : a ≥ (s.size : Int)
  · refine Ev.congr (fun k => if_pos h) ?_
    rw [if_neg (fun hh => by omega)]
    exact ev_const
  · have hr := kind_Refs_ev ts (s.extract a.toNat (a + 1).toNat) hl hs (extract_fit hz _ _)
    refine Ev.congr (fun k => if_neg h) (Ev.congr (fun k => if_pos h0) (Ev.congr (fun k => if_pos (by omega)) (Ev.congr (fun k => if_pos (by omega)) (ev_bind hr ?_))))
    by_cases hb : refs ts (s.extract a.toNat (a + 1).toNat) = true
    · refine Ev.congr (fun k => if_pos hb) (Ev.congr (fun k => if_pos h0) (Ev.congr (fun k => if_pos (by omega)) ?_))
      rw [if_pos ⟨by omega, hb⟩]
      exact ev_const
    · refine Ev.congr (fun k => if_neg hb) ?_
      rw [if_neg (fun hh => hb hh.2)]
      exact ev_const
noncomputable def numP (ts : List ByteArray) (t n : Int) : Bool := decide (0 ≤ t ∧ 0 ≤ n ∧ n < size ts t ∧ to_ ts t n < 0)
noncomputable def toP (ts : List ByteArray) (t n : Int) : Int := if 0 ≤ t then to_ ts t n else -1
noncomputable def isP (ts : List ByteArray) (t n : Int) : Bool := decide (0 ≤ t ∧ 0 ≤ n ∧ n < size ts t)
theorem field_ev (ts : List ByteArray) (hl : (ts.length : Int) ≤ 9223372036854775807) (hs : ∀ s ∈ ts, (s.size : Int) ≤ 9223372036854775807) (la gl : ByteArray) (code : List S46) (t n : Int) : Ev (fun k => check_field.f k ts la gl code t n) (toP ts t n, isP ts t n) := by
  have hn : ∀ q : ¬ (0 ≤ t ∧ 0 ≤ n ∧ n < size ts t), (toP ts t n, isP ts t n) = (-1, false) := fun q => by
    have h1 : toP ts t n = -1 := by
      unfold toP to_
      split
      · rw [if_neg (by omega)]
      · rfl
    rw [h1, show isP ts t n = false from decide_eq_false q]
  unfold check_field.f
  by_cases h0 : t < 0
  · rw [hn (by omega)]
    exact Ev.congr (fun k => if_pos h0) ev_const
  · refine Ev.congr (fun k => if_neg h0) ?_
    by_cases h1 : n < 0
    · rw [hn (by omega)]
      exact Ev.congr (fun k => if_pos h1) ev_const
    · refine Ev.congr (fun k => if_neg h1) (ev_bind (kind_Size_ev ts hl hs t) ?_)
      by_cases h2 : n ≥ size ts t
      · rw [hn (by omega)]
        exact Ev.congr (fun k => if_pos h2) ev_const
      · refine Ev.congr (fun k => if_neg h2) (ev_bind (kind_To_ev ts hl hs t n) ?_)
        rw [show toP ts t n = to_ ts t n from if_pos (by omega), show isP ts t n = true from decide_eq_true (by omega)]
        exact ev_const
theorem numP_ev (ts : List ByteArray) (hl : (ts.length : Int) ≤ 9223372036854775807) (hs : ∀ s ∈ ts, (s.size : Int) ≤ 9223372036854775807) (la gl : ByteArray) (code : List S46) (t n : Int) : Ev (fun k => check_number.f k ts la gl code t n) (numP ts t n) := by
  refine ev_bind (field_ev ts hl hs la gl code t n) ?_
  unfold numP isP toP
  by_cases h : 0 ≤ t ∧ 0 ≤ n ∧ n < size ts t
  · refine Ev.congr (fun k => if_pos (decide_eq_true h)) ?_
    rw [show decide (0 ≤ t ∧ 0 ≤ n ∧ n < size ts t ∧ to_ ts t n < 0) = decide (to_ ts t n < 0) by rw [decide_eq_decide]; exact ⟨fun q => q.2.2.2, fun q => ⟨h.1, h.2.1, h.2.2, q⟩⟩]
    simp only [if_pos h.1]
    exact ev_const
  · refine Ev.congr (fun k => if_neg (by rw [decide_eq_false h]; exact Bool.false_ne_true)) ?_
    rw [decide_eq_false (fun q => h ⟨q.1, q.2.1, q.2.2.1⟩)]
    exact ev_const
section
variable (p : Pg) (w : World) (h : p.On w)
include h
theorem pLocal_c (a : Int) (h0 : 0 ≤ a) (h1 : a ≤ 255) : Calls Tryz.prog 73 #[p.v, .int .u8 a] w fun e w' => e = .returned (.int .i64 (atv p.ts p.la a)) ∧ Below w.heap.size w w' := by
  obtain ⟨k, hk⟩ := ev_at (ev_bind (f := fun _ x => some x) (named_ev p.ts h.hl h.hs p.la (by have := h.hla; unfold Fit; omega) a h0 h1) ev_const)
  exact check_Local.calls k p.A0 p.c0 p.ts p.la p.gl p.A3 p.c3 p.code a _ w h.hT h.hc0 h.hC h.hc3 hk
theorem pGlob_c (a : Int) (h0 : 0 ≤ a) (h1 : a ≤ 255) : Calls Tryz.prog 90 #[p.v, .int .u8 a] w fun e w' => e = .returned (.int .i64 (atv p.ts p.gl a)) ∧ Below w.heap.size w w' := by
  obtain ⟨k, hk⟩ := ev_at (ev_bind (f := fun _ x => some x) (named_ev p.ts h.hl h.hs p.gl (by have := h.hgl; unfold Fit; omega) a h0 h1) ev_const)
  exact check_Glob.calls k p.A0 p.c0 p.ts p.la p.gl p.A3 p.c3 p.code a _ w h.hT h.hc0 h.hC h.hc3 hk
theorem pnumber_c (t n : Int) : Calls Tryz.prog 88 #[p.v, .int .i64 t, .int .i64 n] w fun e w' => e = .returned (.bool (numP p.ts t n)) ∧ Below w.heap.size w w' := by
  obtain ⟨k, hk⟩ := ev_at (numP_ev p.ts h.hl h.hs p.la p.gl p.code t n)
  exact check_number.calls k p.A0 p.c0 p.ts p.la p.gl p.A3 p.c3 p.code t n _ w h.hT h.hc0 h.hC h.hc3 hk
theorem pfield_c (t n : Int) : Calls Tryz.prog 89 #[p.v, .int .i64 t, .int .i64 n] w fun e w' => e = .returned (.tuple #[.int .i64 (toP p.ts t n), .bool (isP p.ts t n)]) ∧ Below w.heap.size w w' := by
  obtain ⟨k, hk⟩ := ev_at (field_ev p.ts h.hl h.hs p.la p.gl p.code t n)
  exact check_field.calls k p.A0 p.c0 p.ts p.la p.gl p.A3 p.c3 p.code t n _ _ w h.hT h.hc0 h.hC h.hc3 hk
theorem pRefs_c (s : ByteArray) (hz : s.size ≤ 2000000000000000) : Calls Tryz.prog 57 #[.slice p.A0 p.ts.length p.c0, .string s] w fun e w' => e = .returned (.bool (refs p.ts s)) ∧ Below w.heap.size w w' := by
  obtain ⟨k, hk⟩ := ev_at (kind_Refs_ev p.ts s h.hl h.hs (by omega))
  exact (kind_Refs.calls k p.A0 p.c0 p.ts s _ w h.hT h.hc0 hk).mono fun e w' h => ⟨h.1, h.2.below⟩
end
theorem pone_c (w : World) (a b : Int) : Calls Tryz.prog 87 #[.int .i64 a, .int .i64 b] w fun e w' => e = .returned (.bool (oneB a b)) ∧ Below w.heap.size w w' := by
  refine (check_one.calls a b (oneB a b) w ?_).mono fun e w' h => ⟨h.1, h.2.below⟩
  unfold check_one.f oneB
  by_cases h : a ≥ 0
  · rw [if_pos h, decide_eq_true (by omega : 0 ≤ a)]
    rfl
  · rw [if_neg h, decide_eq_false (by omega : ¬ 0 ≤ a)]
    rfl
theorem ints_ev (l : List Int) (hl : l.length ≤ 3) : Ev (fun k => check_ints.f k l) (l.all fun x => decide (x < 8)) := by
  have H : ∀ d i : Nat, i + d = l.length → Ev (fun k => check_ints.l0 k l l.length i) ((l.drop i).all fun x => decide (x < 8)) := by
    intro d
    induction d with
    | zero =>
      intro i hi
      rw [List.drop_of_length_le (by omega)]
      refine ev_some fun k => ?_
      rw [check_ints.l0, if_neg (by omega)]
      rfl
    | succ d ih =>
      intro i hi
      have er : rd l i = l[i]'(by omega) := rd_eq l i (by omega)
      rw [List.drop_eq_getElem_cons (by omega), List.all_cons, ← er]
      by_cases h : rd l i ≥ 8
      · refine ev_some fun k => ?_
        rw [check_ints.l0, if_pos (by omega), if_pos (by omega), if_pos (by omega), if_pos h, decide_eq_false (by omega)]
        rfl
      · rw [decide_eq_true (by omega : rd l i < 8), Bool.true_and]
        refine ev_step (fun k => ?_) (ih (i + 1) (by omega))
        show check_ints.l0 (k + 1) l l.length i = check_ints.l0 k l l.length ((i + 1 : Nat) : Int)
        rw [check_ints.l0, if_pos (by omega), if_pos (by omega), if_pos (by omega), if_neg h]
        congr 1
        unfold wrap64
        omega
  exact H l.length 0 (by omega)
theorem u8s_C (w : World) (t : TypeId) (l : List Int) (hl : l.length ≤ 3) : Kd.C (Kd.int .u8) (w.alloc (.cells (l.map (Value.int .u8)).toArray t)) (some ⟨w.heap.size, 0, none⟩) l.length l := by
  refine ⟨rfl, by omega, fun _ => ⟨_, rfl, fun j x hj => ⟨[.int .u8 x], rfl, rfl, fun i u hu => ?_⟩⟩⟩
  obtain ⟨rfl, rfl⟩ : i = 0 ∧ u = .int .u8 x := by
    cases i with
    | zero => exact ⟨rfl, (Option.some.inj hu).symm⟩
    | succ i => cases hu
  have e : (⟨w.heap.size, 0, none⟩ : Addr).add (j * 1 + 0) = ⟨w.heap.size, j, none⟩ := by
    unfold Addr.add
    split
    · rename_i h
      simp at h
      rw [h]
    · simp
  rw [show (Kd.int .u8).sz = 1 from rfl, e, cell_of_row _ _ _ _ _ _ (heap_alloc_new _ _)]
  simp [hj]
theorem ints_l (w : World) (t : TypeId) (l : List Int) (hl : l.length ≤ 3) : Calls Tryz.prog 86 #[.slice (some ⟨w.heap.size, 0, none⟩) l.length l.length] (w.alloc (.cells (l.map (Value.int .u8)).toArray t)) fun e w' => e = .returned (.bool (l.all fun x => decide (x < 8))) ∧ Below (w.alloc (.cells (l.map (Value.int .u8)).toArray t)).heap.size (w.alloc (.cells (l.map (Value.int .u8)).toArray t)) w' := by
  obtain ⟨k, hk⟩ := ev_at (ints_ev l hl)
  exact (check_ints.calls k _ _ l _ _ (u8s_C w t l hl) (Nat.le_refl _) hk).mono fun e w' h => ⟨h.1, h.2.below⟩
theorem ints1_c (w : World) (t : TypeId) (x : Int) (b : Bool) (hb : decide (x < 8) = b) : Calls Tryz.prog 86 #[.slice (some ⟨w.heap.size, 0, none⟩) 1 1] (w.alloc (.cells #[.int .u8 x] t)) fun e w' => e = .returned (.bool b) ∧ Below (w.alloc (.cells #[.int .u8 x] t)).heap.size (w.alloc (.cells #[.int .u8 x] t)) w' := by
  have h := ints_l w t [x] (by simp)
  simp only [List.all_cons, List.all_nil, Bool.and_true, hb] at h
  exact h
theorem ints3_c (w : World) (t : TypeId) (x y z : Int) : Calls Tryz.prog 86 #[.slice (some ⟨w.heap.size, 0, none⟩) 3 3] (w.alloc (.cells #[.int .u8 x, .int .u8 y, .int .u8 z] t)) fun e w' => e = .returned (.bool (decide (x < 8) && (decide (y < 8) && decide (z < 8)))) ∧ Below (w.alloc (.cells #[.int .u8 x, .int .u8 y, .int .u8 z] t)).heap.size (w.alloc (.cells #[.int .u8 x, .int .u8 y, .int .u8 z] t)) w' := by
  have h := ints_l w t [x, y, z] (by simp)
  simp only [List.all_cons, List.all_nil, Bool.and_true] at h
  exact h
end Go.Proofs.YtocechpmgfhenaaGreatDoor.PL

namespace Go.Proofs.YtocechpmgfhenaaGreatDoor.PRW
open Go.ChangeShapes Go.ChangeAt Go.RowKit Go.WideShapes Go.Proofs.YtocechpmgfhenaaGreatDoorW.PrintWords Go.Proofs.YtocechpmgfhenaaGreatDoor.F Go.Proofs.YtocechpmgfhenaaGreatDoor.CR Go.Proofs.YtocechpmgfhenaaGreatDoor.FM Go.Proofs.YtocechpmgfhenaaGreatDoor.PL Go.Proofs.YtocechpmgfhenaaGreatDoor.KP Go.Proofs.YtocechpmgfhenaaGreatDoor.TRO
set_option linter.unusedVariables false
theorem wf_i64 {n : Int} (h : (Lit.int .i64 n).wf = true) : -9223372036854775808 ≤ n ∧ n ≤ 9223372036854775807 := by
  simp [Lit.wf, IntKind.min, IntKind.max, IntKind.signed, IntKind.bits] at h
  omega
def IsStrs (w : World) (a : Option Addr) (len cap : Nat) (zs : List ByteArray) : Prop :=
  (a = none ∧ len = 0 ∧ cap = 0 ∧ zs = []) ∨
  ∃ x, a = some x ∧ len ≤ cap ∧ cap ≤ maxLen ∧ zs.length = cap ∧ (∀ i, i < zs.length → w.cell? (x.add i) = some (.string (zs.getD i ByteArray.empty))) ∧ ∀ s ∈ zs, s.size ≤ maxLen
theorem strs_C {w : World} {a : Option Addr} {len cap : Nat} {zs : List ByteArray} (h : IsStrs w a len cap zs) :
    ∃ l0 : List ByteArray, len = l0.length ∧ l0.length ≤ cap ∧ Kd.C Kd.string w a l0.length l0 ∧ ∀ s ∈ l0, (s.size : Int) ≤ 9223372036854775807 := by
  rcases h with ⟨rfl, rfl, rfl, rfl⟩ | ⟨x, rfl, hl, hm, hz, hc, hs⟩
  · exact ⟨[], rfl, Nat.le_refl _, Kd.C_nil _ _, fun s hs => by cases hs⟩
  · have hlen : (zs.take len).length = len := by rw [List.length_take]; omega
    refine ⟨zs.take len, hlen.symm, by omega, Kd.C_of_reads (d := ByteArray.empty) ⟨rfl, ?_, fun _ => ⟨x, rfl, fun j hj => ?_⟩⟩, fun s h => ?_⟩
    · rw [hlen]; unfold maxLen at hm; omega
    · rw [hlen] at hj
      rw [hc j (by omega)]
      congr 2
      rw [List.getD_eq_getElem?_getD, List.getD_eq_getElem?_getD, List.getElem?_take, if_pos hj]
    · have := hs s (List.mem_of_mem_take h)
      unfold maxLen at this
      omega
section
variable {H : Type} {enc : TypeId × Value → H} {W : World} {held : Bool} {sp : Nat → Bool}
set_option maxRecDepth 100000 in
theorem ins_at {fuel : Nat} {cs : List Value} {x : DataW H × List MemPlace} (h : DataW.trod enc Tryz.prog W 0 sp held fuel 46 cs = some x) :
    ∃ s : S46, cs = [.int .u8 s.f0, .int .u8 s.f1, .int .u8 s.f2, .int .u8 s.f3, .int .i64 s.f4] ∧ WfI s.f0 s.f1 s.f2 s.f3 s.f4 := by
  obtain ⟨xs, n, _, _, hl, hxl, hf⟩ := DataW.trod_struct Tryz.underlying46 h
  have hc5 : Tryz.prog.cellsOf 46 = 5 := by kernel_rfl
  have c1 : Tryz.prog.cellsOf 5 = 1 := by kernel_rfl
  have c2 : Tryz.prog.cellsOf 2 = 1 := by kernel_rfl
  rw [hc5] at hl
  match cs, hl with
  | [a, b, c, d, e], _ =>
    match xs, hxl with
    | [x0, x1, x2, x3, x4], _ =>
      obtain ⟨n0, e0, _, w0⟩ := DataW.trod_int Tryz.underlying5 (hf 0 _ rfl)
      obtain ⟨n1, e1, _, w1⟩ := DataW.trod_int Tryz.underlying5 (hf 1 _ rfl)
      obtain ⟨n2, e2, _, w2⟩ := DataW.trod_int Tryz.underlying5 (hf 2 _ rfl)
      obtain ⟨n3, e3, _, w3⟩ := DataW.trod_int Tryz.underlying5 (hf 3 _ rfl)
      obtain ⟨n4, e4, _, w4⟩ := DataW.trod_int Tryz.underlying2 (hf 4 _ rfl)
      have e0' : a = .int .u8 n0 := by simpa [c1, c2] using e0
      have e1' : b = .int .u8 n1 := by simpa [c1, c2] using e1
      have e2' : c = .int .u8 n2 := by simpa [c1, c2] using e2
      have e3' : d = .int .u8 n3 := by simpa [c1, c2] using e3
      have e4' : e = .int .i64 n4 := by simpa [c1, c2] using e4
      exact ⟨⟨n0, n1, n2, n3, n4⟩, by rw [e0', e1', e2', e3', e4'], wf_u8 w0, wf_u8 w1, wf_u8 w2, wf_u8 w3, wf_i64 w4⟩
set_option maxRecDepth 100000 in
theorem ins_row {fuel : Nat} {v : Value} {x : DataW H × List MemPlace} (h : DataW.trod enc Tryz.prog W 0 sp held fuel 23 [v] = some x) :
    ∃ (A : Option Addr) (c : Nat) (code : List S46), v = .slice A code.length c ∧ code.length ≤ c ∧ Kd.C k46 W A code.length code ∧ WfC code := by
  have hc5 : Tryz.prog.cellsOf 46 = 5 := by kernel_rfl
  rcases DataW.trod_slice Tryz.underlying23 h with ⟨h0, _⟩ | ⟨a, len, cap, elems, rest, n, _, h0, _, hb, hl, hm, hlen, hel, _, _⟩
  · injection h0 with h0
    exact ⟨none, 0, [], h0, Nat.le_refl _, Kd.C_nil _ _, fun x hx => by cases hx⟩
  · injection h0 with h0
    have each : ∀ i, ∃ s : S46, i < len → (∀ j u, ([.int .u8 s.f0, .int .u8 s.f1, .int .u8 s.f2, .int .u8 s.f3, .int .i64 s.f4] : List Value)[j]? = some u → W.cell? (a.add (i * 5 + j)) = some u) ∧ WfI s.f0 s.f1 s.f2 s.f3 s.f4 := by
      intro i
      by_cases hi : i < len
      · have h1 := hel i hi
        rw [List.getElem?_eq_getElem (by omega), hc5, Option.bind_eq_some_iff] at h1
        obtain ⟨cs, h2, h3⟩ := h1
        obtain ⟨s, rfl, hw⟩ := ins_at h3
        obtain ⟨_, _, h4⟩ := World.cells?_some h2
        refine ⟨s, fun _ => ⟨fun j u hu => ?_, hw⟩⟩
        have hj : j < 5 := by
          have := (List.getElem?_eq_some_iff.1 hu).1
          simpa using this
        have h5 := h4 j hj
        rw [hu] at h5
        rw [← h5]
        rw [TRO.add_add]
      · exact ⟨z46, fun h => absurd h hi⟩
    obtain ⟨f, hf⟩ := Classical.axiomOfChoice each
    have hlm : ((List.range len).map f).length = len := by simp
    refine ⟨some a, cap, (List.range len).map f, by rw [hlm]; exact h0, by rw [hlm]; exact hl, ?_, fun s hs => ?_⟩
    · rw [hlm]
      refine ⟨hlm, by unfold maxLen at hm; omega, fun _ => ⟨a, rfl, fun j p hp => ?_⟩⟩
      rw [List.getElem?_map] at hp
      by_cases hj : j < len
      · rw [List.getElem?_range hj] at hp
        obtain rfl := Option.some.inj hp
        exact ⟨_, rfl, k46_mk W (f j), fun i u hu => ((hf j) hj).1 i u hu⟩
      · rw [List.getElem?_eq_none (by simpa using hj)] at hp
        cases hp
    · obtain ⟨j, hj, rfl⟩ := List.mem_map.1 hs
      exact ((hf j) (List.mem_range.1 hj)).2
set_option maxRecDepth 100000 in
theorem open_prog {r : Reach} {b0 : Nat} {v : Value} {d : DataW H} {ps : List MemPlace} (hval : Value.okWide Tryz.prog W r b0 25 v) (hd : DataW.Trod enc Tryz.prog W 0 (fun _ => true) held 25 v d ps)
    (hw : (d.weights Tryz.prog 25).all (· ≤ reachBytes) = true) (hot : OT W) (htb : TB W) : ∃ p : Pg, v = p.v ∧ p.On W ∧ p.In W := by
  obtain ⟨cs, rfl, hn⟩ := okWide_struct Tryz.underlying25 hval
  have hc4 : Tryz.prog.cellsOf 25 = 4 := by kernel_rfl
  have c1 : Tryz.prog.cellsOf 9 = 1 := by kernel_rfl
  have c2 : Tryz.prog.cellsOf 22 = 1 := by kernel_rfl
  have c3' : Tryz.prog.cellsOf 23 = 1 := by kernel_rfl
  rw [hc4] at hn
  obtain ⟨fuel, hf⟩ := hd
  obtain ⟨xs, n, _, hx, _, hxl, hfl⟩ := DataW.trod_struct Tryz.underlying25 hf
  obtain ⟨l⟩ := cs
  match l, hn with
  | [a, b, c, e], _ =>
    match xs, hxl with
    | [x0, x1, x2, x3], _ =>
      have f0 : DataW.trod enc Tryz.prog W 0 (fun _ => true) held n 22 [a] = some x0 := by simpa [c2, Value.cells] using hfl 0 _ rfl
      have f1 : DataW.trod enc Tryz.prog W 0 (fun _ => true) held n 9 [b] = some x1 := by simpa [c1, Value.cells] using hfl 1 _ rfl
      have f2 : DataW.trod enc Tryz.prog W 0 (fun _ => true) held n 9 [c] = some x2 := by simpa [c1, Value.cells] using hfl 2 _ rfl
      have f3 : DataW.trod enc Tryz.prog W 0 (fun _ => true) held n 23 [e] = some x3 := by simpa [c3', Value.cells] using hfl 3 _ rfl
      obtain ⟨s1, e1, q1, w1⟩ := DataW.trod_string Tryz.underlying9 f1
      obtain ⟨s2, e2, q2, w2⟩ := DataW.trod_string Tryz.underlying9 f2
      obtain ⟨A3, c3, code, e3, hc3, hC3, hwf⟩ := ins_row f3
      injection e1 with e1
      injection e2 with e2
      have hS : ∃ A len cap zs, a = .slice A len cap ∧ IsStrs W A len cap zs := by
        rcases open_strings Tryz.underlying22 Tryz.underlying9 c1 f0 with ⟨hcs, _⟩ | ⟨x, l, c, zs, hcs, _, hl, hm, hz, _, hcell, hwz⟩
        · injection hcs with hcs
          exact ⟨none, 0, 0, [], hcs, .inl ⟨rfl, rfl, rfl, rfl⟩⟩
        · injection hcs with hcs
          exact ⟨some x, l, c, zs, hcs, .inr ⟨x, rfl, hl, hm, by simpa using hz, hcell, hwz⟩⟩
      obtain ⟨A0, len0, cap0, zs, e0, hz⟩ := hS
      obtain ⟨ts, rfl, hc0, hC0, hS0⟩ := strs_C hz
      subst e0 e1 e2 e3
      have hd := congrArg Prod.fst hx
      simp only [List.map_cons, List.map_nil] at hd
      rw [hd, q1, q2] at hw
      have hsz : s1.size ≤ 140737488355328 ∧ s2.size ≤ 140737488355328 := by
        simp [DataW.weights, Tryz.underlying25, DataW.weightsEach, reachBytes] at hw
        have h1 := of_decide_eq_true hw.2.1
        have h2 := of_decide_eq_true hw.2.2.1
        omega
      unfold maxLen at w1 w2
      exact ⟨⟨A0, cap0, ts, s1, s2, A3, c3, code⟩, rfl, ⟨hC0, hc0, hC3, hc3, hS0, by show s1.size ≤ _; omega, by show s2.size ≤ _; omega, hwf, hot⟩, ⟨hC0, hc0, hC3, hc3, hS0, by show (s1.size : Int) ≤ _; omega, by show (s2.size : Int) ≤ _; omega, hwf, htb⟩⟩
end
def L4 : List (String × DataW Unit) := [("math/bits.deBruijn32tab", Rows.laid_math_bits_deBruijn32tab), ("math/bits.deBruijn64tab", Rows.laid_math_bits_deBruijn64tab), ("internal/strconv.uint64pow10", Rows.laid_internal_strconv_uint64pow10), ("lockstitch/code.ops", Rows.laid_lockstitch_code_ops)]
theorem door_met (os : Os) (args : Array Value) : laidMetH Tryz.prog L4 ((World.doorLaid Tryz.prog 400 os).forCall (fun _ _ => 0) ⟨#[], args, []⟩).memory :=
  laidMetH_of_parts3 (fuel := 8) (laidMet_of_run' 8 (by kernel_rfl) (by kernel_rfl)) (by kernel_rfl) (by kernel_rfl)
theorem tabs {W : World} (h : laidMetH Tryz.prog L4 W) : TB W ∧ OT W := by
  rw [MakeChecks.laidMetH_plain _ _ _ (by kernel_rfl)] at h
  obtain ⟨ps, ⟨g0, t0, cs0, f0, p0, q0, _, _, _, _, ⟨g1, t1, cs1, f1, p1, q1, _, _, _, _, ⟨g2, t2, cs2, f2, p2, q2, hg2, ht2, hv2, hd2, ⟨g3, t3, cs3, f3, p3, q3, hg3, ht3, hv3, hd3, _, _⟩, _⟩, _⟩, _⟩, _, _⟩ := h
  obtain rfl := Option.some.inj ((show Tryz.prog.globalNamed "internal/strconv.uint64pow10" = some 1 by kernel_rfl).symm.trans hg2)
  obtain rfl := Option.some.inj ((show (Tryz.prog.globals[1]?).map (·.type) = some 179 by kernel_rfl).symm.trans ht2)
  obtain rfl := Option.some.inj ((show Tryz.prog.globalNamed "lockstitch/code.ops" = some 0 by kernel_rfl).symm.trans hg3)
  obtain rfl := Option.some.inj ((show (Tryz.prog.globals[0]?).map (·.type) = some 132 by kernel_rfl).symm.trans ht3)
  have e := Lib.cells_of_tab (k := .u64) (zs := Lib.pow10Tab) Tryz.underlying179 Tryz.underlying149 (by kernel_rfl) (by kernel_rfl) hd2
  have e' := ops_cells hd3
  constructor
  · unfold TB Lib.TabIs
    rw [hv2, ← e]
  · unfold OT
    rw [hv3, ← e']
theorem w_first {H : Type} {P : Program} {t : TypeId} {ts : List TypeId} {d : DataW H} {ds : List (DataW H)} (h : (DataW.weightsEach P (t :: ts) (d :: ds)).all (· ≤ reachBytes) = true) : (d.weights P t).all (· ≤ reachBytes) = true := by
  simp only [DataW.weightsEach, List.all_append, Bool.and_eq_true] at h
  exact h.1
end Go.Proofs.YtocechpmgfhenaaGreatDoor.PRW

namespace Go.Proofs.YtocechpmgfhenaaGreatDoor.Srt
open Go.RowKit Go.Proofs.YtocechpmgfhenaaGreatDoorW.PrintWords Go.Sort
def sorted (zs : List Int) : List Int := zs.mergeSort fun x y => decide (x ≤ y)
theorem sorted_length (zs : List Int) : (sorted zs).length = zs.length := List.length_mergeSort zs
theorem sorted_perm (zs : List Int) : (sorted zs).Perm zs := List.mergeSort_perm zs _
theorem sorted_sorted (zs : List Int) : (sorted zs).Pairwise (· ≤ ·) := by
  have h := List.pairwise_mergeSort (le := fun x y : Int => decide (x ≤ y)) (fun a b c h h' => by simp at *; omega) (fun a b => by simp; omega) zs
  exact h.imp fun h => by simpa using h
theorem seg_block (w : World) (g e m k : Nat) (d : Array Int) (os : Array Obj) (cur : Array Value) (h : w.heap[g]? = some (.cells cur e (0, 0))) :
    (grow (putRow (Value.int .i64) (Sort.ahead w k) g m d) os).heap[g]? = some (.cells (putCells (Value.int .i64) m d cur) e (0, 0)) := by
  have hg : g < w.heap.size := (Array.getElem?_eq_some_iff.1 h).1
  simp only [grow, putRow, mapBlock, Sort.ahead, Array.getElem?_append, Array.size_modify, hg, if_true, Array.getElem?_modify, h]
  rfl
theorem seg_other (w : World) (g m k : Nat) (d : Array Int) (os : Array Obj) (j : Nat) (hj : j < w.heap.size) (hne : j ≠ g) :
    (grow (putRow (Value.int .i64) (Sort.ahead w k) g m d) os).heap[j]? = w.heap[j]? := by
  simp only [grow, putRow, mapBlock, Sort.ahead, Array.getElem?_append, Array.size_modify, hj, if_true, Array.getElem?_modify]
  rw [if_neg (fun e => hne e.symm)]
theorem seg_grown (w : World) (g m k : Nat) (d : Array Int) (os : Array Obj) : w.grownBy (grow (putRow (Value.int .i64) (Sort.ahead w k) g m d) os) (some g) where
  os := rfl
  tape := rfl
  output := rfl
  size := by simp [grow, putRow, mapBlock, Sort.ahead]
  block := fun j hj hne => seg_other w g m k d os j hj fun e => hne (by rw [e])
theorem sort_seg (w : World) (B g n cap m c : Nat) (zs : List Int) (HO : w.ownsRow B 3 1 (.slice (some ⟨g, 0, none⟩) n cap) n (nums .i64 zs)) (hm : m ≤ n) (hn : n < 4611686018427387904) :
    Calls Tryz.prog 68 #[.slice (some ⟨g, m, none⟩) (n - m) c] w fun e w' =>
      e = .returned (.tuple #[]) ∧ w'.ownsRow B 3 1 (.slice (some ⟨g, 0, none⟩) n cap) n (nums .i64 (zs.take m ++ sorted (zs.drop m))) ∧ w.grownBy w' (some g) := by
  have hzl : zs.length = n := by have := HO.1; simpa [nums] using this
  have hl : (zs.drop m).length = n - m := by rw [List.length_drop, hzl]
  rcases HO.2 with ⟨h, _⟩ | ⟨g', cap', cur, he, hB, hh, hnc, hcm, hcs, hct⟩
  · cases h
  · have e2 : g' = g := by injection he with e1; injection e1 with e1; injection e1 with e1; exact e1.symm
    have e3 : cap' = cap := by injection he with _ _ e3; exact e3.symm
    subst e2 e3
    have hg : g' < w.heap.size := (Array.getElem?_eq_some_iff.1 hh).1
    rw [Nat.mul_one] at hcs hct
    have hget : ∀ j, j < n → cur[j]? = some (.int .i64 (zs.getD j 0)) := by
      intro j hj
      have := congrArg (fun l => l[j]?) hct
      simp only [List.getElem?_take, hj, if_true, Array.getElem?_toList, nums, List.getElem?_map] at this
      rw [this, List.getElem?_eq_getElem (by omega), List.getD_eq_getElem?_getD, List.getElem?_eq_getElem (by omega)]
      rfl
    have hH : Holds (Value.int .i64) w g' m (zs.drop m).toArray := by
      intro j hj
      have hj' : j < n - m := by simpa [hzl] using hj
      refine ⟨?_, by simp [World.frozen?, hh]⟩
      rw [cell_of_row w g' (m + j) cur _ _ hh, hget (m + j) (by omega)]
      congr 2
      rw [getElem!_pos _ j hj]
      simp only [List.getElem_toArray, List.getElem_drop]
      rw [List.getD_eq_getElem?_getD, List.getElem?_eq_getElem (by omega)]
      rfl
    rw [← hl]
    refine (Tryz.slices_Sort_int g' m c (zs.drop m) w hH hg (by omega)).mono ?_
    rintro e w' ⟨rfl, k, os, rfl⟩
    refine ⟨rfl, ⟨by simp [nums, hzl, sorted_length]; omega, .inr ⟨g', cap', _, rfl, hB, seg_block w g' _ m k _ os cur hh, hnc, hcm, ?_, ?_⟩⟩, seg_grown ..⟩
    · simp [putCells, hcs]
    · have hsl : (sorted (zs.drop m)).length = n - m := by rw [sorted_length, hl]
      apply List.ext_getElem?
      intro j
      rw [Nat.mul_one, List.getElem?_take]
      by_cases hj : j < n
      · rw [if_pos hj, Array.getElem?_toList, putCells, Array.getElem?_mapIdx, hget j hj]
        simp only [Option.map_some, nums, List.getElem?_map, List.size_toArray]
        have ht : (zs.take m).length = m := by rw [List.length_take, hzl]; omega
        by_cases hjm : m ≤ j
        · rw [List.getElem?_append_right (by omega), ht, List.getElem?_eq_getElem (by omega : j - m < (sorted (zs.drop m)).length), Option.map_some]
          rw [if_pos ⟨hjm, by show j < m + (sorted (zs.drop m)).length; omega⟩]
          congr 2
          rw [getElem!_pos _ (j - m) (by show j - m < (sorted (zs.drop m)).length; omega)]
          rfl
        · rw [if_neg (fun h => hjm h.1), List.getElem?_append_left (by omega), List.getElem?_take, if_pos (by omega), List.getElem?_eq_getElem (by omega), List.getD_eq_getElem?_getD, List.getElem?_eq_getElem (by omega)]
          rfl
      · rw [if_neg hj, List.getElem?_eq_none]
        simp [nums, hzl, hsl]
        omega
end Go.Proofs.YtocechpmgfhenaaGreatDoor.Srt

namespace Go.Proofs.YtocechpmgfhenaaGreatDoor.NX
open Go.RowKit Go.Proofs.YtocechpmgfhenaaGreatDoorW.PrintWords Go.Proofs.YtocechpmgfhenaaGreatDoorW.PrintLast Go.Proofs.YtocechpmgfhenaaGreatDoorW.PrintMore Go.Proofs.YtocechpmgfhenaaGreatDoor.F Go.Proofs.YtocechpmgfhenaaGreatDoor.Srt Go.Sort
theorem put_take (ys : List Int) (cur : Array Value) (h : ys.length ≤ cur.size) : (putCells (Value.int .i64) 0 ys.toArray cur).toList.take ys.length = nums .i64 ys := by
  apply List.ext_getElem?
  intro j
  rw [List.getElem?_take]
  by_cases hj : j < ys.length
  · rw [if_pos hj, Array.getElem?_toList, putCells, Array.getElem?_mapIdx, Array.getElem?_eq_getElem (by omega)]
    simp only [Option.map_some, nums, List.getElem?_map, List.size_toArray]
    rw [if_pos ⟨Nat.zero_le _, by omega⟩, List.getElem?_eq_getElem hj, Option.map_some]
    congr 2
    rw [getElem!_pos _ (j - 0) (by simpa using hj)]
    simp
  · rw [if_neg hj, List.getElem?_eq_none]
    simpa [nums] using hj
theorem compact_le (zs : List Int) : (Lib.compact zs).length ≤ zs.length := by
  unfold Lib.compact Lib.compactUpTo
  rw [List.length_map]
  exact Nat.le_trans (List.length_filter_le ..) (by simp)
theorem comp_own (w : World) (B g cap : Nat) (zs : List Int) (HO : w.ownsRow B 3 1 (.slice (some ⟨g, 0, none⟩) zs.length cap) zs.length (nums .i64 zs)) :
    Calls Tryz.prog 69 #[.slice (some ⟨g, 0, none⟩) zs.length cap] w fun e w' =>
      e = .returned (.slice (some ⟨g, 0, none⟩) (Lib.compact zs).length cap) ∧ w'.ownsRow B 3 1 (.slice (some ⟨g, 0, none⟩) (Lib.compact zs).length cap) (Lib.compact zs).length (nums .i64 (Lib.compact zs)) ∧ w.grownBy w' (some g) := by
  have hcl := compact_le zs
  rcases HO.2 with ⟨h, _⟩ | ⟨g', cap', cur, he, hB, hh, hnc, hcm, hcs, hct⟩
  · cases h
  · have e2 : g' = g := by injection he with e1; injection e1 with e1; injection e1 with e1; exact e1.symm
    have e3 : cap' = cap := by injection he with _ _ e3; exact e3.symm
    subst e2 e3
    rw [Nat.mul_one] at hcs hct
    have hget : ∀ j, j < zs.length → cur[j]? = some (.int .i64 (zs.getD j 0)) := by
      intro j hj
      have := congrArg (fun l => l[j]?) hct
      simp only [List.getElem?_take, hj, if_true, Array.getElem?_toList, nums, List.getElem?_map] at this
      rw [this, List.getElem?_eq_getElem (by omega), List.getD_eq_getElem?_getD, List.getElem?_eq_getElem (by omega)]
      rfl
    have hH : Holds (Value.int .i64) w g' 0 zs.toArray := by
      intro j hj
      have hj' : j < zs.length := by simpa using hj
      refine ⟨?_, by simp [World.frozen?, hh]⟩
      rw [cell_of_row w g' (0 + j) cur _ _ hh, hget (0 + j) (by omega)]
      congr 2
      rw [getElem!_pos _ j hj]
      simp only [List.getElem_toArray]
      rw [List.getD_eq_getElem?_getD, List.getElem?_eq_getElem (by omega)]
      simp
    have hmx : cap' ≤ maxLen := hcm
    unfold maxLen at hmx
    refine (Tryz.slices_Compact_int g' 0 cap' zs w hH (by omega) (by omega)).mono ?_
    rintro e w' ⟨rfl, q, rfl⟩
    have hb := seg_block w g' _ 0 q (Lib.compact zs ++ List.replicate (zs.length - (Lib.compact zs).length) 0).toArray #[] cur hh
    have hg := seg_grown w g' 0 q (Lib.compact zs ++ List.replicate (zs.length - (Lib.compact zs).length) 0).toArray #[]
    rw [grow_empty] at hb hg
    refine ⟨rfl, ⟨by simp [nums], .inr ⟨g', cap', _, rfl, hB, hb, by omega, hcm, ?_, ?_⟩⟩, hg⟩
    · simp [putCells, hcs]
    · have h := put_take (Lib.compact zs ++ List.replicate (zs.length - (Lib.compact zs).length) 0) cur (by simp; omega)
      have hlen : (Lib.compact zs ++ List.replicate (zs.length - (Lib.compact zs).length) (0 : Int)).length = zs.length := by simp; omega
      rw [hlen] at h
      have h2 := congrArg (List.take (Lib.compact zs).length) h
      rw [List.take_take, Nat.min_eq_left hcl] at h2
      rw [Nat.mul_one, h2]
      simp [nums]
theorem comp1 (x : Int) : Lib.compact [x] = [x] := by
  simp [Lib.compact, Lib.compactUpTo, Lib.keeps, List.range_succ]
theorem comp2 (x y : Int) : Lib.compact [x, y] = if x = y then [x] else [x, y] := by
  by_cases h : x = y
  · subst h
    simp [Lib.compact, Lib.compactUpTo, Lib.keeps, List.range_succ]
  · simp [Lib.compact, Lib.compactUpTo, Lib.keeps, List.range_succ, h, Ne.symm h]
theorem sorted2 (x y : Int) : sorted [x, y] = if x ≤ y then [x, y] else [y, x] := by
  have hp := sorted_perm [x, y]
  have hs := sorted_sorted [x, y]
  have hl := sorted_length [x, y]
  match hz : sorted [x, y], hl with
  | [a, b], _ =>
    rw [hz] at hp hs
    have hab : a ≤ b := by simpa using hs
    have h3 : a = x ∨ a = y := by
      have := (hp.mem_iff (a := a)).1 (by simp)
      simpa using this
    have hsum : a + b = x + y := by
      rcases h3 with rfl | rfl
      · have := List.perm_singleton.1 ((List.perm_cons a).1 hp)
        injection this with e
        omega
      · have := List.perm_singleton.1 ((List.perm_cons a).1 (hp.trans (List.Perm.swap ..)))
        injection this with e
        omega
    split
    · congr 1
      · omega
      · congr 1
        omega
    · congr 1
      · omega
      · congr 1
        omega
def nxt (code : List S46) (a : Int) : List Int :=
  if 0 ≤ a ∧ a < code.length then
    if (rd_T46 code a).f0 = 3 then [(rd_T46 code a).f4]
    else if (rd_T46 code a).f0 = 4 then if (rd_T46 code a).f4 < a + 1 then [(rd_T46 code a).f4, a + 1] else if (rd_T46 code a).f4 > a + 1 then [a + 1, (rd_T46 code a).f4] else [a + 1]
    else [a + 1]
  else []
theorem nxt_two (code : List S46) (a : Int) : (nxt code a).length ≤ 2 := by
  unfold nxt
  repeat' split
  all_goals simp
theorem comp_sort (x y : Int) : Lib.compact (sorted [x, y]) = if y < x then [y, x] else if y > x then [x, y] else [x] := by
  rw [sorted2]
  split
  · rw [comp2]
    repeat' split
    all_goals first | rfl | omega
  · rw [comp2]
    repeat' split
    all_goals first | rfl | omega
theorem lit1 (W : World) (B g : Nat) (x : Int) (hg : g = W.heap.size) (hB : B ≤ W.heap.size) : (W.alloc (.cells #[.int .i64 x] 3)).ownsRow B 3 1 (.slice (some ⟨g, 0, none⟩) [x].length 1) [x].length (nums .i64 [x]) := by
  subst hg
  exact own_lit W B 3 .i64 [x] hB (by simp)
theorem info_int : (Tryz.prog.info? 3).map (fun i => (i.zero, i.size, i.bytes)) = some (some (.int .i64 0), 1, 8) := by kernel_rfl
section
variable (w : World) (A0 : Option Addr) (c0 : Nat) (ts : List ByteArray) (la gl : ByteArray) (A3 : Option Addr) (c3 : Nat) (code : List S46) (hr3 : Kd.C k46 w A3 code.length code) (a : Int)
include hr3
omit hr3 in
set_option maxHeartbeats 1000000 in
set_option maxRecDepth 100000 in
theorem Next_out (h : ¬ (0 ≤ a ∧ a < code.length)) :
    Calls Tryz.prog 40 #[.agg #[.slice A0 ts.length c0, .string la, .string gl, .slice A3 code.length c3], .int .i64 a] w fun e w' => e = .returned (.slice none 0 0) ∧ Below w.heap.size w w' := by
  have HB := Aside0.mk (Below.refl w.heap.size w)
  by_cases h0 : a < 0
  · go_enter Tryz.func40, Tryz.ntmps40
    go_wp2
    go_ret
    exact ⟨rfl, below_alloc HB.out _⟩
  · have h1 : a ≥ (code.length : Int) := by omega
    go_enter Tryz.func40, Tryz.ntmps40
    go_wp2
    go_ret
    exact ⟨rfl, below_alloc HB.out _⟩
set_option maxHeartbeats 1000000 in
set_option maxRecDepth 100000 in
theorem Next_jump (h0 : 0 ≤ a) (h1 : a < code.length) (hop : (rd_T46 code a).f0 = 3) :
    Calls Tryz.prog 40 #[.agg #[.slice A0 ts.length c0, .string la, .string gl, .slice A3 code.length c3], .int .i64 a] w fun e w' => ∃ v, e = .returned v ∧ w'.ownsRow w.heap.size 3 1 v ([(rd_T46 code a).f4]).length (nums .i64 ([(rd_T46 code a).f4])) ∧ Below w.heap.size w w' := by
  have hmax := Kd.C_max hr3
  obtain ⟨an, rfl⟩ : ∃ n : Nat, a = n := ⟨a.toNat, by omega⟩
  obtain ⟨ad, ea, _⟩ := at_T46 hr3 an h0 h1
  subst ea
  obtain ⟨_, ea, y0, y1, y2, y3, y4⟩ := at_T46 (Kd.C_alloc (Kd.C_alloc hr3 (.cells #[.slice A0 ts.length c0, .string la, .string gl, .slice (some ad) code.length c3] 25)) (.cells #[.int .i64 ((an : Int) + 1)] 3)) an h0 h1
  cases ea
  rw [Int.toNat_natCast] at y0 y1 y2 y3 y4
  rw [hop] at y0
  have h0' : ¬ (an : Int) < 0 := by omega
  have h1' : ¬ (an : Int) ≥ code.length := by omega
  clear hr3
  go_enter Tryz.func40, Tryz.ntmps40
  go_wp2_with (go_at_call 69; refine (comp_own _ w.heap.size (w.heap.size + 1 + 1 + 1) 1 [(rd_T46 code an).f4] (lit1 _ _ _ _ (by simp) (by simp; omega))).mono ?_; rintro e w' ⟨rfl, ho, hg⟩; rw [comp1] at ho ⊢)
  go_ret
  refine ⟨_, rfl, ho, Below.grown (by repeat (first | exact Below.refl _ _ | refine below_alloc ?_ _)) hg (by simp; omega) ?_⟩
  intro k hk
  injection hk with hk
  omega
set_option maxHeartbeats 1000000 in
set_option maxRecDepth 100000 in
theorem Next_on (h0 : 0 ≤ a) (h1 : a < code.length) (hop : ¬ (rd_T46 code a).f0 = 3) (hop4 : ¬ (rd_T46 code a).f0 = 4) :
    Calls Tryz.prog 40 #[.agg #[.slice A0 ts.length c0, .string la, .string gl, .slice A3 code.length c3], .int .i64 a] w fun e w' => ∃ v, e = .returned v ∧ w'.ownsRow w.heap.size 3 1 v ([a + 1]).length (nums .i64 ([a + 1])) ∧ Below w.heap.size w w' := by
  have hmax := Kd.C_max hr3
  obtain ⟨an, rfl⟩ : ∃ n : Nat, a = n := ⟨a.toNat, by omega⟩
  obtain ⟨ad, ea, _⟩ := at_T46 hr3 an h0 h1
  subst ea
  obtain ⟨_, ea, y0, y1, y2, y3, y4⟩ := at_T46 (Kd.C_alloc (Kd.C_alloc hr3 (.cells #[.slice A0 ts.length c0, .string la, .string gl, .slice (some ad) code.length c3] 25)) (.cells #[.int .i64 ((an : Int) + 1)] 3)) an h0 h1
  cases ea
  rw [Int.toNat_natCast] at y0 y1 y2 y3 y4
  have h0' : ¬ (an : Int) < 0 := by omega
  have h1' : ¬ (an : Int) ≥ code.length := by omega
  clear hr3
  go_enter Tryz.func40, Tryz.ntmps40
  go_wp2_with (go_at_call 69; refine (comp_own _ w.heap.size (w.heap.size + 1) 1 [(an : Int) + 1] (pw_own_below (lit1 (w.alloc (.cells #[.slice A0 ts.length c0, .string la, .string gl, .slice (some ad) code.length c3] 25)) _ _ _ (by simp) (by simp)) (below_alloc (Below.refl _ _) _))).mono ?_; rintro e w' ⟨rfl, ho, hg⟩; rw [comp1] at ho ⊢)
  go_ret
  refine ⟨_, rfl, ho, Below.grown (by repeat (first | exact Below.refl _ _ | refine below_alloc ?_ _)) hg (by simp; omega) ?_⟩
  intro k hk
  injection hk with hk
  omega
set_option maxHeartbeats 1000000 in
set_option maxRecDepth 100000 in
theorem Next_zero (h0 : 0 ≤ a) (h1 : a < code.length) (hop : (rd_T46 code a).f0 = 4) :
    Calls Tryz.prog 40 #[.agg #[.slice A0 ts.length c0, .string la, .string gl, .slice A3 code.length c3], .int .i64 a] w fun e w' => ∃ v, e = .returned v ∧ w'.ownsRow w.heap.size 3 1 v (if (rd_T46 code a).f4 < a + 1 then [(rd_T46 code a).f4, a + 1] else if (rd_T46 code a).f4 > a + 1 then [a + 1, (rd_T46 code a).f4] else [a + 1]).length (nums .i64 (if (rd_T46 code a).f4 < a + 1 then [(rd_T46 code a).f4, a + 1] else if (rd_T46 code a).f4 > a + 1 then [a + 1, (rd_T46 code a).f4] else [a + 1])) ∧ Below w.heap.size w w' := by
  have hmax := Kd.C_max hr3
  obtain ⟨an, rfl⟩ : ∃ n : Nat, a = n := ⟨a.toNat, by omega⟩
  obtain ⟨ad, ea, _⟩ := at_T46 hr3 an h0 h1
  subst ea
  obtain ⟨_, ea, y0, y1, y2, y3, y4⟩ := at_T46 (Kd.C_alloc (Kd.C_alloc hr3 (.cells #[.slice A0 ts.length c0, .string la, .string gl, .slice (some ad) code.length c3] 25)) (.cells #[.int .i64 ((an : Int) + 1)] 3)) an h0 h1
  cases ea
  rw [Int.toNat_natCast] at y0 y1 y2 y3 y4
  rw [hop] at y0
  obtain ⟨x, hx⟩ : ∃ x, x = (rd_T46 code an).f4 := ⟨_, rfl⟩
  obtain ⟨p, q, hs⟩ : ∃ p q, sorted [(an : Int) + 1, x] = [p, q] := by
    rw [sorted2]
    split <;> exact ⟨_, _, rfl⟩
  have hc : Lib.compact [p, q] = if x < (an : Int) + 1 then [x, (an : Int) + 1] else if x > (an : Int) + 1 then [(an : Int) + 1, x] else [(an : Int) + 1] := by rw [← hs, comp_sort]
  rw [← hx] at y4 ⊢
  rw [← hc]
  have HS := Aside0.mk hs
  clear hs hc hx
  have h0' : ¬ (an : Int) < 0 := by omega
  have h1' : ¬ (an : Int) ≥ code.length := by omega
  clear hr3
  go_enter Tryz.func40, Tryz.ntmps40
  go_wp2_with (first
    | (at_builtin; refine print_append_num (w0 := w) w.heap.size rfl _ _ 89 3 .i64 8 rfl Tryz.underlying89 info_int (by decide) (.slice (some ⟨w.heap.size + 1, 0, none⟩) 1 1) [(an : Int) + 1] x rfl (by first | (go_simp; done) | (simp [go_sem]; done)) (pw_own_below (lit1 (w.alloc (.cells #[.slice A0 ts.length c0, .string la, .string gl, .slice (some ad) code.length c3] 25)) _ _ _ (by simp) (by simp)) (below_alloc (Below.refl _ _) _)) (by repeat (first | exact Below.refl _ _ | refine below_alloc ?_ _)) (by simp; omega) (by simp) ?_; intro v1 w1 hv1 hb1 hg1 _; obtain ⟨g1, cap1, e1, hgb, _⟩ := hv1.form (by simp); subst e1; have HV := Aside0.mk hv1; have HB1 := Aside0.mk hb1; clear hv1 hb1 hg1)
    | (go_at_call 68; refine (sort_seg w1 w.heap.size g1 2 cap1 0 cap1 [(an : Int) + 1, x] HV.out (by omega) (by decide)).mono ?_; rintro e w2 ⟨rfl, ho2, hg2⟩; have HO2 := Aside0.mk (show w2.ownsRow w.heap.size 3 1 (.slice (some ⟨g1, 0, none⟩) 2 cap1) 2 (nums .i64 [p, q]) by simpa [HS.out] using ho2); have HG2 := Aside0.mk hg2; clear ho2 hg2)
    | (go_at_call 69; refine (comp_own w2 w.heap.size g1 cap1 [p, q] HO2.out).mono ?_; rintro e w' ⟨rfl, ho, hg⟩))
  go_ret
  have hk : ∀ k, some g1 = some k → w.heap.size ≤ k := fun k hk => by injection hk with hk; omega
  exact ⟨_, rfl, ho, Below.grown (Below.grown HB1.out HG2.out HB1.out.size hk) hg (Nat.le_trans HB1.out.size HG2.out.size) hk⟩
end
end Go.Proofs.YtocechpmgfhenaaGreatDoor.NX

namespace Go.Proofs.YtocechpmgfhenaaGreatDoor.FP
def LE (a b : List Bool) : Prop := a.length = b.length ∧ ∀ i, a.getD i false = true → b.getD i false = true
theorem LE.refl (a : List Bool) : LE a a := ⟨rfl, fun _ h => h⟩
theorem LE.trans {a b c : List Bool} (h : LE a b) (k : LE b c) : LE a c := ⟨h.1.trans k.1, fun i hi => k.2 i (h.2 i hi)⟩
theorem LE.anti {a b : List Bool} (h : LE a b) (k : LE b a) : a = b := by
  apply List.ext_getElem h.1
  intro i h1 h2
  have e1 : a.getD i false = a[i] := by rw [List.getD_eq_getElem?_getD, List.getElem?_eq_getElem h1]; rfl
  have e2 : b.getD i false = b[i] := by rw [List.getD_eq_getElem?_getD, List.getElem?_eq_getElem h2]; rfl
  have p := h.2 i
  have q := k.2 i
  rw [e1, e2] at p q
  rw [Bool.eq_iff_iff]
  exact ⟨p, q⟩
theorem getD_set (a : List Bool) (n i : Nat) : (a.set n true).getD i false = true ↔ a.getD i false = true ∨ (i = n ∧ n < a.length) := by
  rw [List.getD_eq_getElem?_getD, List.getD_eq_getElem?_getD, List.getElem?_set]
  by_cases h : n = i
  · subst h
    by_cases hl : n < a.length
    · simp [hl]
    · simp [hl]
  · rw [if_neg h]
    exact ⟨.inl, fun h' => h'.elim id fun ⟨e, _⟩ => absurd e.symm h⟩
theorem LE.set (a : List Bool) (n : Nat) : LE a (a.set n true) := ⟨by simp, fun i h => (getD_set a n i).2 (.inl h)⟩
def cnt (a : List Bool) : Nat := a.countP id
theorem cnt_le : ∀ {a b : List Bool}, LE a b → cnt a ≤ cnt b ∧ (a ≠ b → cnt a < cnt b) := by
  intro a
  induction a with
  | nil =>
    intro b h
    have : b = [] := List.length_eq_zero_iff.1 h.1.symm
    subst this
    exact ⟨Nat.le_refl _, fun h => absurd rfl h⟩
  | cons x a ih =>
    intro b h
    cases b with
    | nil => cases h.1
    | cons y b =>
      have ht : LE a b := ⟨by have := h.1; simpa using this, fun i hi => by have := h.2 (i + 1); simpa using this hi⟩
      have h0 : x = true → y = true := by have := h.2 0; simpa using this
      obtain ⟨i1, i2⟩ := ih ht
      unfold cnt at *
      rw [List.countP_cons, List.countP_cons]
      cases x <;> cases y
      · refine ⟨by omega, fun hne => ?_⟩
        have := i2 fun e => hne (by rw [e])
        omega
      · refine ⟨by simp; omega, fun _ => by simp; omega⟩
      · exact absurd (h0 rfl) (by decide)
      · refine ⟨by omega, fun hne => ?_⟩
        have := i2 fun e => hne (by rw [e])
        omega
theorem cnt_len (a : List Bool) : cnt a ≤ a.length := List.countP_le_length ..
inductive RN (nx : Int → List Int) (a : Int) : Int → Prop where
  | base {b : Int} : b ∈ nx a → RN nx a b
  | step {b c : Int} : RN nx a b → c ∈ nx b → RN nx a c
def InR (nx : Int → List Int) (M : Nat) : Prop := ∀ k, ∀ m ∈ nx k, 0 ≤ m ∧ m < M
theorem RN.range {nx : Int → List Int} {M : Nat} (hI : InR nx M) {a b : Int} (h : RN nx a b) : 0 ≤ b ∧ b < M := by
  cases h with
  | base h1 => exact hI _ _ h1
  | step _ h1 => exact hI _ _ h1
open Classical in
noncomputable def rch (nx : Int → List Int) (M : Nat) (a : Int) : List Bool := (List.range M).map fun (i : Nat) => decide (RN nx a i)
theorem rch_length (nx : Int → List Int) (M : Nat) (a : Int) : (rch nx M a).length = M := by simp [rch]
theorem rch_getD {nx : Int → List Int} {M : Nat} {a : Int} (hI : InR nx M) (i : Nat) : (rch nx M a).getD i false = true ↔ RN nx a i := by
  rw [rch, List.getD_eq_getElem?_getD, List.getElem?_map]
  by_cases h : i < M
  · rw [List.getElem?_range h]
    simp
  · rw [List.getElem?_eq_none (by simpa using h)]
    simp only [Option.map_none, Option.getD_none, Bool.false_eq_true, false_iff]
    intro h'
    have := h'.range hI
    omega
theorem rch_of {nx : Int → List Int} {M : Nat} {a : Int} (hI : InR nx M) {had : List Bool} (hl : had.length = M) (hs : ∀ i : Nat, had.getD i false = true → RN nx a i)
    (h0 : ∀ m ∈ nx a, had.getD m.toNat false = true) (h1 : ∀ i : Nat, had.getD i false = true → ∀ m ∈ nx i, had.getD m.toNat false = true) : had = rch nx M a := by
  have hc : ∀ b, RN nx a b → had.getD b.toNat false = true := by
    intro b h
    induction h with
    | base h => exact h0 _ h
    | @step b c h2 h ih =>
      have := h2.range hI
      have e : ((b.toNat : Nat) : Int) = b := by omega
      exact h1 b.toNat ih _ (by rw [e]; exact h)
  refine LE.anti ⟨by rw [hl, rch_length], fun i hi => (rch_getD hI i).2 (hs i hi)⟩ ⟨by rw [hl, rch_length], fun i hi => ?_⟩
  have := hc _ ((rch_getD hI i).1 hi)
  rwa [Int.toNat_natCast] at this
structure WL (nx : Int → List Int) (M : Nat) (a : Int) (had : List Bool) (todo : List Int) : Prop where
  len : had.length = M
  sound : ∀ i : Nat, had.getD i false = true → RN nx a i
  todos : ∀ k ∈ todo, RN nx a k
  next : ∀ m ∈ nx a, m ∈ todo ∨ had.getD m.toNat false = true
  closed : ∀ i : Nat, had.getD i false = true → ∀ m ∈ nx i, m ∈ todo ∨ had.getD m.toNat false = true
theorem WL.start (nx : Int → List Int) (M : Nat) (a : Int) : WL nx M a (List.replicate M false) (nx a) := by
  have h : ∀ i : Nat, (List.replicate M false).getD i false = true → False := by
    intro i h
    rw [List.getD_eq_getElem?_getD, List.getElem?_replicate] at h
    split at h <;> cases h
  exact ⟨by simp, fun i hi => (h i hi).elim, fun k hk => .base hk, fun m hm => .inl hm, fun i hi => (h i hi).elim⟩
section
variable {nx : Int → List Int} {M : Nat} {a : Int} {had : List Bool} {todo : List Int} {k : Int}
theorem WL.range (hI : InR nx M) (h : WL nx M a had (k :: todo)) : 0 ≤ k ∧ k < M := (h.todos k (List.mem_cons_self ..)).range hI
theorem WL.skip (h : WL nx M a had (k :: todo)) (hk : had.getD k.toNat false = true) : WL nx M a had todo := by
  have drop : ∀ m, m ∈ k :: todo ∨ had.getD m.toNat false = true → m ∈ todo ∨ had.getD m.toNat false = true := by
    rintro m (h | h)
    · rcases List.mem_cons.1 h with rfl | h
      · exact .inr hk
      · exact .inl h
    · exact .inr h
  exact ⟨h.len, h.sound, fun m hm => h.todos m (List.mem_cons_of_mem _ hm), fun m hm => drop m (h.next m hm), fun i hi m hm => drop m (h.closed i hi m hm)⟩
theorem WL.mark (hI : InR nx M) (h : WL nx M a had (k :: todo)) : WL nx M a (had.set k.toNat true) (todo ++ nx k) := by
  have hr := h.range hI
  have e : ((k.toNat : Nat) : Int) = k := by omega
  have hkl : k.toNat < had.length := by rw [h.len]; omega
  have hkk := h.todos k (List.mem_cons_self ..)
  have keep : ∀ m, m ∈ k :: todo ∨ had.getD m.toNat false = true → m ∈ todo ++ nx k ∨ (had.set k.toNat true).getD m.toNat false = true := by
    rintro m (h | h)
    · rcases List.mem_cons.1 h with rfl | h
      · exact .inr ((getD_set _ _ _).2 (.inr ⟨rfl, hkl⟩))
      · exact .inl (List.mem_append_left _ h)
    · exact .inr ((getD_set _ _ _).2 (.inl h))
  refine ⟨by rw [List.length_set, h.len], fun i hi => ?_, fun m hm => ?_, fun m hm => keep m (h.next m hm), fun i hi m hm => ?_⟩
  · rcases (getD_set _ _ _).1 hi with hi | ⟨rfl, _⟩
    · exact h.sound i hi
    · rw [e]; exact hkk
  · rcases List.mem_append.1 hm with hm | hm
    · exact h.todos m (List.mem_cons_of_mem _ hm)
    · exact .step hkk hm
  · rcases (getD_set _ _ _).1 hi with hi | ⟨rfl, _⟩
    · exact keep m (h.closed i hi m hm)
    · rw [e] at hm
      exact .inl (List.mem_append_right _ hm)
theorem WL.done (hI : InR nx M) (h : WL nx M a had []) : had = rch nx M a :=
  rch_of hI h.len h.sound (fun m hm => (h.next m hm).resolve_left (by simp)) (fun i hi m hm => (h.closed i hi m hm).resolve_left (by simp))
theorem cnt_set {had : List Bool} {n : Nat} (hn : n < had.length) (h : had.getD n false = false) : cnt had < cnt (had.set n true) := by
  refine (cnt_le (LE.set had n)).2 fun e => ?_
  have : (had.set n true).getD n false = true := (getD_set _ _ _).2 (.inr ⟨rfl, hn⟩)
  rw [← e, h] at this
  cases this
def left_ (had : List Bool) (todo : List Int) : Nat := 3 * (had.length - cnt had) + todo.length
theorem left_skip (had : List Bool) (todo : List Int) (k : Int) : left_ had todo < left_ had (k :: todo) := by
  unfold left_
  rw [List.length_cons]
  omega
theorem left_mark {had : List Bool} {todo l : List Int} {k : Int} (hn : k.toNat < had.length) (h : had.getD k.toNat false = false) (h2 : l.length ≤ 2) : left_ (had.set k.toNat true) (todo ++ l) < left_ had (k :: todo) := by
  have h1 := cnt_set hn h
  have h3 := cnt_len (had.set k.toNat true)
  unfold left_
  rw [List.length_set] at h3 ⊢
  rw [List.length_append, List.length_cons]
  omega
end
def upd (a k : Int) (had : List Bool) (n : Int) : List Bool := if k = a ∨ had.getD k.toNat false = true then had.set n.toNat true else had
def js (nx : Int → List Int) (a k : Int) (had : List Bool) (j : Nat) : List Bool := ((nx k).take j).foldl (upd a k) had
def ks (nx : Int → List Int) (a : Int) (had : List Bool) : Nat → List Bool
  | 0 => had
  | k + 1 => js nx a k (ks nx a had k) (nx k).length
def rr (nx : Int → List Int) (M : Nat) (a : Int) : Nat → List Bool
  | 0 => List.replicate M false
  | r + 1 => ks nx a (rr nx M a r) M
theorem LE.upd (a k : Int) (had : List Bool) (n : Int) : LE had (upd a k had n) := by
  unfold FP.upd
  split
  · exact LE.set _ _
  · exact LE.refl _
theorem LE.fold (a k : Int) : ∀ (l : List Int) (had : List Bool), LE had (l.foldl (FP.upd a k) had)
  | [], had => LE.refl had
  | n :: l, had => (LE.upd a k had n).trans (LE.fold a k l _)
theorem LE.ks (nx : Int → List Int) (a : Int) (had : List Bool) : ∀ k, LE had (ks nx a had k)
  | 0 => LE.refl _
  | k + 1 => (LE.ks nx a had k).trans (LE.fold ..)
section
variable {nx : Int → List Int} {M : Nat} {a : Int}
def Sd (nx : Int → List Int) (a : Int) (had : List Bool) : Prop := ∀ i : Nat, had.getD i false = true → RN nx a i
theorem Sd.upd (hI : InR nx M) {had : List Bool} (h : Sd nx a had) (k n : Int) (hk : 0 ≤ k) (hn : n ∈ nx k) : Sd nx a (upd a k had n) := by
  unfold FP.upd
  split
  · rename_i hc
    intro i hi
    rcases (getD_set _ _ _).1 hi with hi | ⟨rfl, _⟩
    · exact h i hi
    · have hr := hI _ _ hn
      rw [show ((n.toNat : Nat) : Int) = n by omega]
      rcases hc with rfl | hc
      · exact .base hn
      · have := h _ hc
        rw [show ((k.toNat : Nat) : Int) = k by omega] at this
        exact .step this hn
  · exact h
theorem Sd.fold (hI : InR nx M) (k : Int) (hk : 0 ≤ k) : ∀ (l : List Int) (had : List Bool), (∀ n ∈ l, n ∈ nx k) → Sd nx a had → Sd nx a (l.foldl (FP.upd a k) had)
  | [], _, _, h => h
  | n :: l, _, hl, h => Sd.fold hI k hk l _ (fun m hm => hl m (List.mem_cons_of_mem _ hm)) (h.upd hI k n hk (hl n (List.mem_cons_self ..)))
theorem Sd.ks (hI : InR nx M) {had : List Bool} (h : Sd nx a had) : ∀ k, Sd nx a (ks nx a had k)
  | 0 => h
  | k + 1 => Sd.fold hI k (by omega) _ _ (fun n hn => List.mem_of_mem_take hn) (Sd.ks hI h k)
theorem fold_same (k : Int) : ∀ (l : List Int) (had : List Bool), l.foldl (upd a k) had = had → ∀ n ∈ l, upd a k had n = had
  | [], _, _, _, h => by cases h
  | x :: l, had, h, n, hn => by
    have h1 : upd a k had x = had := LE.anti (by
      have := LE.fold a k l (upd a k had x)
      rw [show l.foldl (upd a k) (upd a k had x) = had from h] at this
      exact this) (LE.upd a k had x)
    rcases List.mem_cons.1 hn with rfl | hn
    · exact h1
    · have h2 : l.foldl (upd a k) had = had := by
        have h3 : l.foldl (upd a k) (upd a k had x) = had := h
        rw [h1] at h3
        exact h3
      exact fold_same k l had h2 n hn
end
end Go.Proofs.YtocechpmgfhenaaGreatDoor.FP

namespace Go.Proofs.YtocechpmgfhenaaGreatDoor.FG
open Go.RowKit Go.Proofs.YtocechpmgfhenaaGreatDoorW.PrintWords Go.Proofs.YtocechpmgfhenaaGreatDoorW.PrintLast Go.Proofs.YtocechpmgfhenaaGreatDoorW.PrintMore Go.Proofs.YtocechpmgfhenaaGreatDoor.F Go.Proofs.YtocechpmgfhenaaGreatDoor.Srt Go.Proofs.YtocechpmgfhenaaGreatDoor.NX Go.Proofs.YtocechpmgfhenaaGreatDoor.FP
set_option linter.unusedVariables false
set_option linter.unusedSimpArgs false
def flow_Next.f (l0_0 : List ByteArray) (a0_1 : ByteArray) (a0_2 : ByteArray) (l0_3 : List S46) (a1 : Int) : Option (List Int) := some (nxt l0_3 a1)
theorem Next_own (w : World) (A0 : Option Addr) (c0 : Nat) (ts : List ByteArray) (la gl : ByteArray) (A3 : Option Addr) (c3 : Nat) (code : List S46) (hr3 : Kd.C k46 w A3 code.length code) (a : Int) :
    Calls Tryz.prog 40 #[.agg #[.slice A0 ts.length c0, .string la, .string gl, .slice A3 code.length c3], .int .i64 a] w fun e w' => ∃ v, e = .returned v ∧ w'.ownsRow w.heap.size 3 1 v (nxt code a).length (nums .i64 (nxt code a)) ∧ Below w.heap.size w w' := by
  by_cases h : 0 ≤ a ∧ a < code.length
  · by_cases h3 : (rd_T46 code a).f0 = 3
    · have e : nxt code a = [(rd_T46 code a).f4] := by unfold nxt; rw [if_pos h, if_pos h3]
      rw [e]
      exact Next_jump w A0 c0 ts la gl A3 c3 code hr3 a h.1 h.2 h3
    · by_cases h4 : (rd_T46 code a).f0 = 4
      · have e : nxt code a = if (rd_T46 code a).f4 < a + 1 then [(rd_T46 code a).f4, a + 1] else if (rd_T46 code a).f4 > a + 1 then [a + 1, (rd_T46 code a).f4] else [a + 1] := by
          unfold nxt
          rw [if_pos h, if_neg h3, if_pos h4]
        rw [e]
        exact Next_zero w A0 c0 ts la gl A3 c3 code hr3 a h.1 h.2 h4
      · have e : nxt code a = [a + 1] := by unfold nxt; rw [if_pos h, if_neg h3, if_neg h4]
        rw [e]
        exact Next_on w A0 c0 ts la gl A3 c3 code hr3 a h.1 h.2 h3 h4
  · have e : nxt code a = [] := by unfold nxt; rw [if_neg h]
    rw [e]
    refine (Next_out w A0 c0 ts la gl A3 c3 code a h).mono ?_
    rintro e w' ⟨rfl, hb⟩
    exact ⟨_, rfl, own_nil _ _ _ _, hb⟩
def Row (w : World) (b : Nat) (hs : List Bool) : Prop := w.heap[b]? = some (.cells (hs.map Value.bool).toArray 4 (0, 0))
theorem Row.cell {w : World} {b : Nat} {hs : List Bool} (h : Row w b hs) (k : Nat) (hk : k < hs.length) : w.cell? ⟨b, k, none⟩ = some (.bool (hs.getD k false)) := by
  rw [blk_cell h k, List.getElem?_toArray, List.getElem?_map, List.getElem?_eq_getElem hk, List.getD_eq_getElem?_getD, List.getElem?_eq_getElem hk]
  rfl
theorem Row.free {w : World} {b : Nat} {hs : List Bool} (h : Row w b hs) (k : Nat) : w.frozen? ⟨b, k, none⟩ = false := blk_frozen h k
theorem Row.set {w : World} {b : Nat} {hs : List Bool} (h : Row w b hs) (k : Nat) : Row (w.setCell ⟨b, k, none⟩ (.bool true)) b (hs.set k true) := by
  unfold Row
  rw [blk_set h k _]
  congr 2
  apply Array.ext'
  simp [List.map_set]
def unb : Value → Bool
  | .bool b => b
  | _ => false
def hadOf (w : World) (b : Nat) : List Bool := match w.heap[b]? with
  | some (.cells cs _ _) => cs.toList.map unb
  | _ => []
theorem Row.had {w : World} {b : Nat} {hs : List Bool} (h : Row w b hs) : hadOf w b = hs := by
  unfold hadOf
  unfold Row at h
  rw [h]
  simp only [List.map_map]
  rw [show (unb ∘ Value.bool) = id from rfl, List.map_id]
def lenOf : Value → Nat
  | .slice _ n _ => n
  | _ => 0
def meas (b : Nat) (v : Value) (w : World) : Nat := 3 * ((hadOf w b).length - cnt (hadOf w b)) + lenOf v
theorem meas_eq {w : World} {b : Nat} {hs : List Bool} (h : Row w b hs) (A : Option Addr) (todo : List Int) (c : Nat) : meas b (.slice A todo.length c) w = left_ hs todo := by
  unfold meas left_
  rw [h.had]
  rfl
theorem append_q {P : Program} {ops : Array Oper} {rest : List Oper} {o : Oper} {a : Act} {Q : Exit → Act → World → Prop} {W : World} (base base' : Nat) (hgd : o.guard = none) (s x : Operand) (t e : TypeId) (bytes : Nat)
    (ho : o.op = .call { callee := .builtin .append, args := #[s, x], argTypes := #[t, t] })
    (ht : P.underlying t = some (.slice e)) (hinfo : (P.info? e).map (fun i => (i.zero, i.size, i.bytes)) = some (some (.int .i64 0), 1, bytes))
    (v : Value) (xs ys : List Int) (u : Value) (hs : a.eval s = v) (hx : a.eval x = u)
    (HO : QRow W base e 1 v xs.length (nums .i64 xs)) (HR : W.ownsRow base' e 1 u ys.length (nums .i64 ys)) (hbase : base ≤ W.heap.size) (h63 : xs.length + ys.length ≤ maxLen) (hl : (xs.length + ys.length) * bytes ≤ 140737488355328)
    (h : ∀ v1 w1, QRow w1 base e 1 v1 (xs ++ ys).length (nums .i64 (xs ++ ys)) → W.grownBy w1 v.ownBlock → wpList P ops Q rest (a.put o.dst v1) w1) :
    wpList P ops Q (o :: rest) a W := by
  obtain ⟨i0, hi, hzz⟩ := Option.map_eq_some_iff.1 hinfo
  simp only [Prod.mk.injEq] at hzz
  obtain ⟨hz0, hz1, hz2⟩ := hzz
  have hrun : ∃ v1 w1, (Builtin.append_ #[t, t] o.type #[v, u]).run P W = .ok v1 w1 ∧ QRow w1 base e 1 v1 (xs ++ ys).length (nums .i64 (xs ++ ys)) ∧ W.grownBy w1 v.ownBlock := by
    rcases HR.2 with ⟨rfl, h0⟩ | ⟨g, cap, cur, rfl, _, hg, hnc, _, _, hct⟩
    · obtain rfl : ys = [] := List.eq_nil_of_length_eq_zero h0
      refine ⟨v, W, ?_, by simpa using HO, World.grownBy.refl W _⟩
      obtain ⟨A, c, rfl, hc⟩ := q_slice HO
      cases A with
      | none => simp [Builtin.append_, run_underlying ht, sizeOf, typeInfo, hi, Builtin.lenOf, Builtin.firstCells, Nat.not_lt.2 hc]
      | some ad => simp [Builtin.append_, run_underlying ht, sizeOf, typeInfo, hi, Builtin.lenOf, Builtin.firstCells, hc, storeCells]
    · rcases Nat.eq_zero_or_pos ys.length with h0 | h0
      · obtain rfl : ys = [] := List.eq_nil_of_length_eq_zero h0
        refine ⟨v, W, ?_, by simpa using HO, World.grownBy.refl W _⟩
        obtain ⟨A, c, rfl, hc⟩ := q_slice HO
        cases A with
        | none => simp [Builtin.append_, run_underlying ht, sizeOf, typeInfo, hi, Builtin.lenOf, Builtin.firstCells, hc, loadCells, loadCellsFrom]
        | some ad => simp [Builtin.append_, run_underlying ht, sizeOf, typeInfo, hi, Builtin.lenOf, Builtin.firstCells, hc, storeCells, loadCells, loadCellsFrom]
      · obtain ⟨v', w', h1, h2, h3, _⟩ := q_append (P := P) W base t o.type e i0 (.int .i64 0) 1 bytes ht hi hz0 hz1 hz2 rfl (by decide) v xs.length (nums .i64 xs) HO ⟨g, 0, none⟩ ys.length cap (nums .i64 ys) (by simp [nums])
          (fun j u hu => HR.cells (g := g) rfl j _ hu) (fun u hu => by simp only [nums, List.mem_map] at hu; obtain ⟨q, _, rfl⟩ := hu; rfl) h0 h63 hl hbase
        exact ⟨v', w', h1, by simpa [nums] using h2, h3⟩
  obtain ⟨v1, w1, hr, hown, hg⟩ := hrun
  refine wpList_plain hgd fun K hK => ?_
  unfold Oper.wp execOp
  simp only [ho, resolve, invoke, builtin, Sem.run_bind, Sem.run_pure, Result.andThen_ok, List.map_toArray, List.map_cons, List.map_nil, hs, hx, hr]
  exact hK _ _ (h v1 w1 hown hg)
structure RI (nx : Int → List Int) (M : Nat) (a : Int) (w wr : World) (pv : Array Value) (b : Nat) (v : Value) (had : List Bool) (todo : List Int) : Prop where
  wl : WL nx M a had todo
  row : Row wr b had
  q : QRow wr w.heap.size 3 1 v todo.length (nums .i64 todo)
  below : Below w.heap.size w wr
  box : wr.heap[w.heap.size]? = some (.cells pv 25 (0, 0))
  far : w.heap.size < b
  small : left_ had todo ≤ 3 * M + 2
theorem Row.own {w : World} {b : Nat} {hs : List Bool} (h : Row w b hs) (base : Nat) (hb : base ≤ b) (hm : hs.length ≤ maxLen) : w.ownsRow base 4 1 (.slice (some ⟨b, 0, none⟩) hs.length hs.length) hs.length (encs Value.bool hs) :=
  ⟨by simp [encs], .inr ⟨b, hs.length, _, rfl, hb, h, Nat.le_refl _, hm, by simp, by rw [Nat.mul_one, List.take_of_length_le (by simp)]; simp [encs]⟩⟩
theorem Row.ne {w : World} {b : Nat} {hs : List Bool} (h : Row w b hs) {v : Value} {base n : Nat} {xs : List Value} (hq : QRow w base 3 1 v n xs) : v.ownBlock ≠ some b := by
  intro e
  obtain ⟨_, cs, hc⟩ := q_typed hq b e
  exact blk_ne h hc (by decide) rfl
theorem madeFalse (M : Nat) : (madeCells #[Value.bool false] M) = ((List.replicate M false).map Value.bool).toArray := by
  apply Array.ext'
  have hl := own_made_of (enc := Value.bool) (d := false) (default : World) 0 4 0 (Nat.zero_le _) (by decide)
  apply List.ext_getElem
  · simp [madeCells]
  · intro i h1 h2
    simp [madeCells, Nat.mod_one]
section
variable (w : World) (A0 : Option Addr) (c0 : Nat) (ts : List ByteArray) (la gl : ByteArray) (A3 : Option Addr) (c3 : Nat) (code : List S46) (hr3 : Kd.C k46 w A3 code.length code) (a : Int)
include hr3
set_option maxHeartbeats 2000000 in
set_option maxRecDepth 100000 in
theorem Reach_in (h0 : 0 ≤ a) (h1 : a ≤ code.length) (hI : InR (nxt code) (code.length + 1)) (hsm : code.length ≤ 1000000) :
    Calls Tryz.prog 42 #[.agg #[.slice A0 ts.length c0, .string la, .string gl, .slice A3 code.length c3], .int .i64 a] w fun e w' => ∃ v, e = .returned v ∧ w'.ownsRow w.heap.size 4 1 v (rch (nxt code) (code.length + 1) a).length (encs Value.bool (rch (nxt code) (code.length + 1) a)) ∧ Below w.heap.size w w' := by
  have hmk : ∀ W : World, (Instr.makeSlice 73 (.int .i64 ((code.length : Int) + 1)) (.int .i64 ((code.length : Int) + 1))).run Tryz.prog W = .ok (.slice (some ⟨W.heap.size, 0, none⟩) (code.length + 1) (code.length + 1)) (W.alloc (.cells (madeCells #[.bool false] (code.length + 1)) 4)) := by
    intro W
    have h := print_make_of (P := Tryz.prog) 73 4 (.bool false) 1 Tryz.underlying73 (by kernel_rfl) rfl (by decide) (code.length + 1) (by omega) W
    have e : ((code.length + 1 : Nat) : Int) = (code.length : Int) + 1 := by push_cast; rfl
    rw [e] at h
    exact h
  have HR := Aside0.mk hr3
  have h0' : ¬ a < 0 := by omega
  have h1' : ¬ a > (code.length : Int) := by omega
  have HI := Aside0.mk hI
  clear hr3 hI
  go_enter Tryz.func42, Tryz.ntmps42
  go_wp2_with (first
    | (go_at_call 40; (with_reducible refine (Next_own _ A0 c0 ts la gl A3 c3 code (Kd.C_alloc (Kd.C_alloc HR.out _) _) a).mono ?_); rintro e w2 ⟨v, rfl, ho, hb⟩; have HO := Aside0.mk ho; have HB := Aside0.mk hb; clear ho hb))
  have hW : (((w.alloc (.cells #[.slice A0 ts.length c0, .string la, .string gl, .slice A3 code.length c3] 25)).alloc (.cells (madeCells #[.bool false] (code.length + 1)) 4)).heap.size) = w.heap.size + 1 + 1 := by simp
  have HB2 := HB.out
  have HO2 := HO.out
  have hrow0 : Row w2 (w.heap.size + 1) (List.replicate (code.length + 1) false) := by
    have h := (HB2.block (w.heap.size + 1) (by rw [hW]; omega))
    unfold Row
    rw [h, ← madeFalse]
    have := heap_alloc_new (w.alloc (.cells #[.slice A0 ts.length c0, .string la, .string gl, .slice A3 code.length c3] 25)) (.cells (madeCells #[.bool false] (code.length + 1)) 4)
    simpa using this
  have hbox0 : w2.heap[w.heap.size]? = some (.cells #[.slice A0 ts.length c0, .string la, .string gl, .slice A3 code.length c3] 25 (0, 0)) := by
    have h := (HB2.block w.heap.size (by rw [hW]; omega))
    rw [h, Below.heap_alloc _ _ _ (by simp)]
    exact heap_alloc_new w _
  have HRI := Aside0.mk (show RI (nxt code) (code.length + 1) a w w2 #[.slice A0 ts.length c0, .string la, .string gl, .slice A3 code.length c3] (w.heap.size + 1) v (List.replicate (code.length + 1) false) (nxt code a) from
    ⟨WL.start _ _ _, hrow0, q_lower (q_of_own HO2) (by rw [hW]; omega), below_step (below_alloc (below_alloc (Below.refl _ _) _) _) HB2, hbox0, by omega, by have := nxt_two code a; unfold left_; simp; omega⟩)
  clear hrow0 hbox0 HB2 HO2 hW HO HB hmk
  go_loopw [6] (fun v wr => ∃ had todo, RI (nxt code) (code.length + 1) a w wr #[.slice A0 ts.length c0, .string la, .string gl, .slice A3 code.length c3] (w.heap.size + 1) v had todo) (fun v wr => meas (w.heap.size + 1) v wr)
  case atStart => exact ⟨_, _, HRI.out⟩
  case round =>
    obtain ⟨had, todo, hRI⟩ := hrel
    obtain ⟨w3, hw3⟩ : ∃ w3 : World, w3 = wr := ⟨_, rfl⟩
    subst hw3
    obtain ⟨A, c, hv, hc⟩ := q_slice hRI.q
    subst hv
    have hlen := hRI.wl.len
    have HRR := Aside0.mk hRI
    have y0 := (blk_cell hRI.box 0).trans (rfl : _ = some (Value.slice A0 ts.length c0))
    have y1 := (blk_cell hRI.box 1).trans (rfl : _ = some (Value.string la))
    have y2 := (blk_cell hRI.box 2).trans (rfl : _ = some (Value.string gl))
    have y3 := (blk_cell hRI.box 3).trans (rfl : _ = some (Value.slice A3 code.length c3))
    clear hRI
    cases todo with
    | nil =>
      have hd := HRR.out.wl.done HI.out
      have ho := Row.own HRR.out.row w.heap.size (by omega) (by rw [hlen]; unfold maxLen; omega)
      rw [hd] at ho hlen
      rw [hlen] at ho
      have HOO := Aside0.mk ho
      clear hd ho
      go_wp2
      go_ret
      refine ⟨_, rfl, ?_, HRR.out.below⟩
      rw [hlen]
      exact HOO.out
    | cons k todo =>
      have hkr := HRR.out.wl.range HI.out
      obtain ⟨kn, rfl⟩ : ∃ n : Nat, k = n := ⟨k.toNat, by omega⟩
      obtain ⟨ad, rfl, hcells⟩ := q_cells HRR.out.q (by simp)
      have hx := hcells 0 (.int .i64 kn) (by simp [nums])
      rw [show ad.add 0 = ad by simp [Addr.add]] at hx
      clear hcells
      have hb := HRR.out.row.cell kn (by omega)
      have hfree := HRR.out.row.free kn
      have hm1 : (todo.length + 1 : Nat) ≤ c := hc
      go_upto_region 8 with fail
      have hq' := q_drop (k := 1) HRR.out.q (by simp)
      rw [show (nums .i64 ((kn : Int) :: todo)).drop (1 * 1) = nums .i64 todo by simp [nums], show ((kn : Int) :: todo).length - 1 = todo.length by simp] at hq'
      obtain ⟨A', hA'⟩ : ∃ A' : Option Addr, A' = (if c = 1 then some ad else some ⟨ad.block, ad.off + 1, none⟩) := ⟨_, rfl⟩
      have hA2 : (if c = 1 then some ad else (some ad).map (·.add (1 * 1))) = A' := by
        rw [hA']
        obtain ⟨g, off, cap, e1, e2⟩ : ∃ g off cap, ad = ⟨g, off, none⟩ ∧ c = cap := by
          rcases HRR.out.q.2 with ⟨h, _⟩ | ⟨g, off, cap, cur, he, _⟩
          · simp at h
          · injection he with h1 _ h3
            injection h1 with h1
            exact ⟨g, off * 1, cap, h1, h3⟩
        subst e1
        split <;> simp [Addr.add]
      rw [hA2] at hq'
      have HQ := Aside0.mk hq'
      rw [← hA']
      clear hA' hA2 hq' hx
      cases hbk : had.getD kn false with
      | true =>
        rw [hbk] at hb
        have HBK := Aside0.mk hbk
        clear hbk
        go_wp2
        go_roundw
        case rel => exact ⟨had, todo, HRR.out.wl.skip (by rw [Int.toNat_natCast]; exact HBK.out), HRR.out.row, HQ.out, HRR.out.below, HRR.out.box, HRR.out.far, Nat.le_trans (Nat.le_of_lt (left_skip had todo kn)) HRR.out.small⟩
        case measure =>
          have e1 := meas_eq HRR.out.row A' todo (c - 1)
          have e2 := meas_eq HRR.out.row (some ad) ((kn : Int) :: todo) c
          have h := left_skip had todo kn
          rw [← e1, ← e2] at h
          exact h
      | false =>
        rw [hbk] at hb
        have HBK := Aside0.mk hbk
        clear hbk
        go_upto_region 10 with fail
        obtain ⟨w4, hw4⟩ : ∃ w4 : World, w4 = w3.setCell ⟨w.heap.size + 1, kn, none⟩ (.bool true) := ⟨_, rfl⟩
        rw [← hw4]
        have HRow4 := Aside0.mk (show Row w4 (w.heap.size + 1) (had.set kn true) by rw [hw4]; exact HRR.out.row.set kn)
        have HBox4 := Aside0.mk (show w4.heap[w.heap.size]? = some (.cells #[.slice A0 ts.length c0, .string la, .string gl, .slice A3 code.length c3] 25 (0, 0)) by rw [hw4]; exact blk_far HRR.out.box (by simp) _)
        have HQ4 := Aside0.mk (show QRow w4 w.heap.size 3 1 (.slice A' todo.length (c - 1)) todo.length (nums .i64 todo) by
          rw [hw4]
          refine q_move HQ.out fun k hk => Below.heap_setCell w3 _ _ k fun e => HRR.out.row.ne HQ.out (by rw [hk]; exact congrArg some e))
        have HB4 := Aside0.mk (show Below w.heap.size w w4 by rw [hw4]; exact HRR.out.below.setCell (Nat.le_succ _) _)
        clear hw4 y0 y1 y2 y3 hb hfree
        have y0 := (blk_cell HBox4.out 0).trans (rfl : _ = some (Value.slice A0 ts.length c0))
        have y1 := (blk_cell HBox4.out 1).trans (rfl : _ = some (Value.string la))
        have y2 := (blk_cell HBox4.out 2).trans (rfl : _ = some (Value.string gl))
        have y3 := (blk_cell HBox4.out 3).trans (rfl : _ = some (Value.slice A3 code.length c3))
        have h2 := nxt_two code kn
        have hleft : todo.length ≤ 3 * (code.length + 1) + 2 := by
          have := HRR.out.small
          unfold left_ at this
          rw [List.length_cons] at this
          omega
        go_wp2_with (first
          | (go_at_call 40; (with_reducible refine (Next_own _ A0 c0 ts la gl A3 c3 code (Kd.C_below HR.out HB4.out) kn).mono ?_); rintro e w5 ⟨v', rfl, ho, hb⟩; have HO5 := Aside0.mk ho; have HB5 := Aside0.mk hb; clear ho hb)
          | (at_builtin; refine append_q w.heap.size w4.heap.size rfl _ _ 89 3 8 rfl Tryz.underlying89 info_int (.slice A' todo.length (c - 1)) todo (nxt code kn) v' rfl rfl (q_move HQ4.out fun k hk => HB5.out.block k (q_lt HQ4.out k hk)) HO5.out (Nat.le_trans HB4.out.size HB5.out.size) (by unfold maxLen; omega) (by omega) ?_; intro v1 w6 hq6 hg6; have HQ6 := Aside0.mk hq6; have HG6 := Aside0.mk hg6; clear hq6 hg6))
        have HQ5 := Aside0.mk (show QRow w5 w.heap.size 3 1 (.slice A' todo.length (c - 1)) todo.length (nums .i64 todo) from q_move HQ4.out fun k hk => HB5.out.block k (q_lt HQ4.out k hk))
        have HRow5 := Aside0.mk (show Row w5 (w.heap.size + 1) (had.set kn true) from (HB5.out.block _ (blk_lt HRow4.out)).trans HRow4.out)
        have HBox5 := Aside0.mk ((HB5.out.block _ (blk_lt HBox4.out)).trans HBox4.out)
        have hkb := HRR.out.wl.len
        have HRow6 := Aside0.mk (show Row w6 (w.heap.size + 1) (had.set kn true) from (HG6.out.block _ (blk_lt HRow5.out) (fun e => HRow5.out.ne HQ5.out e.symm)).trans HRow5.out)
        go_roundw
        case rel =>
          refine ⟨had.set kn true, todo ++ nxt code kn, ?_, HRow6.out, HQ6.out, ?_, ?_, HRR.out.far, ?_⟩
          · have := HRR.out.wl.mark HI.out
            rwa [Int.toNat_natCast] at this
          · exact Below.grown (below_step HB4.out HB5.out) HG6.out (Nat.le_trans HB4.out.size HB5.out.size) fun k hk => (q_typed HQ5.out k hk).1
          · refine (HG6.out.block _ (blk_lt HBox5.out) fun e => ?_).trans HBox5.out
            obtain ⟨_, cs, hc'⟩ := q_typed HQ5.out _ e.symm
            exact blk_ne HBox5.out hc' (by decide) rfl
          · refine Nat.le_trans (Nat.le_of_lt ?_) HRR.out.small
            have := left_mark (k := (kn : Int)) (todo := todo) (l := nxt code kn) (had := had) (by rw [Int.toNat_natCast]; omega) (by rw [Int.toNat_natCast]; exact HBK.out) h2
            rwa [Int.toNat_natCast] at this
        case measure =>
          obtain ⟨A6, c6, hv6, _⟩ := q_slice HQ6.out
          subst hv6
          have e1 := meas_eq HRow6.out A6 (todo ++ nxt code kn) c6
          have e2 := meas_eq HRR.out.row (some ad) ((kn : Int) :: todo) c
          have h := left_mark (k := (kn : Int)) (todo := todo) (l := nxt code kn) (had := had) (by rw [Int.toNat_natCast]; omega) (by rw [Int.toNat_natCast]; exact HBK.out) h2
          rw [Int.toNat_natCast, ← e1, ← e2] at h
          exact h
end
end Go.Proofs.YtocechpmgfhenaaGreatDoor.FG

namespace Go.Proofs.YtocechpmgfhenaaGreatDoor.FSF
open Go.RowKit Go.Proofs.YtocechpmgfhenaaGreatDoorW.PrintWords Go.Proofs.YtocechpmgfhenaaGreatDoor.F Go.Proofs.YtocechpmgfhenaaGreatDoor.PL Go.Proofs.YtocechpmgfhenaaGreatDoor.KP Go.Proofs.YtocechpmgfhenaaGreatDoor.NX Go.Proofs.YtocechpmgfhenaaGreatDoor.FP
set_option linter.unusedVariables false
set_option linter.unusedSimpArgs false
theorem SpP.inR {p : Pg} (h : SpP p) : InR (nxt p.code) (p.code.length + 1) := by
  intro k m hm
  unfold nxt at hm
  split at hm
  · rename_i hk
    obtain ⟨kn, rfl⟩ := Int.eq_ofNat_of_zero_le hk.1
    obtain ⟨o, eo, q⟩ := h.all kn (by omega)
    have hp := q.jump
    split at hm
    · rename_i h3
      have := hp (by omega)
      rw [List.mem_singleton] at hm
      subst hm
      omega
    · split at hm
      · rename_i h4
        have := hp (by omega)
        split at hm
        · simp only [List.mem_cons, List.not_mem_nil, or_false] at hm
          omega
        · split at hm
          · simp only [List.mem_cons, List.not_mem_nil, or_false] at hm
            omega
          · rw [List.mem_singleton] at hm
            omega
      · rw [List.mem_singleton] at hm
        omega
  · cases hm
def sf (code : List S46) (a : Int) : Bool := decide ((0 ≤ a ∧ a < code.length) ∧ ((rd_T46 code a).f0 = 5 ∨ ((rd_T46 code a).f0 = 3 ∨ (rd_T46 code a).f0 = 4) ∧ (rd_T46 code a).f4 ≤ a))
theorem at_box {w : World} {A : Option Addr} {n : Nat} {code : List S46} (h : Kd.C k46 w A n code) (i : Nat) (h1 : i < n) : ∃ ad, A = some ad ∧ ∀ W, Below w.heap.size w W → W.cell? (ad.add (i * 5)) = some (.int .u8 (rd_T46 code i).f0) ∧
    W.cell? ⟨(ad.add (i * 5)).block, (ad.add (i * 5)).off + 1, none⟩ = some (.int .u8 (rd_T46 code i).f1) ∧ W.cell? ⟨(ad.add (i * 5)).block, (ad.add (i * 5)).off + 2, none⟩ = some (.int .u8 (rd_T46 code i).f2) ∧
    W.cell? ⟨(ad.add (i * 5)).block, (ad.add (i * 5)).off + 3, none⟩ = some (.int .u8 (rd_T46 code i).f3) ∧ W.cell? ⟨(ad.add (i * 5)).block, (ad.add (i * 5)).off + 4, none⟩ = some (.int .i64 (rd_T46 code i).f4) := by
  obtain ⟨ad, e, _⟩ := at_T46 h i (by omega) (by omega)
  refine ⟨ad, e, fun W hW => ?_⟩
  obtain ⟨ad', e', y0, y1, y2, y3, y4⟩ := at_T46 (Kd.C_below h hW) i (by omega) (by omega)
  obtain rfl := Option.some.inj (e.symm.trans e')
  rw [Int.toNat_natCast] at y0 y1 y2 y3 y4
  exact ⟨y0, y1, y2, y3, y4⟩
set_option maxHeartbeats 2000000 in
set_option maxRecDepth 100000 in
theorem Safe_c (p : Pg) (w : World) (h : p.On w) (a : Int) : Calls Tryz.prog 63 #[p.v, .int .i64 a] w fun e w' => e = .returned (.bool (sf p.code a)) ∧ Below w.heap.size w w' := by
  have hmax := Kd.C_max h.hC
  have hC := h.hC
  clear h
  obtain ⟨A0, c0, ts, la, gl, A3, c3, code⟩ := p
  simp only at hmax hC
  show Calls _ _ #[.agg #[.slice A0 ts.length c0, .string la, .string gl, .slice A3 code.length c3], .int .i64 a] _ fun e w' => e = .returned (.bool (sf code a)) ∧ _
  by_cases hr : 0 ≤ a ∧ a < code.length
  · obtain ⟨an, rfl⟩ := Int.eq_ofNat_of_zero_le hr.1
    obtain ⟨ad, rfl, hy⟩ := at_box hC an (by omega)
    obtain ⟨y0, y1, y2, y3, y4⟩ := hy _ (below_alloc (Below.refl _ _) (.cells #[.slice A0 ts.length c0, .string la, .string gl, .slice (some ad) code.length c3] 25))
    have e : sf code an = decide ((rd_T46 code an).f0 = 5 ∨ ((rd_T46 code an).f0 = 3 ∨ (rd_T46 code an).f0 = 4) ∧ (rd_T46 code an).f4 ≤ an) := decide_eq_decide.2 ⟨fun h => h.2, fun h => ⟨hr, h⟩⟩
    rw [e]
    obtain ⟨⟨x0, x1, x2, x3, x4⟩, hx⟩ : ∃ x, x = rd_T46 code an := ⟨_, rfl⟩
    rw [← hx] at y0 y1 y2 y3 y4 ⊢
    simp only at y0 y1 y2 y3 y4 ⊢
    have h0 : ¬ (an : Int) < 0 := by omega
    have h1 : ¬ (an : Int) ≥ code.length := by omega
    clear hC hx e hy hr
    have fin : ∀ b : Bool, Calls Tryz.prog 63 #[.agg #[.slice A0 ts.length c0, .string la, .string gl, .slice (some ad) code.length c3], .int .i64 an] w (fun e w' => e = .returned (.bool b) ∧ Below w.heap.size w w') → decide (x0 = 5 ∨ (x0 = 3 ∨ x0 = 4) ∧ x4 ≤ (an : Int)) = b → Calls Tryz.prog 63 #[.agg #[.slice A0 ts.length c0, .string la, .string gl, .slice (some ad) code.length c3], .int .i64 an] w (fun e w' => e = .returned (.bool (decide (x0 = 5 ∨ (x0 = 3 ∨ x0 = 4) ∧ x4 ≤ (an : Int)))) ∧ Below w.heap.size w w') := fun b h e => by rw [e]; exact h
    by_cases h5 : x0 = 5
    · refine fin true ?_ (by simp [h5])
      clear fin
      go_enter Tryz.func63, Tryz.ntmps63
      go_wp2
      go_ret
      exact ⟨rfl, below_alloc (below_alloc (Below.refl _ _) _) _⟩
    · by_cases h34 : x0 = 3 ∨ x0 = 4
      · by_cases h4 : x4 ≤ (an : Int)
        · refine fin true ?_ (by simp [h34, h4])
          clear fin
          rcases h34 with h3 | h3 <;>
          · go_enter Tryz.func63, Tryz.ntmps63
            go_wp2
            go_ret
            exact ⟨rfl, below_alloc (below_alloc (Below.refl _ _) _) _⟩
        · refine fin false ?_ (by simp [h5, h4])
          clear fin
          rcases h34 with h3 | h3 <;>
          · go_enter Tryz.func63, Tryz.ntmps63
            go_wp2
            go_ret
            exact ⟨rfl, below_alloc (below_alloc (Below.refl _ _) _) _⟩
      · have h3 : ¬ x0 = 3 := fun e => h34 (.inl e)
        have h4 : ¬ x0 = 4 := fun e => h34 (.inr e)
        refine fin false ?_ (by simp [h5, h34])
        clear fin h34
        go_enter Tryz.func63, Tryz.ntmps63
        go_wp2
        go_ret
        exact ⟨rfl, below_alloc (below_alloc (Below.refl _ _) _) _⟩
  · have e : sf code a = false := decide_eq_false fun h => hr h.1
    rw [e]
    by_cases h0 : a < 0
    · go_enter Tryz.func63, Tryz.ntmps63
      go_wp2
      go_ret
      exact ⟨rfl, below_alloc (Below.refl _ _) _⟩
    · have h1 : a ≥ (code.length : Int) := by omega
      go_enter Tryz.func63, Tryz.ntmps63
      go_wp2
      go_ret
      exact ⟨rfl, below_alloc (Below.refl _ _) _⟩
end Go.Proofs.YtocechpmgfhenaaGreatDoor.FSF

namespace Go.Proofs.YtocechpmgfhenaaGreatDoor.CHG
open Go.RowKit Go.Proofs.YtocechpmgfhenaaGreatDoorW.PrintWords
set_option linter.unusedVariables false
structure Ch (S : Nat → Prop) (w w' : World) : Prop where
  os : w'.os = w.os
  tape : w'.tape = w.tape
  output : w'.output = w.output
  size : w.heap.size ≤ w'.heap.size
  block : ∀ k, k < w.heap.size → ¬ S k → w'.heap[k]? = w.heap[k]?
theorem Ch.refl (S : Nat → Prop) (w : World) : Ch S w w := ⟨rfl, rfl, rfl, Nat.le_refl _, fun _ _ _ => rfl⟩
theorem Ch.trans {S : Nat → Prop} {a b c : World} (h : Ch S a b) (k : Ch S b c) : Ch S a c :=
  ⟨k.os.trans h.os, k.tape.trans h.tape, k.output.trans h.output, Nat.le_trans h.size k.size, fun i hi hs => (k.block i (Nat.lt_of_lt_of_le hi h.size) hs).trans (h.block i hi hs)⟩
theorem Ch.of {S : Nat → Prop} {w w' : World} (h : Below w.heap.size w w') : Ch S w w' := ⟨h.os, h.tape, h.output, h.size, fun k hk _ => h.block k hk⟩
theorem Ch.set {S : Nat → Prop} {w W : World} (h : Ch S w W) {a : Addr} (ha : S a.block ∨ w.heap.size ≤ a.block) (v : Value) : Ch S w (W.setCell a v) := by
  have hb : Below a.block W (W.setCell a v) := (Below.refl a.block W).setCell (Nat.le_refl _) v
  refine ⟨hb.os.trans h.os, hb.tape.trans h.tape, hb.output.trans h.output, Nat.le_trans h.size hb.size, fun k hk hs => (heap_setCell_other W a k v fun e => ?_).trans (h.block k hk hs)⟩
  rcases ha with ha | ha
  · exact hs (e ▸ ha)
  · omega
theorem Ch.below {S : Nat → Prop} {w w' : World} (h : Ch S w w') {B : Nat} (hB : B ≤ w.heap.size) (hs : ∀ k, S k → B ≤ k) : Below B w w' := ⟨h.os, h.tape, h.output, h.size, fun k hk => h.block k (by omega) fun e => by have := hs k e; omega⟩
theorem Ch.below' {S : Nat → Prop} {w0 w w' : World} (h : Ch S w w') (hb : Below w0.heap.size w0 w) (hs : ∀ k, S k → w0.heap.size ≤ k) : Below w0.heap.size w0 w' := hb.trans (h.below hb.size hs)
end Go.Proofs.YtocechpmgfhenaaGreatDoor.CHG

namespace Go.Proofs.YtocechpmgfhenaaGreatDoor.LK
open Go.RowKit Go.Proofs.YtocechpmgfhenaaGreatDoorW.PrintWords Go.Proofs.YtocechpmgfhenaaGreatDoor.F Go.Proofs.YtocechpmgfhenaaGreatDoor.PL Go.Proofs.YtocechpmgfhenaaGreatDoor.NX Go.Proofs.YtocechpmgfhenaaGreatDoor.FP Go.Proofs.YtocechpmgfhenaaGreatDoor.FSF Go.Proofs.YtocechpmgfhenaaGreatDoor.FG Go.Proofs.YtocechpmgfhenaaGreatDoor.CHG
set_option linter.unusedVariables false
set_option linter.unusedSimpArgs false
def mg (M : Nat) (a b : List Bool) (i : Nat) : List Bool := (List.range M).map fun j => if j < i then a.getD j false || b.getD j false else a.getD j false
def mor (a b : List Bool) (i : Nat) : Bool := (List.range i).any fun j => b.getD j false && !a.getD j false
theorem mor_succ (a b : List Bool) (i : Nat) : mor a b (i + 1) = (mor a b i || (b.getD i false && !a.getD i false)) := by simp [mor, List.range_succ]
theorem mg_len (M : Nat) (a b : List Bool) (i : Nat) : (mg M a b i).length = M := by simp [mg]
theorem mg_get (M : Nat) (a b : List Bool) (i j : Nat) (h : j < M) : (mg M a b i).getD j false = if j < i then a.getD j false || b.getD j false else a.getD j false := by
  unfold mg
  rw [List.getD_eq_getElem?_getD, List.getElem?_map, List.getElem?_range h]
  rfl
theorem ext_getD {a b : List Bool} {M : Nat} (ha : a.length = M) (hb : b.length = M) (h : ∀ j, j < M → a.getD j false = b.getD j false) : a = b := by
  apply List.ext_getElem (by omega)
  intro j h1 h2
  have := h j (by omega)
  rwa [List.getD_eq_getElem?_getD, List.getD_eq_getElem?_getD, List.getElem?_eq_getElem h1, List.getElem?_eq_getElem h2] at this
theorem mg_zero {M : Nat} {a b : List Bool} (h : a.length = M) : mg M a b 0 = a := ext_getD (mg_len ..) h fun j hj => by rw [mg_get _ _ _ _ _ hj, if_neg (Nat.not_lt_zero _)]
theorem set_getD (a : List Bool) (i j : Nat) (v : Bool) (h : i < a.length) : (a.set i v).getD j false = if j = i then v else a.getD j false := by
  rw [List.getD_eq_getElem?_getD, List.getElem?_set]
  by_cases e : i = j
  · rw [if_pos e, if_pos (by omega), if_pos e.symm]
    rfl
  · rw [if_neg e, if_neg (fun e' => e e'.symm), List.getD_eq_getElem?_getD]
theorem mg_set {M : Nat} {a b : List Bool} {i : Nat} (hi : i < M) (h : b.getD i false = true) : (mg M a b i).set i true = mg M a b (i + 1) := by
  refine ext_getD (by rw [List.length_set, mg_len]) (mg_len ..) fun j hj => ?_
  rw [set_getD _ _ _ _ (by rw [mg_len]; exact hi), mg_get _ _ _ _ _ hj, mg_get _ _ _ _ _ hj]
  by_cases e : j = i
  · subst e
    rw [if_pos rfl, if_pos (Nat.lt_succ_self _), h]
    simp
  · rw [if_neg e]
    by_cases e2 : j < i
    · rw [if_pos e2, if_pos (by omega)]
    · rw [if_neg e2, if_neg (by omega)]
theorem mg_next {M : Nat} {a b : List Bool} {i : Nat} (hi : i < M) (h : (b.getD i false && !a.getD i false) = false) : mg M a b i = mg M a b (i + 1) := by
  refine ext_getD (mg_len ..) (mg_len ..) fun j hj => ?_
  rw [mg_get _ _ _ _ _ hj, mg_get _ _ _ _ _ hj]
  by_cases e : j = i
  · subst e
    rw [if_neg (Nat.lt_irrefl _), if_pos (Nat.lt_succ_self _)]
    cases ha : a.getD j false
    · rw [ha] at h
      simpa using h.symm
    · rfl
  · by_cases e2 : j < i
    · rw [if_pos e2, if_pos (by omega)]
    · rw [if_neg e2, if_neg (by omega)]
set_option maxHeartbeats 4000000 in
set_option maxRecDepth 100000 in
theorem merge_c (w : World) (M ba bb : Nat) (a b : List Bool) (ha : Row w ba a) (hb : Row w bb b) (la : a.length = M) (lb : b.length = M) (hs : ba = bb → a = b) (hM : M ≤ 2000000) :
    Calls Tryz.prog 71 #[.slice (some ⟨ba, 0, none⟩) M M, .slice (some ⟨bb, 0, none⟩) M M] w fun e w' => e = .returned (.bool (mor a b M)) ∧ Row w' ba (mg M a b M) ∧ Ch (fun k => k = ba) w w' := by
  have HA := Aside0.mk (show Row w ba (mg M a b 0) by rw [mg_zero la]; exact ha)
  have HB := Aside0.mk hb
  have HS := Aside0.mk hs
  have HC := Aside0.mk (Ch.refl (fun k => k = ba) w)
  have hbw := blk_lt hb
  clear ha hb hs
  go_enter Tryz.func71, Tryz.ntmps71
  go_wp2
  go_loopw [10, 5] (fun x v wr => ∃ i : Nat, x = .int .i64 i ∧ v = .bool (mor a b i) ∧ i ≤ M ∧ Aside0 (Row wr ba (mg M a b i) ∧ Row wr bb b ∧ Ch (fun k => k = ba) w wr)) (fun x _ _ => M - (intOf x).toNat)
  case atStart => exact ⟨0, rfl, rfl, Nat.zero_le _, ⟨HA.out, HB.out, HC.out⟩⟩
  case round =>
    clear HA HB HC
    obtain ⟨i, rfl, rfl, hi, HR⟩ := hrel
    obtain ⟨w3, hw3⟩ : ∃ w3 : World, w3 = wr := ⟨_, rfl⟩
    subst hw3
    by_cases hlt : (i : Int) < M
    · have i0 : (0 : Int) ≤ i := Int.natCast_nonneg _
      have c1 := HR.out.1.cell i (by rw [mg_len]; omega)
      have c2 := HR.out.2.1.cell i (by omega)
      have hf := HR.out.1.free i
      rw [mg_get _ _ _ _ _ (by omega), if_neg (Nat.lt_irrefl _)] at c1
      have hnx : (b.getD i false && !a.getD i false) = false → Row w3 ba (mg M a b (i + 1)) := fun h => by rw [← mg_next (by omega) h]; exact HR.out.1
      have HNX := Aside0.mk hnx
      have hms := mor_succ a b i
      have HMS := Aside0.mk hms
      clear hnx hms
      cases h2 : b.getD i false with
      | false =>
        rw [h2] at c2 HNX HMS
        go_wp2
        refine ⟨⟨i + 1, by go_num, by rw [HMS.out]; simp, by omega, ⟨HNX.out (by simp), HR.out.2.1, HR.out.2.2⟩⟩, by simp [intOf]; omega⟩
      | true =>
        cases h1 : a.getD i false with
        | true =>
          rw [h2] at c2 HNX HMS
          rw [h1] at c1 HNX HMS
          go_wp2
          refine ⟨⟨i + 1, by go_num, by rw [HMS.out]; simp, by omega, ⟨HNX.out (by simp), HR.out.2.1, HR.out.2.2⟩⟩, by simp [intOf]; omega⟩
        | false =>
          have hst := mg_set (M := M) (a := a) (b := b) (i := i) (by omega) h2
          have hne : ba ≠ bb := fun e => by rw [HS.out e, h2] at h1; cases h1
          rw [h2] at c2 HMS
          rw [h1] at c1 HMS
          have HST := Aside0.mk hst
          clear hst HNX
          go_wp2
          refine ⟨⟨i + 1, by go_num, by rw [HMS.out]; simp, by omega, ⟨by rw [← HST.out]; exact HR.out.1.set i, blk_far HR.out.2.1 (by simpa using fun e => hne e.symm) _, HR.out.2.2.set (.inl rfl) _⟩⟩, by simp [intOf]; omega⟩
    · obtain rfl : i = M := by omega
      go_wp2
      go_ret
      exact ⟨rfl, HR.out.1, HR.out.2.2⟩
end Go.Proofs.YtocechpmgfhenaaGreatDoor.LK

namespace Go.Proofs.YtocechpmgfhenaaGreatDoor.LK
open Go.RowKit Go.Proofs.YtocechpmgfhenaaGreatDoorW.PrintWords Go.Proofs.YtocechpmgfhenaaGreatDoor.F Go.Proofs.YtocechpmgfhenaaGreatDoor.FP
set_option linter.unusedVariables false
section
variable (code : List S46) (L : Nat)
inductive MayP : Nat → Nat → Prop
  | new {a k : Nat} : a < L → k < code.length → (rd_T46 code k).f0 = 5 → (rd_T46 code k).f1 = a → MayP a k
  | move {a b k j : Nat} : j < code.length → (rd_T46 code j).f0 = 7 → (rd_T46 code j).f1 = a → (rd_T46 code j).f2 = b → a < L → b < L → MayP b k → MayP a k
open Classical in
noncomputable def mayR (M a : Nat) : List Bool := (List.range M).map fun k => decide (MayP code L a k)
end
section
variable {code : List S46} {L M : Nat}
theorem MayP.range {a k : Nat} (h : MayP code L a k) : a < L ∧ k < code.length := by
  induction h with
  | new h1 h2 _ _ => exact ⟨h1, h2⟩
  | move _ _ _ _ h1 _ _ ih => exact ⟨h1, ih.2⟩
theorem mayR_len (M a : Nat) : (mayR code L M a).length = M := by simp [mayR]
theorem mayR_get {a k : Nat} (h : k < M) : (mayR code L M a).getD k false = true ↔ MayP code L a k := by
  unfold mayR
  rw [List.getD_eq_getElem?_getD, List.getElem?_map, List.getElem?_range h]
  simp
def Sdm (code : List S46) (L M : Nat) (D : List (List Bool)) : Prop := ∀ a, a < L → ∀ k, k < M → (D.getD a []).getD k false = true → MayP code L a k
def Cpm (code : List S46) (L : Nat) (D : List (List Bool)) (n : Nat) : Prop := ∀ a k, a < L → k < n → k < code.length → (rd_T46 code k).f0 = 5 → (rd_T46 code k).f1 = a → (D.getD a []).getD k false = true
def Clm (code : List S46) (L M : Nat) (D : List (List Bool)) (n : Nat) : Prop := ∀ j a b, j < n → j < code.length → (rd_T46 code j).f0 = 7 → (rd_T46 code j).f1 = (a : Nat) → (rd_T46 code j).f2 = (b : Nat) → a < L → b < L → ∀ k, k < M → (D.getD b []).getD k false = true → (D.getD a []).getD k false = true
theorem all_may {D : List (List Bool)} (hM : M = code.length + 1) (h1 : Sdm code L M D) (h2 : Cpm code L D code.length) (h3 : Clm code L M D code.length) (hl : ∀ a, a < L → (D.getD a []).length = M) : ∀ a, a < L → D.getD a [] = mayR code L M a := by
  intro a ha
  refine ext_getD (hl a ha) (mayR_len ..) fun k hk => ?_
  rw [Bool.eq_iff_iff, mayR_get hk]
  refine ⟨h1 a ha k hk, fun h => ?_⟩
  clear hk
  induction h with
  | new q1 q2 q3 q4 => exact h2 _ _ q1 q2 q2 q3 q4
  | move q1 q2 q3 q4 q5 q6 q7 ih => exact h3 _ _ _ q1 q1 q2 q3 q4 q5 q6 _ (by have := q7.range.2; omega) (ih q6)
def cntM (D : List (List Bool)) : Nat := (D.map cnt).sum
theorem cntM_set : ∀ (D : List (List Bool)) (a : Nat) (r : List Bool), a < D.length → cntM (D.set a r) + cnt (D.getD a []) = cntM D + cnt r := by
  intro D
  induction D with
  | nil => intro a r h; exact absurd h (Nat.not_lt_zero _)
  | cons x D ih =>
    intro a r h
    cases a with
    | zero => simp [cntM]; omega
    | succ a =>
      have := ih a r (by simpa using h)
      simp [cntM] at this ⊢
      omega
theorem cntM_le : ∀ (D : List (List Bool)) (L M : Nat), D.length = L → (∀ a, a < L → (D.getD a []).length = M) → cntM D ≤ L * M := by
  intro D
  induction D with
  | nil => intro L M h _; simp [cntM]
  | cons x D ih =>
    intro L M h hl
    cases L with
    | zero => simp at h
    | succ L =>
      have h1 := ih L M (by simpa using h) fun a ha => by simpa using hl (a + 1) (by omega)
      have h2 := cnt_len x
      have h3 : x.length = M := by simpa using hl 0 (by omega)
      have : cntM (x :: D) = cnt x + cntM D := by simp [cntM]
      rw [Nat.succ_mul]
      omega
theorem getD_set2 (D : List (List Bool)) (a b : Nat) (r : List Bool) (h : a < D.length) : (D.set a r).getD b [] = if b = a then r else D.getD b [] := by
  rw [List.getD_eq_getElem?_getD, List.getElem?_set]
  by_cases e : a = b
  · rw [if_pos e, if_pos (by omega), if_pos e.symm]
    rfl
  · rw [if_neg e, if_neg (fun e' => e e'.symm), List.getD_eq_getElem?_getD]
theorem mg_cnt {a b : List Bool} (ha : a.length = M) : cnt a ≤ cnt (mg M a b M) ∧ (mor a b M = true → cnt a < cnt (mg M a b M)) := by
  have hle : LE a (mg M a b M) := ⟨by rw [mg_len, ha], fun i hi => by
    by_cases h : i < M
    · rw [mg_get _ _ _ _ _ h, if_pos h, hi]
      rfl
    · rw [List.getD_eq_getElem?_getD, List.getElem?_eq_none (by omega)] at hi
      cases hi⟩
  refine ⟨(cnt_le hle).1, fun h => (cnt_le hle).2 fun e => ?_⟩
  unfold mor at h
  rw [List.any_eq_true] at h
  obtain ⟨i, hi, h⟩ := h
  have hi := List.mem_range.1 hi
  rw [e, mg_get _ _ _ _ _ hi, if_pos hi] at h
  simp at h
  rw [h.1] at h
  simp at h
theorem mg_no {a b : List Bool} (ha : a.length = M) (h : mor a b M = false) : mg M a b M = a ∧ ∀ k, k < M → b.getD k false = true → a.getD k false = true := by
  have hn : ∀ k, k < M → b.getD k false = true → a.getD k false = true := fun k hk hb => by
    unfold mor at h
    rw [List.any_eq_false] at h
    have := h k (List.mem_range.2 hk)
    rw [hb] at this
    simpa using this
  refine ⟨ext_getD (mg_len ..) ha fun j hj => ?_, hn⟩
  rw [mg_get _ _ _ _ _ hj, if_pos hj]
  cases h1 : a.getD j false with
  | true => rfl
  | false =>
    cases h2 : b.getD j false with
    | false => rfl
    | true => rw [hn j hj h2] at h1; cases h1
theorem Sdm.set {D : List (List Bool)} (h : Sdm code L M D) {a k : Nat} (hl : D.length = L) (ha : a < L) (hp : MayP code L a k) : Sdm code L M (D.set a ((D.getD a []).set k true)) := by
  intro a' ha' k' hk' hb
  rw [getD_set2 _ _ _ _ (by omega)] at hb
  by_cases e : a' = a
  · subst e
    rw [if_pos rfl] at hb
    by_cases e2 : k' = k
    · exact e2 ▸ hp
    · by_cases h3 : k < (D.getD a' []).length
      · rw [set_getD _ _ _ _ h3, if_neg e2] at hb
        exact h a' ha' k' hk' hb
      · rw [List.set_eq_of_length_le (by omega)] at hb
        exact h a' ha' k' hk' hb
  · rw [if_neg e] at hb
    exact h a' ha' k' hk' hb
theorem Sdm.merge {D : List (List Bool)} (h : Sdm code L M D) {a b j : Nat} (hl : D.length = L) (ha : a < L) (hb : b < L) (q1 : j < code.length) (q2 : (rd_T46 code j).f0 = 7) (q3 : (rd_T46 code j).f1 = a) (q4 : (rd_T46 code j).f2 = b) : Sdm code L M (D.set a (mg M (D.getD a []) (D.getD b []) M)) := by
  intro a' ha' k' hk' hb'
  rw [getD_set2 _ _ _ _ (by omega)] at hb'
  by_cases e : a' = a
  · subst e
    rw [if_pos rfl, mg_get _ _ _ _ _ hk', if_pos hk', Bool.or_eq_true] at hb'
    rcases hb' with hb' | hb'
    · exact h a' ha' k' hk' hb'
    · exact .move q1 q2 q3 q4 ha hb (h b hb k' hk' hb')
  · rw [if_neg e] at hb'
    exact h a' ha' k' hk' hb'
theorem Cpm.merge {D : List (List Bool)} {n : Nat} (h : Cpm code L D n) {a : Nat} {r : List Bool} (hl : D.length = L) (ha : a < L) (hlM : code.length ≤ M) : Cpm code L (D.set a (mg M (D.getD a []) r M)) n := by
  intro a' k h1 h2 h3 h4 h5
  have := h a' k h1 h2 h3 h4 h5
  rw [getD_set2 _ _ _ _ (by omega)]
  by_cases e : a' = a
  · subst e
    rw [if_pos rfl, mg_get _ _ _ _ _ (by omega), if_pos (by omega), this]
    rfl
  · rw [if_neg e]
    exact this
end
end Go.Proofs.YtocechpmgfhenaaGreatDoor.LK

namespace Go.Proofs.YtocechpmgfhenaaGreatDoor.LK
open Go.RowKit Go.Proofs.YtocechpmgfhenaaGreatDoorW.PrintWords Go.Proofs.YtocechpmgfhenaaGreatDoor.F Go.Proofs.YtocechpmgfhenaaGreatDoor.PL Go.Proofs.YtocechpmgfhenaaGreatDoor.NX Go.Proofs.YtocechpmgfhenaaGreatDoor.FP Go.Proofs.YtocechpmgfhenaaGreatDoor.FSF Go.Proofs.YtocechpmgfhenaaGreatDoor.FG Go.Proofs.YtocechpmgfhenaaGreatDoor.CHG
set_option linter.unusedVariables false
set_option linter.unusedSimpArgs false
def mvO : Oper := { dst := some 90, op := .move (.tmp 8), type := 4, pos := "leak.go:33", after := #[{ on := 11, ground := .guard }], guard := some (11, false) }
attribute [local go_sem] mvO
theorem there_c (w : World) (g L c : Nat) (A : Option Addr) (a : Nat) (ha : a ≤ 255) (hg : w.cell? ⟨g, 0, none⟩ = some (.slice A L c)) (b : Bool) (hb : decide ((a : Int) < (L : Int)) = b) :
    Calls Tryz.prog 70 #[.int .u8 a, .pointer (some ⟨g, 0, none⟩)] w fun e w' => e = .returned (.bool b) ∧ w' = w := by
  subst hb
  have ew : wrap64 (a : Int) = a := by unfold wrap64; omega
  go_enter Tryz.func70, Tryz.ntmps70
  go_wp2
  go_ret
  exact ⟨by simp, rfl⟩
def hdM (b0 L M i : Nat) : List Value := (List.range L).map fun a => if a < i then Value.slice (some ⟨b0 + a, 0, none⟩) M M else .slice none 0 0
structure MI (w wr : World) (pv : Array Value) (L M i : Nat) (D : List (List Bool)) : Prop where
  heads : wr.heap[w.heap.size + 1]? = some (.cells (hdM (w.heap.size + 3) L M i).toArray 73 (0, 0))
  ptr : wr.heap[w.heap.size + 1 + 1]? = some (.cells #[.slice (some ⟨w.heap.size + 1, 0, none⟩) L L] 92 (0, 0))
  box : wr.heap[w.heap.size]? = some (.cells pv 25 (0, 0))
  rows : ∀ a, a < i → Row wr (w.heap.size + 3 + a) (D.getD a [])
  below : Below w.heap.size w wr
theorem MI.keep {w wr w1 : World} {pv : Array Value} {L M i : Nat} {D : List (List Bool)} (h : MI w wr pv L M i D) (hb : Below wr.heap.size wr w1) : MI w w1 pv L M i D :=
  ⟨(hb.block _ (blk_lt h.heads)).trans h.heads, (hb.block _ (blk_lt h.ptr)).trans h.ptr, (hb.block _ (blk_lt h.box)).trans h.box, fun a ha => (hb.block _ (blk_lt (h.rows a ha))).trans (h.rows a ha), below_step h.below hb⟩
theorem hdM_get (b0 L M i a : Nat) (ha : a < L) : (hdM b0 L M i).toArray[a]? = some (if a < i then Value.slice (some ⟨b0 + a, 0, none⟩) M M else .slice none 0 0) := by
  rw [List.getElem?_toArray]
  unfold hdM
  rw [List.getElem?_map, List.getElem?_range ha]
  rfl
theorem hdM_set {b0 L M i : Nat} (hi : i < L) : (hdM b0 L M i).toArray.setIfInBounds i (.slice (some ⟨b0 + i, 0, none⟩) M M) = (hdM b0 L M (i + 1)).toArray := by
  apply Array.ext_getElem?
  intro a
  by_cases ha : a < L
  · rw [Array.getElem?_setIfInBounds, hdM_get _ _ _ _ _ ha]
    by_cases e : i = a
    · subst e
      rw [if_pos rfl, if_pos (by simp [hdM, hi]), hdM_get _ _ _ _ _ ha, if_pos (Nat.lt_succ_self _)]
    · rw [if_neg e, hdM_get _ _ _ _ _ ha]
      by_cases e2 : a < i
      · rw [if_pos e2, if_pos (by omega)]
      · rw [if_neg e2, if_neg (by omega)]
  · rw [Array.getElem?_eq_none (by simp [hdM]; omega), Array.getElem?_eq_none (by simp [hdM]; omega)]
theorem made_hdM (b0 L M : Nat) : madeCells #[Value.slice none 0 0] L = (hdM b0 L M 0).toArray := by
  apply Array.ext'
  rw [toList_madeCells_one]
  simp [hdM]
  exact (List.map_const' ..).symm ▸ by simp
theorem MI.head {w wr : World} {pv : Array Value} {L M i : Nat} {D : List (List Bool)} (h : MI w wr pv L M i D) (a : Nat) (ha : a < L) (hi : a < i) : wr.cell? ⟨w.heap.size + 1, a, none⟩ = some (.slice (some ⟨w.heap.size + 3 + a, 0, none⟩) M M) :=
  (blk_cell h.heads a).trans ((hdM_get _ _ _ _ _ ha).trans (by rw [if_pos hi]))
def cntW (b0 L : Nat) (w : World) : Nat := cntM ((List.range L).map fun a => hadOf w (b0 + a))
theorem MI.cnt {w wr : World} {pv : Array Value} {L M : Nat} {D : List (List Bool)} (h : MI w wr pv L M L D) (hl : D.length = L) : cntW (w.heap.size + 3) L wr = cntM D := by
  unfold cntW
  congr 1
  apply List.ext_getElem (by simp [hl])
  intro a h1 h2
  have ha : a < L := by simpa using h1
  rw [List.getElem_map, List.getElem_range, (h.rows a ha).had, List.getD_eq_getElem?_getD, List.getElem?_eq_getElem h2]
  rfl
def boolN : Value → Nat
  | .bool true => 1
  | _ => 0
theorem MI.row {w wr w1 : World} {pv : Array Value} {L M : Nat} {D : List (List Bool)} (h : MI w wr pv L M L D) (hl : D.length = L) {a : Nat} (ha : a < L) {r : List Bool} (hr : Row w1 (w.heap.size + 3 + a) r) (hc : Ch (fun k => k = w.heap.size + 3 + a) wr w1) : MI w w1 pv L M L (D.set a r) := by
  refine ⟨(hc.block _ (blk_lt h.heads) (by omega)).trans h.heads, (hc.block _ (blk_lt h.ptr) (by omega)).trans h.ptr, (hc.block _ (blk_lt h.box) (by omega)).trans h.box, fun b hb => ?_, hc.below' h.below fun k e => by omega⟩
  rw [getD_set2 _ _ _ _ (by omega)]
  by_cases e : b = a
  · subst e
    rw [if_pos rfl]
    exact hr
  · rw [if_neg e]
    exact (hc.block _ (blk_lt (h.rows b hb)) (by omega)).trans (h.rows b hb)
set_option maxHeartbeats 8000000 in
set_option maxRecDepth 100000 in
theorem May_c (p : Pg) (w : World) (h : p.On w) (hL : p.la.size ≤ 1000) (hsm : p.code.length ≤ 1000000) : Calls Tryz.prog 41 #[p.v] w fun e w' =>
    e = .returned (.slice (some ⟨w.heap.size + 1, 0, none⟩) p.la.size p.la.size) ∧ w'.heap[w.heap.size + 1]? = some (.cells (hdM (w.heap.size + 3) p.la.size (p.code.length + 1) p.la.size).toArray 73 (0, 0)) ∧ (∀ a, a < p.la.size → Row w' (w.heap.size + 3 + a) (mayR p.code p.la.size (p.code.length + 1) a)) ∧ Below w.heap.size w w' := by
  have hC := h.hC
  have HWF := h.hw
  clear h
  obtain ⟨A0, c0, ts, la, gl, A3, c3, code⟩ := p
  simp only at hC hL hsm
  change WfC code at HWF
  show Calls _ _ #[.agg #[.slice A0 ts.length c0, .string la, .string gl, .slice A3 code.length c3]] _ fun e w' => e = .returned (.slice (some ⟨w.heap.size + 1, 0, none⟩) la.size la.size) ∧ w'.heap[w.heap.size + 1]? = some (.cells (hdM (w.heap.size + 3) la.size (code.length + 1) la.size).toArray 73 (0, 0)) ∧ (∀ a, a < la.size → Row w' (w.heap.size + 3 + a) (mayR code la.size (code.length + 1) a)) ∧ Below w.heap.size w w'
  obtain ⟨L, hLe⟩ : ∃ L, L = la.size := ⟨_, rfl⟩
  have hmk1 : ∀ W : World, (Instr.makeSlice 92 (.int .i64 (la.size : Int)) (.int .i64 (la.size : Int))).run Tryz.prog W = .ok (.slice (some ⟨W.heap.size, 0, none⟩) la.size la.size) (W.alloc (.cells (madeCells #[.slice none 0 0] la.size) 73)) :=
    print_make_of (P := Tryz.prog) 92 73 (.slice none 0 0) 24 Tryz.underlying92 (by kernel_rfl) rfl (by decide) la.size (by omega)
  have hmk2 : ∀ W : World, (Instr.makeSlice 73 (.int .i64 ((code.length : Int) + 1)) (.int .i64 ((code.length : Int) + 1))).run Tryz.prog W = .ok (.slice (some ⟨W.heap.size, 0, none⟩) (code.length + 1) (code.length + 1)) (W.alloc (.cells (madeCells #[.bool false] (code.length + 1)) 4)) :=
    print_make_of (P := Tryz.prog) 73 4 (.bool false) 1 Tryz.underlying73 (by kernel_rfl) rfl (by decide) (code.length + 1) (by omega)
  have HC := Aside0.mk hC
  have HWA := Aside0.mk HWF
  clear hC HWF
  go_enter Tryz.func41, Tryz.ntmps41
  go_upto_region 2 with (fail)
  obtain ⟨W0, hW0⟩ : ∃ W0 : World, W0 = ((w.alloc (.cells #[.slice A0 ts.length c0, .string la, .string gl, .slice A3 code.length c3] 25)).alloc (.cells (madeCells #[.slice none 0 0] la.size) 73)).alloc (.cells #[.slice (some ⟨w.heap.size + 1, 0, none⟩) la.size la.size] 92) := ⟨_, rfl⟩
  have HM := Aside0.mk (show MI w W0 #[.slice A0 ts.length c0, .string la, .string gl, .slice A3 code.length c3] L (code.length + 1) 0 (List.replicate L (List.replicate (code.length + 1) false)) ∧ W0.heap.size = w.heap.size + 3 by
    rw [hW0, ← hLe]
    refine ⟨⟨?_, ST0.row_new _ _ _ (by simp), ST0.row_old _ _ _ (by simp; omega) (ST0.row_old _ _ _ (by simp) (ST0.row_new _ _ _ rfl)), fun a ha => absurd ha (Nat.not_lt_zero _), below_alloc (below_alloc (below_alloc (Below.refl _ _) _) _) _⟩, by simp⟩
    rw [made_hdM (w.heap.size + 3) L (code.length + 1)]
    exact ST0.row_old _ _ _ (by simp) (ST0.row_new _ _ _ (by simp)))
  rw [← hW0]
  rw [← hLe] at hL ⊢
  have HLE := Aside0.mk hLe
  clear hW0 hmk1 hLe
  have k2 : W0.cell? ⟨w.heap.size + 1 + 1, 0, none⟩ = some (.slice (some ⟨w.heap.size + 1, 0, none⟩) L L) := (blk_cell HM.out.1.ptr 0).trans rfl
  go_wp2
  clear k2
  go_loopw [17] (fun x wr => ∃ i : Nat, x = .int .i64 i ∧ i ≤ L ∧ Aside0 (MI w wr #[.slice A0 ts.length c0, .string la, .string gl, .slice A3 code.length c3] L (code.length + 1) i (List.replicate L (List.replicate (code.length + 1) false)) ∧ wr.heap.size = w.heap.size + 3 + i)) (fun x _ => L - (intOf x).toNat)
  case atStart => exact ⟨0, rfl, Nat.zero_le _, HM⟩
  case round =>
    clear HM
    obtain ⟨i, rfl, hi, HM⟩ := hrel
    obtain ⟨w3, hw3⟩ : ∃ w3 : World, w3 = wr := ⟨_, rfl⟩
    subst hw3
    by_cases hlt : (i : Int) < L
    · have i0 : (0 : Int) ≤ i := Int.natCast_nonneg _
      have hzz := HM.out.2
      have k2 : w3.cell? ⟨w.heap.size + 1 + 1, 0, none⟩ = some (.slice (some ⟨w.heap.size + 1, 0, none⟩) L L) := (blk_cell HM.out.1.ptr 0).trans rfl
      have k3 : w3.cell? ⟨w.heap.size, 3, none⟩ = some (.slice A3 code.length c3) := (blk_cell HM.out.1.box 3).trans rfl
      have k4 : ∀ o, (w3.alloc o).cell? ⟨w.heap.size + 1 + 1, 0, none⟩ = some (.slice (some ⟨w.heap.size + 1, 0, none⟩) L L) := fun o => (World.cell?_alloc_lt _ _ _ (show w.heap.size + 1 + 1 < w3.heap.size by omega)).trans k2
      have k5 : ∀ o, (w3.alloc o).cell? ⟨w.heap.size + 1, i, none⟩ = some (.slice none 0 0) := fun o => (World.cell?_alloc_lt _ _ _ (show w.heap.size + 1 < w3.heap.size by omega)).trans ((blk_cell HM.out.1.heads i).trans ((hdM_get _ _ _ _ _ (by omega)).trans (by rw [if_neg (Nat.lt_irrefl _)])))
      have k6 : ∀ o, (w3.alloc o).frozen? ⟨w.heap.size + 1, i, none⟩ = false := fun o => blk_frozen (ST0.row_old w3 o _ (blk_lt HM.out.1.heads) HM.out.1.heads) i
      go_upto_region 5 with (fail)
      go_region
      all_goals
        go_wp2
        refine ⟨⟨i + 1, by go_num, by omega, ⟨⟨?_, ?_, ?_, fun a ha => ?_, ?_⟩, by simp [hzz]; omega⟩⟩, by simp [intOf]; omega⟩
        · rw [← hdM_set (by omega)]
          exact ST0.row_drew (ST0.row_cellS _ (ST0.row_old _ _ _ (blk_lt HM.out.1.heads) HM.out.1.heads))
        · exact ST0.row_drew (ST0.row_cellO _ _ (by simp) (ST0.row_old _ _ _ (blk_lt HM.out.1.ptr) HM.out.1.ptr))
        · exact ST0.row_drew (ST0.row_cellO _ _ (by simp) (ST0.row_old _ _ _ (blk_lt HM.out.1.box) HM.out.1.box))
        · have hal : a < L := by omega
          have e1 : (List.replicate L (List.replicate (code.length + 1) false)).getD a [] = List.replicate (code.length + 1) false := by
            rw [List.getD_eq_getElem?_getD, List.getElem?_replicate, if_pos hal]
            rfl
          rw [e1]
          by_cases e : a < i
          · have := HM.out.1.rows a e
            rw [e1] at this
            exact ST0.row_drew (ST0.row_cellO _ _ (by simp; omega) (ST0.row_old _ _ _ (blk_lt this) this))
          · obtain rfl : a = i := by omega
            unfold Row
            rw [← madeFalse]
            exact ST0.row_drew (ST0.row_cellO _ _ (by simp; omega) (ST0.row_new w3 _ _ hzz.symm))
        · exact below_drew1 ((below_alloc HM.out.1.below _).setCell (by simp) _)
    · obtain rfl : i = L := by omega
      have HM2 := Aside0.mk (show MI w w3 #[.slice A0 ts.length c0, .string la, .string gl, .slice A3 code.length c3] i (code.length + 1) i (List.replicate i (List.replicate (code.length + 1) false)) ∧ (List.replicate i (List.replicate (code.length + 1) false)).length = i ∧ (∀ a, a < i → ((List.replicate i (List.replicate (code.length + 1) false)).getD a []).length = code.length + 1) ∧ Sdm code i (code.length + 1) (List.replicate i (List.replicate (code.length + 1) false)) ∧ Cpm code i (List.replicate i (List.replicate (code.length + 1) false)) 0 from by
        refine ⟨HM.out.1, by simp, fun a ha => ?_, fun a ha k hk hb => ?_, fun a k _ hk => absurd hk (Nat.not_lt_zero _)⟩
        · rw [List.getD_eq_getElem?_getD, List.getElem?_replicate, if_pos ha]
          simp
        · rw [List.getD_eq_getElem?_getD (l := List.replicate i _), List.getElem?_replicate, if_pos ha] at hb
          simp [List.getD_eq_getElem?_getD, List.getElem?_replicate] at hb
          split at hb <;> simp at hb)
      have k3 : w3.cell? ⟨w.heap.size, 3, none⟩ = some (.slice A3 code.length c3) := (blk_cell HM.out.1.box 3).trans rfl
      clear HM hmk2 hlt hi
      go_wp2
      clear k3
      go_loopw [33] (fun x wr => ∃ (k : Nat) (D : List (List Bool)), x = .int .i64 k ∧ k ≤ code.length ∧ Aside0 (MI w wr #[.slice A0 ts.length c0, .string la, .string gl, .slice A3 code.length c3] i (code.length + 1) i D ∧ D.length = i ∧ (∀ a, a < i → (D.getD a []).length = code.length + 1) ∧ Sdm code i (code.length + 1) D ∧ Cpm code i D k)) (fun x _ => code.length - (intOf x).toNat)
      case atStart => exact ⟨0, _, rfl, Nat.zero_le _, HM2⟩
      case round =>
        clear HM2
        obtain ⟨k, D, rfl, hk, HM⟩ := hrel
        obtain ⟨w4, hw4⟩ : ∃ w4 : World, w4 = wr := ⟨_, rfl⟩
        subst hw4
        by_cases hlt : (k : Int) < code.length
        · have k0 : (0 : Int) ≤ k := Int.natCast_nonneg _
          obtain ⟨ad, eA, hy⟩ := at_box HC.out k (by omega)
          subst eA
          obtain ⟨y0, y1, y2, y3, y4⟩ := hy w4 HM.out.1.below
          have hwf := HWA.out.rd k (by omega)
          obtain ⟨x, hx⟩ : ∃ x, x = rd_T46 code k := ⟨_, rfl⟩
          rw [← hx] at y0 y1 y2 y3 y4 hwf
          have HX := Aside0.mk hx
          obtain ⟨x0, x1, x2, x3, x4⟩ := x
          simp only at y0 y1 y2 y3 y4 hwf
          obtain ⟨a, rfl⟩ := Int.eq_ofNat_of_zero_le hwf.2.1.1
          have ha255 := hwf.2.1.2
          clear hx hy hwf
          go_upto_region 11 with (fail)
          obtain ⟨w5, hw5⟩ : ∃ w5 : World, w5 = w4.alloc (.cells #[.int .u8 x0, .int .u8 a, .int .u8 x2, .int .u8 x3, .int .i64 x4] 46) := ⟨_, rfl⟩
          have HM5 := Aside0.mk (HM.out.1.keep (show Below w4.heap.size w4 w5 by rw [hw5]; exact below_alloc (Below.refl _ _) _))
          have hi5 : w5.heap[w4.heap.size]? = some (.cells #[.int .u8 x0, .int .u8 a, .int .u8 x2, .int .u8 x3, .int .i64 x4] 46 (0, 0)) := by rw [hw5]; exact ST0.row_new _ _ _ rfl
          rw [← hw5]
          clear hw5 y0 y1 y2 y3 y4
          have j0 : w5.cell? ⟨w4.heap.size, 0, none⟩ = some (.int .u8 x0) := (blk_cell hi5 0).trans rfl
          have j1 : w5.cell? ⟨w4.heap.size, 1, none⟩ = some (.int .u8 a) := (blk_cell hi5 1).trans rfl
          have j2 : w5.cell? ⟨w.heap.size + 1 + 1, 0, none⟩ = some (.slice (some ⟨w.heap.size + 1, 0, none⟩) i i) := (blk_cell HM5.out.ptr 0).trans rfl
          obtain ⟨q1, q2, q3, q4⟩ := HM.out.2
          have HQ := Aside0.mk (And.intro q1 (And.intro q2 (And.intro q3 q4)))
          clear q1 q2 q3 q4
          have nxt0 : (x0 = 5 → ¬ a < i) → Cpm code i D (k + 1) := fun hn a' k' h1 h2 h3 h4 h5 => by
            by_cases e : k' = k
            · subst e
              rw [← HX.out] at h4 h5
              simp only at h4 h5
              exact absurd (show a < i by omega) (hn h4)
            · exact HQ.out.2.2.2 a' k' h1 (by omega) h3 h4 h5
          have NXT := Aside0.mk nxt0
          clear nxt0
          by_cases h5 : x0 = 5
          · subst h5
            have a0 : (0 : Int) ≤ a := Int.natCast_nonneg _
            by_cases hai : a < i
            · have hr := HM5.out.rows a hai
              have hh := HM5.out.head a hai hai
              have hlr : ((D.getD a []).length) = code.length + 1 := HQ.out.2.1 a hai
              have hcl := hr.cell k (by omega)
              have hfr := hr.free k
              have a1 : (a : Int) < i := by omega
              have k1 : (k : Int) < (code.length : Int) + 1 := by omega
              have TH := Aside0.mk (fun (W : World) (h : W.cell? ⟨w.heap.size + 1 + 1, 0, none⟩ = some (.slice (some ⟨w.heap.size + 1, 0, none⟩) i i)) => there_c W (w.heap.size + 1 + 1) i i _ a (by omega) h true (by simp [a1, hai]))
              go_wp2_with (go_at_call 70; (with_reducible refine (TH.out _ j2).mono ?_); rintro e w' ⟨rfl, rfl⟩)
              go_roundw
              case measure =>
                simp [intOf]
                omega
              refine ⟨k + 1, D.set a ((D.getD a []).set k true), by go_num, by omega, ⟨HM5.out.row HQ.out.1 hai ((HM5.out.rows a hai).set k) ((Ch.refl (fun k => k = w.heap.size + 3 + a) _).set (.inl rfl) _), by rw [List.length_set]; exact HQ.out.1, fun b hb => ?_, HQ.out.2.2.1.set HQ.out.1 hai ?_, fun a' k' h1 h2 h3 h4 h6 => ?_⟩⟩
              · rw [getD_set2 _ _ _ _ (by rw [HQ.out.1]; exact hai)]
                split
                · rw [List.length_set]
                  exact hlr
                · exact HQ.out.2.1 b hb
              · exact .new hai (by omega) (by rw [← HX.out]) (by rw [← HX.out])
              · rw [getD_set2 _ _ _ _ (by rw [HQ.out.1]; exact hai)]
                by_cases e : k' = k
                · subst e
                  rw [← HX.out] at h6
                  simp only at h6
                  rw [if_pos (by omega), set_getD _ _ _ _ (by omega), if_pos rfl]
                · have := HQ.out.2.2.2 a' k' h1 (by omega) h3 h4 h6
                  split
                  · rename_i e2
                    subst e2
                    rw [set_getD _ _ _ _ (by omega), if_neg e]
                    exact this
                  · exact this
            · have a1 : ¬ (a : Int) < i := by omega
              have TH := Aside0.mk (fun (W : World) (h : W.cell? ⟨w.heap.size + 1 + 1, 0, none⟩ = some (.slice (some ⟨w.heap.size + 1, 0, none⟩) i i)) => there_c W (w.heap.size + 1 + 1) i i _ a (by omega) h false (by simp [hai]))
              go_wp2_with (go_at_call 70; (with_reducible refine (TH.out _ j2).mono ?_); rintro e w' ⟨rfl, rfl⟩)
              go_roundw
              case measure =>
                simp [intOf]
                omega
              exact ⟨k + 1, D, by go_num, by omega, ⟨HM5.out, HQ.out.1, HQ.out.2.1, HQ.out.2.2.1, NXT.out fun _ => hai⟩⟩
          · have e5 : (x0 == 5) = false := beq_false_of_ne h5
            go_wp2
            exact ⟨⟨k + 1, D, by go_num, by omega, ⟨HM5.out, HQ.out.1, HQ.out.2.1, HQ.out.2.2.1, NXT.out fun e => absurd e h5⟩⟩, by simp [intOf]; omega⟩
        · obtain rfl : k = code.length := by omega
          have HM3 := Aside0.mk HM.out
          have k3 : w4.cell? ⟨w.heap.size, 3, none⟩ = some (.slice A3 code.length c3) := (blk_cell HM.out.1.box 3).trans rfl
          clear HM hlt hk
          go_wp2
          clear k3
          go_loopw [8] (fun v wr => ∃ (g : Bool) (D : List (List Bool)), v = .bool g ∧ Aside0 ((MI w wr #[.slice A0 ts.length c0, .string la, .string gl, .slice A3 code.length c3] i (code.length + 1) i D ∧ D.length = i ∧ (∀ a, a < i → (D.getD a []).length = code.length + 1) ∧ Sdm code i (code.length + 1) D ∧ Cpm code i D code.length) ∧ (g = false → Clm code i (code.length + 1) D code.length))) (fun v wr => 2 * (i * (code.length + 1) - cntW (w.heap.size + 3) i wr) + boolN v)
          case atStart => exact ⟨true, D, rfl, ⟨HM3.out, fun e => by cases e⟩⟩
          case round =>
            clear HM3
            obtain ⟨g, D1, rfl, HM⟩ := hrel
            obtain ⟨w5, hw5⟩ : ∃ w5 : World, w5 = wr := ⟨_, rfl⟩
            subst hw5
            have k2 : w5.cell? ⟨w.heap.size + 1 + 1, 0, none⟩ = some (.slice (some ⟨w.heap.size + 1, 0, none⟩) i i) := (blk_cell HM.out.1.1.ptr 0).trans rfl
            cases g with
            | false =>
              go_wp2
              go_ret
              obtain ⟨⟨h1, h2, h3, h4, h5⟩, h6⟩ := HM.out
              have hall := all_may rfl h4 h5 (h6 (by simp)) h3
              rw [← HLE.out]
              exact ⟨rfl, h1.heads, fun a ha => by rw [← hall a ha]; exact h1.rows a ha, h1.below⟩
            | true =>
              have HCN := Aside0.mk (show 2 * (i * (code.length + 1) - cntW (w.heap.size + 3) i w5) + boolN (.bool true) = 2 * (i * (code.length + 1) - cntM D1) + 1 by rw [HM.out.1.1.cnt HM.out.1.2.1]; rfl)
              have k3 : w5.cell? ⟨w.heap.size, 3, none⟩ = some (.slice A3 code.length c3) := (blk_cell HM.out.1.1.box 3).trans rfl
              have HM4 := Aside0.mk HM.out.1
              clear HM
              go_wp2
              clear k2 k3
              go_loopw [59, 8] (fun x v wr => ∃ (k : Nat) (g : Bool) (D : List (List Bool)), x = .int .i64 k ∧ v = .bool g ∧ k ≤ code.length ∧ Aside0 ((MI w wr #[.slice A0 ts.length c0, .string la, .string gl, .slice A3 code.length c3] i (code.length + 1) i D ∧ D.length = i ∧ (∀ a, a < i → (D.getD a []).length = code.length + 1) ∧ Sdm code i (code.length + 1) D ∧ Cpm code i D code.length) ∧ (g = true → cntM D1 < cntM D) ∧ (g = false → cntM D = cntM D1 ∧ Clm code i (code.length + 1) D k))) (fun x _ _ => code.length - (intOf x).toNat)
              case atStart => exact ⟨0, false, D1, rfl, rfl, Nat.zero_le _, ⟨HM4.out, (fun e => by cases e), fun _ => ⟨rfl, fun j a b h => absurd h (Nat.not_lt_zero _)⟩⟩⟩
              case round =>
                clear HM4
                obtain ⟨k, g, D, rfl, rfl, hk, HM⟩ := hrel
                obtain ⟨w6, hw6⟩ : ∃ w6 : World, w6 = wr := ⟨_, rfl⟩
                subst hw6
                by_cases hlt : (k : Int) < code.length
                · have k0 : (0 : Int) ≤ k := Int.natCast_nonneg _
                  obtain ⟨ad, eA, hy⟩ := at_box HC.out k (by omega)
                  subst eA
                  obtain ⟨y0, y1, y2, y3, y4⟩ := hy w6 HM.out.1.1.below
                  have hwf := HWA.out.rd k (by omega)
                  obtain ⟨x, hx⟩ : ∃ x, x = rd_T46 code k := ⟨_, rfl⟩
                  rw [← hx] at y0 y1 y2 y3 y4 hwf
                  have HX := Aside0.mk hx
                  obtain ⟨x0, x1, x2, x3, x4⟩ := x
                  simp only at y0 y1 y2 y3 y4 hwf
                  obtain ⟨a, rfl⟩ := Int.eq_ofNat_of_zero_le hwf.2.1.1
                  obtain ⟨b, rfl⟩ := Int.eq_ofNat_of_zero_le hwf.2.2.1.1
                  have ha255 := hwf.2.1.2
                  have hb255 := hwf.2.2.1.2
                  clear hx hy hwf
                  go_upto_region 20 with (fail)
                  obtain ⟨w7, hw7⟩ : ∃ w7 : World, w7 = w6.alloc (.cells #[.int .u8 x0, .int .u8 a, .int .u8 b, .int .u8 x3, .int .i64 x4] 46) := ⟨_, rfl⟩
                  have HM7 := Aside0.mk (HM.out.1.1.keep (show Below w6.heap.size w6 w7 by rw [hw7]; exact below_alloc (Below.refl _ _) _))
                  have hi7 : w7.heap[w6.heap.size]? = some (.cells #[.int .u8 x0, .int .u8 a, .int .u8 b, .int .u8 x3, .int .i64 x4] 46 (0, 0)) := by rw [hw7]; exact ST0.row_new _ _ _ rfl
                  have hfar := HM.out.1.1.below.size
                  rw [← hw7]
                  clear hw7 y0 y1 y2 y3 y4
                  have HI7 := Aside0.mk hi7
                  have j0 : w7.cell? ⟨w6.heap.size, 0, none⟩ = some (.int .u8 x0) := (blk_cell hi7 0).trans rfl
                  have j1 : w7.cell? ⟨w6.heap.size, 1, none⟩ = some (.int .u8 a) := (blk_cell hi7 1).trans rfl
                  have j3 : w7.cell? ⟨w6.heap.size, 2, none⟩ = some (.int .u8 b) := (blk_cell hi7 2).trans rfl
                  have j2 : w7.cell? ⟨w.heap.size + 1 + 1, 0, none⟩ = some (.slice (some ⟨w.heap.size + 1, 0, none⟩) i i) := (blk_cell HM7.out.ptr 0).trans rfl
                  obtain ⟨⟨q1, q2, q3, q4, q5⟩, q6, q7⟩ := HM.out
                  have hrl : ∀ q, q < i → w.heap.size + 3 + q < w6.heap.size := fun q hq => blk_lt (q1.rows q hq)
                  have HQ := Aside0.mk (And.intro q2 (And.intro q3 (And.intro q4 q5)))
                  have HG := Aside0.mk (And.intro q6 q7)
                  clear q1 q2 q3 q4 q5 q6 q7 hi7 HM
                  have nxt0 : ¬ (x0 = 7 ∧ a < i ∧ b < i) → g = false → Clm code i (code.length + 1) D (k + 1) := fun hn hg j a' b' h1 h2 h3 h4 h5 h6 h7 => by
                    by_cases e : j = k
                    · subst e
                      rw [← HX.out] at h3 h4 h5
                      simp only at h3 h4 h5
                      exact absurd ⟨h3, by omega, by omega⟩ hn
                    · exact (HG.out.2 hg).2 j a' b' (by omega) h2 h3 h4 h5 h6 h7
                  have NXT := Aside0.mk nxt0
                  clear nxt0
                  have TH := Aside0.mk (fun (W : World) (q : Nat) (hq : q ≤ 255) (h : W.cell? ⟨w.heap.size + 1 + 1, 0, none⟩ = some (.slice (some ⟨w.heap.size + 1, 0, none⟩) i i)) => there_c W (w.heap.size + 1 + 1) i i _ q hq h _ rfl)
                  have a0 : (0 : Int) ≤ a := Int.natCast_nonneg _
                  have b0 : (0 : Int) ≤ b := Int.natCast_nonneg _
                  by_cases h7 : x0 = 7
                  · subst h7
                    by_cases hai : a < i
                    · have ta : decide ((a : Int) < (i : Int)) = true := decide_eq_true (by omega)
                      have TA := Aside0.mk (fun (W : World) (h : W.cell? ⟨w.heap.size + 1 + 1, 0, none⟩ = some (.slice (some ⟨w.heap.size + 1, 0, none⟩) i i)) => (by rw [← ta]; exact TH.out W a (by omega) h : Calls Tryz.prog 70 #[.int .u8 a, .pointer (some ⟨w.heap.size + 1 + 1, 0, none⟩)] W fun e w' => e = .returned (.bool true) ∧ w' = W))
                      by_cases hbi : b < i
                      · have tb : decide ((b : Int) < (i : Int)) = true := decide_eq_true (by omega)
                        have TB := Aside0.mk (fun (W : World) (h : W.cell? ⟨w.heap.size + 1 + 1, 0, none⟩ = some (.slice (some ⟨w.heap.size + 1, 0, none⟩) i i)) => (by rw [← tb]; exact TH.out W b (by omega) h : Calls Tryz.prog 70 #[.int .u8 b, .pointer (some ⟨w.heap.size + 1 + 1, 0, none⟩)] W fun e w' => e = .returned (.bool true) ∧ w' = W))
                        clear ta tb TH
                        have a1 : (a : Int) < i := by omega
                        have b1 : (b : Int) < i := by omega
                        have ja := HM7.out.head a hai hai
                        have jb := HM7.out.head b hbi hbi
                        have la := HQ.out.2.1 a hai
                        have lb := HQ.out.2.1 b hbi
                        obtain ⟨mb, hmb⟩ : ∃ mb, mb = mor (D.getD a []) (D.getD b []) (code.length + 1) := ⟨_, rfl⟩
                        have MG := Aside0.mk (fun (W : World) (hW : Below w7.heap.size w7 W) => (by
                          have := merge_c W (code.length + 1) (w.heap.size + 3 + a) (w.heap.size + 3 + b) (D.getD a []) (D.getD b []) ((hW.block _ (blk_lt (HM7.out.rows a hai))).trans (HM7.out.rows a hai)) ((hW.block _ (blk_lt (HM7.out.rows b hbi))).trans (HM7.out.rows b hbi)) la lb (fun (e : w.heap.size + 3 + a = w.heap.size + 3 + b) => by rw [show a = b by omega]) (by omega)
                          rw [← hmb] at this
                          exact this : Calls Tryz.prog 71 #[.slice (some ⟨w.heap.size + 3 + a, 0, none⟩) (code.length + 1) (code.length + 1), .slice (some ⟨w.heap.size + 3 + b, 0, none⟩) (code.length + 1) (code.length + 1)] W fun e w' => e = .returned (.bool mb) ∧ Row w' (w.heap.size + 3 + a) (mg (code.length + 1) (D.getD a []) (D.getD b []) (code.length + 1)) ∧ Ch (fun k => k = w.heap.size + 3 + a) W w'))
                        have HMB := Aside0.mk hmb
                        have HLA := Aside0.mk la
                        have HLB := Aside0.mk lb
                        clear la lb hmb
                        have hra := hrl a hai
                        have hg0 := HM7.out.below.size
                        have HRL := Aside0.mk hrl
                        clear hrl
                        cases mb <;> (
                          go_upto_region 21 with (first | (go_at_call 70; (with_reducible refine (TA.out _ j2).mono ?_); rintro e w' ⟨rfl, hw⟩; have hw := hw.symm; subst hw) | (go_at_call 70; (with_reducible refine (TB.out _ j2).mono ?_); rintro e w' ⟨rfl, hw⟩; have hw := hw.symm; subst hw))
                          rw [show ({ dst := some 90, op := .move (.tmp 8), type := 4, pos := "leak.go:33", after := #[{ on := 11, ground := .guard }], guard := some (11, false) } : Oper) = mvO from rfl]
                          go_region_held3 (fun W => W.cell? ⟨w.heap.size + 1 + 1, 0, none⟩ = some (.slice (some ⟨w.heap.size + 1, 0, none⟩) i i) ∧ W.cell? ⟨w6.heap.size, 1, none⟩ = some (.int .u8 a) ∧ W.cell? ⟨w6.heap.size, 2, none⟩ = some (.int .u8 b) ∧ W.cell? ⟨w.heap.size + 1, a, none⟩ = some (.slice (some ⟨w.heap.size + 3 + a, 0, none⟩) (code.length + 1) (code.length + 1)) ∧ W.cell? ⟨w.heap.size + 1, b, none⟩ = some (.slice (some ⟨w.heap.size + 3 + b, 0, none⟩) (code.length + 1) (code.length + 1)))
                            (first
                              | exact ⟨j2, j1, j3, ja, jb⟩
                              | go_keep)
                            (first
                              | (go_at_call 71; (with_reducible refine (MG.out _ ?side1).mono ?_); (case side1 => first | exact Below.refl _ _ | exact below_drew1 (Below.refl _ _)); rintro e w8 ⟨rfl, hr, hc⟩; have j2 := (World.cell?_of_block (a := ⟨w.heap.size + 1 + 1, 0, none⟩) (hc.block (w.heap.size + 1 + 1) (blk_lt HM7.out.ptr) (by omega))).trans j2; have j1 := (World.cell?_of_block (a := ⟨w6.heap.size, 1, none⟩) (hc.block w6.heap.size (blk_lt HI7.out) (by omega))).trans j1; have j3 := (World.cell?_of_block (a := ⟨w6.heap.size, 2, none⟩) (hc.block w6.heap.size (blk_lt HI7.out) (by omega))).trans j3; have ja := (World.cell?_of_block (a := ⟨w.heap.size + 1, a, none⟩) (hc.block (w.heap.size + 1) (blk_lt HM7.out.heads) (by omega))).trans ja; have jb := (World.cell?_of_block (a := ⟨w.heap.size + 1, b, none⟩) (hc.block (w.heap.size + 1) (blk_lt HM7.out.heads) (by omega))).trans jb; have HRW := Aside0.mk hr; have HCW := Aside0.mk hc; clear hr hc))
                          go_wp2
                          have hs2 := HQ.out.2.2.1.merge HQ.out.1 hai hbi (show k < code.length by omega) (by rw [← HX.out]) (by rw [← HX.out]) (by rw [← HX.out])
                          have hc2 := HQ.out.2.2.2.merge (r := D.getD b []) (M := code.length + 1) HQ.out.1 hai (Nat.le_succ _)
                          have hm2 := HM7.out.row HQ.out.1 hai HRW.out (by first | exact HCW.out | exact (Ch.of (below_drew1 (Below.refl _ _))).trans HCW.out)
                          have hl2 : (D.set a (mg (code.length + 1) (D.getD a []) (D.getD b []) (code.length + 1))).length = i := by rw [List.length_set]; exact HQ.out.1
                          have hr2 : ∀ q, q < i → ((D.set a (mg (code.length + 1) (D.getD a []) (D.getD b []) (code.length + 1))).getD q []).length = code.length + 1 := fun q hq => by
                            rw [getD_set2 _ _ _ _ (by rw [HQ.out.1]; exact hai)]
                            split
                            · exact mg_len ..
                            · exact HQ.out.2.1 q hq
                          have hcn := cntM_set D a (mg (code.length + 1) (D.getD a []) (D.getD b []) (code.length + 1)) (by rw [HQ.out.1]; exact hai)
                          have hmc := mg_cnt (b := D.getD b []) HLA.out
                          refine ⟨⟨k + 1, _, _, by go_num, rfl, by omega, ⟨⟨hm2, hl2, hr2, hs2, hc2⟩, ?_, ?_⟩⟩, by simp [intOf]; omega⟩
                          · first
                              | (intro _; have := hmc.2 HMB.out.symm; have := HG.out; cases g with
                                | true => have := HG.out.1 rfl; omega
                                | false => have := (HG.out.2 rfl).1; omega)
                              | (intro hg; have h0 := mg_no HLA.out HMB.out.symm; have h1 := HG.out.1 hg; rw [h0.1] at hcn ⊢; omega)
                          · first
                              | (intro hg; cases hg; done)
                              | (intro hg; have h0 := mg_no HLA.out HMB.out.symm; have h1 := HG.out.2 hg; rw [h0.1] at hcn ⊢
                                 have hD : ∀ q, (D.set a (D.getD a [])).getD q [] = D.getD q [] := fun q => by
                                   rw [getD_set2 _ _ _ _ (by rw [HQ.out.1]; exact hai)]
                                   split
                                   · rename_i e
                                     rw [e]
                                   · rfl
                                 refine ⟨by omega, fun j a' b' h2 h3 h4 h5 h6 h7 h8 q hq => ?_⟩
                                 rw [hD, hD]
                                 by_cases e : j = k
                                 · subst e
                                   rw [← HX.out] at h5 h6
                                   simp only at h5 h6
                                   obtain rfl : a = a' := by omega
                                   obtain rfl : b = b' := by omega
                                   exact h0.2 q hq
                                 · exact h1.2 j a' b' (by omega) h3 h4 h5 h6 h7 h8 q hq))
                      · have tb : decide ((b : Int) < (i : Int)) = false := decide_eq_false (by omega)
                        have TB := Aside0.mk (fun (W : World) (h : W.cell? ⟨w.heap.size + 1 + 1, 0, none⟩ = some (.slice (some ⟨w.heap.size + 1, 0, none⟩) i i)) => (by rw [← tb]; exact TH.out W b (by omega) h : Calls Tryz.prog 70 #[.int .u8 b, .pointer (some ⟨w.heap.size + 1 + 1, 0, none⟩)] W fun e w' => e = .returned (.bool false) ∧ w' = W))
                        clear ta tb TH
                        go_wp2_with (first | (go_at_call 70; (with_reducible refine (TA.out _ j2).mono ?_); rintro e w' ⟨rfl, rfl⟩) | (go_at_call 70; (with_reducible refine (TB.out _ j2).mono ?_); rintro e w' ⟨rfl, rfl⟩))
                        go_roundw
                        case measure =>
                          simp [intOf]
                          omega
                        exact ⟨k + 1, g, D, by go_num, rfl, by omega, ⟨⟨HM7.out, HQ.out⟩, HG.out.1, fun hg => ⟨(HG.out.2 hg).1, NXT.out (fun h => hbi h.2.2) hg⟩⟩⟩
                    · have ta : decide ((a : Int) < (i : Int)) = false := decide_eq_false (by omega)
                      have TA := Aside0.mk (fun (W : World) (h : W.cell? ⟨w.heap.size + 1 + 1, 0, none⟩ = some (.slice (some ⟨w.heap.size + 1, 0, none⟩) i i)) => (by rw [← ta]; exact TH.out W a (by omega) h : Calls Tryz.prog 70 #[.int .u8 a, .pointer (some ⟨w.heap.size + 1 + 1, 0, none⟩)] W fun e w' => e = .returned (.bool false) ∧ w' = W))
                      clear ta TH
                      go_wp2_with (go_at_call 70; (with_reducible refine (TA.out _ j2).mono ?_); rintro e w' ⟨rfl, rfl⟩)
                      go_roundw
                      case measure =>
                        simp [intOf]
                        omega
                      exact ⟨k + 1, g, D, by go_num, rfl, by omega, ⟨⟨HM7.out, HQ.out⟩, HG.out.1, fun hg => ⟨(HG.out.2 hg).1, NXT.out (fun h => hai h.2.1) hg⟩⟩⟩
                  · have e7 : (x0 == 7) = false := beq_false_of_ne h7
                    go_wp2
                    exact ⟨⟨k + 1, g, D, by go_num, rfl, by omega, ⟨⟨HM7.out, HQ.out⟩, HG.out.1, fun hg => ⟨(HG.out.2 hg).1, NXT.out (fun h => h7 h.1) hg⟩⟩⟩, by simp [intOf]; omega⟩
                · obtain rfl : k = code.length := by omega
                  have HMQ := Aside0.mk HM.out
                  clear HM
                  go_wp2
                  obtain ⟨h1, h2, h3⟩ := HMQ.out
                  refine ⟨⟨g, D, rfl, ⟨h1, fun e => (h3 e).2⟩⟩, ?_⟩
                  rw [HCN.out, h1.1.cnt h1.2.1]
                  have hle := cntM_le D i (code.length + 1) h1.2.1 h1.2.2.1
                  cases g with
                  | true =>
                    have := h2 rfl
                    show 2 * _ + 1 < 2 * _ + 1
                    omega
                  | false =>
                    have := (h3 rfl).1
                    show 2 * _ + 0 < 2 * _ + 1
                    omega
end Go.Proofs.YtocechpmgfhenaaGreatDoor.LK

namespace Go.Proofs.YtocechpmgfhenaaGreatDoor.LK
open Go.RowKit Go.Proofs.YtocechpmgfhenaaGreatDoorW.PrintWords Go.Proofs.YtocechpmgfhenaaGreatDoor.F Go.Proofs.YtocechpmgfhenaaGreatDoor.PL Go.Proofs.YtocechpmgfhenaaGreatDoor.NX Go.Proofs.YtocechpmgfhenaaGreatDoor.FP Go.Proofs.YtocechpmgfhenaaGreatDoor.FSF Go.Proofs.YtocechpmgfhenaaGreatDoor.FG Go.Proofs.YtocechpmgfhenaaGreatDoor.CHG
set_option linter.unusedVariables false
set_option linter.unusedSimpArgs false
def LeakP (code : List S46) (L n k : Nat) : Prop := ∃ j b : Nat, j < n ∧ j < code.length ∧ ((rd_T46 code j).f0 = 11 ∨ (rd_T46 code j).f0 = 13) ∧ (rd_T46 code j).f2 = b ∧ b < L ∧ MayP code L b k
open Classical in
noncomputable def leakB (code : List S46) (L k : Nat) : Bool := decide (LeakP code L code.length k)
theorem leakB_iff {code : List S46} {L k : Nat} : leakB code L k = true ↔ LeakP code L code.length k := by
  unfold leakB
  simp
set_option maxHeartbeats 8000000 in
set_option maxRecDepth 100000 in
theorem Leaks_c (p : Pg) (w : World) (h : p.On w) (hL : p.la.size ≤ 1000) (hsm : p.code.length ≤ 1000000) (k : Nat) (hk : k < p.code.length) : Calls Tryz.prog 23 #[p.v, .int .i64 k] w fun e w' => e = .returned (.bool (leakB p.code p.la.size k)) ∧ Below w.heap.size w w' := by
  have hC := h.hC
  have HWF := h.hw
  have MAY := Aside0.mk (fun W (hW : Below w.heap.size w W) => May_c p W (h.below hW) hL hsm)
  clear h
  obtain ⟨A0, c0, ts, la, gl, A3, c3, code⟩ := p
  simp only at hC hL hsm hk
  change WfC code at HWF
  change Aside0 (∀ W, Below w.heap.size w W → Calls Tryz.prog 41 #[.agg #[.slice A0 ts.length c0, .string la, .string gl, .slice A3 code.length c3]] W fun e w' => e = .returned (.slice (some ⟨W.heap.size + 1, 0, none⟩) la.size la.size) ∧ w'.heap[W.heap.size + 1]? = some (.cells (hdM (W.heap.size + 3) la.size (code.length + 1) la.size).toArray 73 (0, 0)) ∧ (∀ a, a < la.size → Row w' (W.heap.size + 3 + a) (mayR code la.size (code.length + 1) a)) ∧ Below W.heap.size W w') at MAY
  show Calls _ _ #[.agg #[.slice A0 ts.length c0, .string la, .string gl, .slice A3 code.length c3], .int .i64 k] _ fun e w' => e = .returned (.bool (leakB code la.size k)) ∧ _
  obtain ⟨L, hLe⟩ : ∃ L, L = la.size := ⟨_, rfl⟩
  rw [← hLe] at hL MAY ⊢
  have HC := Aside0.mk hC
  have HWA := Aside0.mk HWF
  have k0 : ¬ (k : Int) < 0 := by omega
  have k00 : (0 : Int) ≤ k := by omega
  have k1 : ¬ (k : Int) ≥ code.length := by omega
  have k2 : (k : Int) < (code.length : Int) + 1 := by omega
  clear hC HWF hLe
  go_enter Tryz.func23, Tryz.ntmps23
  go_wp2_with (go_at_call 41; (with_reducible refine (MAY.out _ (below_alloc (Below.refl _ _) _)).mono ?_); rintro e w1 ⟨rfl, h1, h2, hb⟩; have HX := Aside0.mk ((hb.block w.heap.size (by simp)).trans (heap_alloc_new w _)); have kx := fun j => cell_of_row w1 w.heap.size j _ _ _ HX.out; have HB := Aside0.mk (below_step (below_alloc (Below.refl _ _) _) hb); have HD := Aside0.mk h1; have HR := Aside0.mk h2; clear hb h1 h2)
  obtain ⟨b0, hb0⟩ : ∃ b0, b0 = (w.alloc (.cells #[.slice A0 ts.length c0, .string la, .string gl, .slice A3 code.length c3] 25)).heap.size := ⟨_, rfl⟩
  rw [← hb0] at HD HR
  have hb1 : w.heap.size + 1 = b0 := by rw [hb0]; simp
  rw [hb1]
  clear hb0 hb1 kx
  go_loopw [22] (fun x wr => ∃ i : Nat, x = .int .i64 i ∧ i ≤ code.length ∧ Aside0 (¬ LeakP code L i k ∧ Below w1.heap.size w1 wr)) (fun x _ => code.length - (intOf x).toNat)
  case atStart => exact ⟨0, rfl, Nat.zero_le _, ⟨fun ⟨j, b, h, _⟩ => absurd h (Nat.not_lt_zero _), Below.refl _ _⟩⟩
  case round =>
    obtain ⟨i, rfl, hi, HM⟩ := hrel
    obtain ⟨w4, hw4⟩ : ∃ w4 : World, w4 = wr := ⟨_, rfl⟩
    subst hw4
    by_cases hlt : (i : Int) < code.length
    · have i0 : (0 : Int) ≤ i := Int.natCast_nonneg _
      obtain ⟨ad, eA, hy⟩ := at_box HC.out i (by omega)
      subst eA
      obtain ⟨y0, y1, y2, y3, y4⟩ := hy w4 (below_step HB.out HM.out.2)
      have hwf := HWA.out.rd i (by omega)
      obtain ⟨x, hx⟩ : ∃ x, x = rd_T46 code i := ⟨_, rfl⟩
      rw [← hx] at y0 y1 y2 y3 y4 hwf
      have HX1 := Aside0.mk hx
      obtain ⟨x0, x1, x2, x3, x4⟩ := x
      simp only at y0 y1 y2 y3 y4 hwf
      obtain ⟨b, rfl⟩ := Int.eq_ofNat_of_zero_le hwf.2.2.1.1
      have hb255 := hwf.2.2.1.2
      clear hx hy hwf
      go_upto_region 7 with (fail)
      obtain ⟨w5, hw5⟩ : ∃ w5 : World, w5 = w4.alloc (.cells #[.int .u8 x0, .int .u8 x1, .int .u8 b, .int .u8 x3, .int .i64 x4] 46) := ⟨_, rfl⟩
      have HM5 := Aside0.mk (below_step HM.out.2 (show Below w4.heap.size w4 w5 by rw [hw5]; exact below_alloc (Below.refl _ _) _))
      have hi5 : w5.heap[w4.heap.size]? = some (.cells #[.int .u8 x0, .int .u8 x1, .int .u8 b, .int .u8 x3, .int .i64 x4] 46 (0, 0)) := by rw [hw5]; exact ST0.row_new _ _ _ rfl
      rw [← hw5]
      clear hw5 y0 y1 y2 y3 y4
      have j0 : w5.cell? ⟨w4.heap.size, 0, none⟩ = some (.int .u8 x0) := (blk_cell hi5 0).trans rfl
      have j1 : w5.cell? ⟨w4.heap.size, 2, none⟩ = some (.int .u8 b) := (blk_cell hi5 2).trans rfl
      have ew : wrap64 (b : Int) = b := by unfold wrap64; omega
      have bb0 : (0 : Int) ≤ b := Int.natCast_nonneg _
      have nxt0 : ¬ ((x0 = 11 ∨ x0 = 13) ∧ b < L ∧ MayP code L b k) → ¬ LeakP code L (i + 1) k := fun hn ⟨j, b', h1, h2, h3, h4, h5, h6⟩ => by
        by_cases e : j = i
        · subst e
          rw [← HX1.out] at h3 h4
          simp only at h3 h4
          obtain rfl : b = b' := by omega
          exact hn ⟨h3, h5, h6⟩
        · exact HM.out.1 ⟨j, b', by omega, h2, h3, h4, h5, h6⟩
      have NXT := Aside0.mk nxt0
      clear nxt0 hi5
      by_cases h13 : x0 = 11 ∨ x0 = 13
      · by_cases hbl : b < L
        · have b1 : (b : Int) < L := by omega
          have hh : w5.cell? ⟨b0 + 1, b, none⟩ = some (.slice (some ⟨b0 + 3 + b, 0, none⟩) (code.length + 1) (code.length + 1)) := (World.cell?_of_block (a := ⟨b0 + 1, b, none⟩) (HM5.out.block (b0 + 1) (blk_lt HD.out))).trans ((blk_cell HD.out b).trans ((hdM_get _ _ _ _ _ hbl).trans (by rw [if_pos hbl])))
          have hr : Row w5 (b0 + 3 + b) (mayR code L (code.length + 1) b) := (HM5.out.block _ (blk_lt (HR.out b hbl))).trans (HR.out b hbl)
          have hcl := hr.cell k (by rw [mayR_len]; omega)
          cases hv : (mayR code L (code.length + 1) b).getD k false with
          | true =>
            rw [hv] at hcl
            have HL := Aside0.mk (leakB_iff.2 ⟨i, b, by omega, by omega, by rw [← HX1.out]; exact h13, by rw [← HX1.out], hbl, (mayR_get (by omega)).1 hv⟩ : leakB code L k = true)
            clear hv hr
            rcases h13 with rfl | rfl <;>
            · go_wp2
              go_ret
              exact ⟨by rw [HL.out]; rfl, below_step HB.out HM5.out⟩
          | false =>
            rw [hv] at hcl
            have HN := Aside0.mk (NXT.out fun h => by have := (mayR_get (M := code.length + 1) (by omega)).2 h.2.2; rw [hv] at this; cases this)
            clear hv hr
            rcases h13 with rfl | rfl <;>
            · go_wp2
              exact ⟨⟨i + 1, by go_num, by omega, ⟨HN.out, HM5.out⟩⟩, by simp [intOf]; omega⟩
        · have b1 : ¬ (b : Int) < L := by omega
          have HN := Aside0.mk (NXT.out fun h => hbl h.2.1)
          rcases h13 with rfl | rfl <;>
          · go_wp2
            exact ⟨⟨i + 1, by go_num, by omega, ⟨HN.out, HM5.out⟩⟩, by simp [intOf]; omega⟩
      · have e11 : (x0 == 11) = false := beq_false_of_ne fun e => h13 (.inl e)
        have e13 : (x0 == 13) = false := beq_false_of_ne fun e => h13 (.inr e)
        have HN := Aside0.mk (NXT.out fun h => h13 h.1)
        clear h13
        go_wp2
        exact ⟨⟨i + 1, by go_num, by omega, ⟨HN.out, HM5.out⟩⟩, by simp [intOf]; omega⟩
    · obtain rfl : i = code.length := by omega
      have HL := Aside0.mk (eq_false_of_ne_true fun h => HM.out.1 (leakB_iff.1 h) : leakB code L k = false)
      go_wp2
      go_ret
      exact ⟨by rw [HL.out]; rfl, below_step HB.out HM.out.2⟩
noncomputable def loopB (code : List S46) (k : Nat) : Bool := (rch (nxt code) (code.length + 1) k).getD k false
theorem own_cellB {w : World} {B : Nat} {v : Value} {l : List Bool} (h : w.ownsRow B 4 1 v l.length (encs Value.bool l)) (k : Nat) (hk : k < l.length) : ∃ ad c, v = .slice (some ad) l.length c ∧ w.cell? (ad.add k) = some (.bool (l.getD k false)) := by
  rcases h.2 with ⟨_, e⟩ | ⟨g, cap, cur, e, _⟩
  · omega
  · exact ⟨_, _, e, h.cells (g := g) (by rw [e]; rfl) k _ (by simp [encs, List.getElem?_eq_getElem hk, List.getD_eq_getElem?_getD])⟩
set_option maxHeartbeats 4000000 in
set_option maxRecDepth 100000 in
theorem Loops_c (p : Pg) (w : World) (h : p.On w) (hI : InR (nxt p.code) (p.code.length + 1)) (hsm : p.code.length ≤ 1000000) (k : Nat) (hk : k < p.code.length) : Calls Tryz.prog 24 #[p.v, .int .i64 k] w fun e w' => e = .returned (.bool (loopB p.code k)) ∧ Below w.heap.size w w' := by
  have RE := Aside0.mk (fun W (hW : Below w.heap.size w W) => Reach_in W p.A0 p.c0 p.ts p.la p.gl p.A3 p.c3 p.code (h.below hW).hC k (by omega) (by omega) hI hsm)
  clear h
  obtain ⟨A0, c0, ts, la, gl, A3, c3, code⟩ := p
  simp only at RE hk hsm
  show Calls _ _ #[.agg #[.slice A0 ts.length c0, .string la, .string gl, .slice A3 code.length c3], .int .i64 k] _ fun e w' => e = .returned (.bool (loopB code k)) ∧ _
  have hl := rch_length (nxt code) (code.length + 1) k
  obtain ⟨l, hle⟩ : ∃ l, l = rch (nxt code) (code.length + 1) k := ⟨_, rfl⟩
  unfold loopB
  rw [← hle] at RE hl ⊢
  clear hle
  obtain ⟨u, hu⟩ : ∃ u, u = l.getD k false := ⟨_, rfl⟩
  rw [← hu]
  have HU := Aside0.mk hu
  clear hu
  have k0 : (k : Int) ≥ 0 := by omega
  have k1 : (k : Int) < (code.length : Int) + 1 := by omega
  go_enter Tryz.func24, Tryz.ntmps24
  go_wp2_with (go_at_call 42; (with_reducible refine (RE.out _ (below_alloc (Below.refl _ _) _)).mono ?_); rintro e w1 ⟨v, rfl, ho, hb⟩; obtain ⟨ad, c, hv, hc⟩ := own_cellB ho k (by omega); subst hv; rw [← HU.out] at hc; rw [hl]; have HB := Aside0.mk (below_step (below_alloc (Below.refl _ _) _) hb); clear hb ho)
  go_ret
  exact ⟨rfl, HB.out⟩
end Go.Proofs.YtocechpmgfhenaaGreatDoor.LK

/- Texts of this claim, pruned to what it needs and laid together by prune.py. -/
import Derived.Test.YtkmkfiidlbhcgaaDoorME27
import Derived.ScopeJumps
import Derived.WalkMore
import Derived.Test.YtkmkfiidlbhcgaaDoorME1
import Derived.Test.YtkmkfiidlbhcgaaDoorME24
namespace Go.Proofs.YtkmkfiidlbhcgaaDoor.XD
open Go.RowKit Go.Proofs.YtkmkfiidlbhcgaaDoorW.PrintWords Go.Proofs.YtkmkfiidlbhcgaaDoorW.PrintLast Go.Proofs.YtkmkfiidlbhcgaaDoorW.PrintMore
attribute [local go_sem] max2_int min2_int max_two min_two max_three min_three max_four min_four
set_option linter.unusedVariables false
set_option linter.unusedSimpArgs false
open Go.Proofs.YtkmkfiidlbhcgaaDoor.F
open Go.Proofs.YtkmkfiidlbhcgaaDoor.FG
open Go.Proofs.YtkmkfiidlbhcgaaDoor.V
theorem scope_ghost {P : Program} {a : Act} {w : World} {Q : Exit → Act → World → Prop} {c rest : Code} (l : Nat) (J : Nat → Act → World → Prop) (hf : findLabel c l = some (Code.seq .skip rest))
    (first : (∀ n a w, J n a w → rest.wp P (Exit.jump l (fun a' w' => ∃ n', J n' a' w') Q) a w) → c.wp P (Exit.jump l (fun a' w' => ∃ n', J n' a' w') Q) a w)
    (pass : ∀ n a w, J n a w → rest.wp P (Exit.jump l (fun a' w' => ∃ n', n' < n ∧ J n' a' w') Q) a w) : (Code.scope c).wp P Q a w := by
  refine wp_scope_jumps l (fun a w => ∃ n, J n a w) (fun a w => leastOf fun n => J n a w) hf (first fun n a w h => wp_mono (pass n a w h) fun e a w q => ?_) fun a w h => ?_
  · cases e with
    | goto l' => exact ⟨q.1, q.2.elim fun n hn => ⟨n, hn.2⟩⟩
    | _ => exact q
  · have hs := leastOf_spec h; refine wp_seq (wp_skip ?_)
    refine wp_mono (pass _ a w hs.1) fun e a' w' q => ?_
    cases e with
    | goto l' =>
      obtain ⟨q1, n', hn, hJ⟩ := q; exact ⟨q1, ⟨n', hJ⟩, Nat.lt_of_le_of_lt ((leastOf_spec (p := fun n => J n a' w') ⟨n', hJ⟩).2 n' hJ) hn⟩
    | _ => exact q
mutual
noncomputable def live_In.l0 : Nat → List Int → Int → List ByteArray → ByteArray → ByteArray → List (S36) → Option (List Int)
  | 0, _, _, _, _, _, _ => none
  | k + 1, x3, x4, x102000, x102001, x102002, x102003 => if x4 ≥ 0 then ((flow_Next.f x102000 x102001 x102002 x102003 x4).bind fun t105 => (live_In.l1 k x3 x4 0 t105 (t105.length : Int) 0 x102000 x102001 x102002 x102003)) else (some x3)
noncomputable def live_In.l1 : Nat → List Int → Int → Int → List Int → Int → Int → List ByteArray → ByteArray → ByteArray → List (S36) → Option (List Int)
  | 0, _, _, _, _, _, _, _, _, _, _ => none
  | k + 1, x3, x4, x5, x23, x24, x25, x102000, x102001, x102002, x102003 => if x25 < x24 then (if 0 ≤ x25 then (if x25 < (x23.length : Int) then (if (rd x23 x25) ≥ 0 then (if (rd x23 x25) < (x3.length : Int) then (if 0 ≤ (rd x23 x25) then (live_In.l1 k x3 x4 (Go.bits .or .u8 x5 (rd x3 (rd x23 x25))) x23 x24 (wrap64 (x25 + 1)) x102000 x102001 x102002 x102003) else (none)) else (live_In.l1 k x3 x4 x5 x23 x24 (wrap64 (x25 + 1)) x102000 x102001 x102002 x102003)) else (live_In.l1 k x3 x4 x5 x23 x24 (wrap64 (x25 + 1)) x102000 x102001 x102002 x102003)) else (none)) else (none)) else (if 0 ≤ x4 then (if x4 < (x102003.length : Int) then ((live_Sets.f k ((rd_T36 x102003 x4).f0) ((rd_T36 x102003 x4).f1) ((rd_T36 x102003 x4).f2) ((rd_T36 x102003 x4).f3) ((rd_T36 x102003 x4).f4)).bind fun t111 => ((live_Uses.f k ((rd_T36 x102003 x4).f0) ((rd_T36 x102003 x4).f1) ((rd_T36 x102003 x4).f2) ((rd_T36 x102003 x4).f3) ((rd_T36 x102003 x4).f4)).bind fun t113 => (if x4 < (x3.length : Int) then (if (Go.bits .or .u8 (Go.bits .andNot .u8 x5 t111) t113) = (rd x3 x4) then (live_In.l0 k x3 (wrap64 (x4 - 1)) x102000 x102001 x102002 x102003) else (live_In.l0 k (x3.set (x4 : Int).toNat (Go.bits .or .u8 (Go.bits .andNot .u8 x5 t111) t113)) (wrap64 ((x102003.length : Int) - 1)) x102000 x102001 x102002 x102003)) else (none)))) else (none)) else (none))
end
noncomputable def live_In.f (k : Nat) (l0_0 : List ByteArray) (a0_1 : ByteArray) (a0_2 : ByteArray) (l0_3 : List (S36)) : Option (List Int) := if 0 ≤ (wrap64 ((l0_3.length : Int) + 1)) then (if (wrap64 ((l0_3.length : Int) + 1) : Int).toNat ≤ 281474976710656 then (live_In.l0 k (List.replicate (wrap64 ((l0_3.length : Int) + 1) : Int).toNat 0) (wrap64 ((l0_3.length : Int) - 1)) l0_0 a0_1 a0_2 l0_3) else (none)) else (none)
noncomputable def live_In.T12 : Bool × List (List Nat × List Nat) := (true, [([], []), ([], []), ([1], [1]), ([], []), ([2, 3], [2, 3]), ([4], [4]), ([5], [5]), ([0, 6], [0, 6]), ([], []), ([8], [8]), ([], []), ([9, 10], [9, 10]), ([11], [11]), ([12, 6], [12]), ([7, 13], [7, 13]), ([14, 13, 0, 1, 2, 3, 4, 5, 6, 7, 8, 9, 10, 11, 12, 13, 14], [0, 14])])
noncomputable def live_In.B12 : List Nat := [0, 0, 2, 0, 14, 30, 62, 127, 0, 256, 0, 1792, 3840, 8062, 16383, 32767]
theorem live_In.tab12 : rtab .any (opsOf Tryd.f34 12) = live_In.T12 := by kernel_rfl
theorem live_In.bits12 : waitsOk live_In.T12.2 live_In.B12 = true := by kernel_rfl
set_option maxHeartbeats 8000000 in
set_option maxRecDepth 100000 in
theorem live_In.calls (k : Nat) (A0_0 : Option Addr) (c0_0 : Nat) (l0_0 : List ByteArray) (a0_1 : ByteArray) (a0_2 : ByteArray) (A0_3 : Option Addr) (c0_3 : Nat) (l0_3 : List (S36)) (r : List Int) (w : World) (hr0_0 : Kd.C Kd.string w A0_0 l0_0.length l0_0) (hc0_0 : l0_0.length ≤ c0_0) (hr0_3 : Kd.C k36 w A0_3 l0_3.length l0_3) (hc0_3 : l0_3.length ≤ c0_3) (h : live_In.f k l0_0 a0_1 a0_2 l0_3 = some r) :
    Calls Tryd.prog 34 #[.agg #[.slice A0_0 l0_0.length c0_0, .string a0_1, .string a0_2, .slice A0_3 l0_3.length c0_3]] w fun e w' => ∃ v0_ : Value, e = .returned (v0_) ∧ Kd.R (Kd.int .u8) 5 w' w.heap.size (fun _ => True) v0_ r ∧ Below w.heap.size w w' := by
  have hu25 := Tryd.underlying25; have hu36 := Tryd.underlying36; have HR0_0 := Aside0.mk hr0_0; have HC0_0 := Aside0.mk hc0_0; clear hr0_0 hc0_0; have HR0_3 := Aside0.mk hr0_3; have HC0_3 := Aside0.mk hc0_3; clear hr0_3 hc0_3; have HB := Aside0.mk (Below.refl w.heap.size w); have H : (if 0 ≤ (wrap64 ((l0_3.length : Int) + 1)) then (if (wrap64 ((l0_3.length : Int) + 1) : Int).toNat ≤ 281474976710656 then (live_In.l0 k (List.replicate (wrap64 ((l0_3.length : Int) + 1) : Int).toNat 0) (wrap64 ((l0_3.length : Int) - 1)) l0_0 a0_1 a0_2 l0_3) else (none)) else (none)) = some r := h; clear h; obtain ⟨ji2, hji2⟩ : ∃ j_ : Int, (wrap64 ((l0_3.length : Int) + 1)) = j_ := ⟨_, rfl⟩
  replace H : (if 0 ≤ (ji2) then (if (ji2 : Int).toNat ≤ 281474976710656 then (live_In.l0 k (List.replicate (ji2 : Int).toNat 0) (wrap64 ((l0_3.length : Int) - 1)) l0_0 a0_1 a0_2 l0_3) else (none)) else (none)) = some r := by first | (rw [hji2] at H; exact H) | (simp only [hji2] at H ⊢; exact H)
  have hji2w : (IntKind.i64.wrap ((l0_3.length : Int) + 1)) = ji2 := (i64_w _).trans hji2; by_cases c3 : 0 ≤ (ji2)
  rotate_left
  · rw [if_neg c3] at H; exact absurd H (by simp)
  rw [if_pos c3] at H; have c3b0 := eq_true c3; have c3b1 : decide (0 ≤ (ji2)) = true := decide_eq_true c3; clear c3; by_cases c4 : (ji2 : Int).toNat ≤ 281474976710656
  rotate_left
  · rw [if_neg c4] at H; exact absurd H (by simp)
  rw [if_pos c4] at H; have c4b0 := eq_true c4; have c4b1 : decide ((ji2 : Int).toNat ≤ 281474976710656) = true := decide_eq_true c4; clear c4; obtain ⟨y102, hy102⟩ : ∃ y_ : List Int, y_ = (List.replicate (ji2 : Int).toNat 0) := ⟨_, rfl⟩
  replace H : (live_In.l0 k y102 (wrap64 ((l0_3.length : Int) - 1)) l0_0 a0_1 a0_2 l0_3) = some r := by first | (rw [hy102]; with_reducible exact H) | (have H2_ := (Option.bind_some _ _).symm.trans H; rw [hy102]; with_reducible exact H2_) | (have H2_ := (Option.bind_some _ _).symm.trans H; with_reducible exact H2_) | with_reducible exact H | (rw [hy102]; exact H) | exact H
  have Ny102 := Aside0.mk hy102; clear hy102; have H' := Aside0.mk H; clear H
  go_enter Tryd.func34, Tryd.ntmps34
  go_wp2_with (first | ((with_reducible refine gate_dst (N := 1) rfl ?_); (try (refine gate_guard (by rfl) ?_; dsimp only)); refine box_event ?hg (N := 1) ?hd (cs := #[.slice A0_0 l0_0.length c0_0, .string a0_1, .string a0_2, .slice A0_3 l0_3.length c0_3]) (t := 25) ?hr ?_; (case hd => rfl); (case hg => rfl); (case hr => first | (go_simp; done) | (go_simp; rfl)); intro gb101 hg w5 hbox hb; have n0_ := Aside0.mk (below_step hB102 hb); have n1_ := Aside0.mk (hbox); have n2_ := Aside0.mk ((by rw [hg]; exact (below_size hB102) : w.heap.size ≤ gb101)); have n3_ := Aside0.mk ((by rw [hg]; exact (below_size hB102) : w.heap.size ≤ gb101)); clear HB; have HB := n0_; have BK101 := n1_; have GW101 := n2_; have GE101 := n3_; clear n0_ n1_ n2_ n3_; clear hb hbox hg; have hcz6_0 : w5.cell? ⟨gb101, 0, none⟩ = some (.slice A0_0 l0_0.length c0_0) := (blk_cell BK101.out 0).trans rfl; have hcz6_1 : w5.cell? ⟨gb101, 1, none⟩ = some (.string a0_1) := (blk_cell BK101.out 1).trans rfl; have hcz6_2 : w5.cell? ⟨gb101, 2, none⟩ = some (.string a0_2) := (blk_cell BK101.out 2).trans rfl; have hcz6_3 : w5.cell? ⟨gb101, 3, none⟩ = some (.slice A0_3 l0_3.length c0_3) := (blk_cell BK101.out 3).trans rfl; have hfz6_0 := blk_frozen BK101.out 0; have hfz6_1 := blk_frozen BK101.out 1; have hfz6_2 := blk_frozen BK101.out 2; have hfz6_3 := blk_frozen BK101.out 3) | ((with_reducible refine gate_dst (N := 12) rfl ?_); (try (refine gate_guard (by rfl) ?_; dsimp only)); refine Kd.R_make (Kd.int .u8) _ 5 rfl (N := 12) rfl 38 _ _ rfl ji2 rfl rfl Tryd.underlying38 (.int .u8 0) 1 info5 rfl (by decide) (by omega) 0 (ok := fun _ => True) (okp := fun _ => True) rfl (fun _ hk => hk) trivial (of_decide_eq_true hB61) (Nat.le_trans (Nat.mul_le_mul_right _ (of_decide_eq_true hB61 : ji2.toNat ≤ 281474976710656)) (by omega)) (Below.refl _ _) (Nat.le_refl _) ?_; intro v103 w7 ho8 hb hg_ hnew_; clear hg_ hnew_; (first | rw [← Ny102.out] at ho8 | (simp only [Int.reduceToNat] at ho8; rw [← Ny102.out] at ho8)); have n0_ := Aside0.mk (Kd.R_lower ho8 (below_size hB70)); have n1_ := Aside0.mk (blk_below (g := gb101) (o := .cells #[.slice A0_0 l0_0.length c0_0, .string a0_1, .string a0_2, .slice A0_3 l0_3.length c0_3] 25 (0, 0)) hB31 hb); have n2_ := Aside0.mk (below_step hB70 hb); clear BK101; clear HB; have HO104 := n0_; have BK101 := n1_; have HB := n2_; clear n0_ n1_ n2_; clear hb ho8; have hcz9_0 : w7.cell? ⟨gb101, 0, none⟩ = some (.slice A0_0 l0_0.length c0_0) := (blk_cell BK101.out 0).trans rfl; have hcz9_1 : w7.cell? ⟨gb101, 1, none⟩ = some (.string a0_1) := (blk_cell BK101.out 1).trans rfl; have hcz9_2 : w7.cell? ⟨gb101, 2, none⟩ = some (.string a0_2) := (blk_cell BK101.out 2).trans rfl; have hcz9_3 : w7.cell? ⟨gb101, 3, none⟩ = some (.slice A0_3 l0_3.length c0_3) := (blk_cell BK101.out 3).trans rfl; have hfz9_0 := blk_frozen BK101.out 0; have hfz9_1 := blk_frozen BK101.out 1; have hfz9_2 := blk_frozen BK101.out 2; have hfz9_3 := blk_frozen BK101.out 3))
  refine scope_ghost 0 (fun kq a' w' => ∃ (gb101 : Nat) (v103 : Value) (x3_0 : List Int), Aside0 (live_In.l0 kq x3_0 (wrap64 ((l0_3.length : Int) - 1)) l0_0 a0_1 a0_2 l0_3 = some r) ∧ Aside0 (w.heap.size ≤ gb101) ∧ Aside0 (Kd.R (Kd.int .u8) 5 w' w.heap.size (fun _ => True) v103 x3_0) ∧ Aside0 (w'.heap[gb101]? = some (.cells #[(.slice A0_0 l0_0.length c0_0), .string a0_1, .string a0_2, (.slice A0_3 l0_3.length c0_3)] 25 (0, 0))) ∧ Aside0 (Below w.heap.size w w') ∧ ∃ (u4 u5 u6 u7 u8 u9 u10 u11 u12 u13 u14 u15 u16 u17 u18 u19 u20 u21 u22 u23 u24 u25 u26 u27 u28 u29 u30 u31 u32 u33 u34 u35 u36 u37 u38 u39 u40 u41 u42 u43 u44 u45 u46 u47 u48 u49 u50 u51 u52 u53 u54 u55 u56 u57 u58 u59 u60 u61 u62 u63 u64 u65 u66 u67 u68 u69 : Value), a' = { tmps := (.agg #[.slice A0_0 l0_0.length c0_0, .string a0_1, .string a0_2, .slice A0_3 l0_3.length c0_3] :: .pointer (some ⟨gb101, 0, none⟩) :: .slice none 0 0 :: v103 :: u4 :: u5 :: u6 :: u7 :: u8 :: u9 :: u10 :: u11 :: u12 :: u13 :: u14 :: u15 :: u16 :: u17 :: u18 :: u19 :: u20 :: u21 :: u22 :: u23 :: u24 :: u25 :: u26 :: u27 :: u28 :: u29 :: u30 :: u31 :: u32 :: u33 :: u34 :: u35 :: u36 :: u37 :: u38 :: u39 :: u40 :: u41 :: u42 :: u43 :: u44 :: u45 :: u46 :: u47 :: u48 :: u49 :: u50 :: u51 :: u52 :: u53 :: u54 :: u55 :: u56 :: u57 :: u58 :: u59 :: u60 :: u61 :: u62 :: u63 :: u64 :: u65 :: u66 :: u67 :: u68 :: u69 :: ([] : List Value)).toArray, defers := [] }) rfl ?first ?pass
  case first =>
    intro key
    go_wp2_with (first | ((with_reducible refine gate_dst (N := 1) rfl ?_); (try (refine gate_guard (by rfl) ?_; dsimp only)); refine box_event ?hg (N := 1) ?hd (cs := #[.slice A0_0 l0_0.length c0_0, .string a0_1, .string a0_2, .slice A0_3 l0_3.length c0_3]) (t := 25) ?hr ?_; (case hd => rfl); (case hg => rfl); (case hr => first | (go_simp; done) | (go_simp; rfl)); intro gb101 hg w5 hbox hb; have n0_ := Aside0.mk (below_step hB102 hb); have n1_ := Aside0.mk (hbox); have n2_ := Aside0.mk ((by rw [hg]; exact (below_size hB102) : w.heap.size ≤ gb101)); have n3_ := Aside0.mk ((by rw [hg]; exact (below_size hB102) : w.heap.size ≤ gb101)); clear HB; have HB := n0_; have BK101 := n1_; have GW101 := n2_; have GE101 := n3_; clear n0_ n1_ n2_ n3_; clear hb hbox hg; have hcz6_0 : w5.cell? ⟨gb101, 0, none⟩ = some (.slice A0_0 l0_0.length c0_0) := (blk_cell BK101.out 0).trans rfl; have hcz6_1 : w5.cell? ⟨gb101, 1, none⟩ = some (.string a0_1) := (blk_cell BK101.out 1).trans rfl; have hcz6_2 : w5.cell? ⟨gb101, 2, none⟩ = some (.string a0_2) := (blk_cell BK101.out 2).trans rfl; have hcz6_3 : w5.cell? ⟨gb101, 3, none⟩ = some (.slice A0_3 l0_3.length c0_3) := (blk_cell BK101.out 3).trans rfl; have hfz6_0 := blk_frozen BK101.out 0; have hfz6_1 := blk_frozen BK101.out 1; have hfz6_2 := blk_frozen BK101.out 2; have hfz6_3 := blk_frozen BK101.out 3) | ((with_reducible refine gate_dst (N := 12) rfl ?_); (try (refine gate_guard (by rfl) ?_; dsimp only)); refine Kd.R_make (Kd.int .u8) _ 5 rfl (N := 12) rfl 38 _ _ rfl ji2 rfl rfl Tryd.underlying38 (.int .u8 0) 1 info5 rfl (by decide) (by omega) 0 (ok := fun _ => True) (okp := fun _ => True) rfl (fun _ hk => hk) trivial (of_decide_eq_true hB61) (Nat.le_trans (Nat.mul_le_mul_right _ (of_decide_eq_true hB61 : ji2.toNat ≤ 281474976710656)) (by omega)) (Below.refl _ _) (Nat.le_refl _) ?_; intro v103 w7 ho8 hb hg_ hnew_; clear hg_ hnew_; (first | rw [← Ny102.out] at ho8 | (simp only [Int.reduceToNat] at ho8; rw [← Ny102.out] at ho8)); have n0_ := Aside0.mk (Kd.R_lower ho8 (below_size hB70)); have n1_ := Aside0.mk (blk_below (g := gb101) (o := .cells #[.slice A0_0 l0_0.length c0_0, .string a0_1, .string a0_2, .slice A0_3 l0_3.length c0_3] 25 (0, 0)) hB31 hb); have n2_ := Aside0.mk (below_step hB70 hb); clear BK101; clear HB; have HO104 := n0_; have BK101 := n1_; have HB := n2_; clear n0_ n1_ n2_; clear hb ho8; have hcz9_0 : w7.cell? ⟨gb101, 0, none⟩ = some (.slice A0_0 l0_0.length c0_0) := (blk_cell BK101.out 0).trans rfl; have hcz9_1 : w7.cell? ⟨gb101, 1, none⟩ = some (.string a0_1) := (blk_cell BK101.out 1).trans rfl; have hcz9_2 : w7.cell? ⟨gb101, 2, none⟩ = some (.string a0_2) := (blk_cell BK101.out 2).trans rfl; have hcz9_3 : w7.cell? ⟨gb101, 3, none⟩ = some (.slice A0_3 l0_3.length c0_3) := (blk_cell BK101.out 3).trans rfl; have hfz9_0 := blk_frozen BK101.out 0; have hfz9_1 := blk_frozen BK101.out 1; have hfz9_2 := blk_frozen BK101.out 2; have hfz9_3 := blk_frozen BK101.out 3))
    go_step3
    go_step; rename_i hK; refine hK _ _ (key k _ _ ?_); exact ⟨gb101, v103, y102, H', GE101, ⟨by (with_reducible repeat (first | apply Kd.R_alloc | apply Kd.R_drewN | apply Kd.R_drew)); exact HO104.out⟩, ⟨hB31⟩, ⟨hB70⟩, _, _, _, _, _, _, _, _, _, _, _, _, _, _, _, _, _, _, _, _, _, _, _, _, _, _, _, _, _, _, _, _, _, _, _, _, _, _, _, _, _, _, _, _, _, _, _, _, _, _, _, _, _, _, _, _, _, _, _, _, _, _, _, _, _, _, rfl⟩
  case pass =>
    intro gk0 a' w' hJ; obtain ⟨gb101, v103, x3_0, H', GE101, HO_3, BK101, HB, u4, u5, u6, u7, u8, u9, u10, u11, u12, u13, u14, u15, u16, u17, u18, u19, u20, u21, u22, u23, u24, u25, u26, u27, u28, u29, u30, u31, u32, u33, u34, u35, u36, u37, u38, u39, u40, u41, u42, u43, u44, u45, u46, u47, u48, u49, u50, u51, u52, u53, u54, u55, u56, u57, u58, u59, u60, u61, u62, u63, u64, u65, u66, u67, u68, u69, hfr⟩ := hJ; subst hfr; have hcz9_0 : w'.cell? ⟨gb101, 0, none⟩ = some (.slice A0_0 l0_0.length c0_0) := (blk_cell BK101.out 0).trans rfl; have hfz9_0 := blk_frozen BK101.out 0; have hcz9_1 : w'.cell? ⟨gb101, 1, none⟩ = some (.string a0_1) := (blk_cell BK101.out 1).trans rfl; have hfz9_1 := blk_frozen BK101.out 1; have hcz9_2 : w'.cell? ⟨gb101, 2, none⟩ = some (.string a0_2) := (blk_cell BK101.out 2).trans rfl; have hfz9_2 := blk_frozen BK101.out 2; have hcz9_3 : w'.cell? ⟨gb101, 3, none⟩ = some (.slice A0_3 l0_3.length c0_3) := (blk_cell BK101.out 3).trans rfl; have hfz9_3 := blk_frozen BK101.out 3; go_wp2
    go_loopg [4] gk0 (fun kq v4 w' => ∃ (x3_1 : List Int) (x4_1 : Int), v4 = .int .i64 x4_1 ∧ Aside0 (live_In.l0 kq x3_1 x4_1 l0_0 a0_1 a0_2 l0_3 = some r) ∧ Aside0 (kq ≤ gk0) ∧ Aside0 (Kd.R (Kd.int .u8) 5 w' w.heap.size (fun _ => True) v103 x3_1) ∧ Aside0 (w'.heap[gb101]? = some (.cells #[(.slice A0_0 l0_0.length c0_0), .string a0_1, .string a0_2, (.slice A0_3 l0_3.length c0_3)] 25 (0, 0))) ∧ Aside0 (Below w.heap.size w w'))
    case atStart => exact ⟨(x3_0), (wrap64 ((l0_3.length : Int) - 1)), hB62, H', ⟨Nat.le_refl _⟩, ⟨hB25⟩, ⟨hB31⟩, ⟨hB70⟩⟩
    case round =>
      clear H'; (try clear p2); (try clear c3); (try clear c3b0); (try clear c3b1); (try clear c4); (try clear c4b0); (try clear c4b1); (try clear p6); (try clear hcz6_0); (try clear hcz6_1); (try clear hcz6_2); (try clear hcz6_3); (try clear hcz9_0); (try clear hcz9_1); (try clear hcz9_2); (try clear hcz9_3); (try clear hfz6_0); (try clear hfz6_1); (try clear hfz6_2); (try clear hfz6_3); (try clear hfz9_0); (try clear hfz9_1); (try clear hfz9_2); (try clear hfz9_3); obtain ⟨x3_1, x4_1, rfl, HA, HK1, HO_3, BK101, HB⟩ := hrel
      cases gk with
      | zero => exact absurd HA.out (by simp [live_In.l0])
      | succ k1 =>
        have H := HA.out; clear HA; simp only [live_In.l0] at H; by_cases c10 : x4_1 ≥ 0
        rotate_left
        · rw [if_neg c10] at H; have c10b0 : decide (0 ≤ x4_1) = false := decide_eq_false c10; clear c10; obtain rfl := Option.some.inj H; go_wp2; simp only [Exit.jump]; go_ret; exact ⟨_, by first | rfl | (simp [errW_none, errW_some] <;> rfl) | (simp only [← hji2]; first | rfl | (simp [errW_none, errW_some] <;> rfl)) | (simp [*, errW_none, errW_some] <;> rfl), hB25, hB70⟩
        rw [if_pos c10] at H; have c10b0 : decide (0 ≤ x4_1) = true := decide_eq_true c10; clear c10; replace H := Option.bind_eq_some_iff.mp H; obtain ⟨t105, A110, H⟩ := H; replace H : (live_In.l1 k1 x3_1 x4_1 0 t105 (t105.length : Int) 0 l0_0 a0_1 a0_2 l0_3) = some r := H; have A11 := Aside0.mk A110; clear A110; have H' := Aside0.mk H; clear H; have hcz12_0 : wr.cell? ⟨gb101, 0, none⟩ = some (.slice A0_0 l0_0.length c0_0) := (blk_cell BK101.out 0).trans rfl; have hcz12_1 : wr.cell? ⟨gb101, 1, none⟩ = some (.string a0_1) := (blk_cell BK101.out 1).trans rfl; have hcz12_2 : wr.cell? ⟨gb101, 2, none⟩ = some (.string a0_2) := (blk_cell BK101.out 2).trans rfl; have hcz12_3 : wr.cell? ⟨gb101, 3, none⟩ = some (.slice A0_3 l0_3.length c0_3) := (blk_cell BK101.out 3).trans rfl; have hfz12_0 := blk_frozen BK101.out 0; have hfz12_1 := blk_frozen BK101.out 1; have hfz12_2 := blk_frozen BK101.out 2; have hfz12_3 := blk_frozen BK101.out 3
        go_wp2_with (first | ((with_reducible refine gate_callee (f := 23) rfl ?_); refine goesL_ (some 23) rfl rfl Tryd.func23 (by kernel_rfl) rfl #[.agg #[.slice A0_0 l0_0.length c0_0, .string a0_1, .string a0_2, .slice A0_3 l0_3.length c0_3], .int .i64 x4_1] rfl hB1 ?_; (with_reducible refine (flow_Next.calls _ _ l0_0 a0_1 a0_2 _ _ l0_3 x4_1 t105 _ ?side1 ?side2 ?side3 ?side4 A11.out).mono ?_); (case side1 => repeat (first | exact (Kd.C_below HR0_0.out HB.out) | (with_reducible refine Kd.C_alloc ?_ _) | (with_reducible refine Kd.C_drewN ?_ _) | (with_reducible refine Kd.C_drew ?_))); (case side2 => exact HC0_0.out); (case side3 => repeat (first | exact (Kd.C_below HR0_3.out HB.out) | (with_reducible refine Kd.C_alloc ?_ _) | (with_reducible refine Kd.C_drewN ?_ _) | (with_reducible refine Kd.C_drew ?_))); (case side4 => exact HC0_3.out); rintro e w13 ⟨v106, rfl, ho0, hb⟩; refine ⟨_, rfl, ?_⟩; have n0_ := Aside0.mk (Kd.R_below hB25 hb); have n1_ := Aside0.mk (Kd.R_lower ho0 (below_size hB70)); have n2_ := Aside0.mk (blk_below (g := gb101) (o := .cells #[.slice A0_0 l0_0.length c0_0, .string a0_1, .string a0_2, .slice A0_3 l0_3.length c0_3] 25 (0, 0)) hB31 hb); have n3_ := Aside0.mk (below_step hB70 hb); clear HO_3; clear BK101; clear HB; have HO_3 := n0_; have HO107 := n1_; have BK101 := n2_; have HB := n3_; clear n0_ n1_ n2_ n3_; (try clear hb); (try clear hb2); (try clear hk); (try clear hi); (try clear ho0); obtain ⟨Ao14, co14, eo14⟩ := Kd.R_slice HO107.out; subst eo14))
        go_loopg [5, 25] k1 (fun kq v5 v25 w' => ∃ (x5_2 : Int) (x25_2 : Int), v5 = .int .u8 x5_2 ∧ v25 = .int .i64 x25_2 ∧ Aside0 (live_In.l1 kq x3_1 x4_1 x5_2 t105 (t105.length : Int) x25_2 l0_0 a0_1 a0_2 l0_3 = some r) ∧ Aside0 (kq ≤ k1) ∧ Aside0 (Kd.R (Kd.int .u8) 5 w' w.heap.size (fun _ => True) v103 x3_1) ∧ Aside0 (Kd.R (Kd.int .i64) 3 w' w.heap.size (fun _ => True) (.slice Ao14 t105.length co14) t105) ∧ Aside0 (w'.heap[gb101]? = some (.cells #[(.slice A0_0 l0_0.length c0_0), .string a0_1, .string a0_2, (.slice A0_3 l0_3.length c0_3)] 25 (0, 0))) ∧ Aside0 (Below w.heap.size w w'))
        case atStart => exact ⟨(0), (0), hB62, hB62, H', ⟨Nat.le_refl _⟩, ⟨hB25⟩, ⟨by (with_reducible repeat (first | apply Kd.R_alloc | apply Kd.R_drewN | apply Kd.R_drew)); exact HO107.out⟩, ⟨hB31⟩, ⟨hB70⟩⟩
        case round =>
          clear H'; (try clear c1); (try clear c2); (try clear p2); (try clear c3); (try clear c3b0); (try clear c3b1); (try clear c4); (try clear c4b0); (try clear c4b1); (try clear p6); (try clear c10); (try clear c10b0); (try clear hcz12_0); (try clear hcz12_1); (try clear hcz12_2); (try clear hcz12_3); (try clear hcz6_0); (try clear hcz6_1); (try clear hcz6_2); (try clear hcz6_3); (try clear hcz9_0); (try clear hcz9_1); (try clear hcz9_2); (try clear hcz9_3); (try clear hfz12_0); (try clear hfz12_1); (try clear hfz12_2); (try clear hfz12_3); (try clear hfz6_0); (try clear hfz6_1); (try clear hfz6_2); (try clear hfz6_3); (try clear hfz9_0); (try clear hfz9_1); (try clear hfz9_2); (try clear hfz9_3); (try clear p2); (try clear p6); obtain ⟨x5_2, x25_2, rfl, rfl, HA, HK2, HO_3, HO_23, BK101, HB⟩ := hrel
          cases gk with
          | zero => exact absurd HA.out (by simp [live_In.l1])
          | succ k2 =>
            have H := HA.out; clear HA; simp only [live_In.l1] at H; by_cases c15 : x25_2 < (t105.length : Int)
            · rw [if_pos c15] at H; have c15b0 : decide (x25_2 < (t105.length : Int)) = true := decide_eq_true c15; clear c15; by_cases c16 : 0 ≤ x25_2
              rotate_left
              · rw [if_neg c16] at H; exact absurd H (by simp)
              rw [if_pos c16] at H; have c16b0 : decide (0 ≤ x25_2) = true := decide_eq_true c16; clear c16; by_cases c17 : x25_2 < (t105.length : Int)
              rotate_left
              · rw [if_neg c17] at H; exact absurd H (by simp)
              rw [if_pos c17] at H; have c17b0 : decide (x25_2 < (t105.length : Int)) = true := decide_eq_true c17; clear c17; by_cases c18 : (rd t105 x25_2) ≥ 0
              rotate_left
              · rw [if_neg c18] at H; have c18b0 : decide (0 ≤ (rd t105 x25_2)) = false := decide_eq_false c18; clear c18; have H' := Aside0.mk H; clear H; have p108 : 0 ≤ (x25_2 : Int) := of_decide_eq_true hB61; have q108 : x25_2 < (t105.length : Int) := of_decide_eq_true hB61; obtain ⟨ad108, e108, hx108_0⟩ := Kd.at_int (Kd.R_reads' HO_23.out).2.2 x25_2 p108 q108
                cases e108
                replace p108 := eq_true p108; replace q108 := eq_true q108; go_wp2; go_roundg k2
                case measure => have := HK1.out; have := HK2.out; omega
                case rel => exact ⟨(x5_2), (wrap64 (x25_2 + 1)), hB62, hB62, H', ⟨by have := HK1.out; have := HK2.out; omega⟩, ⟨hB25⟩, ⟨hB24⟩, ⟨hB31⟩, ⟨hB70⟩⟩
              rw [if_pos c18] at H; have c18b0 : decide (0 ≤ (rd t105 x25_2)) = true := decide_eq_true c18; clear c18; by_cases c19 : (rd t105 x25_2) < (x3_1.length : Int)
              rotate_left
              · rw [if_neg c19] at H; have c19b0 : decide ((rd t105 x25_2) < (x3_1.length : Int)) = false := decide_eq_false c19; clear c19; have H' := Aside0.mk H; clear H; have p108 : 0 ≤ (x25_2 : Int) := of_decide_eq_true hB61; have q108 : x25_2 < (t105.length : Int) := of_decide_eq_true hB61; obtain ⟨ad108, e108, hx108_0⟩ := Kd.at_int (Kd.R_reads' HO_23.out).2.2 x25_2 p108 q108
                cases e108
                replace p108 := eq_true p108; replace q108 := eq_true q108; obtain ⟨Ao22, co22, eo22⟩ := Kd.R_slice HO_3.out; subst eo22; go_wp2; go_roundg k2
                case measure => have := HK1.out; have := HK2.out; omega
                case rel => exact ⟨(x5_2), (wrap64 (x25_2 + 1)), hB62, hB62, H', ⟨by have := HK1.out; have := HK2.out; omega⟩, ⟨hB25⟩, ⟨hB24⟩, ⟨hB31⟩, ⟨hB70⟩⟩
              rw [if_pos c19] at H; have c19b0 : decide ((rd t105 x25_2) < (x3_1.length : Int)) = true := decide_eq_true c19; clear c19; by_cases c20 : 0 ≤ (rd t105 x25_2)
              rotate_left
              · rw [if_neg c20] at H; exact absurd H (by simp)
              rw [if_pos c20] at H; have c20b0 : decide (0 ≤ (rd t105 x25_2)) = true := decide_eq_true c20; clear c20; have H' := Aside0.mk H; clear H; have p108 : 0 ≤ (x25_2 : Int) := of_decide_eq_true hB61; have q108 : x25_2 < (t105.length : Int) := of_decide_eq_true hB61; obtain ⟨ad108, e108, hx108_0⟩ := Kd.at_int (Kd.R_reads' HO_23.out).2.2 x25_2 p108 q108
              cases e108
              replace p108 := eq_true p108; replace q108 := eq_true q108; obtain ⟨Ao21, co21, eo21⟩ := Kd.R_slice HO_3.out; subst eo21; have p109 : 0 ≤ ((rd t105 x25_2) : Int) := of_decide_eq_true hB61; have q109 : (rd t105 x25_2) < (x3_1.length : Int) := of_decide_eq_true hB61; obtain ⟨ad109, e109, hx109_0⟩ := Kd.at_int (Kd.R_reads' HO_3.out).2.2 (rd t105 x25_2) p109 q109
              cases e109
              replace p109 := eq_true p109; replace q109 := eq_true q109; go_wp2; go_roundg k2
              case measure => have := HK1.out; have := HK2.out; omega
              case rel => exact ⟨(Go.bits .or .u8 x5_2 (rd x3_1 (rd t105 x25_2))), (wrap64 (x25_2 + 1)), hB62, hB62, H', ⟨by have := HK1.out; have := HK2.out; omega⟩, ⟨hB25⟩, ⟨hB24⟩, ⟨hB31⟩, ⟨hB70⟩⟩
            rw [if_neg c15] at H; have c15b0 : decide (x25_2 < (t105.length : Int)) = false := decide_eq_false c15; clear c15; by_cases c23 : 0 ≤ x4_1
            rotate_left
            · rw [if_neg c23] at H; exact absurd H (by simp)
            rw [if_pos c23] at H; have c23b0 : decide (0 ≤ x4_1) = true := decide_eq_true c23; clear c23; by_cases c24 : x4_1 < (l0_3.length : Int)
            rotate_left
            · rw [if_neg c24] at H; exact absurd H (by simp)
            rw [if_pos c24] at H; have c24b0 : decide (x4_1 < (l0_3.length : Int)) = true := decide_eq_true c24; clear c24; replace H := Option.bind_eq_some_iff.mp H; obtain ⟨t111, A250, H⟩ := H; replace H : ((live_Uses.f k2 ((rd_T36 l0_3 x4_1).f0) ((rd_T36 l0_3 x4_1).f1) ((rd_T36 l0_3 x4_1).f2) ((rd_T36 l0_3 x4_1).f3) ((rd_T36 l0_3 x4_1).f4)).bind fun t113 => (if x4_1 < (x3_1.length : Int) then (if (Go.bits .or .u8 (Go.bits .andNot .u8 x5_2 t111) t113) = (rd x3_1 x4_1) then (live_In.l0 k2 x3_1 (wrap64 (x4_1 - 1)) l0_0 a0_1 a0_2 l0_3) else (live_In.l0 k2 (x3_1.set (x4_1 : Int).toNat (Go.bits .or .u8 (Go.bits .andNot .u8 x5_2 t111) t113)) (wrap64 ((l0_3.length : Int) - 1)) l0_0 a0_1 a0_2 l0_3)) else (none))) = some r := H; have A25 := Aside0.mk A250; clear A250; replace H := Option.bind_eq_some_iff.mp H; obtain ⟨t113, A260, H⟩ := H; replace H : (if x4_1 < (x3_1.length : Int) then (if (Go.bits .or .u8 (Go.bits .andNot .u8 x5_2 t111) t113) = (rd x3_1 x4_1) then (live_In.l0 k2 x3_1 (wrap64 (x4_1 - 1)) l0_0 a0_1 a0_2 l0_3) else (live_In.l0 k2 (x3_1.set (x4_1 : Int).toNat (Go.bits .or .u8 (Go.bits .andNot .u8 x5_2 t111) t113)) (wrap64 ((l0_3.length : Int) - 1)) l0_0 a0_1 a0_2 l0_3)) else (none)) = some r := H; have A26 := Aside0.mk A260; clear A260; by_cases c27 : x4_1 < (x3_1.length : Int)
            rotate_left
            · rw [if_neg c27] at H; exact absurd H (by simp)
            rw [if_pos c27] at H; have c27b0 : decide (x4_1 < (x3_1.length : Int)) = true := decide_eq_true c27; clear c27; by_cases c28 : (Go.bits .or .u8 (Go.bits .andNot .u8 x5_2 t111) t113) = (rd x3_1 x4_1)
            · rw [if_pos c28] at H; have c28b0 : ((Go.bits .or .u8 (Go.bits .andNot .u8 x5_2 t111) t113) == (rd x3_1 x4_1)) = true := beq_iff_eq.mpr c28; have c28b1 : ((Go.bits .or .u8 (Go.bits .andNot .u8 x5_2 t111) t113) != (rd x3_1 x4_1)) = false := bne_eq_false_iff_eq.mpr c28; clear c28; have H' := Aside0.mk H; clear H; try go_wp2
              have n0_ := Aside0.mk (Kd.R_drew HO_3.out); have n1_ := Aside0.mk (Kd.R_drew HO_23.out); have n2_ := Aside0.mk (blk_drew BK101.out); have n3_ := Aside0.mk (below_drew1 HB.out); clear HO_3; clear HO_23; clear BK101; clear HB; have HO_3 := n0_; have HO_23 := n1_; have BK101 := n2_; have HB := n3_; clear n0_ n1_ n2_ n3_; have p110 : 0 ≤ (x4_1 : Int) := of_decide_eq_true hB61; have q110 : x4_1 < (l0_3.length : Int) := of_decide_eq_true hB61; obtain ⟨ad110, e110, hx110_0, hx110_1, hx110_2, hx110_3, hx110_4⟩ := at_T36 HR0_3.out x4_1 p110 q110; have hw110_4 := hx110_4; have hw110_3 := hx110_3; have hw110_2 := hx110_2; have hw110_1 := hx110_1; have hw110_0 := hx110_0
              cases e110
              replace hx110_0 := (HB.out.cell (World.block_lt_of_cell? w _ hx110_0)).trans hx110_0; replace hx110_1 := (HB.out.cell (World.block_lt_of_cell? w _ hx110_1)).trans hx110_1; replace hx110_2 := (HB.out.cell (World.block_lt_of_cell? w _ hx110_2)).trans hx110_2; replace hx110_3 := (HB.out.cell (World.block_lt_of_cell? w _ hx110_3)).trans hx110_3; replace hx110_4 := (HB.out.cell (World.block_lt_of_cell? w _ hx110_4)).trans hx110_4; replace p110 := eq_true p110; replace q110 := eq_true q110; have p112 : 0 ≤ (x4_1 : Int) := of_decide_eq_true hB61; have q112 : x4_1 < (l0_3.length : Int) := of_decide_eq_true hB61; obtain ⟨ad112, e112, hx112_0, hx112_1, hx112_2, hx112_3, hx112_4⟩ := at_T36 HR0_3.out x4_1 p112 q112; have hw112_4 := hx112_4; have hw112_3 := hx112_3; have hw112_2 := hx112_2; have hw112_1 := hx112_1; have hw112_0 := hx112_0; obtain rfl : ad110 = ad112 := (by injection e112); replace hx112_0 := (HB.out.cell (World.block_lt_of_cell? w _ hx112_0)).trans hx112_0; replace hx112_1 := (HB.out.cell (World.block_lt_of_cell? w _ hx112_1)).trans hx112_1; replace hx112_2 := (HB.out.cell (World.block_lt_of_cell? w _ hx112_2)).trans hx112_2; replace hx112_3 := (HB.out.cell (World.block_lt_of_cell? w _ hx112_3)).trans hx112_3; replace hx112_4 := (HB.out.cell (World.block_lt_of_cell? w _ hx112_4)).trans hx112_4; replace p112 := eq_true p112; replace q112 := eq_true q112; refine start_ (n := 16) (S := fun w' => w'.cell? ⟨gb101, 0, none⟩ = some (.slice A0_0 l0_0.length c0_0) ∧ w'.cell? ⟨gb101, 1, none⟩ = some (.string a0_1) ∧ w'.cell? ⟨gb101, 2, none⟩ = some (.string a0_2) ∧ w'.cell? ⟨gb101, 3, none⟩ = some (.slice (some ad110) l0_3.length c0_3) ∧ w'.cell? (ad110.add ((x4_1).toNat * 5)) = some (.int .u8 ((rd_T36 l0_3 x4_1).f0)) ∧ w'.cell? ⟨(ad110.add ((x4_1).toNat * 5)).block, (ad110.add ((x4_1).toNat * 5)).off + 1, none⟩ = some (.int .u8 ((rd_T36 l0_3 x4_1).f1)) ∧ w'.cell? ⟨(ad110.add ((x4_1).toNat * 5)).block, (ad110.add ((x4_1).toNat * 5)).off + 2, none⟩ = some (.int .u8 ((rd_T36 l0_3 x4_1).f2)) ∧ w'.cell? ⟨(ad110.add ((x4_1).toNat * 5)).block, (ad110.add ((x4_1).toNat * 5)).off + 3, none⟩ = some (.int .u8 ((rd_T36 l0_3 x4_1).f3)) ∧ w'.cell? ⟨(ad110.add ((x4_1).toNat * 5)).block, (ad110.add ((x4_1).toNat * 5)).off + 4, none⟩ = some (.int .i64 ((rd_T36 l0_3 x4_1).f4)) ∧ w'.cell? (ad110.add ((x4_1).toNat * 5)) = some (.int .u8 ((rd_T36 l0_3 x4_1).f0)) ∧ w'.cell? ⟨(ad110.add ((x4_1).toNat * 5)).block, (ad110.add ((x4_1).toNat * 5)).off + 1, none⟩ = some (.int .u8 ((rd_T36 l0_3 x4_1).f1)) ∧ w'.cell? ⟨(ad110.add ((x4_1).toNat * 5)).block, (ad110.add ((x4_1).toNat * 5)).off + 2, none⟩ = some (.int .u8 ((rd_T36 l0_3 x4_1).f2)) ∧ w'.cell? ⟨(ad110.add ((x4_1).toNat * 5)).block, (ad110.add ((x4_1).toNat * 5)).off + 3, none⟩ = some (.int .u8 ((rd_T36 l0_3 x4_1).f3)) ∧ w'.cell? ⟨(ad110.add ((x4_1).toNat * 5)).block, (ad110.add ((x4_1).toNat * 5)).off + 4, none⟩ = some (.int .i64 ((rd_T36 l0_3 x4_1).f4))) (ds := []) #[false, false, false, false, false, false, false, false, false, false, false, false, false, false, false, false] (by kernel_rfl) rfl rfl ⟨(blk_cell BK101.out 0).trans rfl, (blk_cell BK101.out 1).trans rfl, (blk_cell BK101.out 2).trans rfl, (blk_cell BK101.out 3).trans rfl, ((HB.out.cell (World.block_lt_of_cell? w _ hw110_0)).trans hw110_0), ((HB.out.cell (World.block_lt_of_cell? w _ hw110_1)).trans hw110_1), ((HB.out.cell (World.block_lt_of_cell? w _ hw110_2)).trans hw110_2), ((HB.out.cell (World.block_lt_of_cell? w _ hw110_3)).trans hw110_3), ((HB.out.cell (World.block_lt_of_cell? w _ hw110_4)).trans hw110_4), ((HB.out.cell (World.block_lt_of_cell? w _ hw112_0)).trans hw112_0), ((HB.out.cell (World.block_lt_of_cell? w _ hw112_1)).trans hw112_1), ((HB.out.cell (World.block_lt_of_cell? w _ hw112_2)).trans hw112_2), ((HB.out.cell (World.block_lt_of_cell? w _ hw112_3)).trans hw112_3), ((HB.out.cell (World.block_lt_of_cell? w _ hw112_4)).trans hw112_4)⟩ (fun hHeld => ?_); refine with_tabW live_In.tab12 live_In.bits12 (fun HT_ HW_ => ?_); generalize wr.drew = w29 at HO_3 HO_23 BK101 HB hx110_0 hx110_1 hx110_2 hx110_3 hx110_4 hx112_0 hx112_1 hx112_2 hx112_3 hx112_4 hHeld ⊢; refine pure_ (i := 0) (N := some 44) (v := ?_) (a' := ?_) (mk_ 16 1) rfl rfl (any_of HT_.out (by kernel_rfl)) (fun _ _ _ h => h) (Or.inl ⟨by rfl, ?_⟩) ?_ ?_; rotate_left
              · intro w'; go_simp; with_reducible rfl
              rotate_left
              · simp only [Act.put, List.setIfInBounds_toArray, List.set_cons_zero, List.set_cons_succ, i64_w, i32_w]; rfl
              refine pure_ (i := 1) (N := some 45) (v := ?_) (a' := ?_) (mk_ 16 3) rfl rfl (any_of HT_.out (by kernel_rfl)) (fun _ _ _ h => h) (Or.inl ⟨by rfl, ?_⟩) ?_ ?_; rotate_left
              · intro w'; go_simp; with_reducible rfl
              rotate_left
              · simp only [Act.put, List.setIfInBounds_toArray, List.set_cons_zero, List.set_cons_succ, i64_w, i32_w]; rfl
              refine pure_ (i := 3) (N := some 47) (v := ?_) (a' := ?_) (mk_ 16 11) rfl rfl (any_of HT_.out (by kernel_rfl)) (fun _ _ _ h => h) (Or.inl ⟨by rfl, ?_⟩) ?_ ?_; rotate_left
              · intro w'; go_simp; with_reducible rfl
              rotate_left
              · simp only [Act.put, List.setIfInBounds_toArray, List.set_cons_zero, List.set_cons_succ, i64_w, i32_w]; rfl
              refine pure_ (i := 8) (N := some 52) (v := ?_) (a' := ?_) (mk_ 16 267) rfl rfl (any_of HT_.out (by kernel_rfl)) (fun _ _ _ h => h) (Or.inl ⟨by rfl, ?_⟩) ?_ ?_; rotate_left
              · intro w'; go_simp; with_reducible rfl
              rotate_left
              · simp only [Act.put, List.setIfInBounds_toArray, List.set_cons_zero, List.set_cons_succ, i64_w, i32_w]; rfl
              refine pure_ (i := 10) (N := some 54) (v := ?_) (a' := ?_) (mk_ 16 1291) rfl rfl (any_of HT_.out (by kernel_rfl)) (fun _ _ _ h => h) (Or.inl ⟨by rfl, ?_⟩) ?_ ?_; rotate_left
              · intro w'; go_simp; with_reducible rfl
              rotate_left
              · simp only [Act.put, List.setIfInBounds_toArray, List.set_cons_zero, List.set_cons_succ, i64_w, i32_w]; rfl
              refine take_ (i := 2) (N := some 46) (v := ?_) (a' := ?_) (mk_ 16 1295) rfl rfl (take_ofW HT_.out HW_.out (by kernel_rfl)) (fun _ _ _ h => h) (Or.inl ⟨by rfl, ?_⟩) hHeld ?_ ?_; rotate_left
              · rintro w' ⟨s0, s1, s2, s3, s4, s5, s6, s7, s8, s9, s10, s11, s12, s13⟩; go_simp; with_reducible rfl
              rotate_left
              · simp only [Act.put, List.setIfInBounds_toArray, List.set_cons_zero, List.set_cons_succ, i64_w, i32_w]; rfl
              refine pure_ (i := 4) (N := some 48) (v := ?_) (a' := ?_) (mk_ 16 1311) rfl rfl (any_of HT_.out (by kernel_rfl)) (fun _ _ _ h => h) (Or.inl ⟨by rfl, ?_⟩) ?_ ?_; rotate_left
              · intro w'; go_simp; with_reducible rfl
              rotate_left
              · simp only [Act.put, List.setIfInBounds_toArray, List.set_cons_zero, List.set_cons_succ, i64_w, i32_w]; rfl
              refine take_ (i := 5) (N := some 49) (v := ?_) (a' := ?_) (mk_ 16 1343) rfl rfl (take_ofW HT_.out HW_.out (by kernel_rfl)) (fun _ _ _ h => h) (Or.inl ⟨by rfl, ?_⟩) hHeld ?_ ?_; rotate_left
              · rintro w' ⟨s0, s1, s2, s3, s4, s5, s6, s7, s8, s9, s10, s11, s12, s13⟩; go_simp; with_reducible rfl
              rotate_left
              · simp only [Act.put, List.setIfInBounds_toArray, List.set_cons_zero, List.set_cons_succ, i64_w, i32_w]; rfl
              refine take_ (i := 9) (N := some 53) (v := ?_) (a' := ?_) (mk_ 16 1855) rfl rfl (take_ofW HT_.out HW_.out (by kernel_rfl)) (fun _ _ _ h => h) (Or.inl ⟨by rfl, ?_⟩) hHeld ?_ ?_; rotate_left
              · rintro w' ⟨s0, s1, s2, s3, s4, s5, s6, s7, s8, s9, s10, s11, s12, s13⟩; go_simp; with_reducible rfl
              rotate_left
              · simp only [Act.put, List.setIfInBounds_toArray, List.set_cons_zero, List.set_cons_succ, i64_w, i32_w]; rfl
              refine pure_ (i := 11) (N := some 55) (v := ?_) (a' := ?_) (mk_ 16 3903) rfl rfl (any_of HT_.out (by kernel_rfl)) (fun _ _ _ h => h) (Or.inl ⟨by rfl, ?_⟩) ?_ ?_; rotate_left
              · intro w'; go_simp; with_reducible rfl
              rotate_left
              · simp only [Act.put, List.setIfInBounds_toArray, List.set_cons_zero, List.set_cons_succ, i64_w, i32_w]; rfl
              refine take_ (i := 12) (N := some 56) (v := ?_) (a' := ?_) (mk_ 16 7999) rfl rfl (take_ofW HT_.out HW_.out (by kernel_rfl)) (fun _ _ _ h => h) (Or.inl ⟨by rfl, ?_⟩) hHeld ?_ ?_; rotate_left
              · rintro w' ⟨s0, s1, s2, s3, s4, s5, s6, s7, s8, s9, s10, s11, s12, s13⟩; go_simp; with_reducible rfl
              rotate_left
              · simp only [Act.put, List.setIfInBounds_toArray, List.set_cons_zero, List.set_cons_succ, i64_w, i32_w]; rfl
              refine one_ (i := 6) (N := some 50) (mk_ 16 8063) rfl rfl (one_of HT_.out (by kernel_rfl)) (by decide) (fun K hK => ?_); refine goes_ Tryd.func32 (by kernel_rfl) rfl #[.agg #[.int .u8 ((rd_T36 l0_3 x4_1).f0), .int .u8 ((rd_T36 l0_3 x4_1).f1), .int .u8 ((rd_T36 l0_3 x4_1).f2), .int .u8 ((rd_T36 l0_3 x4_1).f3), .int .i64 ((rd_T36 l0_3 x4_1).f4)]] (by rfl) rfl rfl hB1 ?_; with_reducible refine (live_Sets.calls k2 ((rd_T36 l0_3 x4_1).f0) ((rd_T36 l0_3 x4_1).f1) ((rd_T36 l0_3 x4_1).f2) ((rd_T36 l0_3 x4_1).f3) ((rd_T36 l0_3 x4_1).f4) t111 _ A25.out).mono ?_; rintro e w30 ⟨rfl, hb⟩; refine ⟨_, rfl, ?_⟩; have n0_ := Aside0.mk (Kd.R_below hB25 hb); have n1_ := Aside0.mk (Kd.R_below hB24 hb); have n2_ := Aside0.mk (blk_below (g := gb101) (o := .cells #[.slice A0_0 l0_0.length c0_0, .string a0_1, .string a0_2, .slice (some ad110) l0_3.length c0_3] 25 (0, 0)) hB31 hb); have n3_ := Aside0.mk (below_step hB70 hb); clear HO_3; clear HO_23; clear BK101; clear HB; have HO_3 := n0_; have HO_23 := n1_; have BK101 := n2_; have HB := n3_; clear n0_ n1_ n2_ n3_; (try clear hb); (try clear hb2); (try clear hk); (try clear hi); refine hK.out _ _ ⟨(blk_cell BK101.out 0).trans rfl, (blk_cell BK101.out 1).trans rfl, (blk_cell BK101.out 2).trans rfl, (blk_cell BK101.out 3).trans rfl, ((HB.out.cell (World.block_lt_of_cell? w _ hw110_0)).trans hw110_0), ((HB.out.cell (World.block_lt_of_cell? w _ hw110_1)).trans hw110_1), ((HB.out.cell (World.block_lt_of_cell? w _ hw110_2)).trans hw110_2), ((HB.out.cell (World.block_lt_of_cell? w _ hw110_3)).trans hw110_3), ((HB.out.cell (World.block_lt_of_cell? w _ hw110_4)).trans hw110_4), ((HB.out.cell (World.block_lt_of_cell? w _ hw112_0)).trans hw112_0), ((HB.out.cell (World.block_lt_of_cell? w _ hw112_1)).trans hw112_1), ((HB.out.cell (World.block_lt_of_cell? w _ hw112_2)).trans hw112_2), ((HB.out.cell (World.block_lt_of_cell? w _ hw112_3)).trans hw112_3), ((HB.out.cell (World.block_lt_of_cell? w _ hw112_4)).trans hw112_4)⟩ (fun hHeld => ?_); clear hK K; refine norm_ (a' := ?_) ?_ ?_; rotate_left
              · show Act.put _ (some 50) _ = _
                simp only [Act.put, List.setIfInBounds_toArray, List.set_cons_zero, List.set_cons_succ, i64_w, i32_w]; rfl
              refine pure_ (i := 7) (N := some 51) (v := ?_) (a' := ?_) (mk_ 16 8191) rfl rfl (any_of HT_.out (by kernel_rfl)) (fun _ _ _ h => h) (Or.inl ⟨by rfl, ?_⟩) ?_ ?_; rotate_left
              · intro w'; go_simp; with_reducible rfl
              rotate_left
              · simp only [Act.put, List.setIfInBounds_toArray, List.set_cons_zero, List.set_cons_succ, i64_w, i32_w]; rfl
              refine one_ (i := 13) (N := some 57) (mk_ 16 16383) rfl rfl (one_of HT_.out (by kernel_rfl)) (by decide) (fun K hK => ?_); refine goes_ Tryd.func30 (by kernel_rfl) rfl #[.agg #[.int .u8 ((rd_T36 l0_3 x4_1).f0), .int .u8 ((rd_T36 l0_3 x4_1).f1), .int .u8 ((rd_T36 l0_3 x4_1).f2), .int .u8 ((rd_T36 l0_3 x4_1).f3), .int .i64 ((rd_T36 l0_3 x4_1).f4)]] (by rfl) rfl rfl hB1 ?_; with_reducible refine (live_Uses.calls k2 ((rd_T36 l0_3 x4_1).f0) ((rd_T36 l0_3 x4_1).f1) ((rd_T36 l0_3 x4_1).f2) ((rd_T36 l0_3 x4_1).f3) ((rd_T36 l0_3 x4_1).f4) t113 _ A26.out).mono ?_; rintro e w31 ⟨rfl, hb⟩; refine ⟨_, rfl, ?_⟩; have n0_ := Aside0.mk (Kd.R_below hB25 hb); have n1_ := Aside0.mk (Kd.R_below hB24 hb); have n2_ := Aside0.mk (blk_below (g := gb101) (o := .cells #[.slice A0_0 l0_0.length c0_0, .string a0_1, .string a0_2, .slice (some ad110) l0_3.length c0_3] 25 (0, 0)) hB31 hb); have n3_ := Aside0.mk (below_step hB70 hb); clear HO_3; clear HO_23; clear BK101; clear HB; have HO_3 := n0_; have HO_23 := n1_; have BK101 := n2_; have HB := n3_; clear n0_ n1_ n2_ n3_; (try clear hb); (try clear hb2); (try clear hk); (try clear hi); refine hK.out _ _ ⟨(blk_cell BK101.out 0).trans rfl, (blk_cell BK101.out 1).trans rfl, (blk_cell BK101.out 2).trans rfl, (blk_cell BK101.out 3).trans rfl, ((HB.out.cell (World.block_lt_of_cell? w _ hw110_0)).trans hw110_0), ((HB.out.cell (World.block_lt_of_cell? w _ hw110_1)).trans hw110_1), ((HB.out.cell (World.block_lt_of_cell? w _ hw110_2)).trans hw110_2), ((HB.out.cell (World.block_lt_of_cell? w _ hw110_3)).trans hw110_3), ((HB.out.cell (World.block_lt_of_cell? w _ hw110_4)).trans hw110_4), ((HB.out.cell (World.block_lt_of_cell? w _ hw112_0)).trans hw112_0), ((HB.out.cell (World.block_lt_of_cell? w _ hw112_1)).trans hw112_1), ((HB.out.cell (World.block_lt_of_cell? w _ hw112_2)).trans hw112_2), ((HB.out.cell (World.block_lt_of_cell? w _ hw112_3)).trans hw112_3), ((HB.out.cell (World.block_lt_of_cell? w _ hw112_4)).trans hw112_4)⟩ (fun hHeld => ?_); clear hK K; refine norm_ (a' := ?_) ?_ ?_; rotate_left
              · show Act.put _ (some 57) _ = _
                simp only [Act.put, List.setIfInBounds_toArray, List.set_cons_zero, List.set_cons_succ, i64_w, i32_w]; rfl
              refine pure_ (i := 14) (N := some 58) (v := ?_) (a' := ?_) (mk_ 16 32767) rfl rfl (any_of HT_.out (by kernel_rfl)) (fun _ _ _ h => h) (Or.inl ⟨by rfl, ?_⟩) ?_ ?_; rotate_left
              · intro w'; go_simp; with_reducible rfl
              rotate_left
              · simp only [Act.put, List.setIfInBounds_toArray, List.set_cons_zero, List.set_cons_succ, i64_w, i32_w]; rfl
              refine pure_ (i := 15) (N := some 5) (v := ?_) (a' := ?_) (mk_ 16 65535) rfl rfl (any_of HT_.out (by kernel_rfl)) (fun _ _ _ h => h) (Or.inl ⟨by rfl, ?_⟩) ?_ ?_; rotate_left
              · intro w'; go_simp; with_reducible rfl
              rotate_left
              · simp only [Act.put, List.setIfInBounds_toArray, List.set_cons_zero, List.set_cons_succ, i64_w, i32_w]; rfl
              refine done_ (done_of HT_.out (by kernel_rfl)) ?_; obtain ⟨Ao32, co32, eo32⟩ := Kd.R_slice HO_3.out; subst eo32; have p114 : 0 ≤ (x4_1 : Int) := of_decide_eq_true hB61; have q114 : x4_1 < (x3_1.length : Int) := of_decide_eq_true hB61; obtain ⟨ad114, e114, hx114_0⟩ := Kd.at_int (Kd.R_reads' HO_3.out).2.2 x4_1 p114 q114
              cases e114
              replace p114 := eq_true p114; replace q114 := eq_true q114; try go_wp2
              go_roundg k2
              case measure => have := HK1.out; have := HK2.out; omega
              case rel => exact ⟨(x3_1), (wrap64 (x4_1 - 1)), hB62, H', ⟨by have := HK1.out; have := HK2.out; omega⟩, ⟨hB25⟩, ⟨hB31⟩, ⟨hB70⟩⟩
            rw [if_neg c28] at H; have c28b0 : ((Go.bits .or .u8 (Go.bits .andNot .u8 x5_2 t111) t113) == (rd x3_1 x4_1)) = false := beq_eq_false_iff_ne.mpr c28; have c28b1 : ((Go.bits .or .u8 (Go.bits .andNot .u8 x5_2 t111) t113) != (rd x3_1 x4_1)) = true := bne_iff_ne.mpr c28; obtain ⟨y115, hy115⟩ : ∃ y_ : List Int, y_ = (x3_1.set (x4_1 : Int).toNat (Go.bits .or .u8 (Go.bits .andNot .u8 x5_2 t111) t113)) := ⟨_, rfl⟩
            replace H : (live_In.l0 k2 y115 (wrap64 ((l0_3.length : Int) - 1)) l0_0 a0_1 a0_2 l0_3) = some r := by first | (rw [hy115]; with_reducible exact H) | (have H2_ := (Option.bind_some _ _).symm.trans H; rw [hy115]; with_reducible exact H2_) | (have H2_ := (Option.bind_some _ _).symm.trans H; with_reducible exact H2_) | with_reducible exact H | (rw [hy115]; exact H) | exact H
            have Ny115 := Aside0.mk hy115; clear hy115; have H' := Aside0.mk H; try go_wp2
            have n0_ := Aside0.mk (Kd.R_drew HO_3.out); have n1_ := Aside0.mk (Kd.R_drew HO_23.out); have n2_ := Aside0.mk (blk_drew BK101.out); have n3_ := Aside0.mk (below_drew1 HB.out); clear HO_3; clear HO_23; clear BK101; clear HB; have HO_3 := n0_; have HO_23 := n1_; have BK101 := n2_; have HB := n3_; clear n0_ n1_ n2_ n3_; have p110 : 0 ≤ (x4_1 : Int) := of_decide_eq_true hB61; have q110 : x4_1 < (l0_3.length : Int) := of_decide_eq_true hB61; obtain ⟨ad110, e110, hx110_0, hx110_1, hx110_2, hx110_3, hx110_4⟩ := at_T36 HR0_3.out x4_1 p110 q110; have hw110_4 := hx110_4; have hw110_3 := hx110_3; have hw110_2 := hx110_2; have hw110_1 := hx110_1; have hw110_0 := hx110_0
            cases e110
            replace hx110_0 := (HB.out.cell (World.block_lt_of_cell? w _ hx110_0)).trans hx110_0; replace hx110_1 := (HB.out.cell (World.block_lt_of_cell? w _ hx110_1)).trans hx110_1; replace hx110_2 := (HB.out.cell (World.block_lt_of_cell? w _ hx110_2)).trans hx110_2; replace hx110_3 := (HB.out.cell (World.block_lt_of_cell? w _ hx110_3)).trans hx110_3; replace hx110_4 := (HB.out.cell (World.block_lt_of_cell? w _ hx110_4)).trans hx110_4; replace p110 := eq_true p110; replace q110 := eq_true q110; have p112 : 0 ≤ (x4_1 : Int) := of_decide_eq_true hB61; have q112 : x4_1 < (l0_3.length : Int) := of_decide_eq_true hB61; obtain ⟨ad112, e112, hx112_0, hx112_1, hx112_2, hx112_3, hx112_4⟩ := at_T36 HR0_3.out x4_1 p112 q112; have hw112_4 := hx112_4; have hw112_3 := hx112_3; have hw112_2 := hx112_2; have hw112_1 := hx112_1; have hw112_0 := hx112_0; obtain rfl : ad110 = ad112 := (by injection e112); replace hx112_0 := (HB.out.cell (World.block_lt_of_cell? w _ hx112_0)).trans hx112_0; replace hx112_1 := (HB.out.cell (World.block_lt_of_cell? w _ hx112_1)).trans hx112_1; replace hx112_2 := (HB.out.cell (World.block_lt_of_cell? w _ hx112_2)).trans hx112_2; replace hx112_3 := (HB.out.cell (World.block_lt_of_cell? w _ hx112_3)).trans hx112_3; replace hx112_4 := (HB.out.cell (World.block_lt_of_cell? w _ hx112_4)).trans hx112_4; replace p112 := eq_true p112; replace q112 := eq_true q112; refine start_ (n := 16) (S := fun w' => w'.cell? ⟨gb101, 0, none⟩ = some (.slice A0_0 l0_0.length c0_0) ∧ w'.cell? ⟨gb101, 1, none⟩ = some (.string a0_1) ∧ w'.cell? ⟨gb101, 2, none⟩ = some (.string a0_2) ∧ w'.cell? ⟨gb101, 3, none⟩ = some (.slice (some ad110) l0_3.length c0_3) ∧ w'.cell? (ad110.add ((x4_1).toNat * 5)) = some (.int .u8 ((rd_T36 l0_3 x4_1).f0)) ∧ w'.cell? ⟨(ad110.add ((x4_1).toNat * 5)).block, (ad110.add ((x4_1).toNat * 5)).off + 1, none⟩ = some (.int .u8 ((rd_T36 l0_3 x4_1).f1)) ∧ w'.cell? ⟨(ad110.add ((x4_1).toNat * 5)).block, (ad110.add ((x4_1).toNat * 5)).off + 2, none⟩ = some (.int .u8 ((rd_T36 l0_3 x4_1).f2)) ∧ w'.cell? ⟨(ad110.add ((x4_1).toNat * 5)).block, (ad110.add ((x4_1).toNat * 5)).off + 3, none⟩ = some (.int .u8 ((rd_T36 l0_3 x4_1).f3)) ∧ w'.cell? ⟨(ad110.add ((x4_1).toNat * 5)).block, (ad110.add ((x4_1).toNat * 5)).off + 4, none⟩ = some (.int .i64 ((rd_T36 l0_3 x4_1).f4)) ∧ w'.cell? (ad110.add ((x4_1).toNat * 5)) = some (.int .u8 ((rd_T36 l0_3 x4_1).f0)) ∧ w'.cell? ⟨(ad110.add ((x4_1).toNat * 5)).block, (ad110.add ((x4_1).toNat * 5)).off + 1, none⟩ = some (.int .u8 ((rd_T36 l0_3 x4_1).f1)) ∧ w'.cell? ⟨(ad110.add ((x4_1).toNat * 5)).block, (ad110.add ((x4_1).toNat * 5)).off + 2, none⟩ = some (.int .u8 ((rd_T36 l0_3 x4_1).f2)) ∧ w'.cell? ⟨(ad110.add ((x4_1).toNat * 5)).block, (ad110.add ((x4_1).toNat * 5)).off + 3, none⟩ = some (.int .u8 ((rd_T36 l0_3 x4_1).f3)) ∧ w'.cell? ⟨(ad110.add ((x4_1).toNat * 5)).block, (ad110.add ((x4_1).toNat * 5)).off + 4, none⟩ = some (.int .i64 ((rd_T36 l0_3 x4_1).f4))) (ds := []) #[false, false, false, false, false, false, false, false, false, false, false, false, false, false, false, false] (by kernel_rfl) rfl rfl ⟨(blk_cell BK101.out 0).trans rfl, (blk_cell BK101.out 1).trans rfl, (blk_cell BK101.out 2).trans rfl, (blk_cell BK101.out 3).trans rfl, ((HB.out.cell (World.block_lt_of_cell? w _ hw110_0)).trans hw110_0), ((HB.out.cell (World.block_lt_of_cell? w _ hw110_1)).trans hw110_1), ((HB.out.cell (World.block_lt_of_cell? w _ hw110_2)).trans hw110_2), ((HB.out.cell (World.block_lt_of_cell? w _ hw110_3)).trans hw110_3), ((HB.out.cell (World.block_lt_of_cell? w _ hw110_4)).trans hw110_4), ((HB.out.cell (World.block_lt_of_cell? w _ hw112_0)).trans hw112_0), ((HB.out.cell (World.block_lt_of_cell? w _ hw112_1)).trans hw112_1), ((HB.out.cell (World.block_lt_of_cell? w _ hw112_2)).trans hw112_2), ((HB.out.cell (World.block_lt_of_cell? w _ hw112_3)).trans hw112_3), ((HB.out.cell (World.block_lt_of_cell? w _ hw112_4)).trans hw112_4)⟩ (fun hHeld => ?_); refine with_tabW live_In.tab12 live_In.bits12 (fun HT_ HW_ => ?_); generalize wr.drew = w34 at HO_3 HO_23 BK101 HB hx110_0 hx110_1 hx110_2 hx110_3 hx110_4 hx112_0 hx112_1 hx112_2 hx112_3 hx112_4 hHeld ⊢; refine pure_ (i := 0) (N := some 44) (v := ?_) (a' := ?_) (mk_ 16 1) rfl rfl (any_of HT_.out (by kernel_rfl)) (fun _ _ _ h => h) (Or.inl ⟨by rfl, ?_⟩) ?_ ?_; rotate_left
            · intro w'; go_simp; with_reducible rfl
            rotate_left
            · simp only [Act.put, List.setIfInBounds_toArray, List.set_cons_zero, List.set_cons_succ, i64_w, i32_w]; rfl
            refine pure_ (i := 1) (N := some 45) (v := ?_) (a' := ?_) (mk_ 16 3) rfl rfl (any_of HT_.out (by kernel_rfl)) (fun _ _ _ h => h) (Or.inl ⟨by rfl, ?_⟩) ?_ ?_; rotate_left
            · intro w'; go_simp; with_reducible rfl
            rotate_left
            · simp only [Act.put, List.setIfInBounds_toArray, List.set_cons_zero, List.set_cons_succ, i64_w, i32_w]; rfl
            refine pure_ (i := 3) (N := some 47) (v := ?_) (a' := ?_) (mk_ 16 11) rfl rfl (any_of HT_.out (by kernel_rfl)) (fun _ _ _ h => h) (Or.inl ⟨by rfl, ?_⟩) ?_ ?_; rotate_left
            · intro w'; go_simp; with_reducible rfl
            rotate_left
            · simp only [Act.put, List.setIfInBounds_toArray, List.set_cons_zero, List.set_cons_succ, i64_w, i32_w]; rfl
            refine pure_ (i := 8) (N := some 52) (v := ?_) (a' := ?_) (mk_ 16 267) rfl rfl (any_of HT_.out (by kernel_rfl)) (fun _ _ _ h => h) (Or.inl ⟨by rfl, ?_⟩) ?_ ?_; rotate_left
            · intro w'; go_simp; with_reducible rfl
            rotate_left
            · simp only [Act.put, List.setIfInBounds_toArray, List.set_cons_zero, List.set_cons_succ, i64_w, i32_w]; rfl
            refine pure_ (i := 10) (N := some 54) (v := ?_) (a' := ?_) (mk_ 16 1291) rfl rfl (any_of HT_.out (by kernel_rfl)) (fun _ _ _ h => h) (Or.inl ⟨by rfl, ?_⟩) ?_ ?_; rotate_left
            · intro w'; go_simp; with_reducible rfl
            rotate_left
            · simp only [Act.put, List.setIfInBounds_toArray, List.set_cons_zero, List.set_cons_succ, i64_w, i32_w]; rfl
            refine take_ (i := 2) (N := some 46) (v := ?_) (a' := ?_) (mk_ 16 1295) rfl rfl (take_ofW HT_.out HW_.out (by kernel_rfl)) (fun _ _ _ h => h) (Or.inl ⟨by rfl, ?_⟩) hHeld ?_ ?_; rotate_left
            · rintro w' ⟨s0, s1, s2, s3, s4, s5, s6, s7, s8, s9, s10, s11, s12, s13⟩; go_simp; with_reducible rfl
            rotate_left
            · simp only [Act.put, List.setIfInBounds_toArray, List.set_cons_zero, List.set_cons_succ, i64_w, i32_w]; rfl
            refine pure_ (i := 4) (N := some 48) (v := ?_) (a' := ?_) (mk_ 16 1311) rfl rfl (any_of HT_.out (by kernel_rfl)) (fun _ _ _ h => h) (Or.inl ⟨by rfl, ?_⟩) ?_ ?_; rotate_left
            · intro w'; go_simp; with_reducible rfl
            rotate_left
            · simp only [Act.put, List.setIfInBounds_toArray, List.set_cons_zero, List.set_cons_succ, i64_w, i32_w]; rfl
            refine take_ (i := 5) (N := some 49) (v := ?_) (a' := ?_) (mk_ 16 1343) rfl rfl (take_ofW HT_.out HW_.out (by kernel_rfl)) (fun _ _ _ h => h) (Or.inl ⟨by rfl, ?_⟩) hHeld ?_ ?_; rotate_left
            · rintro w' ⟨s0, s1, s2, s3, s4, s5, s6, s7, s8, s9, s10, s11, s12, s13⟩; go_simp; with_reducible rfl
            rotate_left
            · simp only [Act.put, List.setIfInBounds_toArray, List.set_cons_zero, List.set_cons_succ, i64_w, i32_w]; rfl
            refine take_ (i := 9) (N := some 53) (v := ?_) (a' := ?_) (mk_ 16 1855) rfl rfl (take_ofW HT_.out HW_.out (by kernel_rfl)) (fun _ _ _ h => h) (Or.inl ⟨by rfl, ?_⟩) hHeld ?_ ?_; rotate_left
            · rintro w' ⟨s0, s1, s2, s3, s4, s5, s6, s7, s8, s9, s10, s11, s12, s13⟩; go_simp; with_reducible rfl
            rotate_left
            · simp only [Act.put, List.setIfInBounds_toArray, List.set_cons_zero, List.set_cons_succ, i64_w, i32_w]; rfl
            refine pure_ (i := 11) (N := some 55) (v := ?_) (a' := ?_) (mk_ 16 3903) rfl rfl (any_of HT_.out (by kernel_rfl)) (fun _ _ _ h => h) (Or.inl ⟨by rfl, ?_⟩) ?_ ?_; rotate_left
            · intro w'; go_simp; with_reducible rfl
            rotate_left
            · simp only [Act.put, List.setIfInBounds_toArray, List.set_cons_zero, List.set_cons_succ, i64_w, i32_w]; rfl
            refine take_ (i := 12) (N := some 56) (v := ?_) (a' := ?_) (mk_ 16 7999) rfl rfl (take_ofW HT_.out HW_.out (by kernel_rfl)) (fun _ _ _ h => h) (Or.inl ⟨by rfl, ?_⟩) hHeld ?_ ?_; rotate_left
            · rintro w' ⟨s0, s1, s2, s3, s4, s5, s6, s7, s8, s9, s10, s11, s12, s13⟩; go_simp; with_reducible rfl
            rotate_left
            · simp only [Act.put, List.setIfInBounds_toArray, List.set_cons_zero, List.set_cons_succ, i64_w, i32_w]; rfl
            refine one_ (i := 6) (N := some 50) (mk_ 16 8063) rfl rfl (one_of HT_.out (by kernel_rfl)) (by decide) (fun K hK => ?_); refine goes_ Tryd.func32 (by kernel_rfl) rfl #[.agg #[.int .u8 ((rd_T36 l0_3 x4_1).f0), .int .u8 ((rd_T36 l0_3 x4_1).f1), .int .u8 ((rd_T36 l0_3 x4_1).f2), .int .u8 ((rd_T36 l0_3 x4_1).f3), .int .i64 ((rd_T36 l0_3 x4_1).f4)]] (by rfl) rfl rfl hB1 ?_; with_reducible refine (live_Sets.calls k2 ((rd_T36 l0_3 x4_1).f0) ((rd_T36 l0_3 x4_1).f1) ((rd_T36 l0_3 x4_1).f2) ((rd_T36 l0_3 x4_1).f3) ((rd_T36 l0_3 x4_1).f4) t111 _ A25.out).mono ?_; rintro e w35 ⟨rfl, hb⟩; refine ⟨_, rfl, ?_⟩; have n0_ := Aside0.mk (Kd.R_below hB25 hb); have n1_ := Aside0.mk (Kd.R_below hB24 hb); have n2_ := Aside0.mk (blk_below (g := gb101) (o := .cells #[.slice A0_0 l0_0.length c0_0, .string a0_1, .string a0_2, .slice (some ad110) l0_3.length c0_3] 25 (0, 0)) hB31 hb); have n3_ := Aside0.mk (below_step hB70 hb); clear HO_3; clear HO_23; clear BK101; clear HB; have HO_3 := n0_; have HO_23 := n1_; have BK101 := n2_; have HB := n3_; clear n0_ n1_ n2_ n3_; (try clear hb); (try clear hb2); (try clear hk); (try clear hi); refine hK.out _ _ ⟨(blk_cell BK101.out 0).trans rfl, (blk_cell BK101.out 1).trans rfl, (blk_cell BK101.out 2).trans rfl, (blk_cell BK101.out 3).trans rfl, ((HB.out.cell (World.block_lt_of_cell? w _ hw110_0)).trans hw110_0), ((HB.out.cell (World.block_lt_of_cell? w _ hw110_1)).trans hw110_1), ((HB.out.cell (World.block_lt_of_cell? w _ hw110_2)).trans hw110_2), ((HB.out.cell (World.block_lt_of_cell? w _ hw110_3)).trans hw110_3), ((HB.out.cell (World.block_lt_of_cell? w _ hw110_4)).trans hw110_4), ((HB.out.cell (World.block_lt_of_cell? w _ hw112_0)).trans hw112_0), ((HB.out.cell (World.block_lt_of_cell? w _ hw112_1)).trans hw112_1), ((HB.out.cell (World.block_lt_of_cell? w _ hw112_2)).trans hw112_2), ((HB.out.cell (World.block_lt_of_cell? w _ hw112_3)).trans hw112_3), ((HB.out.cell (World.block_lt_of_cell? w _ hw112_4)).trans hw112_4)⟩ (fun hHeld => ?_); clear hK K; refine norm_ (a' := ?_) ?_ ?_; rotate_left
            · show Act.put _ (some 50) _ = _
              simp only [Act.put, List.setIfInBounds_toArray, List.set_cons_zero, List.set_cons_succ, i64_w, i32_w]; rfl
            refine pure_ (i := 7) (N := some 51) (v := ?_) (a' := ?_) (mk_ 16 8191) rfl rfl (any_of HT_.out (by kernel_rfl)) (fun _ _ _ h => h) (Or.inl ⟨by rfl, ?_⟩) ?_ ?_; rotate_left
            · intro w'; go_simp; with_reducible rfl
            rotate_left
            · simp only [Act.put, List.setIfInBounds_toArray, List.set_cons_zero, List.set_cons_succ, i64_w, i32_w]; rfl
            refine one_ (i := 13) (N := some 57) (mk_ 16 16383) rfl rfl (one_of HT_.out (by kernel_rfl)) (by decide) (fun K hK => ?_); refine goes_ Tryd.func30 (by kernel_rfl) rfl #[.agg #[.int .u8 ((rd_T36 l0_3 x4_1).f0), .int .u8 ((rd_T36 l0_3 x4_1).f1), .int .u8 ((rd_T36 l0_3 x4_1).f2), .int .u8 ((rd_T36 l0_3 x4_1).f3), .int .i64 ((rd_T36 l0_3 x4_1).f4)]] (by rfl) rfl rfl hB1 ?_; with_reducible refine (live_Uses.calls k2 ((rd_T36 l0_3 x4_1).f0) ((rd_T36 l0_3 x4_1).f1) ((rd_T36 l0_3 x4_1).f2) ((rd_T36 l0_3 x4_1).f3) ((rd_T36 l0_3 x4_1).f4) t113 _ A26.out).mono ?_; rintro e w36 ⟨rfl, hb⟩; refine ⟨_, rfl, ?_⟩; have n0_ := Aside0.mk (Kd.R_below hB25 hb); have n1_ := Aside0.mk (Kd.R_below hB24 hb); have n2_ := Aside0.mk (blk_below (g := gb101) (o := .cells #[.slice A0_0 l0_0.length c0_0, .string a0_1, .string a0_2, .slice (some ad110) l0_3.length c0_3] 25 (0, 0)) hB31 hb); have n3_ := Aside0.mk (below_step hB70 hb); clear HO_3; clear HO_23; clear BK101; clear HB; have HO_3 := n0_; have HO_23 := n1_; have BK101 := n2_; have HB := n3_; clear n0_ n1_ n2_ n3_; (try clear hb); (try clear hb2); (try clear hk); (try clear hi); refine hK.out _ _ ⟨(blk_cell BK101.out 0).trans rfl, (blk_cell BK101.out 1).trans rfl, (blk_cell BK101.out 2).trans rfl, (blk_cell BK101.out 3).trans rfl, ((HB.out.cell (World.block_lt_of_cell? w _ hw110_0)).trans hw110_0), ((HB.out.cell (World.block_lt_of_cell? w _ hw110_1)).trans hw110_1), ((HB.out.cell (World.block_lt_of_cell? w _ hw110_2)).trans hw110_2), ((HB.out.cell (World.block_lt_of_cell? w _ hw110_3)).trans hw110_3), ((HB.out.cell (World.block_lt_of_cell? w _ hw110_4)).trans hw110_4), ((HB.out.cell (World.block_lt_of_cell? w _ hw112_0)).trans hw112_0), ((HB.out.cell (World.block_lt_of_cell? w _ hw112_1)).trans hw112_1), ((HB.out.cell (World.block_lt_of_cell? w _ hw112_2)).trans hw112_2), ((HB.out.cell (World.block_lt_of_cell? w _ hw112_3)).trans hw112_3), ((HB.out.cell (World.block_lt_of_cell? w _ hw112_4)).trans hw112_4)⟩ (fun hHeld => ?_); clear hK K; refine norm_ (a' := ?_) ?_ ?_; rotate_left
            · show Act.put _ (some 57) _ = _
              simp only [Act.put, List.setIfInBounds_toArray, List.set_cons_zero, List.set_cons_succ, i64_w, i32_w]; rfl
            refine pure_ (i := 14) (N := some 58) (v := ?_) (a' := ?_) (mk_ 16 32767) rfl rfl (any_of HT_.out (by kernel_rfl)) (fun _ _ _ h => h) (Or.inl ⟨by rfl, ?_⟩) ?_ ?_; rotate_left
            · intro w'; go_simp; with_reducible rfl
            rotate_left
            · simp only [Act.put, List.setIfInBounds_toArray, List.set_cons_zero, List.set_cons_succ, i64_w, i32_w]; rfl
            refine pure_ (i := 15) (N := some 5) (v := ?_) (a' := ?_) (mk_ 16 65535) rfl rfl (any_of HT_.out (by kernel_rfl)) (fun _ _ _ h => h) (Or.inl ⟨by rfl, ?_⟩) ?_ ?_; rotate_left
            · intro w'; go_simp; with_reducible rfl
            rotate_left
            · simp only [Act.put, List.setIfInBounds_toArray, List.set_cons_zero, List.set_cons_succ, i64_w, i32_w]; rfl
            refine done_ (done_of HT_.out (by kernel_rfl)) ?_; obtain ⟨Ao37, co37, eo37⟩ := Kd.R_slice HO_3.out; subst eo37; have p114 : 0 ≤ (x4_1 : Int) := of_decide_eq_true hB61; have q114 : x4_1 < (x3_1.length : Int) := of_decide_eq_true hB61; obtain ⟨ad114, e114, hx114_0⟩ := Kd.at_int (Kd.R_reads' HO_3.out).2.2 x4_1 p114 q114
            cases e114
            replace p114 := eq_true p114; replace q114 := eq_true q114; have p33 : 0 ≤ (x4_1 : Int) := of_decide_eq_true hB61; have q33 : (x4_1 : Int) < ((x3_1.length : Int) : Int) := of_decide_eq_true hB61; obtain ⟨go33, co33, eo33, gb33, gl33, cl33, HG33⟩ := Kd.R_form HO_3.out (by omega)
            (first | cases eo33 | (injection eo33 with ea_ en_ ec_; (first | subst ea_ | (injection ea_ with ea_; subst ea_)); subst ec_; clear en_))
            have GB33 := Aside0.mk gb33; have GG33 := Aside0.mk HG33; clear gb33 gl33 HG33
            (first | simp only [add_plain] at hx114_0 | skip)
            obtain ⟨hx33_0, hf33_0⟩ := Kd.R_celln 0 HO_3.out (x4_1 : Int) p33 q33; replace p33 := eq_true p33; replace q33 := eq_true q33; obtain ⟨hy38_, hz38_⟩ := Kd.R_celln 0 HO_3.out (x4_1 : Int) (of_decide_eq_true hB61) (of_decide_eq_true hB61); have HP38 := Kd.R_putg HO_3.out (x4_1 : Int) (Go.bits .or .u8 (Go.bits .andNot .u8 x5_2 t111) t113); try go_wp2_with (first | ((with_reducible refine gate_store (t := 5) (p := 68) rfl ?_); refine store_event (t := 5) (p := 68) (v := ?vo_w39) (w1 := (w36.setCell ⟨go33, (x4_1 : Int).toNat, none⟩ (.int .u8 (Go.bits .or .u8 (Go.bits .andNot .u8 x5_2 t111) t113)))) ?hg ?ho ?hn ?hr ?_; (case ho => rfl); (case hg => rfl); (case hn => rfl); (case hr => first | (go_simp; done) | (go_simp; rfl)); intro w39 hw; have hg : w36.grownBy w39 (some go33) := (by rw [hw]; exact HP38.2); have hp_ : Kd.R (Kd.int .u8) 5 w39 w.heap.size (fun _ => True) (.slice (some ⟨go33, 0, none⟩) x3_1.length co37) y115 := (by rw [hw, Ny115.out]; exact HP38.1); clear HP38; have n0_ := Aside0.mk (hp_); have n1_ := Aside0.mk (Kd.R_over' (v := (.slice (some ⟨go33, 0, none⟩) x3_1.length co37)) hB24 (Kd.R_typed HO_3.out) (by decide) hg); have n2_ := Aside0.mk (blk_grown (g := gb101) (o := .cells #[.slice A0_0 l0_0.length c0_0, .string a0_1, .string a0_2, .slice (some ad110) l0_3.length c0_3] 25 (0, 0)) hB31 hg (Kd.R_ne HO_3.out BK101.out (by decide))); have n3_ := Aside0.mk ((by rw [hw]; exact below_set (HB.out) GB33.out : Below w.heap.size w w39)); clear HO_3; clear HO_23; clear BK101; clear HB; have HO_3 := n0_; have HO_23 := n1_; have BK101 := n2_; have HB := n3_; clear n0_ n1_ n2_ n3_; clear hg hw hp_))
            go_step3
            exact ⟨rfl, k2, by have := HK1.out; have := HK2.out; omega, gb101, _, y115, H', GE101, ⟨hB25⟩, ⟨hB31⟩, ⟨hB70⟩, _, _, _, _, _, _, _, _, _, _, _, _, _, _, _, _, _, _, _, _, _, _, _, _, _, _, _, _, _, _, _, _, _, _, _, _, _, _, _, _, _, _, _, _, _, _, _, _, _, _, _, _, _, _, _, _, _, _, _, _, _, _, _, _, _, _, rfl⟩
end Go.Proofs.YtkmkfiidlbhcgaaDoor.XD

namespace Go.Proofs.YtkmkfiidlbhcgaaDoor.Scan
open Go.RowKit Go.Proofs.YtkmkfiidlbhcgaaDoorW.PrintWords
theorem ev_some {α : Type} {g : Nat → Option α} {r : α} (h : ∀ k, g (k + 1) = some r) : Ev g r :=
  ⟨1, fun k hk => by
    obtain ⟨m, rfl⟩ : ∃ m, k = m + 1 := ⟨k - 1, by omega⟩
    exact h m⟩
theorem ev_const {α : Type} {r : α} : Ev (fun _ => some r) r := ⟨0, fun _ _ => rfl⟩
theorem ev_all {α : Type} {g : Nat → Option α} {r : α} (h : ∀ k, g k = some r) : Ev g r := ⟨0, fun k _ => h k⟩
theorem ev_step {α : Type} {g f : Nat → Option α} {r : α} (h : ∀ k, g (k + 1) = f k) (k : Ev f r) : Ev g r := Ev.step h k
theorem ev_bind {α β : Type} {g : Nat → Option α} {f : Nat → α → Option β} {a : α} {r : β} (h : Ev g a) (k : Ev (fun n => f n a) r) :
    Ev (fun n => (g n).bind (f n)) r := Ev.bind h k
theorem ev_at {α : Type} {g : Nat → Option α} {r : α} (h : Ev g r) : ∃ k, g k = some r := h.rounds
theorem scan_bad {ρ : Type} (g : Nat → Int → Option ρ) (n : Int) (bad : ρ) (ok : Int → Prop)
    (h1 : ∀ i q, 0 ≤ i → i < n → ok i → Ev (fun k => g k (i + 1)) q → Ev (fun k => g k i) q)
    (h2 : ∀ i, 0 ≤ i → i < n → ¬ ok i → Ev (fun k => g k i) bad) :
    ∀ (d : Nat) (i : Int), 0 ≤ i → i ≤ n → n - i = d → (∃ j, i ≤ j ∧ j < n ∧ ¬ ok j) → Ev (fun k => g k i) bad := by
  intro d
  induction d with
  | zero => intro i h0 hi hd ⟨j, a, b, _⟩; omega
  | succ d ih =>
    intro i h0 hi hd ⟨j, hj, hn, hj'⟩
    by_cases hk : ok i
    · refine h1 i bad h0 (by omega) hk (ih (i + 1) (by omega) (by omega) (by omega) ⟨j, ?_, hn, hj'⟩)
      have : j ≠ i := fun e => hj' (e ▸ hk)
      omega
    · exact h2 i h0 (by omega) hk
theorem scan0_bad {ρ : Type} (g : Nat → Int → Option ρ) (n : Int) (bad : ρ) (ok : Int → Prop) (hn : 0 ≤ n)
    (h1 : ∀ i q, 0 ≤ i → i < n → ok i → Ev (fun k => g k (i + 1)) q → Ev (fun k => g k i) q)
    (h2 : ∀ i, 0 ≤ i → i < n → ¬ ok i → Ev (fun k => g k i) bad)
    (h : ¬ ∀ j, 0 ≤ j → j < n → ok j) : Ev (fun k => g k 0) bad := by
  refine scan_bad g n bad ok h1 h2 n.toNat 0 (by omega) hn (by omega) ?_
  rcases Classical.not_forall.1 h with ⟨j, hj⟩
  rw [Classical.not_imp, Classical.not_imp] at hj
  exact ⟨j, hj.1, hj.2.1, hj.2.2⟩
theorem scan_good {ρ : Type} (g : Nat → Int → Option ρ) (n : Int) (r : ρ) (ok : Int → Prop)
    (h1 : ∀ i q, 0 ≤ i → i < n → ok i → Ev (fun k => g k (i + 1)) q → Ev (fun k => g k i) q)
    (h3 : Ev (fun k => g k n) r) :
    ∀ (d : Nat) (i : Int), 0 ≤ i → i ≤ n → n - i = d → (∀ j, i ≤ j → j < n → ok j) → Ev (fun k => g k i) r := by
  intro d
  induction d with
  | zero =>
    intro i h0 hi hd _
    have : i = n := by omega
    subst this
    exact h3
  | succ d ih =>
    intro i h0 hi hd h
    exact h1 i r h0 (by omega) (h i (by omega) (by omega)) (ih (i + 1) (by omega) (by omega) (by omega) fun j hj hn => h j (by omega) hn)
theorem scan0_good {ρ : Type} (g : Nat → Int → Option ρ) (n : Int) (r : ρ) (ok : Int → Prop) (hn : 0 ≤ n)
    (h1 : ∀ i q, 0 ≤ i → i < n → ok i → Ev (fun k => g k (i + 1)) q → Ev (fun k => g k i) q)
    (h3 : Ev (fun k => g k n) r) (h : ∀ j, 0 ≤ j → j < n → ok j) : Ev (fun k => g k 0) r :=
  scan_good g n r ok h1 h3 n.toNat 0 (by omega) hn (by omega) h
end Go.Proofs.YtkmkfiidlbhcgaaDoor.Scan

namespace Go.Proofs.YtkmkfiidlbhcgaaDoor.KP
open Go.RowKit Go.Proofs.YtkmkfiidlbhcgaaDoorW.PrintWords Go.Proofs.YtkmkfiidlbhcgaaDoor.Scan Go.Proofs.YtkmkfiidlbhcgaaDoor.F
def dg (c n : Int) : Int := if 48 ≤ c ∧ c - 48 < n then c - 48 else -1
theorem ref_digit_val {c n : Int} (h0 : 0 ≤ c) (h1 : c ≤ 255) : lockstitchref03_digit.f c n = some (dg c n) := by
  unfold lockstitchref03_digit.f dg
  by_cases h : c < 48
  · rw [if_pos h, if_neg (by omega)]
  · have e : (c - 48) % 256 = c - 48 := by omega
    rw [if_neg h, e]
    by_cases h' : c - 48 < n
    · rw [if_neg (by omega), if_pos (by omega)]
    · rw [if_pos (by omega), if_neg (by omega)]
def OkC (n c : Int) : Prop := c = 105 ∨ 0 ≤ dg c n
instance (n c : Int) : Decidable (OkC n c) := by unfold OkC; infer_instance
def AllC (n : Int) (s : ByteArray) : Prop := ∀ j : Int, 0 ≤ j → j < s.size → OkC n (bt s j)
def AllD (n : Int) (s : ByteArray) : Prop := ∀ j : Int, 0 ≤ j → j < s.size → 0 ≤ dg (bt s j) n
def OkT (n : Int) (s : ByteArray) : Prop := 1 ≤ s.size ∧ s.size ≤ 6 ∧ AllC n s
def Rt (ts : List ByteArray) : Prop := (∀ i : Int, 0 ≤ i → i < ts.length → OkT ts.length (rdOf ByteArray.empty ts i)) ∧ 1 ≤ ts.length ∧ ts.length ≤ 8
open Classical in
noncomputable def right (ts : List ByteArray) : Bool := decide (Rt ts)
open Classical in
noncomputable def refs (ts : List ByteArray) (s : ByteArray) : Bool := decide (Rt ts ∧ AllD ts.length s)
theorem right_iff (ts : List ByteArray) : right ts = true ↔ Rt ts := by simp [right]
theorem wrap_succ {i n : Int} (h0 : 0 ≤ i) (h : i < n) (hn : n ≤ 9223372036854775807) : wrap64 (i + 1) = i + 1 := by unfold wrap64; omega
theorem toList_nil (s : ByteArray) : s.toList = [] ↔ s.size = 0 := by
  rw [ByteArray.toList_eq]
  constructor
  · intro h
    have := data_length s
    rw [h] at this
    simpa using this.symm
  · intro h
    have := data_length s
    rw [h] at this
    exact List.length_eq_zero_iff.1 this
theorem rd_size (ts : List ByteArray) (hs : ∀ s ∈ ts, (s.size : Int) ≤ 9223372036854775807) (i : Int) : ((rdOf ByteArray.empty ts i).size : Int) ≤ 9223372036854775807 := by
  unfold rdOf
  rw [List.getD_eq_getElem?_getD]
  cases h : ts[i.toNat]? with
  | none => simp
  | some s => exact hs s (List.mem_of_getElem? h)
theorem ref_l1_step (ts : List ByteArray) (i : Int) (s : ByteArray) (hz : (s.size : Int) ≤ 9223372036854775807) (j : Int) (q : Bool) (h0 : 0 ≤ j) (h1 : j < s.size) (hk : OkC ts.length (bt s j))
    (hq : Ev (fun k => lockstitchref03_Right.l1 k ts i s (j + 1)) q) : Ev (fun k => lockstitchref03_Right.l1 k ts i s j) q := by
  refine ev_step (fun k => ?_) hq
  have hb := bt_range s j
  show lockstitchref03_Right.l1 (k + 1) ts i s j = lockstitchref03_Right.l1 k ts i s (j + 1)
  rw [lockstitchref03_Right.l1, if_pos h1, if_pos h0, wrap_succ h0 h1 hz]
  by_cases hc : bt s j = 105
  · rw [if_pos hc]
  · rw [if_neg hc, ref_digit_val hb.1 hb.2, Option.bind_some, if_neg (by have := hk.resolve_left hc; omega)]
theorem ref_l1_bad (ts : List ByteArray) (i : Int) (s : ByteArray) (j : Int) (h0 : 0 ≤ j) (h1 : j < s.size) (hk : ¬ OkC ts.length (bt s j)) :
    Ev (fun k => lockstitchref03_Right.l1 k ts i s j) false := by
  refine ev_some fun k => ?_
  have hb := bt_range s j
  rw [lockstitchref03_Right.l1, if_pos h1, if_pos h0]
  rw [if_neg (fun hc => hk (.inl hc)), ref_digit_val hb.1 hb.2, Option.bind_some, if_pos (by have : ¬ 0 ≤ dg (bt s j) ts.length := fun hd => hk (.inr hd); omega)]
theorem ref_Right_ev (ts : List ByteArray) (hl : (ts.length : Int) ≤ 9223372036854775807) (hs : ∀ s ∈ ts, (s.size : Int) ≤ 9223372036854775807) : Ev (fun k => lockstitchref03_Right.f k ts) (right ts) := by
  classical
  have H1 : ∀ i q, 0 ≤ i → i < (ts.length : Int) → OkT ts.length (rdOf ByteArray.empty ts i) → Ev (fun k => lockstitchref03_Right.l0 k ts (i + 1)) q → Ev (fun k => lockstitchref03_Right.l0 k ts i) q := by
    intro i q h0 h1 hk hq
    have hz := rd_size ts hs i
    refine ev_step (f := fun k => lockstitchref03_Right.l1 k ts i (rdOf ByteArray.empty ts i) 0) (fun k => ?_) ?_
    · show lockstitchref03_Right.l0 (k + 1) ts i = _
      rw [lockstitchref03_Right.l0, if_pos h1, if_pos h0]
    · refine scan0_good (fun k j => lockstitchref03_Right.l1 k ts i (rdOf ByteArray.empty ts i) j) _ q _ (by omega) (fun j q' a b c d => ref_l1_step ts i _ hz j q' a b c d) ?_ hk.2.2
      refine ev_step (fun k => ?_) hq
      show lockstitchref03_Right.l1 (k + 1) _ _ _ _ = _
      have := hk.1
      have := hk.2.1
      rw [lockstitchref03_Right.l1, if_neg (by omega), if_neg (by omega), if_neg (by omega), wrap_succ h0 h1 hl]
  have H2 : ∀ i, 0 ≤ i → i < (ts.length : Int) → ¬ OkT ts.length (rdOf ByteArray.empty ts i) → Ev (fun k => lockstitchref03_Right.l0 k ts i) false := by
    intro i h0 h1 hk
    have hz := rd_size ts hs i
    refine ev_step (f := fun k => lockstitchref03_Right.l1 k ts i (rdOf ByteArray.empty ts i) 0) (fun k => ?_) ?_
    · show lockstitchref03_Right.l0 (k + 1) ts i = _
      rw [lockstitchref03_Right.l0, if_pos h1, if_pos h0]
    · by_cases ha : AllC ts.length (rdOf ByteArray.empty ts i)
      · refine scan0_good (fun k j => lockstitchref03_Right.l1 k ts i (rdOf ByteArray.empty ts i) j) _ false _ (by omega) (fun j q' a b c d => ref_l1_step ts i _ hz j q' a b c d) (ev_some fun k => ?_) ha
        rw [lockstitchref03_Right.l1, if_neg (by omega)]
        by_cases h1' : ((rdOf ByteArray.empty ts i).size : Int) < 1
        · rw [if_pos h1']
        · rw [if_neg h1', if_pos]
          have : ¬ (1 ≤ (rdOf ByteArray.empty ts i).size ∧ (rdOf ByteArray.empty ts i).size ≤ 6) := fun h => hk ⟨h.1, h.2, ha⟩
          omega
      · exact scan0_bad (fun k j => lockstitchref03_Right.l1 k ts i (rdOf ByteArray.empty ts i) j) _ false (fun j => OkC ts.length (bt (rdOf ByteArray.empty ts i) j)) (by omega) (fun j q' a b c d => ref_l1_step ts i _ hz j q' a b c d) (fun j a b c => ref_l1_bad ts i _ j a b c) ha
  show Ev (fun k => lockstitchref03_Right.l0 k ts 0) (right ts)
  by_cases h : ∀ i : Int, 0 ≤ i → i < ts.length → OkT ts.length (rdOf ByteArray.empty ts i)
  · have e : right ts = decide (1 ≤ ts.length ∧ ts.length ≤ 8) := by
      unfold right
      rw [decide_eq_decide]
      exact ⟨fun x => x.2, fun x => ⟨h, x⟩⟩
    rw [e]
    refine scan0_good (fun k i => lockstitchref03_Right.l0 k ts i) _ _ _ (by omega) H1 (ev_some fun k => ?_) h
    simp only [lockstitchref03_Right.l0]
    rw [if_neg (by omega)]
    by_cases h : 1 ≤ ts.length
    · rw [if_pos (by omega)]
      congr 1
      rw [decide_eq_decide]
      omega
    · rw [if_neg (by omega)]
      congr 1
      symm
      rw [decide_eq_false_iff_not]
      omega
  · have e : right ts = false := by
      unfold right
      rw [decide_eq_false_iff_not]
      exact fun x => h x.1
    rw [e]
    exact scan0_bad (fun k i => lockstitchref03_Right.l0 k ts i) _ false _ (by omega) H1 H2 h
theorem ref_Refs_ev (ts : List ByteArray) (s : ByteArray) (hl : (ts.length : Int) ≤ 9223372036854775807) (hs : ∀ s ∈ ts, (s.size : Int) ≤ 9223372036854775807) (hz : (s.size : Int) ≤ 9223372036854775807) :
    Ev (fun k => lockstitchref03_Refs.f k ts s) (refs ts s) := by
  classical
  have H1 : ∀ i q, 0 ≤ i → i < (s.size : Int) → 0 ≤ dg (bt s i) ts.length → Ev (fun k => lockstitchref03_Refs.l0 k ts s (i + 1)) q → Ev (fun k => lockstitchref03_Refs.l0 k ts s i) q := by
    intro i q h0 h1 hk hq
    have hb := bt_range s i
    refine ev_step (fun k => ?_) hq
    show lockstitchref03_Refs.l0 (k + 1) _ _ _ = lockstitchref03_Refs.l0 k ts s (i + 1)
    rw [lockstitchref03_Refs.l0, if_pos h1, if_pos h0, ref_digit_val hb.1 hb.2, Option.bind_some, if_neg (by omega), wrap_succ h0 h1 hz]
  have H2 : ∀ i, 0 ≤ i → i < (s.size : Int) → ¬ 0 ≤ dg (bt s i) ts.length → Ev (fun k => lockstitchref03_Refs.l0 k ts s i) false := by
    intro i h0 h1 hk
    have hb := bt_range s i
    refine ev_some fun k => ?_
    rw [lockstitchref03_Refs.l0, if_pos h1, if_pos h0, ref_digit_val hb.1 hb.2, Option.bind_some, if_pos (by omega)]
  show Ev (fun k => lockstitchref03_Refs.l0 k ts s 0) (refs ts s)
  by_cases h : AllD ts.length s
  · have e : refs ts s = right ts := by
      unfold refs right
      rw [decide_eq_decide]
      exact ⟨fun x => x.1, fun x => ⟨x, h⟩⟩
    rw [e]
    refine scan0_good (fun k i => lockstitchref03_Refs.l0 k ts s i) _ _ _ (by omega) H1 ?_ h
    refine ev_step (f := fun k => (lockstitchref03_Right.f k ts).bind fun t => some t) (fun k => ?_) (ev_bind (ref_Right_ev ts hl hs) ev_const)
    show lockstitchref03_Refs.l0 (k + 1) _ _ _ = _
    rw [lockstitchref03_Refs.l0, if_neg (by omega)]
  · have e : refs ts s = false := by
      unfold refs
      rw [decide_eq_false_iff_not]
      exact fun x => h x.2
    rw [e]
    exact scan0_bad (fun k i => lockstitchref03_Refs.l0 k ts s i) _ false _ (by omega) H1 H2 h
def Is (ts : List ByteArray) (t : Int) : Prop := Rt ts ∧ 0 ≤ t ∧ t < ts.length
open Classical in
noncomputable def typ (ts : List ByteArray) (t : Int) : ByteArray := if Is ts t then rdOf ByteArray.empty ts t else ⟨#[]⟩
theorem typ_is {ts : List ByteArray} {t : Int} (h : Is ts t) : typ ts t = rdOf ByteArray.empty ts t := by unfold typ; rw [if_pos h]
theorem typ_not {ts : List ByteArray} {t : Int} (h : ¬ Is ts t) : typ ts t = ⟨#[]⟩ := by unfold typ; rw [if_neg h]
noncomputable def size (ts : List ByteArray) (t : Int) : Int := ((typ ts t).size : Int)
open Classical in
noncomputable def to_ (ts : List ByteArray) (t f : Int) : Int := if 0 ≤ f ∧ f < size ts t then dg (bt (typ ts t) f) ts.length else -1
theorem right_cases (ts : List ByteArray) : (right ts = true ∧ Rt ts) ∨ (right ts = false ∧ ¬ Rt ts) := by
  classical
  by_cases h : Rt ts
  · exact .inl ⟨(right_iff ts).2 h, h⟩
  · refine .inr ⟨?_, h⟩
    cases e : right ts
    · rfl
    · exact absurd ((right_iff ts).1 e) h
section
variable (ts : List ByteArray) (hl : (ts.length : Int) ≤ 9223372036854775807) (hs : ∀ s ∈ ts, (s.size : Int) ≤ 9223372036854775807)
include hl hs
open Classical in
theorem ref_is_ev (t : Int) : Ev (fun k => lockstitchref03_is.f k ts t) (decide (Is ts t)) := by
  refine ev_bind (ref_Right_ev ts hl hs) (ev_all fun k => ?_)
  rcases right_cases ts with ⟨e, h⟩ | ⟨e, h⟩
  · rw [e, if_pos rfl]
    by_cases h0 : t ≥ 0
    · rw [if_pos h0]
      congr 1
      rw [decide_eq_decide]
      exact ⟨fun x => ⟨h, h0, x⟩, fun x => x.2.2⟩
    · rw [if_neg h0]
      congr 1
      symm
      rw [decide_eq_false_iff_not]
      exact fun x => h0 x.2.1
  · rw [e, if_neg (by decide)]
    congr 1
    symm
    rw [decide_eq_false_iff_not]
    exact fun x => h x.1
theorem ref_Size_ev (t : Int) : Ev (fun k => lockstitchref03_Size.f k ts t) (size ts t) := by
  classical
  refine ev_bind (ref_is_ev ts hl hs t) (ev_all fun k => ?_)
  unfold size
  by_cases h : Is ts t
  · rw [decide_eq_true h, if_pos rfl, if_pos h.2.1, if_pos h.2.2, typ_is h]
  · rw [decide_eq_false h, if_neg (by decide), typ_not h]
    rfl
theorem ref_To_ev (t f : Int) : Ev (fun k => lockstitchref03_To.f k ts t f) (to_ ts t f) := by
  classical
  refine ev_bind (ref_is_ev ts hl hs t) (ev_all fun k => ?_)
  unfold to_ size
  by_cases h : Is ts t
  · have hb := bt_range (rdOf ByteArray.empty ts t) f
    rw [decide_eq_true h, if_pos rfl, typ_is h]
    by_cases h0 : f < 0
    · rw [if_pos h0, if_neg (by omega)]
    · by_cases h1 : f ≥ (rdOf ByteArray.empty ts t).size
      · rw [if_neg h0, if_pos h.2.1, if_pos h.2.2, if_pos h1, if_neg (by omega)]
      · rw [if_neg h0, if_pos h.2.1, if_pos h.2.2, if_neg h1, if_pos (by omega), if_pos (by omega), ref_digit_val hb.1 hb.2, if_pos (by omega)]
        rfl
  · rw [decide_eq_false h, if_neg (by decide), typ_not h, if_neg]
    have : (⟨#[]⟩ : ByteArray).size = 0 := rfl
    omega
end
noncomputable def mk (ts : List ByteArray) (t : Int) : Nat → Int
  | 0 => 0
  | i + 1 => mk ts t i + if 0 ≤ to_ ts t i then 2 ^ i else 0
noncomputable def mask (ts : List ByteArray) (t : Int) : Int := mk ts t (typ ts t).size
section
variable (ts : List ByteArray) (hl : (ts.length : Int) ≤ 9223372036854775807) (hs : ∀ s ∈ ts, (s.size : Int) ≤ 9223372036854775807)
include hl hs
end
def Few (ts : List ByteArray) : Prop := (∀ i : Int, 0 ≤ i → i < ts.length → ((rdOf ByteArray.empty ts i).size : Int) ≤ 50) ∧ ts.length ≤ 20
end Go.Proofs.YtkmkfiidlbhcgaaDoor.KP

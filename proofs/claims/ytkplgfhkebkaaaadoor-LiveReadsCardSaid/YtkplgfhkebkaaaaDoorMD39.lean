/- Texts of this claim, pruned to what it needs and laid together by prune.py. -/
import Derived.Test.YtkplgfhkebkaaaaDoorMD38
import Derived.ScopeJumps
import Derived.WalkMore
import Derived.Test.YtkplgfhkebkaaaaDoorMD31
namespace Go.Proofs.YtkplgfhkebkaaaaDoor.XD
open Go.RowKit Go.Proofs.YtkplgfhkebkaaaaDoorW.PrintWords Go.Proofs.YtkplgfhkebkaaaaDoorW.PrintLast Go.Proofs.YtkplgfhkebkaaaaDoorW.PrintMore
attribute [local go_sem] max2_int min2_int max_two min_two max_three min_three max_four min_four
set_option linter.unusedVariables false
set_option linter.unusedSimpArgs false
open Go.Proofs.YtkplgfhkebkaaaaDoor.F
open Go.Proofs.YtkplgfhkebkaaaaDoor.FG
open Go.Proofs.YtkplgfhkebkaaaaDoor.V
theorem scope_ghost {P : Program} {a : Act} {w : World} {Q : Exit → Act → World → Prop} {c rest : Code} (l : Nat) (J : Nat → Act → World → Prop) (hf : findLabel c l = some (Code.seq .skip rest))
    (first : (∀ n a w, J n a w → rest.wp P (Exit.jump l (fun a' w' => ∃ n', J n' a' w') Q) a w) → c.wp P (Exit.jump l (fun a' w' => ∃ n', J n' a' w') Q) a w)
    (pass : ∀ n a w, J n a w → rest.wp P (Exit.jump l (fun a' w' => ∃ n', n' < n ∧ J n' a' w') Q) a w) : (Code.scope c).wp P Q a w := by
  refine wp_scope_jumps l (fun a w => ∃ n, J n a w) (fun a w => leastOf fun n => J n a w) hf (first fun n a w h => wp_mono (pass n a w h) fun e a w q => ?_) fun a w h => ?_
  · cases e with
    | goto l' => exact ⟨q.1, q.2.elim fun n hn => ⟨n, hn.2⟩⟩
    | _ => exact q
  · have hs := leastOf_spec h; refine wp_seq (wp_skip ?_)
    refine wp_mono (pass _ a w hs.1) fun e a' w' q => ?_
    cases e with
    | goto l' =>
      obtain ⟨q1, n', hn, hJ⟩ := q; exact ⟨q1, ⟨n', hJ⟩, Nat.lt_of_le_of_lt ((leastOf_spec (p := fun n => J n a' w') ⟨n', hJ⟩).2 n' hJ) hn⟩
    | _ => exact q
mutual
noncomputable def live_In.l0 : Nat → List Int → Int → List ByteArray → ByteArray → ByteArray → List (S47) → Option (List Int)
  | 0, _, _, _, _, _, _ => none
  | k + 1, x3, x4, x102000, x102001, x102002, x102003 => if x4 ≥ 0 then ((flow_Next.f x102000 x102001 x102002 x102003 x4).bind fun t105 => (live_In.l1 k x3 x4 0 t105 (t105.length : Int) 0 x102000 x102001 x102002 x102003)) else (some x3)
noncomputable def live_In.l1 : Nat → List Int → Int → Int → List Int → Int → Int → List ByteArray → ByteArray → ByteArray → List (S47) → Option (List Int)
  | 0, _, _, _, _, _, _, _, _, _, _ => none
  | k + 1, x3, x4, x5, x23, x24, x25, x102000, x102001, x102002, x102003 => if x25 < x24 then (if 0 ≤ x25 then (if x25 < (x23.length : Int) then (if (rd x23 x25) ≥ 0 then (if (rd x23 x25) < (x3.length : Int) then (if 0 ≤ (rd x23 x25) then (live_In.l1 k x3 x4 (Go.bits .or .u8 x5 (rd x3 (rd x23 x25))) x23 x24 (wrap64 (x25 + 1)) x102000 x102001 x102002 x102003) else (none)) else (live_In.l1 k x3 x4 x5 x23 x24 (wrap64 (x25 + 1)) x102000 x102001 x102002 x102003)) else (live_In.l1 k x3 x4 x5 x23 x24 (wrap64 (x25 + 1)) x102000 x102001 x102002 x102003)) else (none)) else (none)) else (if 0 ≤ x4 then (if x4 < (x102003.length : Int) then ((live_Sets.f k ((rd_T47 x102003 x4).f0) ((rd_T47 x102003 x4).f1) ((rd_T47 x102003 x4).f2) ((rd_T47 x102003 x4).f3) ((rd_T47 x102003 x4).f4)).bind fun t111 => ((live_Uses.f k ((rd_T47 x102003 x4).f0) ((rd_T47 x102003 x4).f1) ((rd_T47 x102003 x4).f2) ((rd_T47 x102003 x4).f3) ((rd_T47 x102003 x4).f4)).bind fun t113 => (if x4 < (x3.length : Int) then (if (Go.bits .or .u8 (Go.bits .andNot .u8 x5 t111) t113) = (rd x3 x4) then (live_In.l0 k x3 (wrap64 (x4 - 1)) x102000 x102001 x102002 x102003) else (live_In.l0 k (x3.set (x4 : Int).toNat (Go.bits .or .u8 (Go.bits .andNot .u8 x5 t111) t113)) (wrap64 ((x102003.length : Int) - 1)) x102000 x102001 x102002 x102003)) else (none)))) else (none)) else (none))
end
noncomputable def live_In.f (k : Nat) (l0_0 : List ByteArray) (a0_1 : ByteArray) (a0_2 : ByteArray) (l0_3 : List (S47)) : Option (List Int) := if 0 ≤ (wrap64 ((l0_3.length : Int) + 1)) then (if (wrap64 ((l0_3.length : Int) + 1) : Int).toNat ≤ 281474976710656 then (live_In.l0 k (List.replicate (wrap64 ((l0_3.length : Int) + 1) : Int).toNat 0) (wrap64 ((l0_3.length : Int) - 1)) l0_0 a0_1 a0_2 l0_3) else (none)) else (none)
noncomputable def live_In.T12 : Bool × List (List Nat × List Nat) := (true, [([], []), ([], []), ([1], [1]), ([], []), ([2, 3], [2, 3]), ([4], [4]), ([5], [5]), ([0, 6], [0, 6]), ([], []), ([8], [8]), ([], []), ([9, 10], [9, 10]), ([11], [11]), ([12, 6], [12]), ([7, 13], [7, 13]), ([14, 13, 0, 1, 2, 3, 4, 5, 6, 7, 8, 9, 10, 11, 12, 13, 14], [0, 14])])
noncomputable def live_In.B12 : List Nat := [0, 0, 2, 0, 14, 30, 62, 127, 0, 256, 0, 1792, 3840, 8062, 16383, 32767]
theorem live_In.tab12 : rtab .any (opsOf Tryd.f15 12) = live_In.T12 := by kernel_rfl
theorem live_In.bits12 : waitsOk live_In.T12.2 live_In.B12 = true := by kernel_rfl
set_option maxHeartbeats 8000000 in
set_option maxRecDepth 100000 in
theorem live_In.calls (k : Nat) (A0_0 : Option Addr) (c0_0 : Nat) (l0_0 : List ByteArray) (a0_1 : ByteArray) (a0_2 : ByteArray) (A0_3 : Option Addr) (c0_3 : Nat) (l0_3 : List (S47)) (r : List Int) (w : World) (hr0_0 : Kd.C Kd.string w A0_0 l0_0.length l0_0) (hc0_0 : l0_0.length ≤ c0_0) (hr0_3 : Kd.C k47 w A0_3 l0_3.length l0_3) (hc0_3 : l0_3.length ≤ c0_3) (h : live_In.f k l0_0 a0_1 a0_2 l0_3 = some r) :
    Calls Tryd.prog 15 #[.agg #[.slice A0_0 l0_0.length c0_0, .string a0_1, .string a0_2, .slice A0_3 l0_3.length c0_3]] w fun e w' => ∃ v0_ : Value, e = .returned (v0_) ∧ Kd.R (Kd.int .u8) 5 w' w.heap.size (fun _ => True) v0_ r ∧ Below w.heap.size w w' := by
  have hu25 := Tryd.underlying25; have hu47 := Tryd.underlying47; have HR0_0 := Aside0.mk hr0_0; have HC0_0 := Aside0.mk hc0_0; clear hr0_0 hc0_0; have HR0_3 := Aside0.mk hr0_3; have HC0_3 := Aside0.mk hc0_3; clear hr0_3 hc0_3; have HB := Aside0.mk (Below.refl w.heap.size w); have H : (if 0 ≤ (wrap64 ((l0_3.length : Int) + 1)) then (if (wrap64 ((l0_3.length : Int) + 1) : Int).toNat ≤ 281474976710656 then (live_In.l0 k (List.replicate (wrap64 ((l0_3.length : Int) + 1) : Int).toNat 0) (wrap64 ((l0_3.length : Int) - 1)) l0_0 a0_1 a0_2 l0_3) else (none)) else (none)) = some r := h; clear h; obtain ⟨ji2, hji2⟩ : ∃ j_ : Int, (wrap64 ((l0_3.length : Int) + 1)) = j_ := ⟨_, rfl⟩
  replace H : (if 0 ≤ (ji2) then (if (ji2 : Int).toNat ≤ 281474976710656 then (live_In.l0 k (List.replicate (ji2 : Int).toNat 0) (wrap64 ((l0_3.length : Int) - 1)) l0_0 a0_1 a0_2 l0_3) else (none)) else (none)) = some r := by first | (rw [hji2] at H; exact H) | (simp only [hji2] at H ⊢; exact H)
  have hji2w : (IntKind.i64.wrap ((l0_3.length : Int) + 1)) = ji2 := (i64_w _).trans hji2; by_cases c3 : 0 ≤ (ji2)
  rotate_left
  · rw [if_neg c3] at H; exact absurd H (by simp)
  rw [if_pos c3] at H; have c3b0 := eq_true c3; have c3b1 : decide (0 ≤ (ji2)) = true := decide_eq_true c3; clear c3; by_cases c4 : (ji2 : Int).toNat ≤ 281474976710656
  rotate_left
  · rw [if_neg c4] at H; exact absurd H (by simp)
  rw [if_pos c4] at H; have c4b0 := eq_true c4; have c4b1 : decide ((ji2 : Int).toNat ≤ 281474976710656) = true := decide_eq_true c4; clear c4; obtain ⟨y102, hy102⟩ : ∃ y_ : List Int, y_ = (List.replicate (ji2 : Int).toNat 0) := ⟨_, rfl⟩
  replace H : (live_In.l0 k y102 (wrap64 ((l0_3.length : Int) - 1)) l0_0 a0_1 a0_2 l0_3) = some r := by first | (rw [hy102]; with_reducible exact H) | (have H2_ := (Option.bind_some _ _).symm.trans H; rw [hy102]; with_reducible exact H2_) | (have H2_ := (Option.bind_some _ _).symm.trans H; with_reducible exact H2_) | with_reducible exact H | (rw [hy102]; exact H) | exact H
  have Ny102 := Aside0.mk hy102; clear hy102; have H' := Aside0.mk H; clear H
  go_enter Tryd.func15, Tryd.ntmps15
  go_wp2_with (first | ((with_reducible refine gate_dst (N := 1) rfl ?_); (try (refine gate_guard (by rfl) ?_; dsimp only)); refine box_event ?hg (N := 1) ?hd (cs := #[.slice A0_0 l0_0.length c0_0, .string a0_1, .string a0_2, .slice A0_3 l0_3.length c0_3]) (t := 25) ?hr ?_; (case hd => rfl); (case hg => rfl); (case hr => first | (go_simp; done) | (go_simp; rfl)); intro gb101 hg w5 hbox hb; have n0_ := Aside0.mk (below_step hB97 hb); have n1_ := Aside0.mk (hbox); have n2_ := Aside0.mk ((by rw [hg]; exact (below_size hB97) : w.heap.size ≤ gb101)); have n3_ := Aside0.mk ((by rw [hg]; exact (below_size hB97) : w.heap.size ≤ gb101)); clear HB; have HB := n0_; have BK101 := n1_; have GW101 := n2_; have GE101 := n3_; clear n0_ n1_ n2_ n3_; clear hb hbox hg; have hcz6_0 : w5.cell? ⟨gb101, 0, none⟩ = some (.slice A0_0 l0_0.length c0_0) := (blk_cell BK101.out 0).trans rfl; have hcz6_1 : w5.cell? ⟨gb101, 1, none⟩ = some (.string a0_1) := (blk_cell BK101.out 1).trans rfl; have hcz6_2 : w5.cell? ⟨gb101, 2, none⟩ = some (.string a0_2) := (blk_cell BK101.out 2).trans rfl; have hcz6_3 : w5.cell? ⟨gb101, 3, none⟩ = some (.slice A0_3 l0_3.length c0_3) := (blk_cell BK101.out 3).trans rfl; have hfz6_0 := blk_frozen BK101.out 0; have hfz6_1 := blk_frozen BK101.out 1; have hfz6_2 := blk_frozen BK101.out 2; have hfz6_3 := blk_frozen BK101.out 3) | ((with_reducible refine gate_dst (N := 12) rfl ?_); (try (refine gate_guard (by rfl) ?_; dsimp only)); refine Kd.R_make (Kd.int .u8) _ 5 rfl (N := 12) rfl 42 _ _ rfl ji2 rfl rfl Tryd.underlying42 (.int .u8 0) 1 info5 rfl (by decide) (by omega) 0 (ok := fun _ => True) (okp := fun _ => True) rfl (fun _ hk => hk) trivial (of_decide_eq_true hB63) (Nat.le_trans (Nat.mul_le_mul_right _ (of_decide_eq_true hB63 : ji2.toNat ≤ 281474976710656)) (by omega)) (Below.refl _ _) (Nat.le_refl _) ?_; intro v103 w7 ho8 hb hg_ hnew_; clear hg_ hnew_; (first | rw [← Ny102.out] at ho8 | (simp only [Int.reduceToNat] at ho8; rw [← Ny102.out] at ho8)); have n0_ := Aside0.mk (Kd.R_lower ho8 (below_size hB72)); have n1_ := Aside0.mk (blk_below (g := gb101) (o := .cells #[.slice A0_0 l0_0.length c0_0, .string a0_1, .string a0_2, .slice A0_3 l0_3.length c0_3] 25 (0, 0)) hB40 hb); have n2_ := Aside0.mk (below_step hB72 hb); clear BK101; clear HB; have HO104 := n0_; have BK101 := n1_; have HB := n2_; clear n0_ n1_ n2_; clear hb ho8; have hcz9_0 : w7.cell? ⟨gb101, 0, none⟩ = some (.slice A0_0 l0_0.length c0_0) := (blk_cell BK101.out 0).trans rfl; have hcz9_1 : w7.cell? ⟨gb101, 1, none⟩ = some (.string a0_1) := (blk_cell BK101.out 1).trans rfl; have hcz9_2 : w7.cell? ⟨gb101, 2, none⟩ = some (.string a0_2) := (blk_cell BK101.out 2).trans rfl; have hcz9_3 : w7.cell? ⟨gb101, 3, none⟩ = some (.slice A0_3 l0_3.length c0_3) := (blk_cell BK101.out 3).trans rfl; have hfz9_0 := blk_frozen BK101.out 0; have hfz9_1 := blk_frozen BK101.out 1; have hfz9_2 := blk_frozen BK101.out 2; have hfz9_3 := blk_frozen BK101.out 3))
  refine scope_ghost 0 (fun kq a' w' => ∃ (gb101 : Nat) (v103 : Value) (x3_0 : List Int), Aside0 (live_In.l0 kq x3_0 (wrap64 ((l0_3.length : Int) - 1)) l0_0 a0_1 a0_2 l0_3 = some r) ∧ Aside0 (w.heap.size ≤ gb101) ∧ Aside0 (Kd.R (Kd.int .u8) 5 w' w.heap.size (fun _ => True) v103 x3_0) ∧ Aside0 (w'.heap[gb101]? = some (.cells #[(.slice A0_0 l0_0.length c0_0), .string a0_1, .string a0_2, (.slice A0_3 l0_3.length c0_3)] 25 (0, 0))) ∧ Aside0 (Below w.heap.size w w') ∧ ∃ (u4 u5 u6 u7 u8 u9 u10 u11 u12 u13 u14 u15 u16 u17 u18 u19 u20 u21 u22 u23 u24 u25 u26 u27 u28 u29 u30 u31 u32 u33 u34 u35 u36 u37 u38 u39 u40 u41 u42 u43 u44 u45 u46 u47 u48 u49 u50 u51 u52 u53 u54 u55 u56 u57 u58 u59 u60 u61 u62 u63 u64 u65 u66 u67 u68 u69 : Value), a' = { tmps := (.agg #[.slice A0_0 l0_0.length c0_0, .string a0_1, .string a0_2, .slice A0_3 l0_3.length c0_3] :: .pointer (some ⟨gb101, 0, none⟩) :: .slice none 0 0 :: v103 :: u4 :: u5 :: u6 :: u7 :: u8 :: u9 :: u10 :: u11 :: u12 :: u13 :: u14 :: u15 :: u16 :: u17 :: u18 :: u19 :: u20 :: u21 :: u22 :: u23 :: u24 :: u25 :: u26 :: u27 :: u28 :: u29 :: u30 :: u31 :: u32 :: u33 :: u34 :: u35 :: u36 :: u37 :: u38 :: u39 :: u40 :: u41 :: u42 :: u43 :: u44 :: u45 :: u46 :: u47 :: u48 :: u49 :: u50 :: u51 :: u52 :: u53 :: u54 :: u55 :: u56 :: u57 :: u58 :: u59 :: u60 :: u61 :: u62 :: u63 :: u64 :: u65 :: u66 :: u67 :: u68 :: u69 :: ([] : List Value)).toArray, defers := [] }) rfl ?first ?pass
  case first =>
    intro key
    go_wp2_with (first | ((with_reducible refine gate_dst (N := 1) rfl ?_); (try (refine gate_guard (by rfl) ?_; dsimp only)); refine box_event ?hg (N := 1) ?hd (cs := #[.slice A0_0 l0_0.length c0_0, .string a0_1, .string a0_2, .slice A0_3 l0_3.length c0_3]) (t := 25) ?hr ?_; (case hd => rfl); (case hg => rfl); (case hr => first | (go_simp; done) | (go_simp; rfl)); intro gb101 hg w5 hbox hb; have n0_ := Aside0.mk (below_step hB97 hb); have n1_ := Aside0.mk (hbox); have n2_ := Aside0.mk ((by rw [hg]; exact (below_size hB97) : w.heap.size ≤ gb101)); have n3_ := Aside0.mk ((by rw [hg]; exact (below_size hB97) : w.heap.size ≤ gb101)); clear HB; have HB := n0_; have BK101 := n1_; have GW101 := n2_; have GE101 := n3_; clear n0_ n1_ n2_ n3_; clear hb hbox hg; have hcz6_0 : w5.cell? ⟨gb101, 0, none⟩ = some (.slice A0_0 l0_0.length c0_0) := (blk_cell BK101.out 0).trans rfl; have hcz6_1 : w5.cell? ⟨gb101, 1, none⟩ = some (.string a0_1) := (blk_cell BK101.out 1).trans rfl; have hcz6_2 : w5.cell? ⟨gb101, 2, none⟩ = some (.string a0_2) := (blk_cell BK101.out 2).trans rfl; have hcz6_3 : w5.cell? ⟨gb101, 3, none⟩ = some (.slice A0_3 l0_3.length c0_3) := (blk_cell BK101.out 3).trans rfl; have hfz6_0 := blk_frozen BK101.out 0; have hfz6_1 := blk_frozen BK101.out 1; have hfz6_2 := blk_frozen BK101.out 2; have hfz6_3 := blk_frozen BK101.out 3) | ((with_reducible refine gate_dst (N := 12) rfl ?_); (try (refine gate_guard (by rfl) ?_; dsimp only)); refine Kd.R_make (Kd.int .u8) _ 5 rfl (N := 12) rfl 42 _ _ rfl ji2 rfl rfl Tryd.underlying42 (.int .u8 0) 1 info5 rfl (by decide) (by omega) 0 (ok := fun _ => True) (okp := fun _ => True) rfl (fun _ hk => hk) trivial (of_decide_eq_true hB63) (Nat.le_trans (Nat.mul_le_mul_right _ (of_decide_eq_true hB63 : ji2.toNat ≤ 281474976710656)) (by omega)) (Below.refl _ _) (Nat.le_refl _) ?_; intro v103 w7 ho8 hb hg_ hnew_; clear hg_ hnew_; (first | rw [← Ny102.out] at ho8 | (simp only [Int.reduceToNat] at ho8; rw [← Ny102.out] at ho8)); have n0_ := Aside0.mk (Kd.R_lower ho8 (below_size hB72)); have n1_ := Aside0.mk (blk_below (g := gb101) (o := .cells #[.slice A0_0 l0_0.length c0_0, .string a0_1, .string a0_2, .slice A0_3 l0_3.length c0_3] 25 (0, 0)) hB40 hb); have n2_ := Aside0.mk (below_step hB72 hb); clear BK101; clear HB; have HO104 := n0_; have BK101 := n1_; have HB := n2_; clear n0_ n1_ n2_; clear hb ho8; have hcz9_0 : w7.cell? ⟨gb101, 0, none⟩ = some (.slice A0_0 l0_0.length c0_0) := (blk_cell BK101.out 0).trans rfl; have hcz9_1 : w7.cell? ⟨gb101, 1, none⟩ = some (.string a0_1) := (blk_cell BK101.out 1).trans rfl; have hcz9_2 : w7.cell? ⟨gb101, 2, none⟩ = some (.string a0_2) := (blk_cell BK101.out 2).trans rfl; have hcz9_3 : w7.cell? ⟨gb101, 3, none⟩ = some (.slice A0_3 l0_3.length c0_3) := (blk_cell BK101.out 3).trans rfl; have hfz9_0 := blk_frozen BK101.out 0; have hfz9_1 := blk_frozen BK101.out 1; have hfz9_2 := blk_frozen BK101.out 2; have hfz9_3 := blk_frozen BK101.out 3))
    go_step3
    go_step; rename_i hK; refine hK _ _ (key k _ _ ?_); exact ⟨gb101, v103, y102, H', GE101, ⟨hB33⟩, ⟨hB40⟩, ⟨hB72⟩, _, _, _, _, _, _, _, _, _, _, _, _, _, _, _, _, _, _, _, _, _, _, _, _, _, _, _, _, _, _, _, _, _, _, _, _, _, _, _, _, _, _, _, _, _, _, _, _, _, _, _, _, _, _, _, _, _, _, _, _, _, _, _, _, _, _, rfl⟩
  case pass =>
    intro gk0 a' w' hJ; obtain ⟨gb101, v103, x3_0, H', GE101, HO_3, BK101, HB, u4, u5, u6, u7, u8, u9, u10, u11, u12, u13, u14, u15, u16, u17, u18, u19, u20, u21, u22, u23, u24, u25, u26, u27, u28, u29, u30, u31, u32, u33, u34, u35, u36, u37, u38, u39, u40, u41, u42, u43, u44, u45, u46, u47, u48, u49, u50, u51, u52, u53, u54, u55, u56, u57, u58, u59, u60, u61, u62, u63, u64, u65, u66, u67, u68, u69, hfr⟩ := hJ; subst hfr; have hcz9_0 : w'.cell? ⟨gb101, 0, none⟩ = some (.slice A0_0 l0_0.length c0_0) := (blk_cell BK101.out 0).trans rfl; have hfz9_0 := blk_frozen BK101.out 0; have hcz9_1 : w'.cell? ⟨gb101, 1, none⟩ = some (.string a0_1) := (blk_cell BK101.out 1).trans rfl; have hfz9_1 := blk_frozen BK101.out 1; have hcz9_2 : w'.cell? ⟨gb101, 2, none⟩ = some (.string a0_2) := (blk_cell BK101.out 2).trans rfl; have hfz9_2 := blk_frozen BK101.out 2; have hcz9_3 : w'.cell? ⟨gb101, 3, none⟩ = some (.slice A0_3 l0_3.length c0_3) := (blk_cell BK101.out 3).trans rfl; have hfz9_3 := blk_frozen BK101.out 3; go_wp2
    go_loopg [4] gk0 (fun kq v4 w' => ∃ (x3_1 : List Int) (x4_1 : Int), v4 = .int .i64 x4_1 ∧ Aside0 (live_In.l0 kq x3_1 x4_1 l0_0 a0_1 a0_2 l0_3 = some r) ∧ Aside0 (kq ≤ gk0) ∧ Aside0 (Kd.R (Kd.int .u8) 5 w' w.heap.size (fun _ => True) v103 x3_1) ∧ Aside0 (w'.heap[gb101]? = some (.cells #[(.slice A0_0 l0_0.length c0_0), .string a0_1, .string a0_2, (.slice A0_3 l0_3.length c0_3)] 25 (0, 0))) ∧ Aside0 (Below w.heap.size w w'))
    case atStart => exact ⟨(x3_0), (wrap64 ((l0_3.length : Int) - 1)), hB64, H', ⟨Nat.le_refl _⟩, ⟨hB38⟩, ⟨hB40⟩, ⟨hB72⟩⟩
    case round =>
      clear H'; (try clear c1); (try clear p2); (try clear c3); (try clear c3b0); (try clear c3b1); (try clear c4); (try clear c4b0); (try clear c4b1); (try clear p6); (try clear hcz6_0); (try clear hcz6_1); (try clear hcz6_2); (try clear hcz6_3); (try clear hcz9_0); (try clear hcz9_1); (try clear hcz9_2); (try clear hcz9_3); (try clear hfz6_0); (try clear hfz6_1); (try clear hfz6_2); (try clear hfz6_3); (try clear hfz9_0); (try clear hfz9_1); (try clear hfz9_2); (try clear hfz9_3); obtain ⟨x3_1, x4_1, rfl, HA, HK1, HO_3, BK101, HB⟩ := hrel
      cases gk with
      | zero => exact absurd HA.out (by simp [live_In.l0])
      | succ k1 =>
        have H := HA.out; clear HA; simp only [live_In.l0] at H; by_cases c10 : x4_1 ≥ 0
        rotate_left
        · rw [if_neg c10] at H; have c10b0 : decide (0 ≤ x4_1) = false := decide_eq_false c10; clear c10; obtain rfl := Option.some.inj H; go_wp2; simp only [Exit.jump]; go_ret; exact ⟨_, by first | rfl | (simp [errW_none, errW_some] <;> rfl) | (simp only [← hji2]; first | rfl | (simp [errW_none, errW_some] <;> rfl)) | (simp [*, errW_none, errW_some] <;> rfl), by (with_reducible repeat (first | apply Kd.R_alloc | apply Kd.R_drewN | apply Kd.R_drew)); exact HO_3.out, hB72⟩
        rw [if_pos c10] at H; have c10b0 : decide (0 ≤ x4_1) = true := decide_eq_true c10; clear c10; replace H := Option.bind_eq_some_iff.mp H; obtain ⟨t105, A110, H⟩ := H; replace H : (live_In.l1 k1 x3_1 x4_1 0 t105 (t105.length : Int) 0 l0_0 a0_1 a0_2 l0_3) = some r := H; have A11 := Aside0.mk A110; clear A110; have H' := Aside0.mk H; clear H; have hcz12_0 : wr.cell? ⟨gb101, 0, none⟩ = some (.slice A0_0 l0_0.length c0_0) := (blk_cell BK101.out 0).trans rfl; have hcz12_1 : wr.cell? ⟨gb101, 1, none⟩ = some (.string a0_1) := (blk_cell BK101.out 1).trans rfl; have hcz12_2 : wr.cell? ⟨gb101, 2, none⟩ = some (.string a0_2) := (blk_cell BK101.out 2).trans rfl; have hcz12_3 : wr.cell? ⟨gb101, 3, none⟩ = some (.slice A0_3 l0_3.length c0_3) := (blk_cell BK101.out 3).trans rfl; have hfz12_0 := blk_frozen BK101.out 0; have hfz12_1 := blk_frozen BK101.out 1; have hfz12_2 := blk_frozen BK101.out 2; have hfz12_3 := blk_frozen BK101.out 3
        go_wp2_with (first | ((with_reducible refine gate_callee (f := 13) rfl ?_); refine goesL_ (some 23) rfl rfl Tryd.func13 (by kernel_rfl) rfl #[.agg #[.slice A0_0 l0_0.length c0_0, .string a0_1, .string a0_2, .slice A0_3 l0_3.length c0_3], .int .i64 x4_1] rfl hB1 ?_; (with_reducible refine (flow_Next.calls _ _ l0_0 a0_1 a0_2 _ _ l0_3 x4_1 t105 _ ?side1 ?side2 ?side3 ?side4 A11.out).mono ?_); (case side1 => repeat (first | exact (Kd.C_below HR0_0.out HB.out) | (with_reducible refine Kd.C_alloc ?_ _) | (with_reducible refine Kd.C_drewN ?_ _) | (with_reducible refine Kd.C_drew ?_))); (case side2 => exact HC0_0.out); (case side3 => repeat (first | exact (Kd.C_below HR0_3.out HB.out) | (with_reducible refine Kd.C_alloc ?_ _) | (with_reducible refine Kd.C_drewN ?_ _) | (with_reducible refine Kd.C_drew ?_))); (case side4 => exact HC0_3.out); rintro e w13 ⟨v106, rfl, ho0, hb⟩; refine ⟨_, rfl, ?_⟩; have n0_ := Aside0.mk (Kd.R_below hB38 hb); have n1_ := Aside0.mk (Kd.R_lower ho0 (below_size hB72)); have n2_ := Aside0.mk (blk_below (g := gb101) (o := .cells #[.slice A0_0 l0_0.length c0_0, .string a0_1, .string a0_2, .slice A0_3 l0_3.length c0_3] 25 (0, 0)) hB40 hb); have n3_ := Aside0.mk (below_step hB72 hb); clear HO_3; clear BK101; clear HB; have HO_3 := n0_; have HO107 := n1_; have BK101 := n2_; have HB := n3_; clear n0_ n1_ n2_ n3_; (try clear hb); (try clear hb2); (try clear hk); (try clear hi); (try clear ho0); obtain ⟨Ao14, co14, eo14⟩ := Kd.R_slice HO107.out; subst eo14))
        go_loopg [5, 25] k1 (fun kq v5 v25 w' => ∃ (x5_2 : Int) (x25_2 : Int), v5 = .int .u8 x5_2 ∧ v25 = .int .i64 x25_2 ∧ Aside0 (live_In.l1 kq x3_1 x4_1 x5_2 t105 (t105.length : Int) x25_2 l0_0 a0_1 a0_2 l0_3 = some r) ∧ Aside0 (kq ≤ k1) ∧ Aside0 (Kd.R (Kd.int .u8) 5 w' w.heap.size (fun _ => True) v103 x3_1) ∧ Aside0 (Kd.R (Kd.int .i64) 3 w' w.heap.size (fun _ => True) (.slice Ao14 t105.length co14) t105) ∧ Aside0 (w'.heap[gb101]? = some (.cells #[(.slice A0_0 l0_0.length c0_0), .string a0_1, .string a0_2, (.slice A0_3 l0_3.length c0_3)] 25 (0, 0))) ∧ Aside0 (Below w.heap.size w w'))
        case atStart => exact ⟨(0), (0), hB64, hB64, H', ⟨Nat.le_refl _⟩, ⟨hB38⟩, ⟨by (with_reducible repeat (first | apply Kd.R_alloc | apply Kd.R_drewN | apply Kd.R_drew)); exact HO107.out⟩, ⟨hB40⟩, ⟨hB72⟩⟩
        case round =>
          clear H'; (try clear c1); (try clear p2); (try clear c3); (try clear c3b0); (try clear c3b1); (try clear c4); (try clear c4b0); (try clear c4b1); (try clear p6); (try clear c10); (try clear c10b0); (try clear c13); (try clear hcz12_0); (try clear hcz12_1); (try clear hcz12_2); (try clear hcz12_3); (try clear hcz6_0); (try clear hcz6_1); (try clear hcz6_2); (try clear hcz6_3); (try clear hcz9_0); (try clear hcz9_1); (try clear hcz9_2); (try clear hcz9_3); (try clear hfz12_0); (try clear hfz12_1); (try clear hfz12_2); (try clear hfz12_3); (try clear hfz6_0); (try clear hfz6_1); (try clear hfz6_2); (try clear hfz6_3); (try clear hfz9_0); (try clear hfz9_1); (try clear hfz9_2); (try clear hfz9_3); (try clear p2); (try clear p6); obtain ⟨x5_2, x25_2, rfl, rfl, HA, HK2, HO_3, HO_23, BK101, HB⟩ := hrel
          cases gk with
          | zero => exact absurd HA.out (by simp [live_In.l1])
          | succ k2 =>
            have H := HA.out; clear HA; simp only [live_In.l1] at H; by_cases c15 : x25_2 < (t105.length : Int)
            · rw [if_pos c15] at H; have c15b0 : decide (x25_2 < (t105.length : Int)) = true := decide_eq_true c15; clear c15; by_cases c16 : 0 ≤ x25_2
              rotate_left
              · rw [if_neg c16] at H; exact absurd H (by simp)
              rw [if_pos c16] at H; have c16b0 : decide (0 ≤ x25_2) = true := decide_eq_true c16; clear c16; by_cases c17 : x25_2 < (t105.length : Int)
              rotate_left
              · rw [if_neg c17] at H; exact absurd H (by simp)
              rw [if_pos c17] at H; have c17b0 : decide (x25_2 < (t105.length : Int)) = true := decide_eq_true c17; clear c17; by_cases c18 : (rd t105 x25_2) ≥ 0
              rotate_left
              · rw [if_neg c18] at H; have c18b0 : decide (0 ≤ (rd t105 x25_2)) = false := decide_eq_false c18; clear c18; have H' := Aside0.mk H; clear H; have p108 : 0 ≤ (x25_2 : Int) := of_decide_eq_true hB63; have q108 : x25_2 < (t105.length : Int) := of_decide_eq_true hB63; obtain ⟨ad108, e108, hx108_0⟩ := Kd.at_int (Kd.R_reads' HO_23.out).2.2 x25_2 p108 q108
                cases e108
                replace p108 := eq_true p108; replace q108 := eq_true q108; go_wp2; go_roundg k2
                case measure => have := HK1.out; have := HK2.out; omega
                case rel => exact ⟨(x5_2), (wrap64 (x25_2 + 1)), hB64, hB64, H', ⟨by have := HK1.out; have := HK2.out; omega⟩, ⟨hB38⟩, ⟨hB37⟩, ⟨hB40⟩, ⟨hB72⟩⟩
              rw [if_pos c18] at H; have c18b0 : decide (0 ≤ (rd t105 x25_2)) = true := decide_eq_true c18; clear c18; by_cases c19 : (rd t105 x25_2) < (x3_1.length : Int)
              rotate_left
              · rw [if_neg c19] at H; have c19b0 : decide ((rd t105 x25_2) < (x3_1.length : Int)) = false := decide_eq_false c19; clear c19; have H' := Aside0.mk H; clear H; have p108 : 0 ≤ (x25_2 : Int) := of_decide_eq_true hB63; have q108 : x25_2 < (t105.length : Int) := of_decide_eq_true hB63; obtain ⟨ad108, e108, hx108_0⟩ := Kd.at_int (Kd.R_reads' HO_23.out).2.2 x25_2 p108 q108
                cases e108
                replace p108 := eq_true p108; replace q108 := eq_true q108; obtain ⟨Ao22, co22, eo22⟩ := Kd.R_slice HO_3.out; subst eo22; go_wp2; go_roundg k2
                case measure => have := HK1.out; have := HK2.out; omega
                case rel => exact ⟨(x5_2), (wrap64 (x25_2 + 1)), hB64, hB64, H', ⟨by have := HK1.out; have := HK2.out; omega⟩, ⟨hB38⟩, ⟨hB37⟩, ⟨hB40⟩, ⟨hB72⟩⟩
              rw [if_pos c19] at H; have c19b0 : decide ((rd t105 x25_2) < (x3_1.length : Int)) = true := decide_eq_true c19; clear c19; by_cases c20 : 0 ≤ (rd t105 x25_2)
              rotate_left
              · rw [if_neg c20] at H; exact absurd H (by simp)
              rw [if_pos c20] at H; have c20b0 : decide (0 ≤ (rd t105 x25_2)) = true := decide_eq_true c20; clear c20; have H' := Aside0.mk H; clear H; have p108 : 0 ≤ (x25_2 : Int) := of_decide_eq_true hB63; have q108 : x25_2 < (t105.length : Int) := of_decide_eq_true hB63; obtain ⟨ad108, e108, hx108_0⟩ := Kd.at_int (Kd.R_reads' HO_23.out).2.2 x25_2 p108 q108
              cases e108
              replace p108 := eq_true p108; replace q108 := eq_true q108; obtain ⟨Ao21, co21, eo21⟩ := Kd.R_slice HO_3.out; subst eo21; have p109 : 0 ≤ ((rd t105 x25_2) : Int) := of_decide_eq_true hB63; have q109 : (rd t105 x25_2) < (x3_1.length : Int) := of_decide_eq_true hB63; obtain ⟨ad109, e109, hx109_0⟩ := Kd.at_int (Kd.R_reads' HO_3.out).2.2 (rd t105 x25_2) p109 q109
              cases e109
              replace p109 := eq_true p109; replace q109 := eq_true q109; go_wp2; go_roundg k2
              case measure => have := HK1.out; have := HK2.out; omega
              case rel => exact ⟨(Go.bits .or .u8 x5_2 (rd x3_1 (rd t105 x25_2))), (wrap64 (x25_2 + 1)), hB64, hB64, H', ⟨by have := HK1.out; have := HK2.out; omega⟩, ⟨hB38⟩, ⟨hB37⟩, ⟨hB40⟩, ⟨hB72⟩⟩
            rw [if_neg c15] at H; have c15b0 : decide (x25_2 < (t105.length : Int)) = false := decide_eq_false c15; clear c15; by_cases c23 : 0 ≤ x4_1
            rotate_left
            · rw [if_neg c23] at H; exact absurd H (by simp)
            rw [if_pos c23] at H; have c23b0 : decide (0 ≤ x4_1) = true := decide_eq_true c23; clear c23; by_cases c24 : x4_1 < (l0_3.length : Int)
            rotate_left
            · rw [if_neg c24] at H; exact absurd H (by simp)
            rw [if_pos c24] at H; have c24b0 : decide (x4_1 < (l0_3.length : Int)) = true := decide_eq_true c24; clear c24; replace H := Option.bind_eq_some_iff.mp H; obtain ⟨t111, A250, H⟩ := H; replace H : ((live_Uses.f k2 ((rd_T47 l0_3 x4_1).f0) ((rd_T47 l0_3 x4_1).f1) ((rd_T47 l0_3 x4_1).f2) ((rd_T47 l0_3 x4_1).f3) ((rd_T47 l0_3 x4_1).f4)).bind fun t113 => (if x4_1 < (x3_1.length : Int) then (if (Go.bits .or .u8 (Go.bits .andNot .u8 x5_2 t111) t113) = (rd x3_1 x4_1) then (live_In.l0 k2 x3_1 (wrap64 (x4_1 - 1)) l0_0 a0_1 a0_2 l0_3) else (live_In.l0 k2 (x3_1.set (x4_1 : Int).toNat (Go.bits .or .u8 (Go.bits .andNot .u8 x5_2 t111) t113)) (wrap64 ((l0_3.length : Int) - 1)) l0_0 a0_1 a0_2 l0_3)) else (none))) = some r := H; have A25 := Aside0.mk A250; clear A250; replace H := Option.bind_eq_some_iff.mp H; obtain ⟨t113, A260, H⟩ := H; replace H : (if x4_1 < (x3_1.length : Int) then (if (Go.bits .or .u8 (Go.bits .andNot .u8 x5_2 t111) t113) = (rd x3_1 x4_1) then (live_In.l0 k2 x3_1 (wrap64 (x4_1 - 1)) l0_0 a0_1 a0_2 l0_3) else (live_In.l0 k2 (x3_1.set (x4_1 : Int).toNat (Go.bits .or .u8 (Go.bits .andNot .u8 x5_2 t111) t113)) (wrap64 ((l0_3.length : Int) - 1)) l0_0 a0_1 a0_2 l0_3)) else (none)) = some r := H; have A26 := Aside0.mk A260; clear A260; by_cases c27 : x4_1 < (x3_1.length : Int)
            rotate_left
            · rw [if_neg c27] at H; exact absurd H (by simp)
            rw [if_pos c27] at H; have c27b0 : decide (x4_1 < (x3_1.length : Int)) = true := decide_eq_true c27; clear c27; by_cases c28 : (Go.bits .or .u8 (Go.bits .andNot .u8 x5_2 t111) t113) = (rd x3_1 x4_1)
            · rw [if_pos c28] at H; have c28b0 : ((Go.bits .or .u8 (Go.bits .andNot .u8 x5_2 t111) t113) == (rd x3_1 x4_1)) = true := beq_iff_eq.mpr c28; have c28b1 : ((Go.bits .or .u8 (Go.bits .andNot .u8 x5_2 t111) t113) != (rd x3_1 x4_1)) = false := bne_eq_false_iff_eq.mpr c28; clear c28; have H' := Aside0.mk H; clear H; try go_wp2
              have n0_ := Aside0.mk (Kd.R_drew HO_3.out); have n1_ := Aside0.mk (Kd.R_drew HO_23.out); have n2_ := Aside0.mk (blk_drew BK101.out); have n3_ := Aside0.mk (below_drew1 HB.out); clear HO_3; clear HO_23; clear BK101; clear HB; have HO_3 := n0_; have HO_23 := n1_; have BK101 := n2_; have HB := n3_; clear n0_ n1_ n2_ n3_; have p110 : 0 ≤ (x4_1 : Int) := of_decide_eq_true hB63; have q110 : x4_1 < (l0_3.length : Int) := of_decide_eq_true hB63; obtain ⟨ad110, e110, hx110_0, hx110_1, hx110_2, hx110_3, hx110_4⟩ := at_T47 HR0_3.out x4_1 p110 q110; have hw110_4 := hx110_4; have hw110_3 := hx110_3; have hw110_2 := hx110_2; have hw110_1 := hx110_1; have hw110_0 := hx110_0
              cases e110
              replace hx110_0 := (HB.out.cell (World.block_lt_of_cell? w _ hx110_0)).trans hx110_0; replace hx110_1 := (HB.out.cell (World.block_lt_of_cell? w _ hx110_1)).trans hx110_1; replace hx110_2 := (HB.out.cell (World.block_lt_of_cell? w _ hx110_2)).trans hx110_2; replace hx110_3 := (HB.out.cell (World.block_lt_of_cell? w _ hx110_3)).trans hx110_3; replace hx110_4 := (HB.out.cell (World.block_lt_of_cell? w _ hx110_4)).trans hx110_4; replace p110 := eq_true p110; replace q110 := eq_true q110; have p112 : 0 ≤ (x4_1 : Int) := of_decide_eq_true hB63; have q112 : x4_1 < (l0_3.length : Int) := of_decide_eq_true hB63; obtain ⟨ad112, e112, hx112_0, hx112_1, hx112_2, hx112_3, hx112_4⟩ := at_T47 HR0_3.out x4_1 p112 q112; have hw112_4 := hx112_4; have hw112_3 := hx112_3; have hw112_2 := hx112_2; have hw112_1 := hx112_1; have hw112_0 := hx112_0; obtain rfl : ad110 = ad112 := (by injection e112); replace hx112_0 := (HB.out.cell (World.block_lt_of_cell? w _ hx112_0)).trans hx112_0; replace hx112_1 := (HB.out.cell (World.block_lt_of_cell? w _ hx112_1)).trans hx112_1; replace hx112_2 := (HB.out.cell (World.block_lt_of_cell? w _ hx112_2)).trans hx112_2; replace hx112_3 := (HB.out.cell (World.block_lt_of_cell? w _ hx112_3)).trans hx112_3; replace hx112_4 := (HB.out.cell (World.block_lt_of_cell? w _ hx112_4)).trans hx112_4; replace p112 := eq_true p112; replace q112 := eq_true q112; refine start_ (n := 16) (S := fun w' => w'.cell? ⟨gb101, 0, none⟩ = some (.slice A0_0 l0_0.length c0_0) ∧ w'.cell? ⟨gb101, 1, none⟩ = some (.string a0_1) ∧ w'.cell? ⟨gb101, 2, none⟩ = some (.string a0_2) ∧ w'.cell? ⟨gb101, 3, none⟩ = some (.slice (some ad110) l0_3.length c0_3) ∧ w'.cell? (ad110.add ((x4_1).toNat * 5)) = some (.int .u8 ((rd_T47 l0_3 x4_1).f0)) ∧ w'.cell? ⟨(ad110.add ((x4_1).toNat * 5)).block, (ad110.add ((x4_1).toNat * 5)).off + 1, none⟩ = some (.int .u8 ((rd_T47 l0_3 x4_1).f1)) ∧ w'.cell? ⟨(ad110.add ((x4_1).toNat * 5)).block, (ad110.add ((x4_1).toNat * 5)).off + 2, none⟩ = some (.int .u8 ((rd_T47 l0_3 x4_1).f2)) ∧ w'.cell? ⟨(ad110.add ((x4_1).toNat * 5)).block, (ad110.add ((x4_1).toNat * 5)).off + 3, none⟩ = some (.int .u8 ((rd_T47 l0_3 x4_1).f3)) ∧ w'.cell? ⟨(ad110.add ((x4_1).toNat * 5)).block, (ad110.add ((x4_1).toNat * 5)).off + 4, none⟩ = some (.int .i64 ((rd_T47 l0_3 x4_1).f4)) ∧ w'.cell? (ad110.add ((x4_1).toNat * 5)) = some (.int .u8 ((rd_T47 l0_3 x4_1).f0)) ∧ w'.cell? ⟨(ad110.add ((x4_1).toNat * 5)).block, (ad110.add ((x4_1).toNat * 5)).off + 1, none⟩ = some (.int .u8 ((rd_T47 l0_3 x4_1).f1)) ∧ w'.cell? ⟨(ad110.add ((x4_1).toNat * 5)).block, (ad110.add ((x4_1).toNat * 5)).off + 2, none⟩ = some (.int .u8 ((rd_T47 l0_3 x4_1).f2)) ∧ w'.cell? ⟨(ad110.add ((x4_1).toNat * 5)).block, (ad110.add ((x4_1).toNat * 5)).off + 3, none⟩ = some (.int .u8 ((rd_T47 l0_3 x4_1).f3)) ∧ w'.cell? ⟨(ad110.add ((x4_1).toNat * 5)).block, (ad110.add ((x4_1).toNat * 5)).off + 4, none⟩ = some (.int .i64 ((rd_T47 l0_3 x4_1).f4))) (ds := []) #[false, false, false, false, false, false, false, false, false, false, false, false, false, false, false, false] (by kernel_rfl) rfl rfl ⟨(blk_cell BK101.out 0).trans rfl, (blk_cell BK101.out 1).trans rfl, (blk_cell BK101.out 2).trans rfl, (blk_cell BK101.out 3).trans rfl, ((HB.out.cell (World.block_lt_of_cell? w _ hw110_0)).trans hw110_0), ((HB.out.cell (World.block_lt_of_cell? w _ hw110_1)).trans hw110_1), ((HB.out.cell (World.block_lt_of_cell? w _ hw110_2)).trans hw110_2), ((HB.out.cell (World.block_lt_of_cell? w _ hw110_3)).trans hw110_3), ((HB.out.cell (World.block_lt_of_cell? w _ hw110_4)).trans hw110_4), ((HB.out.cell (World.block_lt_of_cell? w _ hw112_0)).trans hw112_0), ((HB.out.cell (World.block_lt_of_cell? w _ hw112_1)).trans hw112_1), ((HB.out.cell (World.block_lt_of_cell? w _ hw112_2)).trans hw112_2), ((HB.out.cell (World.block_lt_of_cell? w _ hw112_3)).trans hw112_3), ((HB.out.cell (World.block_lt_of_cell? w _ hw112_4)).trans hw112_4)⟩ (fun hHeld => ?_); refine with_tabW live_In.tab12 live_In.bits12 (fun HT_ HW_ => ?_); generalize wr.drew = w29 at HO_3 HO_23 BK101 HB hx110_0 hx110_1 hx110_2 hx110_3 hx110_4 hx112_0 hx112_1 hx112_2 hx112_3 hx112_4 hHeld ⊢; refine pure_ (i := 0) (N := some 44) (v := ?_) (a' := ?_) (mk_ 16 1) rfl rfl (any_of HT_.out (by kernel_rfl)) (fun _ _ _ h => h) (Or.inl ⟨by rfl, ?_⟩) ?_ ?_; rotate_left
              · intro w'; go_simp; with_reducible rfl
              rotate_left
              · simp only [Act.put, List.setIfInBounds_toArray, List.set_cons_zero, List.set_cons_succ, i64_w, i32_w]; rfl
              refine pure_ (i := 1) (N := some 45) (v := ?_) (a' := ?_) (mk_ 16 3) rfl rfl (any_of HT_.out (by kernel_rfl)) (fun _ _ _ h => h) (Or.inl ⟨by rfl, ?_⟩) ?_ ?_; rotate_left
              · intro w'; go_simp; with_reducible rfl
              rotate_left
              · simp only [Act.put, List.setIfInBounds_toArray, List.set_cons_zero, List.set_cons_succ, i64_w, i32_w]; rfl
              refine pure_ (i := 3) (N := some 47) (v := ?_) (a' := ?_) (mk_ 16 11) rfl rfl (any_of HT_.out (by kernel_rfl)) (fun _ _ _ h => h) (Or.inl ⟨by rfl, ?_⟩) ?_ ?_; rotate_left
              · intro w'; go_simp; with_reducible rfl
              rotate_left
              · simp only [Act.put, List.setIfInBounds_toArray, List.set_cons_zero, List.set_cons_succ, i64_w, i32_w]; rfl
              refine pure_ (i := 8) (N := some 52) (v := ?_) (a' := ?_) (mk_ 16 267) rfl rfl (any_of HT_.out (by kernel_rfl)) (fun _ _ _ h => h) (Or.inl ⟨by rfl, ?_⟩) ?_ ?_; rotate_left
              · intro w'; go_simp; with_reducible rfl
              rotate_left
              · simp only [Act.put, List.setIfInBounds_toArray, List.set_cons_zero, List.set_cons_succ, i64_w, i32_w]; rfl
              refine pure_ (i := 10) (N := some 54) (v := ?_) (a' := ?_) (mk_ 16 1291) rfl rfl (any_of HT_.out (by kernel_rfl)) (fun _ _ _ h => h) (Or.inl ⟨by rfl, ?_⟩) ?_ ?_; rotate_left
              · intro w'; go_simp; with_reducible rfl
              rotate_left
              · simp only [Act.put, List.setIfInBounds_toArray, List.set_cons_zero, List.set_cons_succ, i64_w, i32_w]; rfl
              refine take_ (i := 2) (N := some 46) (v := ?_) (a' := ?_) (mk_ 16 1295) rfl rfl (take_ofW HT_.out HW_.out (by kernel_rfl)) (fun _ _ _ h => h) (Or.inl ⟨by rfl, ?_⟩) hHeld ?_ ?_; rotate_left
              · rintro w' ⟨s0, s1, s2, s3, s4, s5, s6, s7, s8, s9, s10, s11, s12, s13⟩; go_simp; with_reducible rfl
              rotate_left
              · simp only [Act.put, List.setIfInBounds_toArray, List.set_cons_zero, List.set_cons_succ, i64_w, i32_w]; rfl
              refine pure_ (i := 4) (N := some 48) (v := ?_) (a' := ?_) (mk_ 16 1311) rfl rfl (any_of HT_.out (by kernel_rfl)) (fun _ _ _ h => h) (Or.inl ⟨by rfl, ?_⟩) ?_ ?_; rotate_left
              · intro w'; go_simp; with_reducible rfl
              rotate_left
              · simp only [Act.put, List.setIfInBounds_toArray, List.set_cons_zero, List.set_cons_succ, i64_w, i32_w]; rfl
              refine take_ (i := 5) (N := some 49) (v := ?_) (a' := ?_) (mk_ 16 1343) rfl rfl (take_ofW HT_.out HW_.out (by kernel_rfl)) (fun _ _ _ h => h) (Or.inl ⟨by rfl, ?_⟩) hHeld ?_ ?_; rotate_left
              · rintro w' ⟨s0, s1, s2, s3, s4, s5, s6, s7, s8, s9, s10, s11, s12, s13⟩; go_simp; with_reducible rfl
              rotate_left
              · simp only [Act.put, List.setIfInBounds_toArray, List.set_cons_zero, List.set_cons_succ, i64_w, i32_w]; rfl
              refine take_ (i := 9) (N := some 53) (v := ?_) (a' := ?_) (mk_ 16 1855) rfl rfl (take_ofW HT_.out HW_.out (by kernel_rfl)) (fun _ _ _ h => h) (Or.inl ⟨by rfl, ?_⟩) hHeld ?_ ?_; rotate_left
              · rintro w' ⟨s0, s1, s2, s3, s4, s5, s6, s7, s8, s9, s10, s11, s12, s13⟩; go_simp; with_reducible rfl
              rotate_left
              · simp only [Act.put, List.setIfInBounds_toArray, List.set_cons_zero, List.set_cons_succ, i64_w, i32_w]; rfl
              refine pure_ (i := 11) (N := some 55) (v := ?_) (a' := ?_) (mk_ 16 3903) rfl rfl (any_of HT_.out (by kernel_rfl)) (fun _ _ _ h => h) (Or.inl ⟨by rfl, ?_⟩) ?_ ?_; rotate_left
              · intro w'; go_simp; with_reducible rfl
              rotate_left
              · simp only [Act.put, List.setIfInBounds_toArray, List.set_cons_zero, List.set_cons_succ, i64_w, i32_w]; rfl
              refine take_ (i := 12) (N := some 56) (v := ?_) (a' := ?_) (mk_ 16 7999) rfl rfl (take_ofW HT_.out HW_.out (by kernel_rfl)) (fun _ _ _ h => h) (Or.inl ⟨by rfl, ?_⟩) hHeld ?_ ?_; rotate_left
              · rintro w' ⟨s0, s1, s2, s3, s4, s5, s6, s7, s8, s9, s10, s11, s12, s13⟩; go_simp; with_reducible rfl
              rotate_left
              · simp only [Act.put, List.setIfInBounds_toArray, List.set_cons_zero, List.set_cons_succ, i64_w, i32_w]; rfl
              refine one_ (i := 6) (N := some 50) (mk_ 16 8063) rfl rfl (one_of HT_.out (by kernel_rfl)) (by decide) (fun K hK => ?_); refine goes_ Tryd.func18 (by kernel_rfl) rfl #[.agg #[.int .u8 ((rd_T47 l0_3 x4_1).f0), .int .u8 ((rd_T47 l0_3 x4_1).f1), .int .u8 ((rd_T47 l0_3 x4_1).f2), .int .u8 ((rd_T47 l0_3 x4_1).f3), .int .i64 ((rd_T47 l0_3 x4_1).f4)]] (by rfl) rfl rfl hB1 ?_; with_reducible refine (live_Sets.calls k2 ((rd_T47 l0_3 x4_1).f0) ((rd_T47 l0_3 x4_1).f1) ((rd_T47 l0_3 x4_1).f2) ((rd_T47 l0_3 x4_1).f3) ((rd_T47 l0_3 x4_1).f4) t111 _ A25.out).mono ?_; rintro e w30 ⟨rfl, hb⟩; refine ⟨_, rfl, ?_⟩; have n0_ := Aside0.mk (Kd.R_below hB38 hb); have n1_ := Aside0.mk (Kd.R_below hB37 hb); have n2_ := Aside0.mk (blk_below (g := gb101) (o := .cells #[.slice A0_0 l0_0.length c0_0, .string a0_1, .string a0_2, .slice (some ad110) l0_3.length c0_3] 25 (0, 0)) hB40 hb); have n3_ := Aside0.mk (below_step hB72 hb); clear HO_3; clear HO_23; clear BK101; clear HB; have HO_3 := n0_; have HO_23 := n1_; have BK101 := n2_; have HB := n3_; clear n0_ n1_ n2_ n3_; (try clear hb); (try clear hb2); (try clear hk); (try clear hi); refine hK.out _ _ ⟨(blk_cell BK101.out 0).trans rfl, (blk_cell BK101.out 1).trans rfl, (blk_cell BK101.out 2).trans rfl, (blk_cell BK101.out 3).trans rfl, ((HB.out.cell (World.block_lt_of_cell? w _ hw110_0)).trans hw110_0), ((HB.out.cell (World.block_lt_of_cell? w _ hw110_1)).trans hw110_1), ((HB.out.cell (World.block_lt_of_cell? w _ hw110_2)).trans hw110_2), ((HB.out.cell (World.block_lt_of_cell? w _ hw110_3)).trans hw110_3), ((HB.out.cell (World.block_lt_of_cell? w _ hw110_4)).trans hw110_4), ((HB.out.cell (World.block_lt_of_cell? w _ hw112_0)).trans hw112_0), ((HB.out.cell (World.block_lt_of_cell? w _ hw112_1)).trans hw112_1), ((HB.out.cell (World.block_lt_of_cell? w _ hw112_2)).trans hw112_2), ((HB.out.cell (World.block_lt_of_cell? w _ hw112_3)).trans hw112_3), ((HB.out.cell (World.block_lt_of_cell? w _ hw112_4)).trans hw112_4)⟩ (fun hHeld => ?_); clear hK K; refine norm_ (a' := ?_) ?_ ?_; rotate_left
              · show Act.put _ (some 50) _ = _
                simp only [Act.put, List.setIfInBounds_toArray, List.set_cons_zero, List.set_cons_succ, i64_w, i32_w]; rfl
              refine pure_ (i := 7) (N := some 51) (v := ?_) (a' := ?_) (mk_ 16 8191) rfl rfl (any_of HT_.out (by kernel_rfl)) (fun _ _ _ h => h) (Or.inl ⟨by rfl, ?_⟩) ?_ ?_; rotate_left
              · intro w'; go_simp; with_reducible rfl
              rotate_left
              · simp only [Act.put, List.setIfInBounds_toArray, List.set_cons_zero, List.set_cons_succ, i64_w, i32_w]; rfl
              refine one_ (i := 13) (N := some 57) (mk_ 16 16383) rfl rfl (one_of HT_.out (by kernel_rfl)) (by decide) (fun K hK => ?_); refine goes_ Tryd.func17 (by kernel_rfl) rfl #[.agg #[.int .u8 ((rd_T47 l0_3 x4_1).f0), .int .u8 ((rd_T47 l0_3 x4_1).f1), .int .u8 ((rd_T47 l0_3 x4_1).f2), .int .u8 ((rd_T47 l0_3 x4_1).f3), .int .i64 ((rd_T47 l0_3 x4_1).f4)]] (by rfl) rfl rfl hB1 ?_; with_reducible refine (live_Uses.calls k2 ((rd_T47 l0_3 x4_1).f0) ((rd_T47 l0_3 x4_1).f1) ((rd_T47 l0_3 x4_1).f2) ((rd_T47 l0_3 x4_1).f3) ((rd_T47 l0_3 x4_1).f4) t113 _ A26.out).mono ?_; rintro e w31 ⟨rfl, hb⟩; refine ⟨_, rfl, ?_⟩; have n0_ := Aside0.mk (Kd.R_below hB38 hb); have n1_ := Aside0.mk (Kd.R_below hB37 hb); have n2_ := Aside0.mk (blk_below (g := gb101) (o := .cells #[.slice A0_0 l0_0.length c0_0, .string a0_1, .string a0_2, .slice (some ad110) l0_3.length c0_3] 25 (0, 0)) hB40 hb); have n3_ := Aside0.mk (below_step hB72 hb); clear HO_3; clear HO_23; clear BK101; clear HB; have HO_3 := n0_; have HO_23 := n1_; have BK101 := n2_; have HB := n3_; clear n0_ n1_ n2_ n3_; (try clear hb); (try clear hb2); (try clear hk); (try clear hi); refine hK.out _ _ ⟨(blk_cell BK101.out 0).trans rfl, (blk_cell BK101.out 1).trans rfl, (blk_cell BK101.out 2).trans rfl, (blk_cell BK101.out 3).trans rfl, ((HB.out.cell (World.block_lt_of_cell? w _ hw110_0)).trans hw110_0), ((HB.out.cell (World.block_lt_of_cell? w _ hw110_1)).trans hw110_1), ((HB.out.cell (World.block_lt_of_cell? w _ hw110_2)).trans hw110_2), ((HB.out.cell (World.block_lt_of_cell? w _ hw110_3)).trans hw110_3), ((HB.out.cell (World.block_lt_of_cell? w _ hw110_4)).trans hw110_4), ((HB.out.cell (World.block_lt_of_cell? w _ hw112_0)).trans hw112_0), ((HB.out.cell (World.block_lt_of_cell? w _ hw112_1)).trans hw112_1), ((HB.out.cell (World.block_lt_of_cell? w _ hw112_2)).trans hw112_2), ((HB.out.cell (World.block_lt_of_cell? w _ hw112_3)).trans hw112_3), ((HB.out.cell (World.block_lt_of_cell? w _ hw112_4)).trans hw112_4)⟩ (fun hHeld => ?_); clear hK K; refine norm_ (a' := ?_) ?_ ?_; rotate_left
              · show Act.put _ (some 57) _ = _
                simp only [Act.put, List.setIfInBounds_toArray, List.set_cons_zero, List.set_cons_succ, i64_w, i32_w]; rfl
              refine pure_ (i := 14) (N := some 58) (v := ?_) (a' := ?_) (mk_ 16 32767) rfl rfl (any_of HT_.out (by kernel_rfl)) (fun _ _ _ h => h) (Or.inl ⟨by rfl, ?_⟩) ?_ ?_; rotate_left
              · intro w'; go_simp; with_reducible rfl
              rotate_left
              · simp only [Act.put, List.setIfInBounds_toArray, List.set_cons_zero, List.set_cons_succ, i64_w, i32_w]; rfl
              refine pure_ (i := 15) (N := some 5) (v := ?_) (a' := ?_) (mk_ 16 65535) rfl rfl (any_of HT_.out (by kernel_rfl)) (fun _ _ _ h => h) (Or.inl ⟨by rfl, ?_⟩) ?_ ?_; rotate_left
              · intro w'; go_simp; with_reducible rfl
              rotate_left
              · simp only [Act.put, List.setIfInBounds_toArray, List.set_cons_zero, List.set_cons_succ, i64_w, i32_w]; rfl
              refine done_ (done_of HT_.out (by kernel_rfl)) ?_; obtain ⟨Ao32, co32, eo32⟩ := Kd.R_slice HO_3.out; subst eo32; have p114 : 0 ≤ (x4_1 : Int) := of_decide_eq_true hB63; have q114 : x4_1 < (x3_1.length : Int) := of_decide_eq_true hB63; obtain ⟨ad114, e114, hx114_0⟩ := Kd.at_int (Kd.R_reads' HO_3.out).2.2 x4_1 p114 q114
              cases e114
              replace p114 := eq_true p114; replace q114 := eq_true q114; try go_wp2
              go_roundg k2
              case measure => have := HK1.out; have := HK2.out; omega
              case rel => exact ⟨(x3_1), (wrap64 (x4_1 - 1)), hB64, H', ⟨by have := HK1.out; have := HK2.out; omega⟩, ⟨hB38⟩, ⟨hB40⟩, ⟨hB72⟩⟩
            rw [if_neg c28] at H; have c28b0 : ((Go.bits .or .u8 (Go.bits .andNot .u8 x5_2 t111) t113) == (rd x3_1 x4_1)) = false := beq_eq_false_iff_ne.mpr c28; have c28b1 : ((Go.bits .or .u8 (Go.bits .andNot .u8 x5_2 t111) t113) != (rd x3_1 x4_1)) = true := bne_iff_ne.mpr c28; obtain ⟨y115, hy115⟩ : ∃ y_ : List Int, y_ = (x3_1.set (x4_1 : Int).toNat (Go.bits .or .u8 (Go.bits .andNot .u8 x5_2 t111) t113)) := ⟨_, rfl⟩
            replace H : (live_In.l0 k2 y115 (wrap64 ((l0_3.length : Int) - 1)) l0_0 a0_1 a0_2 l0_3) = some r := by first | (rw [hy115]; with_reducible exact H) | (have H2_ := (Option.bind_some _ _).symm.trans H; rw [hy115]; with_reducible exact H2_) | (have H2_ := (Option.bind_some _ _).symm.trans H; with_reducible exact H2_) | with_reducible exact H | (rw [hy115]; exact H) | exact H
            have Ny115 := Aside0.mk hy115; clear hy115; have H' := Aside0.mk H; try go_wp2
            have n0_ := Aside0.mk (Kd.R_drew HO_3.out); have n1_ := Aside0.mk (Kd.R_drew HO_23.out); have n2_ := Aside0.mk (blk_drew BK101.out); have n3_ := Aside0.mk (below_drew1 HB.out); clear HO_3; clear HO_23; clear BK101; clear HB; have HO_3 := n0_; have HO_23 := n1_; have BK101 := n2_; have HB := n3_; clear n0_ n1_ n2_ n3_; have p110 : 0 ≤ (x4_1 : Int) := of_decide_eq_true hB63; have q110 : x4_1 < (l0_3.length : Int) := of_decide_eq_true hB63; obtain ⟨ad110, e110, hx110_0, hx110_1, hx110_2, hx110_3, hx110_4⟩ := at_T47 HR0_3.out x4_1 p110 q110; have hw110_4 := hx110_4; have hw110_3 := hx110_3; have hw110_2 := hx110_2; have hw110_1 := hx110_1; have hw110_0 := hx110_0
            cases e110
            replace hx110_0 := (HB.out.cell (World.block_lt_of_cell? w _ hx110_0)).trans hx110_0; replace hx110_1 := (HB.out.cell (World.block_lt_of_cell? w _ hx110_1)).trans hx110_1; replace hx110_2 := (HB.out.cell (World.block_lt_of_cell? w _ hx110_2)).trans hx110_2; replace hx110_3 := (HB.out.cell (World.block_lt_of_cell? w _ hx110_3)).trans hx110_3; replace hx110_4 := (HB.out.cell (World.block_lt_of_cell? w _ hx110_4)).trans hx110_4; replace p110 := eq_true p110; replace q110 := eq_true q110; have p112 : 0 ≤ (x4_1 : Int) := of_decide_eq_true hB63; have q112 : x4_1 < (l0_3.length : Int) := of_decide_eq_true hB63; obtain ⟨ad112, e112, hx112_0, hx112_1, hx112_2, hx112_3, hx112_4⟩ := at_T47 HR0_3.out x4_1 p112 q112; have hw112_4 := hx112_4; have hw112_3 := hx112_3; have hw112_2 := hx112_2; have hw112_1 := hx112_1; have hw112_0 := hx112_0; obtain rfl : ad110 = ad112 := (by injection e112); replace hx112_0 := (HB.out.cell (World.block_lt_of_cell? w _ hx112_0)).trans hx112_0; replace hx112_1 := (HB.out.cell (World.block_lt_of_cell? w _ hx112_1)).trans hx112_1; replace hx112_2 := (HB.out.cell (World.block_lt_of_cell? w _ hx112_2)).trans hx112_2; replace hx112_3 := (HB.out.cell (World.block_lt_of_cell? w _ hx112_3)).trans hx112_3; replace hx112_4 := (HB.out.cell (World.block_lt_of_cell? w _ hx112_4)).trans hx112_4; replace p112 := eq_true p112; replace q112 := eq_true q112; refine start_ (n := 16) (S := fun w' => w'.cell? ⟨gb101, 0, none⟩ = some (.slice A0_0 l0_0.length c0_0) ∧ w'.cell? ⟨gb101, 1, none⟩ = some (.string a0_1) ∧ w'.cell? ⟨gb101, 2, none⟩ = some (.string a0_2) ∧ w'.cell? ⟨gb101, 3, none⟩ = some (.slice (some ad110) l0_3.length c0_3) ∧ w'.cell? (ad110.add ((x4_1).toNat * 5)) = some (.int .u8 ((rd_T47 l0_3 x4_1).f0)) ∧ w'.cell? ⟨(ad110.add ((x4_1).toNat * 5)).block, (ad110.add ((x4_1).toNat * 5)).off + 1, none⟩ = some (.int .u8 ((rd_T47 l0_3 x4_1).f1)) ∧ w'.cell? ⟨(ad110.add ((x4_1).toNat * 5)).block, (ad110.add ((x4_1).toNat * 5)).off + 2, none⟩ = some (.int .u8 ((rd_T47 l0_3 x4_1).f2)) ∧ w'.cell? ⟨(ad110.add ((x4_1).toNat * 5)).block, (ad110.add ((x4_1).toNat * 5)).off + 3, none⟩ = some (.int .u8 ((rd_T47 l0_3 x4_1).f3)) ∧ w'.cell? ⟨(ad110.add ((x4_1).toNat * 5)).block, (ad110.add ((x4_1).toNat * 5)).off + 4, none⟩ = some (.int .i64 ((rd_T47 l0_3 x4_1).f4)) ∧ w'.cell? (ad110.add ((x4_1).toNat * 5)) = some (.int .u8 ((rd_T47 l0_3 x4_1).f0)) ∧ w'.cell? ⟨(ad110.add ((x4_1).toNat * 5)).block, (ad110.add ((x4_1).toNat * 5)).off + 1, none⟩ = some (.int .u8 ((rd_T47 l0_3 x4_1).f1)) ∧ w'.cell? ⟨(ad110.add ((x4_1).toNat * 5)).block, (ad110.add ((x4_1).toNat * 5)).off + 2, none⟩ = some (.int .u8 ((rd_T47 l0_3 x4_1).f2)) ∧ w'.cell? ⟨(ad110.add ((x4_1).toNat * 5)).block, (ad110.add ((x4_1).toNat * 5)).off + 3, none⟩ = some (.int .u8 ((rd_T47 l0_3 x4_1).f3)) ∧ w'.cell? ⟨(ad110.add ((x4_1).toNat * 5)).block, (ad110.add ((x4_1).toNat * 5)).off + 4, none⟩ = some (.int .i64 ((rd_T47 l0_3 x4_1).f4))) (ds := []) #[false, false, false, false, false, false, false, false, false, false, false, false, false, false, false, false] (by kernel_rfl) rfl rfl ⟨(blk_cell BK101.out 0).trans rfl, (blk_cell BK101.out 1).trans rfl, (blk_cell BK101.out 2).trans rfl, (blk_cell BK101.out 3).trans rfl, ((HB.out.cell (World.block_lt_of_cell? w _ hw110_0)).trans hw110_0), ((HB.out.cell (World.block_lt_of_cell? w _ hw110_1)).trans hw110_1), ((HB.out.cell (World.block_lt_of_cell? w _ hw110_2)).trans hw110_2), ((HB.out.cell (World.block_lt_of_cell? w _ hw110_3)).trans hw110_3), ((HB.out.cell (World.block_lt_of_cell? w _ hw110_4)).trans hw110_4), ((HB.out.cell (World.block_lt_of_cell? w _ hw112_0)).trans hw112_0), ((HB.out.cell (World.block_lt_of_cell? w _ hw112_1)).trans hw112_1), ((HB.out.cell (World.block_lt_of_cell? w _ hw112_2)).trans hw112_2), ((HB.out.cell (World.block_lt_of_cell? w _ hw112_3)).trans hw112_3), ((HB.out.cell (World.block_lt_of_cell? w _ hw112_4)).trans hw112_4)⟩ (fun hHeld => ?_); refine with_tabW live_In.tab12 live_In.bits12 (fun HT_ HW_ => ?_); generalize wr.drew = w34 at HO_3 HO_23 BK101 HB hx110_0 hx110_1 hx110_2 hx110_3 hx110_4 hx112_0 hx112_1 hx112_2 hx112_3 hx112_4 hHeld ⊢; refine pure_ (i := 0) (N := some 44) (v := ?_) (a' := ?_) (mk_ 16 1) rfl rfl (any_of HT_.out (by kernel_rfl)) (fun _ _ _ h => h) (Or.inl ⟨by rfl, ?_⟩) ?_ ?_; rotate_left
            · intro w'; go_simp; with_reducible rfl
            rotate_left
            · simp only [Act.put, List.setIfInBounds_toArray, List.set_cons_zero, List.set_cons_succ, i64_w, i32_w]; rfl
            refine pure_ (i := 1) (N := some 45) (v := ?_) (a' := ?_) (mk_ 16 3) rfl rfl (any_of HT_.out (by kernel_rfl)) (fun _ _ _ h => h) (Or.inl ⟨by rfl, ?_⟩) ?_ ?_; rotate_left
            · intro w'; go_simp; with_reducible rfl
            rotate_left
            · simp only [Act.put, List.setIfInBounds_toArray, List.set_cons_zero, List.set_cons_succ, i64_w, i32_w]; rfl
            refine pure_ (i := 3) (N := some 47) (v := ?_) (a' := ?_) (mk_ 16 11) rfl rfl (any_of HT_.out (by kernel_rfl)) (fun _ _ _ h => h) (Or.inl ⟨by rfl, ?_⟩) ?_ ?_; rotate_left
            · intro w'; go_simp; with_reducible rfl
            rotate_left
            · simp only [Act.put, List.setIfInBounds_toArray, List.set_cons_zero, List.set_cons_succ, i64_w, i32_w]; rfl
            refine pure_ (i := 8) (N := some 52) (v := ?_) (a' := ?_) (mk_ 16 267) rfl rfl (any_of HT_.out (by kernel_rfl)) (fun _ _ _ h => h) (Or.inl ⟨by rfl, ?_⟩) ?_ ?_; rotate_left
            · intro w'; go_simp; with_reducible rfl
            rotate_left
            · simp only [Act.put, List.setIfInBounds_toArray, List.set_cons_zero, List.set_cons_succ, i64_w, i32_w]; rfl
            refine pure_ (i := 10) (N := some 54) (v := ?_) (a' := ?_) (mk_ 16 1291) rfl rfl (any_of HT_.out (by kernel_rfl)) (fun _ _ _ h => h) (Or.inl ⟨by rfl, ?_⟩) ?_ ?_; rotate_left
            · intro w'; go_simp; with_reducible rfl
            rotate_left
            · simp only [Act.put, List.setIfInBounds_toArray, List.set_cons_zero, List.set_cons_succ, i64_w, i32_w]; rfl
            refine take_ (i := 2) (N := some 46) (v := ?_) (a' := ?_) (mk_ 16 1295) rfl rfl (take_ofW HT_.out HW_.out (by kernel_rfl)) (fun _ _ _ h => h) (Or.inl ⟨by rfl, ?_⟩) hHeld ?_ ?_; rotate_left
            · rintro w' ⟨s0, s1, s2, s3, s4, s5, s6, s7, s8, s9, s10, s11, s12, s13⟩; go_simp; with_reducible rfl
            rotate_left
            · simp only [Act.put, List.setIfInBounds_toArray, List.set_cons_zero, List.set_cons_succ, i64_w, i32_w]; rfl
            refine pure_ (i := 4) (N := some 48) (v := ?_) (a' := ?_) (mk_ 16 1311) rfl rfl (any_of HT_.out (by kernel_rfl)) (fun _ _ _ h => h) (Or.inl ⟨by rfl, ?_⟩) ?_ ?_; rotate_left
            · intro w'; go_simp; with_reducible rfl
            rotate_left
            · simp only [Act.put, List.setIfInBounds_toArray, List.set_cons_zero, List.set_cons_succ, i64_w, i32_w]; rfl
            refine take_ (i := 5) (N := some 49) (v := ?_) (a' := ?_) (mk_ 16 1343) rfl rfl (take_ofW HT_.out HW_.out (by kernel_rfl)) (fun _ _ _ h => h) (Or.inl ⟨by rfl, ?_⟩) hHeld ?_ ?_; rotate_left
            · rintro w' ⟨s0, s1, s2, s3, s4, s5, s6, s7, s8, s9, s10, s11, s12, s13⟩; go_simp; with_reducible rfl
            rotate_left
            · simp only [Act.put, List.setIfInBounds_toArray, List.set_cons_zero, List.set_cons_succ, i64_w, i32_w]; rfl
            refine take_ (i := 9) (N := some 53) (v := ?_) (a' := ?_) (mk_ 16 1855) rfl rfl (take_ofW HT_.out HW_.out (by kernel_rfl)) (fun _ _ _ h => h) (Or.inl ⟨by rfl, ?_⟩) hHeld ?_ ?_; rotate_left
            · rintro w' ⟨s0, s1, s2, s3, s4, s5, s6, s7, s8, s9, s10, s11, s12, s13⟩; go_simp; with_reducible rfl
            rotate_left
            · simp only [Act.put, List.setIfInBounds_toArray, List.set_cons_zero, List.set_cons_succ, i64_w, i32_w]; rfl
            refine pure_ (i := 11) (N := some 55) (v := ?_) (a' := ?_) (mk_ 16 3903) rfl rfl (any_of HT_.out (by kernel_rfl)) (fun _ _ _ h => h) (Or.inl ⟨by rfl, ?_⟩) ?_ ?_; rotate_left
            · intro w'; go_simp; with_reducible rfl
            rotate_left
            · simp only [Act.put, List.setIfInBounds_toArray, List.set_cons_zero, List.set_cons_succ, i64_w, i32_w]; rfl
            refine take_ (i := 12) (N := some 56) (v := ?_) (a' := ?_) (mk_ 16 7999) rfl rfl (take_ofW HT_.out HW_.out (by kernel_rfl)) (fun _ _ _ h => h) (Or.inl ⟨by rfl, ?_⟩) hHeld ?_ ?_; rotate_left
            · rintro w' ⟨s0, s1, s2, s3, s4, s5, s6, s7, s8, s9, s10, s11, s12, s13⟩; go_simp; with_reducible rfl
            rotate_left
            · simp only [Act.put, List.setIfInBounds_toArray, List.set_cons_zero, List.set_cons_succ, i64_w, i32_w]; rfl
            refine one_ (i := 6) (N := some 50) (mk_ 16 8063) rfl rfl (one_of HT_.out (by kernel_rfl)) (by decide) (fun K hK => ?_); refine goes_ Tryd.func18 (by kernel_rfl) rfl #[.agg #[.int .u8 ((rd_T47 l0_3 x4_1).f0), .int .u8 ((rd_T47 l0_3 x4_1).f1), .int .u8 ((rd_T47 l0_3 x4_1).f2), .int .u8 ((rd_T47 l0_3 x4_1).f3), .int .i64 ((rd_T47 l0_3 x4_1).f4)]] (by rfl) rfl rfl hB1 ?_; with_reducible refine (live_Sets.calls k2 ((rd_T47 l0_3 x4_1).f0) ((rd_T47 l0_3 x4_1).f1) ((rd_T47 l0_3 x4_1).f2) ((rd_T47 l0_3 x4_1).f3) ((rd_T47 l0_3 x4_1).f4) t111 _ A25.out).mono ?_; rintro e w35 ⟨rfl, hb⟩; refine ⟨_, rfl, ?_⟩; have n0_ := Aside0.mk (Kd.R_below hB38 hb); have n1_ := Aside0.mk (Kd.R_below hB37 hb); have n2_ := Aside0.mk (blk_below (g := gb101) (o := .cells #[.slice A0_0 l0_0.length c0_0, .string a0_1, .string a0_2, .slice (some ad110) l0_3.length c0_3] 25 (0, 0)) hB40 hb); have n3_ := Aside0.mk (below_step hB72 hb); clear HO_3; clear HO_23; clear BK101; clear HB; have HO_3 := n0_; have HO_23 := n1_; have BK101 := n2_; have HB := n3_; clear n0_ n1_ n2_ n3_; (try clear hb); (try clear hb2); (try clear hk); (try clear hi); refine hK.out _ _ ⟨(blk_cell BK101.out 0).trans rfl, (blk_cell BK101.out 1).trans rfl, (blk_cell BK101.out 2).trans rfl, (blk_cell BK101.out 3).trans rfl, ((HB.out.cell (World.block_lt_of_cell? w _ hw110_0)).trans hw110_0), ((HB.out.cell (World.block_lt_of_cell? w _ hw110_1)).trans hw110_1), ((HB.out.cell (World.block_lt_of_cell? w _ hw110_2)).trans hw110_2), ((HB.out.cell (World.block_lt_of_cell? w _ hw110_3)).trans hw110_3), ((HB.out.cell (World.block_lt_of_cell? w _ hw110_4)).trans hw110_4), ((HB.out.cell (World.block_lt_of_cell? w _ hw112_0)).trans hw112_0), ((HB.out.cell (World.block_lt_of_cell? w _ hw112_1)).trans hw112_1), ((HB.out.cell (World.block_lt_of_cell? w _ hw112_2)).trans hw112_2), ((HB.out.cell (World.block_lt_of_cell? w _ hw112_3)).trans hw112_3), ((HB.out.cell (World.block_lt_of_cell? w _ hw112_4)).trans hw112_4)⟩ (fun hHeld => ?_); clear hK K; refine norm_ (a' := ?_) ?_ ?_; rotate_left
            · show Act.put _ (some 50) _ = _
              simp only [Act.put, List.setIfInBounds_toArray, List.set_cons_zero, List.set_cons_succ, i64_w, i32_w]; rfl
            refine pure_ (i := 7) (N := some 51) (v := ?_) (a' := ?_) (mk_ 16 8191) rfl rfl (any_of HT_.out (by kernel_rfl)) (fun _ _ _ h => h) (Or.inl ⟨by rfl, ?_⟩) ?_ ?_; rotate_left
            · intro w'; go_simp; with_reducible rfl
            rotate_left
            · simp only [Act.put, List.setIfInBounds_toArray, List.set_cons_zero, List.set_cons_succ, i64_w, i32_w]; rfl
            refine one_ (i := 13) (N := some 57) (mk_ 16 16383) rfl rfl (one_of HT_.out (by kernel_rfl)) (by decide) (fun K hK => ?_); refine goes_ Tryd.func17 (by kernel_rfl) rfl #[.agg #[.int .u8 ((rd_T47 l0_3 x4_1).f0), .int .u8 ((rd_T47 l0_3 x4_1).f1), .int .u8 ((rd_T47 l0_3 x4_1).f2), .int .u8 ((rd_T47 l0_3 x4_1).f3), .int .i64 ((rd_T47 l0_3 x4_1).f4)]] (by rfl) rfl rfl hB1 ?_; with_reducible refine (live_Uses.calls k2 ((rd_T47 l0_3 x4_1).f0) ((rd_T47 l0_3 x4_1).f1) ((rd_T47 l0_3 x4_1).f2) ((rd_T47 l0_3 x4_1).f3) ((rd_T47 l0_3 x4_1).f4) t113 _ A26.out).mono ?_; rintro e w36 ⟨rfl, hb⟩; refine ⟨_, rfl, ?_⟩; have n0_ := Aside0.mk (Kd.R_below hB38 hb); have n1_ := Aside0.mk (Kd.R_below hB37 hb); have n2_ := Aside0.mk (blk_below (g := gb101) (o := .cells #[.slice A0_0 l0_0.length c0_0, .string a0_1, .string a0_2, .slice (some ad110) l0_3.length c0_3] 25 (0, 0)) hB40 hb); have n3_ := Aside0.mk (below_step hB72 hb); clear HO_3; clear HO_23; clear BK101; clear HB; have HO_3 := n0_; have HO_23 := n1_; have BK101 := n2_; have HB := n3_; clear n0_ n1_ n2_ n3_; (try clear hb); (try clear hb2); (try clear hk); (try clear hi); refine hK.out _ _ ⟨(blk_cell BK101.out 0).trans rfl, (blk_cell BK101.out 1).trans rfl, (blk_cell BK101.out 2).trans rfl, (blk_cell BK101.out 3).trans rfl, ((HB.out.cell (World.block_lt_of_cell? w _ hw110_0)).trans hw110_0), ((HB.out.cell (World.block_lt_of_cell? w _ hw110_1)).trans hw110_1), ((HB.out.cell (World.block_lt_of_cell? w _ hw110_2)).trans hw110_2), ((HB.out.cell (World.block_lt_of_cell? w _ hw110_3)).trans hw110_3), ((HB.out.cell (World.block_lt_of_cell? w _ hw110_4)).trans hw110_4), ((HB.out.cell (World.block_lt_of_cell? w _ hw112_0)).trans hw112_0), ((HB.out.cell (World.block_lt_of_cell? w _ hw112_1)).trans hw112_1), ((HB.out.cell (World.block_lt_of_cell? w _ hw112_2)).trans hw112_2), ((HB.out.cell (World.block_lt_of_cell? w _ hw112_3)).trans hw112_3), ((HB.out.cell (World.block_lt_of_cell? w _ hw112_4)).trans hw112_4)⟩ (fun hHeld => ?_); clear hK K; refine norm_ (a' := ?_) ?_ ?_; rotate_left
            · show Act.put _ (some 57) _ = _
              simp only [Act.put, List.setIfInBounds_toArray, List.set_cons_zero, List.set_cons_succ, i64_w, i32_w]; rfl
            refine pure_ (i := 14) (N := some 58) (v := ?_) (a' := ?_) (mk_ 16 32767) rfl rfl (any_of HT_.out (by kernel_rfl)) (fun _ _ _ h => h) (Or.inl ⟨by rfl, ?_⟩) ?_ ?_; rotate_left
            · intro w'; go_simp; with_reducible rfl
            rotate_left
            · simp only [Act.put, List.setIfInBounds_toArray, List.set_cons_zero, List.set_cons_succ, i64_w, i32_w]; rfl
            refine pure_ (i := 15) (N := some 5) (v := ?_) (a' := ?_) (mk_ 16 65535) rfl rfl (any_of HT_.out (by kernel_rfl)) (fun _ _ _ h => h) (Or.inl ⟨by rfl, ?_⟩) ?_ ?_; rotate_left
            · intro w'; go_simp; with_reducible rfl
            rotate_left
            · simp only [Act.put, List.setIfInBounds_toArray, List.set_cons_zero, List.set_cons_succ, i64_w, i32_w]; rfl
            refine done_ (done_of HT_.out (by kernel_rfl)) ?_; obtain ⟨Ao37, co37, eo37⟩ := Kd.R_slice HO_3.out; subst eo37; have p114 : 0 ≤ (x4_1 : Int) := of_decide_eq_true hB63; have q114 : x4_1 < (x3_1.length : Int) := of_decide_eq_true hB63; obtain ⟨ad114, e114, hx114_0⟩ := Kd.at_int (Kd.R_reads' HO_3.out).2.2 x4_1 p114 q114
            cases e114
            replace p114 := eq_true p114; replace q114 := eq_true q114; have p33 : 0 ≤ (x4_1 : Int) := of_decide_eq_true hB63; have q33 : (x4_1 : Int) < ((x3_1.length : Int) : Int) := of_decide_eq_true hB63; obtain ⟨go33, co33, eo33, gb33, gl33, cl33, HG33⟩ := Kd.R_form HO_3.out (by omega)
            (first | cases eo33 | (injection eo33 with ea_ en_ ec_; (first | subst ea_ | (injection ea_ with ea_; subst ea_)); subst ec_; clear en_))
            have GB33 := Aside0.mk gb33; have GG33 := Aside0.mk HG33; clear gb33 gl33 HG33
            (first | simp only [add_plain] at hx114_0 | skip)
            obtain ⟨hx33_0, hf33_0⟩ := Kd.R_celln 0 HO_3.out (x4_1 : Int) p33 q33; replace p33 := eq_true p33; replace q33 := eq_true q33; obtain ⟨hy38_, hz38_⟩ := Kd.R_celln 0 HO_3.out (x4_1 : Int) (of_decide_eq_true hB63) (of_decide_eq_true hB63); have HP38 := Kd.R_putg HO_3.out (x4_1 : Int) (Go.bits .or .u8 (Go.bits .andNot .u8 x5_2 t111) t113); try go_wp2_with (first | ((with_reducible refine gate_store (t := 5) (p := 68) rfl ?_); refine store_event (t := 5) (p := 68) (v := ?vo_w39) (w1 := (w36.setCell ⟨go33, (x4_1 : Int).toNat, none⟩ (.int .u8 (Go.bits .or .u8 (Go.bits .andNot .u8 x5_2 t111) t113)))) ?hg ?ho ?hn ?hr ?_; (case ho => rfl); (case hg => rfl); (case hn => rfl); (case hr => first | (go_simp; done) | (go_simp; rfl)); intro w39 hw; have hg : w36.grownBy w39 (some go33) := (by rw [hw]; exact HP38.2); have hp_ : Kd.R (Kd.int .u8) 5 w39 w.heap.size (fun _ => True) (.slice (some ⟨go33, 0, none⟩) x3_1.length co37) y115 := (by rw [hw, Ny115.out]; exact HP38.1); clear HP38; have n0_ := Aside0.mk (hp_); have n1_ := Aside0.mk (Kd.R_over' (v := (.slice (some ⟨go33, 0, none⟩) x3_1.length co37)) hB37 (Kd.R_typed HO_3.out) (by decide) hg); have n2_ := Aside0.mk (blk_grown (g := gb101) (o := .cells #[.slice A0_0 l0_0.length c0_0, .string a0_1, .string a0_2, .slice (some ad110) l0_3.length c0_3] 25 (0, 0)) hB40 hg (Kd.R_ne HO_3.out BK101.out (by decide))); have n3_ := Aside0.mk ((by rw [hw]; exact below_set (HB.out) GB33.out : Below w.heap.size w w39)); clear HO_3; clear HO_23; clear BK101; clear HB; have HO_3 := n0_; have HO_23 := n1_; have BK101 := n2_; have HB := n3_; clear n0_ n1_ n2_ n3_; clear hg hw hp_))
            go_step3
            exact ⟨rfl, k2, by have := HK1.out; have := HK2.out; omega, gb101, _, y115, H', GE101, ⟨hB38⟩, ⟨hB40⟩, ⟨hB72⟩, _, _, _, _, _, _, _, _, _, _, _, _, _, _, _, _, _, _, _, _, _, _, _, _, _, _, _, _, _, _, _, _, _, _, _, _, _, _, _, _, _, _, _, _, _, _, _, _, _, _, _, _, _, _, _, _, _, _, _, _, _, _, _, _, _, _, rfl⟩
end Go.Proofs.YtkplgfhkebkaaaaDoor.XD

namespace Go.Proofs.YtkplgfhkebkaaaaDoor.LB
open Go.RowKit Go.Proofs.YtkplgfhkebkaaaaDoorW.PrintWords Go.Proofs.YtkplgfhkebkaaaaDoor.Scan Go.Proofs.YtkplgfhkebkaaaaDoor.F Go.Proofs.YtkplgfhkebkaaaaDoor.TT Go.Proofs.YtkplgfhkebkaaaaDoor.NX Go.Proofs.YtkplgfhkebkaaaaDoor.FP Go.Proofs.YtkplgfhkebkaaaaDoor.FL Go.Proofs.YtkplgfhkebkaaaaDoor.FG Go.Proofs.YtkplgfhkebkaaaaDoor.B8 Go.Proofs.YtkplgfhkebkaaaaDoor.V Go.Proofs.YtkplgfhkebkaaaaDoor.XD
set_option linter.unusedVariables false
set_option linter.unusedSectionVars false
section
variable {ts : List ByteArray} {la gl : ByteArray} {code : List S47} (hI : InR (nxt code) (code.length + 1)) (hsm : code.length ≤ 1000000) (hw : WfC code)
include hI hsm hw
theorem in_l1 (k : Nat) (out : List S8) (hl : out.length = code.length + 1) (hk : k < code.length) (q : List Int)
    (hq1 : lst (nxt code) (stB code) (usB code) out k = g out k → Ev (fun n => live_In.l0 n (out.map iv) ((k : Int) - 1) ts la gl code) q)
    (hq2 : lst (nxt code) (stB code) (usB code) out k ≠ g out k → Ev (fun n => live_In.l0 n ((out.set k (lst (nxt code) (stB code) (usB code) out k)).map iv) ((code.length : Int) - 1) ts la gl code) q) :
    ∀ (d j : Nat), j + d = (nxt code k).length → Ev (fun n => live_In.l1 n (out.map iv) (k : Int) (iv (lorj (nxt code) out k j)) (nxt code k) ((nxt code k).length : Int) (j : Int) ts la gl code) q := by
  have h2 := nxt_two code k
  intro d
  induction d with
  | zero =>
    intro j hj
    obtain rfl : j = (nxt code k).length := by omega
    have hx := hw.rd k hk
    have z0 : (0 : Int) ≤ (k : Int) := Int.natCast_nonneg k
    have z1 : (k : Int) < (code.length : Int) := by omega
    have z2 : (k : Int) < ((out.map iv).length : Int) := by rw [List.length_map]; omega
    have ew : wrap64 ((k : Int) - 1) = (k : Int) - 1 := by unfold wrap64; omega
    have ew1 : wrap64 ((code.length : Int) - 1) = (code.length : Int) - 1 := by unfold wrap64; omega
    have e0 : bits .or .u8 (bits .andNot .u8 (iv (lorj (nxt code) out k (nxt code k).length)) (iv (stB code k))) (iv (usB code k)) = iv (lst (nxt code) (stB code) (usB code) out k) := by
      rw [lorj_all, bits_not, bits_or]
      rfl
    refine ev_step (fun n => live_In.l1.eq_2 ..) (Ev.congr (fun n => if_neg (by omega)) (Ev.congr (fun n => if_pos z0) (Ev.congr (fun n => if_pos z1) (ev_bind (sets_ev hx) (ev_bind (uses_ev hx) (Ev.congr (fun n => if_pos z2) ?_))))))
    rw [show iv (setsB (rd_T47 code k).f0 (rd_T47 code k).f1) = iv (stB code k) from rfl, show iv (usesB (rd_T47 code k).f0 (rd_T47 code k).f1 (rd_T47 code k).f2 (rd_T47 code k).f3) = iv (usB code k) from rfl, e0, rd_iv, Int.toNat_natCast, ew, ew1, ← List.map_set]
    by_cases e : lst (nxt code) (stB code) (usB code) out k = g out k
    · exact Ev.congr (fun n => if_pos (by rw [e])) (hq1 e)
    · exact Ev.congr (fun n => if_neg (fun h => e (iv_inj h))) (hq2 e)
  | succ d ih =>
    intro j hj
    have ih := ih (j + 1) (by omega)
    have hjl : j < (nxt code k).length := by omega
    have hrd : rd (nxt code k) j = (nxt code k)[j] := by
      unfold rd
      rw [Int.toNat_natCast, List.getD_eq_getElem?_getD, List.getElem?_eq_getElem hjl]
      rfl
    have hr := hI _ _ (List.getElem_mem hjl)
    rw [← hrd] at hr
    have ew : wrap64 ((j : Int) + 1) = ((j + 1 : Nat) : Int) := by unfold wrap64; omega
    have z0 : (0 : Int) ≤ (j : Int) := Int.natCast_nonneg j
    have z1 : rd (nxt code k) j ≥ 0 := hr.1
    have z2 : rd (nxt code k) j < ((out.map iv).length : Int) := by rw [List.length_map, hl]; exact hr.2
    have z5 : (j : Int) < ((nxt code k).length : Int) := by omega
    refine ev_step (fun n => live_In.l1.eq_2 ..) (Ev.congr (fun n => if_pos z5) (Ev.congr (fun n => if_pos z0) (Ev.congr (fun n => if_pos z5) (Ev.congr (fun n => if_pos z1) (Ev.congr (fun n => if_pos z2) (Ev.congr (fun n => if_pos hr.1) ?_))))))
    rw [ew, rd_iv, bits_or]
    rw [lorj_succ _ _ _ _ hjl, ← hrd] at ih
    exact ih
theorem in_l0 : ∀ (d : Nat) (out : List S8), 8 * (code.length + 1) - tot out = d → LInv (nxt code) code.length (stB code) (usB code) out → ∀ k : Nat, k ≤ code.length → (∀ j, k ≤ j → j < code.length → g out j = lst (nxt code) (stB code) (usB code) out j) →
    Ev (fun n => live_In.l0 n (out.map iv) ((k : Int) - 1) ts la gl code) (lvI code) := by
  intro d
  induction d using Nat.strongRecOn with
  | _ d IH =>
    intro out hd hv k
    induction k with
    | zero =>
      intro _ hf
      have e : out = lvB code := lv_of hv fun j hj => hf j (Nat.zero_le _) hj
      refine ev_step (fun n => live_In.l0.eq_2 ..) (Ev.congr (fun n => if_neg (by omega)) ?_)
      rw [e]
      exact ev_const
    | succ k ih =>
      intro hk hf
      have e1 : ((k + 1 : Nat) : Int) - 1 = (k : Int) := by omega
      have z0 : (k : Int) ≥ 0 := Int.natCast_nonneg k
      rw [e1]
      refine ev_step (fun n => live_In.l0.eq_2 ..) (Ev.congr (fun n => if_pos z0) (ev_bind (next_ev ts la gl code k) ?_))
      refine in_l1 hI hsm hw k out hv.len (by omega) _ (fun e => ih (by omega) fun j hj hjl => ?_) (fun e => ?_) _ 0 (Nat.zero_add _)
      · rcases Nat.lt_or_eq_of_le hj with h | rfl
        · exact hf j h hjl
        · exact e.symm
      · have hls := hv.ls (k := k) (by omega)
        have hlt := (tot_le hls).2 fun e' => e (by
          have := g_set out k k (lst (nxt code) (stB code) (usB code) out k)
          rw [← e', if_pos ⟨rfl, by rw [hv.len]; omega⟩] at this
          exact this.symm)
        have hmx := tot_8 (out.set k (lst (nxt code) (stB code) (usB code) out k))
        rw [List.length_set, hv.len] at hmx
        exact IH _ (by omega) _ rfl (hv.set (by omega)) code.length (Nat.le_refl _) fun j h1 h2 => by omega
theorem in_ev' : Ev (fun k => XD.live_In.f k ts la gl code) (lvI code) := by
  have ew : wrap64 ((code.length : Int) + 1) = ((code.length + 1 : Nat) : Int) := by unfold wrap64; omega
  have ew1 : wrap64 ((code.length : Int) - 1) = (code.length : Int) - 1 := by unfold wrap64; omega
  have h := in_l0 (ts := ts) (la := la) (gl := gl) hI hsm hw _ _ rfl (LInv.start ..) code.length (Nat.le_refl _) fun j h1 h2 => by omega
  have e : (List.replicate (code.length + 1) (0 : S8)).map iv = List.replicate (code.length + 1) 0 := by
    rw [List.map_replicate]
    rfl
  rw [e] at h
  unfold XD.live_In.f
  rw [ew, ew1, Int.toNat_natCast]
  exact Ev.congr (fun k => if_pos (by omega)) (Ev.congr (fun k => if_pos (by omega)) h)
end
end Go.Proofs.YtkplgfhkebkaaaaDoor.LB

namespace Go.Proofs.YtkplgfhkebkaaaaDoor.LG
open Go.RowKit Go.Proofs.YtkplgfhkebkaaaaDoorW.PrintWords Go.Proofs.YtkplgfhkebkaaaaDoorW.PrintLast Go.Proofs.YtkplgfhkebkaaaaDoorW.PrintMore Go.Proofs.YtkplgfhkebkaaaaDoor.F Go.Proofs.YtkplgfhkebkaaaaDoor.TT Go.Proofs.YtkplgfhkebkaaaaDoor.Srt Go.Proofs.YtkplgfhkebkaaaaDoor.NX Go.Proofs.YtkplgfhkebkaaaaDoor.FP Go.Proofs.YtkplgfhkebkaaaaDoor.B8 Go.Proofs.YtkplgfhkebkaaaaDoor.Scan Go.Proofs.YtkplgfhkebkaaaaDoor.LB
set_option linter.unusedVariables false
open Classical in
noncomputable def live_In.f (l0_0 : List ByteArray) (a0_1 : ByteArray) (a0_2 : ByteArray) (l0_3 : List S47) : Option (List Int) := if InR (nxt l0_3) (l0_3.length + 1) ∧ l0_3.length ≤ 1000000 ∧ WfC l0_3 then some (lvI l0_3) else none
theorem live_In.calls (A0_0 : Option Addr) (c0_0 : Nat) (l0_0 : List ByteArray) (a0_1 : ByteArray) (a0_2 : ByteArray) (A0_3 : Option Addr) (c0_3 : Nat) (l0_3 : List (S47)) (r : List Int) (w : World) (_hr0_0 : Kd.C Kd.string w A0_0 l0_0.length l0_0) (_hc0_0 : l0_0.length ≤ c0_0) (hr0_3 : Kd.C k47 w A0_3 l0_3.length l0_3) (_hc0_3 : l0_3.length ≤ c0_3) (h : live_In.f l0_0 a0_1 a0_2 l0_3 = some r) :
    Calls Tryd.prog 15 #[.agg #[.slice A0_0 l0_0.length c0_0, .string a0_1, .string a0_2, .slice A0_3 l0_3.length c0_3]] w fun e w' => ∃ v0_ : Value, e = .returned (v0_) ∧ Kd.R (Kd.int .u8) 5 w' w.heap.size (fun _ => True) v0_ r ∧ Below w.heap.size w w' := by
  unfold live_In.f at h
  split at h
  · rename_i hh
    obtain rfl := Option.some.inj h
    obtain ⟨k, hk⟩ := ev_at (in_ev' (ts := l0_0) (la := a0_1) (gl := a0_2) hh.1 hh.2.1 hh.2.2)
    exact XD.live_In.calls k A0_0 c0_0 l0_0 a0_1 a0_2 A0_3 c0_3 l0_3 _ w _hr0_0 _hc0_0 hr0_3 _hc0_3 hk
  · cases h
end Go.Proofs.YtkplgfhkebkaaaaDoor.LG

/- Texts of this claim, pruned to what it needs and laid together by prune.py. -/
import Derived.Test.YtfkfpcciacplkaaDoorMT24
namespace Go.Proofs.YtfkfpcciacplkaaDoor.TRW
open Go.RowKit Go.Proofs.YtfkfpcciacplkaaDoorW.PrintWords Go.Proofs.YtfkfpcciacplkaaDoorW.PrintLast Go.Proofs.YtfkfpcciacplkaaDoorW.PrintMore Go.Proofs.YtfkfpcciacplkaaDoor.Scan Go.Proofs.YtfkfpcciacplkaaDoor.F Go.Proofs.YtfkfpcciacplkaaDoor.T Go.Proofs.YtfkfpcciacplkaaDoor.ST0 Go.Proofs.YtfkfpcciacplkaaDoor.TRB Go.Proofs.YtfkfpcciacplkaaDoor.TRL Go.Proofs.YtfkfpcciacplkaaDoor.TRA Go.Proofs.YtfkfpcciacplkaaDoor.TRP Go.Proofs.YtfkfpcciacplkaaDoor.TRC Go.Proofs.YtfkfpcciacplkaaDoor.CR Go.Proofs.YtfkfpcciacplkaaDoor.TAL
set_option linter.unusedVariables false
set_option linter.unusedSimpArgs false
theorem lng_is (M : List Rs) : ∀ m : Nat, 0 < m → 0 ≤ lng M m ∧ lng M m < m ∧ (∀ i : Nat, i < m → (rdS M i).f3 ≤ (rdS M (lng M m)).f3) ∧ (∀ i : Nat, (i : Int) < lng M m → (rdS M i).f3 < (rdS M (lng M m)).f3) := by
  intro m
  induction m with
  | zero => intro h; omega
  | succ m ih =>
    intro _
    have e : lng M (m + 1) = if lng M m < 0 ∨ (rdS M m).f3 > (rdS M (lng M m)).f3 then (m : Int) else lng M m := rfl
    have hb := lng_lt M m
    by_cases h0 : m = 0
    · subst h0
      have e0 : lng M (0 + 1) = 0 := by
        rw [e, if_pos (.inl (by show lng M 0 < 0; unfold lng; decide))]
        rfl
      rw [e0]
      refine ⟨by decide, by decide, fun i hi => ?_, fun i hi => by omega⟩
      obtain rfl : i = 0 := by omega
      exact Int.le_refl _
    · obtain ⟨a, b, c, d⟩ := ih (by omega)
      by_cases h : lng M m < 0 ∨ (rdS M m).f3 > (rdS M (lng M m)).f3
      · have hg := h.resolve_left (by omega)
        rw [e, if_pos h]
        refine ⟨by omega, by omega, fun i hi => ?_, fun i hi => ?_⟩
        · by_cases hm : i = m
          · subst hm
            exact Int.le_refl _
          · have := c i (by omega)
            omega
        · have := c i (by omega)
          omega
      · rw [e, if_neg h]
        refine ⟨a, by omega, fun i hi => ?_, d⟩
        by_cases hm : i = m
        · subst hm
          have := fun q => h (.inr q)
          omega
        · exact c i (by omega)
set_option maxHeartbeats 8000000 in
set_option maxRecDepth 100000 in
theorem Longest_walk (w : World) (A0 : Option Addr) (c0 : Nat) (L : List Rr) (h0 : Kd.C k27 w A0 L.length L) (hc0 : L.length ≤ c0) (hot : OT w) :
    Calls Tryd.prog 6 #[.slice A0 L.length c0] w fun e w' => e = .returned (.bool true) ∧ Below w.heap.size w w' := by
  have hl : (L.length : Int) ≤ 9223372036854775807 := by have := Kd.C_max h0; omega
  have HL := Aside0.mk h0
  have ALV := Aside0.mk (fun W (hW : Below w.heap.size w W) => alive_c W (OT_below hot hW))
  have ALL := Aside0.mk (fun W (hW : Below w.heap.size w W) (h : L.length ≤ 100) => all_c W A0 c0 L (Kd.C_below h0 hW) hc0 h)
  have HW := Aside0.mk (Below.refl w.heap.size w)
  by_cases hf : Few22 L
  · have FEW := Aside0.mk (fun W (hW : Below w.heap.size w W) => few_c W A0 c0 L (Kd.C_below h0 hW) hc0 true (by simp [hf]))
    have hle : L.length ≤ 8 := hf.2
    clear h0 hot hf
    by_cases hz : L.length = 0
    · obtain rfl : L = [] := List.length_eq_zero_iff.1 hz
      clear hl hle hz
      simp only [List.length_nil, List.map_nil] at ALL FEW ⊢
      go_enter Tryd.func6, Tryd.ntmps6
      go_wp2_with (first
        | (go_at_call 12; (with_reducible refine (ALV.out _ HW.out).mono ?_); rintro e w1 ⟨rfl, hb1⟩; have HW := Aside0.mk (below_step HW.out hb1); clear hb1)
        | (go_at_call 13; (with_reducible refine (FEW.out _ HW.out).mono ?_); rintro e w1 ⟨rfl, hb1⟩; have HW := Aside0.mk (below_step HW.out hb1); clear hb1)
        | (go_at_call 18; (with_reducible refine (ALL.out _ HW.out (by decide)).mono ?_); rintro e w1 ⟨A, c, rfl, hc, hC, hb1⟩; have HW := Aside0.mk (below_step HW.out hb1); have HC := Aside0.mk hC; clear hb1 hC hc)
        | (go_at_call 22; (with_reducible refine (Longest_n _ _ 0 _ [] rfl HC.out (Nat.zero_le _)).mono ?_); rintro e w1 ⟨rfl, hb1⟩; rw [show lng ([] : List Rs) 0 = -1 from rfl]; have HW := Aside0.mk (below_step HW.out hb1); clear hb1))
      go_ret
      exact ⟨rfl, HW.out⟩
    · have hn0 : ((L.length : Int) == 0) = false := by
        rw [beq_eq_false_iff_ne]
        omega
      have hlm : (L.map th).length = L.length := List.length_map _
      obtain ⟨a, b, c, d⟩ := lng_is (L.map th) L.length (by omega)
      obtain ⟨n, en⟩ := Int.eq_ofNat_of_zero_le a
      rw [en] at b c d
      have MX := Aside0.mk (show ∀ i : Nat, i < L.length → (rdR L i).f3 ≤ (rdR L n).f3 ∧ (i < n → (rdR L i).f3 ≠ (rdR L n).f3) from fun i hi => by
        have e1 : (rdS (L.map th) i).f3 = (rdR L i).f3 := by rw [rdR_th L i hi]; rfl
        have e2 : (rdS (L.map th) n).f3 = (rdR L n).f3 := by rw [rdR_th L n (by omega)]; rfl
        have c' := c i hi
        have d' := d i
        rw [e1, e2] at c' d'
        exact ⟨c', fun h => by have := d' (by omega); omega⟩)
      have LNG := Aside0.mk (fun W A c (h : Kd.C k31 W A L.length (L.map th)) (hc : L.length ≤ c) => by
        have := Longest_n W A L.length c (L.map th) hlm h hc
        rw [en] at this
        exact this)
      have hn1 : (n : Int) < (L.length : Int) := b
      have hn2 : ¬ (n : Int) < 0 := by omega
      have hn3 : ¬ (n : Int) ≥ (L.length : Int) := by omega
      have hn4 : decide ((n : Int) < 0) = false := decide_eq_false hn2
      clear a b c d en hlm hz
      go_enter Tryd.func6, Tryd.ntmps6
      go_wp2_with (first
        | (go_at_call 12; (with_reducible refine (ALV.out _ HW.out).mono ?_); rintro e w1 ⟨rfl, hb1⟩; have HW := Aside0.mk (below_step HW.out hb1); clear hb1)
        | (go_at_call 13; (with_reducible refine (FEW.out _ HW.out).mono ?_); rintro e w1 ⟨rfl, hb1⟩; have HW := Aside0.mk (below_step HW.out hb1); clear hb1)
        | (go_at_call 18; (with_reducible refine (ALL.out _ HW.out (by omega)).mono ?_); rintro e w1 ⟨A, c, rfl, hc, hC, hb1⟩; have HW := Aside0.mk (below_step HW.out hb1); have HC := Aside0.mk hC; have HCC := Aside0.mk hc; clear hb1 hC hc)
        | (go_at_call 22; (with_reducible refine (LNG.out _ _ _ HC.out HCC.out).mono ?_); rintro e w1 ⟨rfl, hb1⟩; have HW := Aside0.mk (below_step HW.out hb1); clear hb1))
      go_loopw [29] (fun x wr => ∃ i : Nat, i ≤ L.length ∧ x = .int .i64 i ∧ Aside0 (Below w.heap.size w wr)) (fun x _ => L.length - (intOf x).toNat)
      case atStart => exact ⟨0, Nat.zero_le _, rfl, HW⟩
      case round =>
        clear HW
        obtain ⟨i, hi, rfl, HB⟩ := hrel
        by_cases hlt : (i : Int) < (L.length : Int)
        · have p0 : (0 : Int) ≤ i := by omega
          have q0 : (0 : Int) ≤ n := by omega
          obtain ⟨ad, B0, b0, rfl, x0, x1, x2, x3, x4, xl, xc⟩ := at_T27 HL.out (i : Int) p0 hlt
          obtain ⟨ad', B0', b0', ead, y0, y1, y2, y3, y4, yl, yc⟩ := at_T27 HL.out (n : Int) q0 hn1
          cases ead
          rw [Int.toNat_natCast] at x0 x1 x2 x3 x4 y3
          replace x0 := (HB.out.cell (World.block_lt_of_cell? w _ x0)).trans x0
          replace x1 := (HB.out.cell (World.block_lt_of_cell? w _ x1)).trans x1
          replace x2 := (HB.out.cell (World.block_lt_of_cell? w _ x2)).trans x2
          replace x3 := (HB.out.cell (World.block_lt_of_cell? w _ x3)).trans x3
          replace x4 := (HB.out.cell (World.block_lt_of_cell? w _ x4)).trans x4
          replace y3 := (HB.out.cell (World.block_lt_of_cell? w _ y3)).trans y3
          obtain ⟨m1, m2⟩ := MX.out i (by omega)
          clear xl xc y0 y1 y2 y4 yl yc
          obtain ⟨X, eX⟩ : ∃ X, (rdR L i).f3 = X := ⟨_, rfl⟩
          obtain ⟨Y, eY⟩ : ∃ Y, (rdR L n).f3 = Y := ⟨_, rfl⟩
          rw [eX] at m1 m2
          rw [eY] at m1 m2
          rw [show (rd_T27 L (i : Int)).f3 = X from eX] at x3
          rw [show (rd_T27 L (n : Int)).f3 = Y from eY] at y3
          obtain ⟨f0, e0⟩ : ∃ f0, (rd_T27 L (i : Int)).f0.length = f0 := ⟨_, rfl⟩
          obtain ⟨f1, e1⟩ : ∃ f1, (rd_T27 L (i : Int)).f1 = f1 := ⟨_, rfl⟩
          obtain ⟨f2, e2⟩ : ∃ f2, (rd_T27 L (i : Int)).f2 = f2 := ⟨_, rfl⟩
          obtain ⟨f4, e4⟩ : ∃ f4, (rd_T27 L (i : Int)).f4 = f4 := ⟨_, rfl⟩
          rw [e0] at x0
          rw [e1] at x1
          rw [e2] at x2
          rw [e4] at x4
          clear eX eY e0 e1 e2 e4
          have d1 : decide (X > Y) = false := decide_eq_false (by omega)
          obtain ⟨wo, rfl⟩ : ∃ wo : World, wo = wr := ⟨_, rfl⟩
          go_upto_region 13 with (fail)
          obtain ⟨W0, hW0⟩ : ∃ W0 : World, W0 = wo.alloc (.cells #[.slice B0 f0 b0, .bool f1, .int .i64 f2, .int .i64 X, .int .i64 f4] 27) := ⟨_, rfl⟩
          have z3 : W0.cell? ⟨wo.heap.size, 3, none⟩ = some (.int .i64 X) := by rw [hW0]; exact (cell_of_row _ _ 3 _ _ _ (heap_alloc_new _ _)).trans rfl
          have hb : Below wo.heap.size wo W0 := by rw [hW0]; exact below_alloc (Below.refl _ _) _
          rw [← hW0]
          clear hW0 x0 x1 x2 x3 x4
          replace y3 := (hb.cell (World.block_lt_of_cell? wo _ y3)).trans y3
          have HB := Aside0.mk (below_step HB.out hb)
          clear hb
          by_cases hin : i < n
          · have d2 : decide ((i : Int) < n) = true := decide_eq_true (by omega)
            have d3 : (X == Y) = false := beq_eq_false_iff_ne.2 (m2 hin)
            go_quiet (fail)
            go_wp2
            go_roundw
            case rel => exact ⟨i + 1, by omega, by go_num, ⟨by repeat (first | (with_reducible first | exact HB.out | apply below_alloc | apply pw_below_drewN | apply below_drew1))⟩⟩
            case measure => simp [intOf]; omega
          · have d2 : decide ((i : Int) < n) = false := decide_eq_false (by omega)
            go_quiet (fail)
            go_wp2
            go_roundw
            case rel => exact ⟨i + 1, by omega, by go_num, ⟨by repeat (first | (with_reducible first | exact HB.out | apply below_alloc | apply pw_below_drewN | apply below_drew1))⟩⟩
            case measure => simp [intOf]; omega
        · obtain rfl : i = L.length := by omega
          go_wp2
          go_ret
          exact ⟨rfl, HB.out⟩
  · have FEW := Aside0.mk (fun W (hW : Below w.heap.size w W) => few_c W A0 c0 L (Kd.C_below h0 hW) hc0 false (by simp [hf]))
    clear h0 hot hf
    go_enter Tryd.func6, Tryd.ntmps6
    go_wp2_with (first
      | (go_at_call 12; (with_reducible refine (ALV.out _ HW.out).mono ?_); rintro e w1 ⟨rfl, hb1⟩; have HW := Aside0.mk (below_step HW.out hb1); clear hb1)
      | (go_at_call 13; (with_reducible refine (FEW.out _ HW.out).mono ?_); rintro e w1 ⟨rfl, hb1⟩; have HW := Aside0.mk (below_step HW.out hb1); clear hb1))
    go_ret
    exact ⟨rfl, HW.out⟩
end Go.Proofs.YtfkfpcciacplkaaDoor.TRW

/- Texts of this claim, pruned to what it needs and laid together by prune.py. -/
import Derived.Test.YtocechpmgfhenaaGreatDoorPC25
import Derived.Deep.RegionHeld3
import Derived.Deep.RegionWith
import Derived.OwnWalk
import Derived.Laws.BitsLemmas
import Derived.StillTailTactics
import Derived.Test.YtocechpmgfhenaaGreatDoorPC1
import Derived.Test.YtocechpmgfhenaaGreatDoorPC23
import Derived.Lib.ItoaNum
import Derived.Lib.ItoaMem
import Derived.Lib.ItoaLen
import Derived.Test.YtocechpmgfhenaaGreatDoorProg
import Derived.WalkKit
import Derived.KernelRfl
import Derived.Outline
import Derived.BigQuiet
import Derived.Deep.QuietTactic
import Derived.Deep.LoopGhost
import Derived.Test.YtocechpmgfhenaaGreatDoorPC22
import Derived.Laws.Rows
namespace Go.Proofs.YtocechpmgfhenaaGreatDoor.FUL
open Go.RowKit Go.Proofs.YtocechpmgfhenaaGreatDoorW.PrintWords Go.Proofs.YtocechpmgfhenaaGreatDoor.F Go.Proofs.YtocechpmgfhenaaGreatDoor.PL Go.Proofs.YtocechpmgfhenaaGreatDoor.KP Go.Proofs.YtocechpmgfhenaaGreatDoor.NX Go.Proofs.YtocechpmgfhenaaGreatDoor.FP Go.Proofs.YtocechpmgfhenaaGreatDoor.FSF Go.Proofs.YtocechpmgfhenaaGreatDoor.FG Go.Proofs.YtocechpmgfhenaaGreatDoor.Scan Go.Proofs.YtocechpmgfhenaaGreatDoor.PK
set_option linter.unusedVariables false
set_option linter.unusedSimpArgs false
theorem pSize_c (p : Pg) (w : World) (h : p.On w) (t : Int) : Calls Tryz.prog 72 #[.slice p.A0 p.ts.length p.c0, .int .i64 t] w fun e w' => e = .returned (.int .i64 (size p.ts t)) ∧ Below w.heap.size w w' := by
  obtain ⟨k, hk⟩ := ev_at (kind_Size_ev p.ts h.hl h.hs t)
  exact (kind_Size.calls k p.A0 p.c0 p.ts t _ w h.hT h.hc0 hk).mono fun e w' h => ⟨h.1, h.2.below⟩
def lastG (code : List S46) (a : Int) (whole : Nat) : Nat → Nat → Nat → Int
  | 0, _, _ => -1
  | d + 1, j, had =>
    if (rd_T46 code j).f0 = 1 ∨ (rd_T46 code j).f0 = 2 ∨ (rd_T46 code j).f0 = 14 ∨ (rd_T46 code j).f0 = 15 then lastG code a whole d (j + 1) had
    else if (rd_T46 code j).f0 = 6 ∨ (rd_T46 code j).f0 = 7 then (if (rd_T46 code j).f1 = a then -1 else lastG code a whole d (j + 1) had)
    else if (rd_T46 code j).f0 = 9 ∨ (rd_T46 code j).f0 = 11 then
      (if (rd_T46 code j).f1 = a ∧ 0 ≤ (rd_T46 code j).f4 ∧ (rd_T46 code j).f4 < 6 then
        (if had ||| 2 ^ (rd_T46 code j).f4.toNat = whole then (j : Int) else lastG code a whole d (j + 1) (had ||| 2 ^ (rd_T46 code j).f4.toNat))
      else -1)
    else -1
noncomputable def lastB (p : Pg) (k : Nat) : Int := if (rd_T46 p.code k).f0 = 5 then lastG p.code (rd_T46 p.code k).f1 (2 ^ (size p.ts (atv p.ts p.la (rd_T46 p.code k).f1)).toNat - 1) (p.code.length - (k + 1)) (k + 1) 0 else -1
theorem pw (m : Nat) (h : m ≤ 6) : IntKind.i64.wrap (IntKind.i64.wrap (2 ^ m) - 1) = ((2 ^ m - 1 : Nat) : Int) := by
  obtain rfl | rfl | rfl | rfl | rfl | rfl | rfl : m = 0 ∨ m = 1 ∨ m = 2 ∨ m = 3 ∨ m = 4 ∨ m = 5 ∨ m = 6 := by omega
  all_goals decide
theorem bits_or (a n : Nat) (ha : a < 64) (hn : n < 6) : bits .or .i64 a (wrap64 (2 ^ n)) = ((a ||| 2 ^ n : Nat) : Int) := by
  have h : ∀ a : Fin 64, ∀ n : Fin 6, bits .or .i64 (a.1 : Int) (wrap64 (2 ^ n.1)) = ((a.1 ||| 2 ^ n.1 : Nat) : Int) := by decide +kernel
  exact h ⟨a, ha⟩ ⟨n, hn⟩
theorem or_lt (a n : Nat) (ha : a < 64) (hn : n < 6) : a ||| 2 ^ n < 64 := Nat.or_lt_two_pow (n := 6) ha (Nat.pow_lt_pow_right (by decide) hn)
theorem box_at {w : World} {ad : Addr} {n : Nat} {code : List S46} (h : Kd.C k46 w (some ad) n code) (m j : Nat) (h1 : m + j < n) : ∀ W, Below w.heap.size w W → W.cell? ((ad.add (m * 5)).add (j * 5)) = some (.int .u8 (rd_T46 code (m + j : Nat)).f0) ∧
    W.cell? ⟨((ad.add (m * 5)).add (j * 5)).block, ((ad.add (m * 5)).add (j * 5)).off + 1, none⟩ = some (.int .u8 (rd_T46 code (m + j : Nat)).f1) ∧ W.cell? ⟨((ad.add (m * 5)).add (j * 5)).block, ((ad.add (m * 5)).add (j * 5)).off + 2, none⟩ = some (.int .u8 (rd_T46 code (m + j : Nat)).f2) ∧
    W.cell? ⟨((ad.add (m * 5)).add (j * 5)).block, ((ad.add (m * 5)).add (j * 5)).off + 3, none⟩ = some (.int .u8 (rd_T46 code (m + j : Nat)).f3) ∧ W.cell? ⟨((ad.add (m * 5)).add (j * 5)).block, ((ad.add (m * 5)).add (j * 5)).off + 4, none⟩ = some (.int .i64 (rd_T46 code (m + j : Nat)).f4) := by
  obtain ⟨ad', e, hy⟩ := at_box h (m + j) h1
  obtain rfl := Option.some.inj e
  rw [Addr.add_add, ← Nat.add_mul]
  exact hy
set_option maxHeartbeats 8000000 in
set_option maxRecDepth 100000 in
theorem Last_c (p : Pg) (w : World) (h : p.On w) (hsm : p.code.length ≤ 1000000) (k : Nat) (hk : k < p.code.length) : Calls Tryz.prog 43 #[p.v, .int .i64 k] w fun e w' => e = .returned (.int .i64 (lastB p k)) ∧ Below w.heap.size w w' := by
  have hC := h.hC
  have HWF := h.hw
  have hc3 := h.hc3
  have hx255 := (HWF.rd k hk).2.1
  have hmax := Kd.C_max hC
  have HL := Aside0.mk (fun W (hW : Below w.heap.size w W) => pLocal_c p W (h.below hW) (rd_T46 p.code k).f1 hx255.1 hx255.2)
  obtain ⟨m, em, m6⟩ : ∃ m : Nat, size p.ts (atv p.ts p.la (rd_T46 p.code k).f1) = m ∧ m ≤ 6 := ⟨_, rfl, typ_le p.ts _⟩
  have HS := Aside0.mk (fun W (hW : Below w.heap.size w W) => (by rw [← em]; exact pSize_c p W (h.below hW) _ : Calls Tryz.prog 72 #[.slice p.A0 p.ts.length p.c0, .int .i64 (atv p.ts p.la (rd_T46 p.code k).f1)] W fun e w' => e = .returned (.int .i64 m) ∧ Below W.heap.size W w'))
  have hlb : lastB p k = if (rd_T46 p.code k).f0 = 5 then lastG p.code (rd_T46 p.code k).f1 (2 ^ m - 1) (p.code.length - (k + 1)) (k + 1) 0 else -1 := by
    unfold lastB
    rw [em, Int.toNat_natCast]
  rw [hlb]
  clear h hlb em
  obtain ⟨A0, c0, ts, la, gl, A3, c3, code⟩ := p
  simp only at hC hc3 hsm hk hx255 hmax
  change WfC code at HWF
  change Aside0 (∀ W, Below w.heap.size w W → Calls Tryz.prog 73 #[.agg #[.slice A0 ts.length c0, .string la, .string gl, .slice A3 code.length c3], .int .u8 (rd_T46 code k).f1] W fun e w' => e = .returned (.int .i64 (atv ts la (rd_T46 code k).f1)) ∧ Below W.heap.size W w') at HL
  change Aside0 (∀ W, Below w.heap.size w W → Calls Tryz.prog 72 #[.slice A0 ts.length c0, .int .i64 (atv ts la (rd_T46 code k).f1)] W fun e w' => e = .returned (.int .i64 m) ∧ Below W.heap.size W w') at HS
  show Calls _ _ #[.agg #[.slice A0 ts.length c0, .string la, .string gl, .slice A3 code.length c3], .int .i64 k] _ fun e w' => e = .returned (.int .i64 (if (rd_T46 code k).f0 = 5 then lastG code (rd_T46 code k).f1 (2 ^ m - 1) (code.length - (k + 1)) (k + 1) 0 else -1)) ∧ _
  generalize atv ts la (rd_T46 code k).f1 = t0 at HL HS
  obtain ⟨ad, rfl, hy⟩ := at_box hC k hk
  have HY := Aside0.mk hy
  obtain ⟨x, hx⟩ : ∃ x, x = rd_T46 code k := ⟨_, rfl⟩
  rw [← hx] at HY HL hx255 ⊢
  obtain ⟨y0, y1, y2, y3, y4⟩ := HY.out _ (below_alloc (Below.refl _ _) (.cells #[.slice A0 ts.length c0, .string la, .string gl, .slice (some ad) code.length c3] 25))
  obtain ⟨x0, x1, x2, x3, x4⟩ := x
  simp only at y0 y1 y2 y3 y4 hx255 HL ⊢
  have HC := Aside0.mk hC
  have HWA := Aside0.mk HWF
  have k0 : ¬ (k : Int) < 0 := by omega
  have k00 : (0 : Int) ≤ k := by omega
  have k1 : ¬ (k : Int) ≥ code.length := by omega
  clear hC HWF hx hy
  by_cases h5 : x0 = 5
  · rw [if_pos h5]
    subst h5
    obtain ⟨whole, hwh⟩ : ∃ n : Nat, n = 2 ^ m - 1 := ⟨_, rfl⟩
    rw [← hwh]
    have HWH := Aside0.mk hwh
    clear hwh
    obtain ⟨R, hR⟩ : ∃ R, lastG code x1 whole (code.length - (k + 1)) (k + 1) 0 = R := ⟨_, rfl⟩
    rw [hR]
    have HQ := Aside0.mk hR
    clear hR
    go_enter Tryz.func43, Tryz.ntmps43
    go_upto_region 4 with (fail)
    obtain ⟨w1, hw1⟩ : ∃ w1 : World, w1 = w.alloc (.cells #[.slice A0 ts.length c0, .string la, .string gl, .slice (some ad) code.length c3] 25) := ⟨_, rfl⟩
    have HB := Aside0.mk (show Below w.heap.size w w1 by rw [hw1]; exact below_alloc (Below.refl _ _) _)
    have HR := Aside0.mk (show w1.heap[w.heap.size]? = some (.cells #[.slice A0 ts.length c0, .string la, .string gl, .slice (some ad) code.length c3] 25 (0, 0)) by rw [hw1]; exact heap_alloc_new w _)
    rw [← hw1]
    clear hw1 y0 y1 y2 y3 y4
    have e0 := (blk_cell HR.out 0).trans (rfl : _ = some (Value.slice A0 ts.length c0))
    have e1 := (blk_cell HR.out 1).trans (rfl : _ = some (Value.string la))
    have e2 := (blk_cell HR.out 2).trans (rfl : _ = some (Value.string gl))
    have e3 := (blk_cell HR.out 3).trans (rfl : _ = some (Value.slice (some ad) code.length c3))
    go_region_held3 (fun W => W.cell? ⟨w.heap.size, 0, none⟩ = some (.slice A0 ts.length c0) ∧ W.cell? ⟨w.heap.size, 1, none⟩ = some (.string la) ∧ W.cell? ⟨w.heap.size, 2, none⟩ = some (.string gl) ∧ W.cell? ⟨w.heap.size, 3, none⟩ = some (.slice (some ad) code.length c3))
      (first
        | exact ⟨e0, e1, e2, e3⟩
        | go_keep)
      (first
        | (go_at_call 73; (with_reducible refine (HL.out _ ?side1).mono ?_); (case side1 => first | exact HB.out | exact below_drew1 HB.out); rintro e w2 ⟨rfl, hb⟩; have HR := Aside0.mk ((hb.block _ (blk_lt HR.out)).trans HR.out); have HB := Aside0.mk (by first | exact below_step HB.out hb | exact below_step (below_drew1 HB.out) hb); have e0 := (blk_cell HR.out 0).trans (rfl : _ = some (Value.slice A0 ts.length c0)); have e1 := (blk_cell HR.out 1).trans (rfl : _ = some (Value.string la)); have e2 := (blk_cell HR.out 2).trans (rfl : _ = some (Value.string gl)); have e3 := (blk_cell HR.out 3).trans (rfl : _ = some (Value.slice (some ad) code.length c3)); clear hb)
        | (go_at_call 72; (with_reducible refine (HS.out _ HB.out).mono ?_); rintro e w3 ⟨rfl, hb⟩; have HR := Aside0.mk ((hb.block _ (blk_lt HR.out)).trans HR.out); have HB := Aside0.mk (below_step HB.out hb); have e0 := (blk_cell HR.out 0).trans (rfl : _ = some (Value.slice A0 ts.length c0)); have e1 := (blk_cell HR.out 1).trans (rfl : _ = some (Value.string la)); have e2 := (blk_cell HR.out 2).trans (rfl : _ = some (Value.string gl)); have e3 := (blk_cell HR.out 3).trans (rfl : _ = some (Value.slice (some ad) code.length c3)); clear hb))
    go_upto_region 5 with (fail)
    rw [show IntKind.i64.wrap (IntKind.i64.wrap (2 ^ m) - 1) = ((2 ^ m - 1 : Nat) : Int) from pw m m6, ← HWH.out]
    clear HWH
    generalize IntKind.i64.wrap (2 ^ m) = q40
    have hk1 : (k : Int) + 1 ≤ code.length := by omega
    have hk2 : (0 : Int) ≤ (k : Int) + 1 := by omega
    have hk3 : (k : Int) + 1 ≤ c3 := by omega
    obtain ⟨L, hL⟩ : ∃ L, L = code.length - (k + 1) := ⟨_, rfl⟩
    have hLk : k + 1 + L = code.length := by omega
    rw [← hL] at HQ
    have HX := Aside0.mk hLk
    have HE := Aside0.mk (fun (j : Nat) (hj : j < L) => box_at HC.out (k + 1) j (by omega))
    go_upto_region 7 with (fail)
    all_goals rw [← hL]
    all_goals clear hL
    all_goals go_loopw [48, 7] (fun x v wr => ∃ j had : Nat, x = .int .i64 j ∧ v = .int .i64 had ∧ j ≤ L ∧ had < 64 ∧ Aside0 (lastG code x1 whole (L - j) (k + 1 + j) had = R) ∧ Aside0 (Below w.heap.size w wr)) (fun x _ _ => L - (intOf x).toNat)
    all_goals first
      | exact ⟨0, 0, rfl, rfl, Nat.zero_le _, by decide, HQ, HB⟩
      | skip
    case round =>
      obtain ⟨j, had, rfl, rfl, hj, h64, HJ, HJB⟩ := hrel
      obtain rfl : L = 0 := by omega
      obtain rfl : j = 0 := by omega
      have hr : -1 = R := HJ.out
      subst hr
      clear HJ HQ HE HX HC HB HR HWA
      go_wp2
      go_ret
      exact ⟨rfl, HJB.out⟩
    case round =>
      clear HQ HB HR
      obtain ⟨j, had, rfl, rfl, hj, h64, HJ, HJB⟩ := hrel
      by_cases hlt : (j : Int) < (L : Int)
      · obtain ⟨d, hd⟩ : ∃ d, L - j = d + 1 := ⟨L - j - 1, by omega⟩
        have hd1 : L - (j + 1) = d := by omega
        have hjn : j < L := by omega
        have hk4 : (0 : Int) ≤ j := by omega
        have hk5 : (j : Int) < (code.length - (k + 1) : Nat) := by omega
        have hz := HE.out j hjn _ HJB.out
        have hj1 := HJ.out
        rw [hd] at hj1
        unfold lastG at hj1
        have hwy := HWA.out.rd (k + 1 + j) (by omega)
        obtain ⟨y, hy⟩ : ∃ y, y = rd_T46 code (k + 1 + j : Nat) := ⟨_, rfl⟩
        rw [← hy] at hz hj1 hwy
        obtain ⟨y0, y1, y2, y3, y4⟩ := y
        obtain ⟨z0, z1, z2, z3, z4⟩ := hz
        simp only at z0 z1 z2 z3 z4 hj1 hwy
        clear hy HE HJ
        by_cases c1 : y0 = 1 ∨ y0 = 2 ∨ y0 = 14 ∨ y0 = 15
        · rw [if_pos c1] at hj1
          have HN := Aside0.mk hj1
          clear hj1
          rcases c1 with rfl | rfl | rfl | rfl
          all_goals go_wp2
          all_goals go_roundw
          all_goals first
            | exact ⟨j + 1, had, by go_num, rfl, by omega, h64, ⟨by rw [hd1, ← Nat.add_assoc]; exact HN.out⟩, ⟨below_alloc HJB.out _⟩⟩
            | (simp [intOf]; omega)
        · rw [if_neg c1] at hj1
          by_cases c2 : y0 = 6 ∨ y0 = 7
          · rw [if_pos c2] at hj1
            by_cases e1 : y1 = x1
            · rw [if_pos e1] at hj1
              subst e1
              subst hj1
              clear hwy c1
              rcases c2 with rfl | rfl
              all_goals go_wp2
              all_goals go_ret
              all_goals exact ⟨rfl, below_alloc HJB.out _⟩
            · rw [if_neg e1] at hj1
              have e2 : (y1 != x1) = true := bne_iff_ne.2 e1
              have HN := Aside0.mk hj1
              clear hj1 e1 c1 hwy
              rcases c2 with rfl | rfl
              all_goals go_wp2
              all_goals go_roundw
              all_goals first
                | exact ⟨j + 1, had, by go_num, rfl, by omega, h64, ⟨by rw [hd1, ← Nat.add_assoc]; exact HN.out⟩, ⟨below_alloc HJB.out _⟩⟩
                | (simp [intOf]; omega)
          · rw [if_neg c2] at hj1
            by_cases c3' : y0 = 9 ∨ y0 = 11
            · rw [if_pos c3'] at hj1
              clear c1 c2 hwy
              by_cases g : y1 = x1 ∧ 0 ≤ y4 ∧ y4 < 6
              · rw [if_pos g] at hj1
                obtain ⟨rfl, g0, g6⟩ := g
                obtain ⟨n, rfl⟩ := Int.eq_ofNat_of_zero_le g0
                rw [Int.toNat_natCast] at hj1
                have hbo := Aside0.mk (bits_or had n h64 (by omega))
                have hlt := or_lt had n h64 (by omega)
                generalize had ||| 2 ^ n = hd2 at hbo hlt hj1
                by_cases ew : hd2 = whole
                · rw [if_pos ew] at hj1
                  subst hj1
                  rcases c3' with rfl | rfl
                  all_goals go_upto_region 24 with (fail)
                  all_goals rw [hbo.out]
                  all_goals go_wp2
                  all_goals go_ret
                  all_goals exact ⟨by go_num, below_alloc HJB.out _⟩
                · rw [if_neg ew] at hj1
                  have ew2 : ((hd2 : Int) == (whole : Int)) = false := beq_eq_false_iff_ne.2 (by omega)
                  have HN := Aside0.mk hj1
                  clear hj1 ew
                  rcases c3' with rfl | rfl
                  all_goals go_upto_region 24 with (fail)
                  all_goals rw [hbo.out]
                  all_goals go_wp2
                  all_goals go_roundw
                  all_goals first
                    | exact ⟨j + 1, hd2, by go_num, rfl, by omega, hlt, ⟨by rw [hd1, ← Nat.add_assoc]; exact HN.out⟩, ⟨below_alloc HJB.out _⟩⟩
                    | (simp [intOf]; omega)
              · rw [if_neg g] at hj1
                subst hj1
                have g' : y1 ≠ x1 ∨ (y1 = x1 ∧ y4 < 0) ∨ (y1 = x1 ∧ 0 ≤ y4 ∧ 6 ≤ y4) := by omega
                clear g
                rcases g' with e1 | ⟨rfl, e1⟩ | ⟨rfl, e1, e2⟩
                · have e2 : (y1 != x1) = true := bne_iff_ne.2 e1
                  clear e1
                  rcases c3' with rfl | rfl
                  all_goals go_wp2
                  all_goals go_ret
                  all_goals exact ⟨rfl, below_alloc HJB.out _⟩
                all_goals rcases c3' with rfl | rfl
                all_goals go_wp2
                all_goals go_ret
                all_goals exact ⟨rfl, below_alloc HJB.out _⟩
            · rw [if_neg c3'] at hj1
              subst hj1
              have b1 : (y0 == 1) = false := beq_eq_false_iff_ne.2 (by omega)
              have b2 : (y0 == 2) = false := beq_eq_false_iff_ne.2 (by omega)
              have b3 : (y0 == 14) = false := beq_eq_false_iff_ne.2 (by omega)
              have b4 : (y0 == 15) = false := beq_eq_false_iff_ne.2 (by omega)
              have b5 : (y0 == 6) = false := beq_eq_false_iff_ne.2 (by omega)
              have b6 : (y0 == 7) = false := beq_eq_false_iff_ne.2 (by omega)
              have b7 : (y0 == 9) = false := beq_eq_false_iff_ne.2 (by omega)
              have b8 : (y0 == 11) = false := beq_eq_false_iff_ne.2 (by omega)
              clear c1 c2 c3' hwy
              go_wp2
              go_ret
              exact ⟨rfl, below_alloc HJB.out _⟩
      · obtain rfl : j = L := by omega
        have hr : -1 = R := by
          have := HJ.out
          rw [Nat.sub_self] at this
          exact this
        subst hr
        clear HJ HE HX HC HWA
        go_wp2
        go_ret
        exact ⟨rfl, HJB.out⟩
  · rw [if_neg h5]
    have h5' : (x0 != 5) = true := bne_iff_ne.2 h5
    go_enter Tryz.func43, Tryz.ntmps43
    go_wp2
    go_ret
    exact ⟨rfl, below_alloc (Below.refl _ _) _⟩
theorem Full_c (p : Pg) (w : World) (h : p.On w) (hsm : p.code.length ≤ 1000000) (k : Nat) (hk : k < p.code.length) : Calls Tryz.prog 25 #[p.v, .int .i64 k] w fun e w' => e = .returned (.bool (decide (0 ≤ lastB p k))) ∧ Below w.heap.size w w' := by
  have LA := Aside0.mk (fun W (hW : Below w.heap.size w W) => Last_c p W (h.below hW) hsm k hk)
  clear h
  obtain ⟨A0, c0, ts, la, gl, A3, c3, code⟩ := p
  simp only at LA hk hsm
  generalize lastB ⟨A0, c0, ts, la, gl, A3, c3, code⟩ k = l at LA ⊢
  show Calls _ _ #[.agg #[.slice A0 ts.length c0, .string la, .string gl, .slice A3 code.length c3], .int .i64 k] _ _
  go_enter Tryz.func25, Tryz.ntmps25
  go_wp2_with (go_at_call 43; (with_reducible refine (LA.out _ (below_alloc (Below.refl _ _) _)).mono ?_); rintro e w1 ⟨rfl, hb⟩; have HB := Aside0.mk (below_step (below_alloc (Below.refl _ _) _) hb); clear hb)
  go_ret
  exact ⟨rfl, HB.out⟩
end Go.Proofs.YtocechpmgfhenaaGreatDoor.FUL

namespace Go.Proofs.YtocechpmgfhenaaGreatDoor.PF
open Go.RowKit Go.Proofs.YtocechpmgfhenaaGreatDoorW.PrintWords Go.Proofs.YtocechpmgfhenaaGreatDoor.F Go.Proofs.YtocechpmgfhenaaGreatDoor.PL Go.Proofs.YtocechpmgfhenaaGreatDoor.FP Go.Proofs.YtocechpmgfhenaaGreatDoor.FSF Go.Proofs.YtocechpmgfhenaaGreatDoor.PK
set_option linter.unusedVariables false
set_option linter.unusedSimpArgs false
structure Fc where
  st : Bool
  raw : Bool
  pl : Bool
def FC (w : World) (A : Option Addr) (n : Nat) (f : Nat → Fc) : Prop := ∀ k, k < n → ∃ ad, A = some ad ∧ ∀ W, Below w.heap.size w W → W.cell? (ad.add (k * 3)) = some (.bool (f k).st) ∧ W.cell? ⟨(ad.add (k * 3)).block, (ad.add (k * 3)).off + 1, none⟩ = some (.bool (f k).raw) ∧ W.cell? ⟨(ad.add (k * 3)).block, (ad.add (k * 3)).off + 2, none⟩ = some (.bool (f k).pl)
def RowF (w : World) (b n : Nat) (f : Nat → Fc) : Prop := ∃ cs : Array Value, w.heap[b]? = some (.cells cs 35 (0, 0)) ∧ cs.size = n * 3 ∧ ∀ k, k < n → cs[k * 3]? = some (.bool (f k).st) ∧ cs[k * 3 + 1]? = some (.bool (f k).raw) ∧ cs[k * 3 + 2]? = some (.bool (f k).pl)
theorem RowF.move {w w1 : World} {b n : Nat} {f : Nat → Fc} (h : RowF w b n f) (he : w1.heap[b]? = w.heap[b]?) : RowF w1 b n f := by
  obtain ⟨cs, hc, h2⟩ := h
  exact ⟨cs, he.trans hc, h2⟩
theorem RowF.lt {w : World} {b n : Nat} {f : Nat → Fc} (h : RowF w b n f) : b < w.heap.size := by
  obtain ⟨cs, hc, _⟩ := h
  exact blk_lt hc
theorem RowF.fc {w : World} {b n : Nat} {f : Nat → Fc} (h : RowF w b n f) : FC w (some ⟨b, 0, none⟩) n f := fun k hk => ⟨_, rfl, fun W hW => by
  obtain ⟨cs, hc, _, hy⟩ := h.move (hW.block b h.lt)
  obtain ⟨y0, y1, y2⟩ := hy k hk
  rw [Addr.add_mid, Nat.zero_add]
  exact ⟨(blk_cell hc _).trans y0, (blk_cell hc _).trans y1, (blk_cell hc _).trans y2⟩⟩
def cnt (g : Nat → Bool) : Nat → Nat
  | 0 => 0
  | k + 1 => cnt g k + (g k).toNat
theorem cnt_le (g : Nat → Bool) (k : Nat) : cnt g k ≤ k := by
  induction k with
  | zero => exact Nat.le_refl _
  | succ k ih => have := Bool.toNat_le (g k); simp only [cnt]; omega
theorem run_loadVar_num {P : Program} (w : World) (a : Addr) (ty : TypeId) (d : TypeDesc) (v : Value) (hu : P.underlying ty = some d) (hd : (match d with | .struct _ | .array _ _ => true | _ => false) = false) (hc : w.cell? a = some v) : (loadVar ty a).run P w = .ok v w := by
  have hagg : (isAgg ty).run P w = .ok false w := by
    unfold isAgg
    rw [Sem.run_bind, run_underlying hu w]
    cases d <;> simp_all
  simp [loadVar, Sem.run_bind, hagg, hc]
theorem results_cell3 {P : Program} {fn : Func} {p q r : Tmp} {ty : TypeId} (h : fn.results = #[.cell p ty, .cell q ty, .cell r ty]) (tmps : Array Value) (w : World) (d : TypeDesc) (hu : P.underlying ty = some d) (hd : (match d with | .struct _ | .array _ _ => true | _ => false) = false) (a b c : Addr) (x y z : Value)
    (ha : tmps.getD p undef = .pointer (some a)) (hb : tmps.getD q undef = .pointer (some b)) (hc : tmps.getD r undef = .pointer (some c)) (hx : w.cell? a = some x) (hy : w.cell? b = some y) (hz : w.cell? c = some z) : (results fn tmps).run P w = .ok (.tuple #[x, y, z]) w := by
  rw [Array.getD_eq_getD_getElem?] at ha hb hc
  simp only [results, h]
  simp [Sem.run_bind, Result.andThen, asAddr, ha, hb, hc, run_loadVar_num w a ty d x hu hd hx, run_loadVar_num w b ty d y hu hd hy, run_loadVar_num w c ty d z hu hd hz]
structure SV (w W : World) (s r q : Nat) : Prop where
  b0 : W.heap[w.heap.size]? = some (.cells #[.int .i64 s] 3 (0, 0))
  b1 : W.heap[w.heap.size + 1]? = some (.cells #[.int .i64 r] 3 (0, 0))
  b2 : W.heap[w.heap.size + 1 + 1]? = some (.cells #[.int .i64 q] 3 (0, 0))
  below : Below w.heap.size w W
theorem SV.alloc {w W : World} {s r q : Nat} (h : SV w W s r q) (o : Obj) : SV w (W.alloc o) s r q :=
  ⟨ST0.row_old _ _ _ (blk_lt h.b0) h.b0, ST0.row_old _ _ _ (blk_lt h.b1) h.b1, ST0.row_old _ _ _ (blk_lt h.b2) h.b2, below_alloc h.below _⟩
theorem SV.set0 {w W : World} {s r q : Nat} (h : SV w W s r q) (m : Nat) : SV w (W.setCell ⟨w.heap.size, 0, none⟩ (.int .i64 m)) m r q :=
  ⟨ST0.row_cellS _ h.b0, blk_far h.b1 (by simp) _, blk_far h.b2 (by simp; omega) _, h.below.setCell (Nat.le_refl _) _⟩
theorem SV.set1 {w W : World} {s r q : Nat} (h : SV w W s r q) (m : Nat) : SV w (W.setCell ⟨w.heap.size + 1, 0, none⟩ (.int .i64 m)) s m q :=
  ⟨blk_far h.b0 (by simp) _, ST0.row_cellS _ h.b1, blk_far h.b2 (by simp) _, h.below.setCell (Nat.le_succ _) _⟩
theorem SV.set2 {w W : World} {s r q : Nat} (h : SV w W s r q) (m : Nat) : SV w (W.setCell ⟨w.heap.size + 1 + 1, 0, none⟩ (.int .i64 m)) s r m :=
  ⟨blk_far h.b0 (by simp; omega) _, blk_far h.b1 (by simp) _, ST0.row_cellS _ h.b2, h.below.setCell (by simp; omega) _⟩
def LR (w W : World) (b : Nat) (t0 t1 t2 : Bool) : Prop := w.heap.size + 1 + 1 < b ∧ ∃ t, W.heap[b]? = some (.cells #[.bool t0, .pointer (some ⟨w.heap.size, 0, none⟩), .bool t1, .pointer (some ⟨w.heap.size + 1, 0, none⟩), .bool t2, .pointer (some ⟨w.heap.size + 1 + 1, 0, none⟩)] t (0, 0))
theorem LR.alloc {w W : World} {b : Nat} {t0 t1 t2 : Bool} (h : LR w W b t0 t1 t2) (o : Obj) : LR w (W.alloc o) b t0 t1 t2 := by
  obtain ⟨h0, t, h1⟩ := h
  exact ⟨h0, t, ST0.row_old _ _ _ (blk_lt h1) h1⟩
theorem LR.set {w W : World} {b : Nat} {t0 t1 t2 : Bool} (h : LR w W b t0 t1 t2) (i : Nat) (hi : i ≤ w.heap.size + 1 + 1) (v : Value) : LR w (W.setCell ⟨i, 0, none⟩ v) b t0 t1 t2 := by
  obtain ⟨h0, t, h1⟩ := h
  exact ⟨h0, t, blk_far h1 (by simp; omega) _⟩
set_option maxHeartbeats 8000000 in
set_option maxRecDepth 100000 in
theorem Saved_c (w : World) (A : Option Addr) (n c : Nat) (f : Nat → Fc) (hC : FC w A n f) (hn : n ≤ 4000000) : Calls Tryz.prog 17 #[.slice A n c] w fun e w' =>
    e = .returned (.tuple #[.int .i64 (cnt (fun k => (f k).st) n), .int .i64 (cnt (fun k => (f k).raw) n), .int .i64 (cnt (fun k => (f k).pl) n)]) ∧ Below w.heap.size w w' := by
  have HC := Aside0.mk hC
  clear hC
  go_enter Tryz.func17, Tryz.ntmps17
  go_upto_region 2 with (fail)
  obtain ⟨W0, hW0⟩ : ∃ W0 : World, W0 = ((w.alloc (.cells #[.int .i64 0] 3)).alloc (.cells #[.int .i64 0] 3)).alloc (.cells #[.int .i64 0] 3) := ⟨_, rfl⟩
  have HS := Aside0.mk (show SV w W0 0 0 0 by
    rw [hW0]
    exact ⟨ST0.row_old _ _ _ (by simp; omega) (ST0.row_old _ _ _ (by simp) (ST0.row_new _ _ _ rfl)), ST0.row_old _ _ _ (by simp) (ST0.row_new _ _ _ (by simp)), ST0.row_new _ _ _ (by simp), below_alloc (below_alloc (below_alloc (Below.refl _ _) _) _) _⟩)
  rw [← hW0]
  clear hW0
  go_loopw [11] (fun x W => ∃ k : Nat, x = .int .i64 k ∧ k ≤ n ∧ Aside0 (SV w W (cnt (fun k => (f k).st) k) (cnt (fun k => (f k).raw) k) (cnt (fun k => (f k).pl) k))) (fun x _ => n - (intOf x).toNat)
  case atStart => exact ⟨0, rfl, Nat.zero_le _, HS⟩
  case round =>
    clear HS
    obtain ⟨k, rfl, hk, HS⟩ := hrel
    by_cases hlt : (k : Int) < n
    · have k0 : (0 : Int) ≤ k := by omega
      obtain ⟨ad, rfl, hy⟩ := HC.out k (by omega)
      obtain ⟨y0, y1, y2⟩ := hy _ HS.out.below
      have hl0 := cnt_le (fun k => (f k).st) k
      have hl1 := cnt_le (fun k => (f k).raw) k
      have hl2 := cnt_le (fun k => (f k).pl) k
      have hs0 : cnt (fun k => (f k).st) (k + 1) = cnt (fun k => (f k).st) k + (f k).st.toNat := rfl
      have hs1 : cnt (fun k => (f k).raw) (k + 1) = cnt (fun k => (f k).raw) k + (f k).raw.toNat := rfl
      have hs2 : cnt (fun k => (f k).pl) (k + 1) = cnt (fun k => (f k).pl) k + (f k).pl.toNat := rfl
      have HN := Aside0.mk (And.intro hs0 (And.intro hs1 hs2))
      clear hs0 hs1 hs2
      generalize cnt (fun k => (f k).st) k = s at HS hl0 HN
      generalize cnt (fun k => (f k).raw) k = r at HS hl1 HN
      generalize cnt (fun k => (f k).pl) k = q at HS hl2 HN
      generalize (f k).st = t0 at y0 HN
      generalize (f k).raw = t1 at y1 HN
      generalize (f k).pl = t2 at y2 HN
      go_upto_region 5 with (fail)
      obtain ⟨b, hb⟩ : ∃ b, b = wr.heap.size + 1 := ⟨_, rfl⟩
      obtain ⟨W1, hW1⟩ : ∃ W1 : World, W1 = (wr.alloc (.cells #[.bool t0, .bool t1, .bool t2] 35)).alloc (.cells #[.bool t0, .pointer (some ⟨w.heap.size, 0, none⟩), .bool t1, .pointer (some ⟨w.heap.size + 1, 0, none⟩), .bool t2, .pointer (some ⟨w.heap.size + 1 + 1, 0, none⟩)] 76) := ⟨_, rfl⟩
      have HS1 := Aside0.mk (show SV w W1 s r q by rw [hW1]; exact (HS.out.alloc _).alloc _)
      have HR1 := Aside0.mk (show LR w W1 b t0 t1 t2 by
        rw [hW1, hb]
        have := blk_lt HS.out.b2
        exact ⟨by omega, _, ST0.row_new _ _ _ (by simp)⟩)
      rw [← hW1, ← hb]
      clear hW1 hb HS y0 y1 y2 hy
      go_loopw [26] (fun x W => ∃ j : Nat, x = .int .i64 j ∧ j ≤ 3 ∧ Aside0 (SV w W (s + if 1 ≤ j then t0.toNat else 0) (r + if 2 ≤ j then t1.toNat else 0) (q + if 3 ≤ j then t2.toNat else 0) ∧ LR w W b t0 t1 t2)) (fun x _ => 3 - (intOf x).toNat)
      case atStart => exact ⟨0, rfl, Nat.zero_le _, ⟨HS1.out, HR1.out⟩⟩
      case round =>
        clear HS1 HR1
        obtain ⟨j, rfl, hj, HJ⟩ := hrel
        obtain rfl | rfl | rfl | rfl : j = 0 ∨ j = 1 ∨ j = 2 ∨ j = 3 := by omega
        · have hV : SV w wr s r q := HJ.out.1
          have HL := Aside0.mk HJ.out.2
          have HV := Aside0.mk hV
          obtain ⟨hlr, tt, hL⟩ := HJ.out.2
          clear HJ
          have hbl := blk_lt hL
          have d0 := (blk_cell hV.b0 0).trans (rfl : _ = some (Value.int .i64 _))
          have f0 := blk_frozen hV.b0 0
          have a0 := (blk_cell hL 0).trans (rfl : _ = some (Value.bool t0))
          have a1 := (blk_cell hL 1).trans (rfl : _ = some (Value.pointer (some ⟨w.heap.size, 0, none⟩)))
          have hlt2 : w.heap.size + 1 + 1 < wr.heap.size := blk_lt hV.b2
          have hl2 : w.heap.size < wr.heap.size := by omega
          have hl3 : w.heap.size + 1 < wr.heap.size := by omega
          clear hV hL
          cases t0
          · go_wp2
            go_roundw
            case rel => exact ⟨1, rfl, by decide, ⟨HV.out.alloc _, HL.out.alloc _⟩⟩
            case measure => simp [intOf]
          · go_wp2
            go_roundw
            case rel => exact ⟨1, rfl, by decide, ⟨(HV.out.set0 (s + 1)).alloc _, (HL.out.set w.heap.size (by omega) _).alloc _⟩⟩
            case measure => simp [intOf]
        · have hV : SV w wr (s + t0.toNat) r q := HJ.out.1
          have hb0 := Bool.toNat_le t0
          have HL := Aside0.mk HJ.out.2
          have HV := Aside0.mk hV
          obtain ⟨hlr, tt, hL⟩ := HJ.out.2
          clear HJ
          have hbl := blk_lt hL
          have d1 := (blk_cell hV.b1 0).trans (rfl : _ = some (Value.int .i64 _))
          have f1 := blk_frozen hV.b1 0
          have a0 := (blk_cell hL 2).trans (rfl : _ = some (Value.bool t1))
          have a1 := (blk_cell hL 3).trans (rfl : _ = some (Value.pointer (some ⟨w.heap.size + 1, 0, none⟩)))
          have hlt2 : w.heap.size + 1 + 1 < wr.heap.size := blk_lt hV.b2
          have hl2 : w.heap.size < wr.heap.size := by omega
          have hl3 : w.heap.size + 1 < wr.heap.size := by omega
          clear hV hL
          cases t1
          · go_wp2
            go_roundw
            case rel => exact ⟨2, rfl, by decide, ⟨HV.out.alloc _, HL.out.alloc _⟩⟩
            case measure => simp [intOf]
          · go_wp2
            go_roundw
            case rel => exact ⟨2, rfl, by decide, ⟨(HV.out.set1 (r + 1)).alloc _, (HL.out.set (w.heap.size + 1) (by omega) _).alloc _⟩⟩
            case measure => simp [intOf]
        · have hV : SV w wr (s + t0.toNat) (r + t1.toNat) q := HJ.out.1
          have hb0 := Bool.toNat_le t0
          have hb1 := Bool.toNat_le t1
          have HL := Aside0.mk HJ.out.2
          have HV := Aside0.mk hV
          obtain ⟨hlr, tt, hL⟩ := HJ.out.2
          clear HJ
          have hbl := blk_lt hL
          have d2 := (blk_cell hV.b2 0).trans (rfl : _ = some (Value.int .i64 _))
          have f2 := blk_frozen hV.b2 0
          have a0 := (blk_cell hL 4).trans (rfl : _ = some (Value.bool t2))
          have a1 := (blk_cell hL 5).trans (rfl : _ = some (Value.pointer (some ⟨w.heap.size + 1 + 1, 0, none⟩)))
          have hlt2 : w.heap.size + 1 + 1 < wr.heap.size := blk_lt hV.b2
          have hl2 : w.heap.size < wr.heap.size := by omega
          have hl3 : w.heap.size + 1 < wr.heap.size := by omega
          clear hV hL
          cases t2
          · go_wp2
            go_roundw
            case rel => exact ⟨3, rfl, by decide, ⟨HV.out.alloc _, HL.out.alloc _⟩⟩
            case measure => simp [intOf]
          · go_wp2
            go_roundw
            case rel => exact ⟨3, rfl, by decide, ⟨(HV.out.set2 (q + 1)).alloc _, (HL.out.set (w.heap.size + 1 + 1) (by omega) _).alloc _⟩⟩
            case measure => simp [intOf]
        · have HV := Aside0.mk (show SV w wr (s + t0.toNat) (r + t1.toNat) (q + t2.toNat) from HJ.out.1)
          clear HJ
          go_wp2
          go_roundw
          case rel => exact ⟨k + 1, by go_num, by omega, ⟨by rw [HN.out.1, HN.out.2.1, HN.out.2.2]; exact HV.out⟩⟩
          case measure =>
            simp [intOf]
            omega
    · obtain rfl : k = n := by omega
      have c0 := (blk_cell HS.out.b0 0).trans (rfl : _ = some (Value.int .i64 _))
      have c1 := (blk_cell HS.out.b1 0).trans (rfl : _ = some (Value.int .i64 _))
      have c2 := (blk_cell HS.out.b2 0).trans (rfl : _ = some (Value.int .i64 _))
      have f0 := blk_frozen HS.out.b0 0
      have f1 := blk_frozen HS.out.b1 0
      have f2 := blk_frozen HS.out.b2 0
      go_wp2
      have hz := ((HS.out.set0 (cnt (fun k => (f k).st) k)).set1 (cnt (fun k => (f k).raw) k)).set2 (cnt (fun k => (f k).pl) k)
      (try simp only [Exit.inBlock, Exit.then])
      refine bodyPost_ret (results_cell3 rfl _ _ _ Tryz.underlying3 rfl _ _ _ _ _ _ rfl rfl rfl ((blk_cell hz.b0 0).trans rfl) ((blk_cell hz.b1 0).trans rfl) ((blk_cell hz.b2 0).trans rfl)) rfl ?_
      exact ⟨rfl, hz.below⟩
end Go.Proofs.YtocechpmgfhenaaGreatDoor.PF

namespace Go.Proofs.YtocechpmgfhenaaGreatDoor.PL
open Go.RowKit Go.Proofs.YtocechpmgfhenaaGreatDoorW.PrintWords Go.Proofs.YtocechpmgfhenaaGreatDoor.F Go.Proofs.YtocechpmgfhenaaGreatDoor.KP Go.Proofs.YtocechpmgfhenaaGreatDoor.CR Go.Proofs.YtocechpmgfhenaaGreatDoor.SH Go.Proofs.YtocechpmgfhenaaGreatDoor.FM Go.Proofs.YtocechpmgfhenaaGreatDoor.ST0
set_option linter.unusedVariables false
set_option linter.unusedSectionVars false
set_option linter.unusedSimpArgs false
noncomputable def kindsD (ts : List ByteArray) (la gl : ByteArray) (o : Nat) (f1 f2 f3 f4 : Int) : Bool :=
  if o = 1 ∨ o = 4 ∨ o = 14 then decide (f1 < 8) else if o = 2 then decide (f1 < 8) && (decide (f2 < 8) && decide (f3 < 8)) else if o = 5 ∨ o = 6 then decide (0 ≤ atv ts la f1)
  else if o = 7 then oneB (atv ts la f1) (atv ts la f2) else if o = 8 then decide (f1 < 8) && numP ts (atv ts la f2) f4 else if o = 9 then decide (f2 < 8) && numP ts (atv ts la f1) f4
  else if o = 10 then oneB (atv ts la f1) (toP ts (atv ts la f2) f4) else if o = 11 then oneB (atv ts la f2) (toP ts (atv ts la f1) f4)
  else if o = 12 then oneB (atv ts la f1) (atv ts gl f2) else if o = 13 then oneB (atv ts la f2) (atv ts gl f1) else if o = 15 then decide (f1 < 8) && oneB (atv ts la f2) (atv ts la f3) else true
theorem oneB_iff' (a b : Int) : oneB a b = true ↔ 0 ≤ a ∧ a = b := by simp [oneB]
theorem kindsD_iff {ts : List ByteArray} {la gl : ByteArray} {o : Nat} {f1 f2 f3 f4 : Int} (h1 : 1 ≤ o) (h15 : o ≤ 15) : kindsD ts la gl o f1 f2 f3 f4 = true ↔ intsB o f1 f2 f3 = true ∧ KindsP ts la gl o f1 f2 f3 f4 := by
  unfold kindsD KindsP intsB numP toP
  obtain rfl | rfl | rfl | rfl | rfl | rfl | rfl | rfl | rfl | rfl | rfl | rfl | rfl | rfl | rfl : o = 1 ∨ o = 2 ∨ o = 3 ∨ o = 4 ∨ o = 5 ∨ o = 6 ∨ o = 7 ∨ o = 8 ∨ o = 9 ∨ o = 10 ∨ o = 11 ∨ o = 12 ∨ o = 13 ∨ o = 14 ∨ o = 15 := by omega
  all_goals simp [oneB_iff']
  all_goals split <;> omega
section
variable (p : Pg) (w : World) (o : Nat) (f1 f2 f3 f4 : Int) (h1 : 1 ≤ o) (h15 : o ≤ 15) (hx : WfI o f1 f2 f3 f4) (hp : p.On w)
include h1 h15 hx hp
set_option maxHeartbeats 8000000 in
set_option maxRecDepth 100000 in
theorem pkinds_c : Calls Tryz.prog 59 #[p.v, .agg #[.int .u8 o, .int .u8 f1, .int .u8 f2, .int .u8 f3, .int .i64 f4]] w fun e w' => e = .returned (.bool (kindsD p.ts p.la p.gl o f1 f2 f3 f4)) ∧ Below w.heap.size w w' := by
  obtain ⟨_, ⟨a0, a1⟩, ⟨b0, b1⟩, ⟨c0', c1⟩, _⟩ := hx
  obtain ⟨A0, c0, ts, la, gl, A3, c3, code⟩ := p
  have HP := Aside0.mk hp
  have HA := Aside0.mk (And.intro a0 a1)
  have HBB := Aside0.mk (And.intro b0 b1)
  have HCC := Aside0.mk (And.intro c0' c1)
  clear hp a0 a1 b0 b1 c0' c1
  have LOC : Aside0 (∀ W, Below w.heap.size w W → ∀ a : Int, 0 ≤ a → a ≤ 255 → Calls Tryz.prog 73 #[.agg #[.slice A0 ts.length c0, .string la, .string gl, .slice A3 code.length c3], .int .u8 a] W fun e w' => e = .returned (.int .i64 (atv ts la a)) ∧ Below W.heap.size W w') := ⟨fun W hW a h0 h1 => pLocal_c ⟨A0, c0, ts, la, gl, A3, c3, code⟩ W (HP.out.below hW) a h0 h1⟩
  have HW := Aside0.mk (Below.refl w.heap.size w)
  show Calls Tryz.prog 59 #[.agg #[.slice A0 ts.length c0, .string la, .string gl, .slice A3 code.length c3], .agg #[.int .u8 o, .int .u8 f1, .int .u8 f2, .int .u8 f3, .int .i64 f4]] w fun e w' => e = .returned (.bool (kindsD ts la gl o f1 f2 f3 f4)) ∧ Below w.heap.size w w'
  go_enter Tryz.func59, Tryz.ntmps59
  go_upto_region 1 with (fail)
  obtain ⟨W0, hW0⟩ : ∃ W0 : World, W0 = (w.alloc (.cells #[.slice A0 ts.length c0, .string la, .string gl, .slice A3 code.length c3] 25)).alloc (.cells #[.int .u8 o, .int .u8 f1, .int .u8 f2, .int .u8 f3, .int .i64 f4] 46) := ⟨_, rfl⟩
  have R0 : W0.heap[w.heap.size]? = some (.cells #[.slice A0 ts.length c0, .string la, .string gl, .slice A3 code.length c3] 25 (0, 0)) := by rw [hW0]; exact row_old _ _ _ (by simp) (heap_alloc_new _ _)
  have R1 : W0.heap[w.heap.size + 1]? = some (.cells #[.int .u8 o, .int .u8 f1, .int .u8 f2, .int .u8 f3, .int .i64 f4] 46 (0, 0)) := by rw [hW0]; exact row_new _ _ _ (by simp)
  have zz : w.heap.size + 1 + 1 ≤ W0.heap.size := by rw [hW0]; simp
  have HW := Aside0.mk (show Below w.heap.size w W0 by rw [hW0]; exact below_alloc (below_alloc (Below.refl _ _) _) _)
  rw [← hW0]
  clear hW0
  have e0 : W0.cell? ⟨w.heap.size, 0, none⟩ = some (.slice A0 ts.length c0) := (cell_of_row _ _ 0 _ _ _ R0).trans rfl
  have e1 : W0.cell? ⟨w.heap.size, 1, none⟩ = some (.string la) := (cell_of_row _ _ 1 _ _ _ R0).trans rfl
  have e2 : W0.cell? ⟨w.heap.size, 2, none⟩ = some (.string gl) := (cell_of_row _ _ 2 _ _ _ R0).trans rfl
  have e3 : W0.cell? ⟨w.heap.size, 3, none⟩ = some (.slice A3 code.length c3) := (cell_of_row _ _ 3 _ _ _ R0).trans rfl
  have g0 : W0.cell? ⟨w.heap.size + 1, 0, none⟩ = some (.int .u8 o) := (cell_of_row _ _ 0 _ _ _ R1).trans rfl
  have g1 : W0.cell? ⟨w.heap.size + 1, 1, none⟩ = some (.int .u8 f1) := (cell_of_row _ _ 1 _ _ _ R1).trans rfl
  have g2 : W0.cell? ⟨w.heap.size + 1, 2, none⟩ = some (.int .u8 f2) := (cell_of_row _ _ 2 _ _ _ R1).trans rfl
  have g3 : W0.cell? ⟨w.heap.size + 1, 3, none⟩ = some (.int .u8 f3) := (cell_of_row _ _ 3 _ _ _ R1).trans rfl
  have g4 : W0.cell? ⟨w.heap.size + 1, 4, none⟩ = some (.int .i64 f4) := (cell_of_row _ _ 4 _ _ _ R1).trans rfl
  clear R0 R1
  go_region_held3 (fun w' => w'.cell? ⟨w.heap.size, 0, none⟩ = some (.slice A0 ts.length c0) ∧ w'.cell? ⟨w.heap.size, 1, none⟩ = some (.string la) ∧ w'.cell? ⟨w.heap.size, 2, none⟩ = some (.string gl) ∧ w'.cell? ⟨w.heap.size, 3, none⟩ = some (.slice A3 code.length c3) ∧ w'.cell? ⟨w.heap.size + 1, 1, none⟩ = some (.int .u8 f1) ∧ w'.cell? ⟨w.heap.size + 1, 2, none⟩ = some (.int .u8 f2))
      (first
        | (exact ⟨e0, e1, e2, e3, g1, g2⟩)
        | go_keep)
      ((first
        | (go_at_call 73; ((with_reducible refine (LOC.out _ ?side1 f1 HA.out.1 HA.out.2).mono ?_); (case side1 => first | exact HW.out | exact below_drew1 HW.out); rintro e w1 ⟨rfl, hb1⟩; obtain ⟨hq1, hf1⟩ := bcell (B := w.heap.size + 1 + 1) (hb1.mono zz); have e0 := (hq1 _ _ (by omega)).trans e0; have e1 := (hq1 _ _ (by omega)).trans e1; have e2 := (hq1 _ _ (by omega)).trans e2; have e3 := (hq1 _ _ (by omega)).trans e3; have g0 := (hq1 _ _ (by omega)).trans g0; have g1 := (hq1 _ _ (by omega)).trans g1; have g2 := (hq1 _ _ (by omega)).trans g2; have g3 := (hq1 _ _ (by omega)).trans g3; have g4 := (hq1 _ _ (by omega)).trans g4; have HW := Aside0.mk (show Below w.heap.size w w1 from below_step (by first | exact HW.out | exact below_drew1 HW.out) hb1); have zz : w.heap.size + 1 + 1 ≤ w1.heap.size := Nat.le_trans zz hb1.size; clear hb1 hq1 hf1))
        | (go_at_call 73; ((with_reducible refine (LOC.out _ ?side1 f2 HBB.out.1 HBB.out.2).mono ?_); (case side1 => first | exact HW.out | exact below_drew1 HW.out); rintro e w1 ⟨rfl, hb1⟩; obtain ⟨hq1, hf1⟩ := bcell (B := w.heap.size + 1 + 1) (hb1.mono zz); have e0 := (hq1 _ _ (by omega)).trans e0; have e1 := (hq1 _ _ (by omega)).trans e1; have e2 := (hq1 _ _ (by omega)).trans e2; have e3 := (hq1 _ _ (by omega)).trans e3; have g0 := (hq1 _ _ (by omega)).trans g0; have g1 := (hq1 _ _ (by omega)).trans g1; have g2 := (hq1 _ _ (by omega)).trans g2; have g3 := (hq1 _ _ (by omega)).trans g3; have g4 := (hq1 _ _ (by omega)).trans g4; have HW := Aside0.mk (show Below w.heap.size w w1 from below_step (by first | exact HW.out | exact below_drew1 HW.out) hb1); have zz : w.heap.size + 1 + 1 ≤ w1.heap.size := Nat.le_trans zz hb1.size; clear hb1 hq1 hf1))))
  have GLB : Aside0 (∀ W, Below w.heap.size w W → ∀ a : Int, 0 ≤ a → a ≤ 255 → Calls Tryz.prog 90 #[.agg #[.slice A0 ts.length c0, .string la, .string gl, .slice A3 code.length c3], .int .u8 a] W fun e w' => e = .returned (.int .i64 (atv ts gl a)) ∧ Below W.heap.size W w') := ⟨fun W hW a h0 h1 => pGlob_c ⟨A0, c0, ts, la, gl, A3, c3, code⟩ W (HP.out.below hW) a h0 h1⟩
  have NUM : Aside0 (∀ W, Below w.heap.size w W → ∀ a n : Int, Calls Tryz.prog 88 #[.agg #[.slice A0 ts.length c0, .string la, .string gl, .slice A3 code.length c3], .int .i64 a, .int .i64 n] W fun e w' => e = .returned (.bool (numP ts a n)) ∧ Below W.heap.size W w') := ⟨fun W hW a n => pnumber_c ⟨A0, c0, ts, la, gl, A3, c3, code⟩ W (HP.out.below hW) a n⟩
  have TO : Aside0 (∀ W, Below w.heap.size w W → ∀ a n : Int, Calls Tryz.prog 89 #[.agg #[.slice A0 ts.length c0, .string la, .string gl, .slice A3 code.length c3], .int .i64 a, .int .i64 n] W fun e w' => e = .returned (.tuple #[.int .i64 (toP ts a n), .bool (isP ts a n)]) ∧ Below W.heap.size W w') := ⟨fun W hW a n => pfield_c ⟨A0, c0, ts, la, gl, A3, c3, code⟩ W (HP.out.below hW) a n⟩
  obtain ⟨b1, hb1⟩ : ∃ b1, decide (f1 < 8) = b1 := ⟨_, rfl⟩
  obtain ⟨b2, hb2⟩ : ∃ b2, decide (f2 < 8) = b2 := ⟨_, rfl⟩
  have D1 := Aside0.mk hb1
  have D2 := Aside0.mk hb2
  clear hb1 hb2
  obtain rfl | rfl | rfl | rfl | rfl | rfl | rfl | ⟨rfl, rfl⟩ | ⟨rfl, rfl⟩ | ⟨rfl, rfl⟩ | ⟨rfl, rfl⟩ | rfl | rfl | rfl | rfl | rfl | ⟨rfl, rfl⟩ | ⟨rfl, rfl⟩ : o = 1 ∨ o = 2 ∨ o = 3 ∨ o = 4 ∨ o = 5 ∨ o = 6 ∨ o = 7 ∨ (o = 8 ∧ b1 = true) ∨ (o = 8 ∧ b1 = false) ∨ (o = 9 ∧ b2 = true) ∨ (o = 9 ∧ b2 = false) ∨ o = 10 ∨ o = 11 ∨ o = 12 ∨ o = 13 ∨ o = 14 ∨ (o = 15 ∧ b1 = true) ∨ (o = 15 ∧ b1 = false) := by
    have := Bool.eq_false_or_eq_true b1
    have := Bool.eq_false_or_eq_true b2
    cases b1 <;> cases b2 <;> simp <;> omega
  all_goals
    go_wp2_with (first
      | (go_at_call 86; (with_reducible refine (ints1_c _ _ f1 _ D1.out).mono ?_); rintro e w2 ⟨rfl, hb2⟩; obtain ⟨hq1, hf1⟩ := bcell (B := w.heap.size + 1 + 1) ((below_step (below_alloc (Below.refl _ _) _) hb2).mono zz); have e0 := (hq1 _ _ (by omega)).trans e0; have e1 := (hq1 _ _ (by omega)).trans e1; have e2 := (hq1 _ _ (by omega)).trans e2; have e3 := (hq1 _ _ (by omega)).trans e3; have g0 := (hq1 _ _ (by omega)).trans g0; have g1 := (hq1 _ _ (by omega)).trans g1; have g2 := (hq1 _ _ (by omega)).trans g2; have g3 := (hq1 _ _ (by omega)).trans g3; have g4 := (hq1 _ _ (by omega)).trans g4; have HW := Aside0.mk (below_step (below_alloc HW.out _) hb2); clear hb2 hq1 hf1)
      | (go_at_call 86; (with_reducible refine (ints1_c _ _ f2 _ D2.out).mono ?_); rintro e w2 ⟨rfl, hb2⟩; obtain ⟨hq1, hf1⟩ := bcell (B := w.heap.size + 1 + 1) ((below_step (below_alloc (Below.refl _ _) _) hb2).mono zz); have e0 := (hq1 _ _ (by omega)).trans e0; have e1 := (hq1 _ _ (by omega)).trans e1; have e2 := (hq1 _ _ (by omega)).trans e2; have e3 := (hq1 _ _ (by omega)).trans e3; have g0 := (hq1 _ _ (by omega)).trans g0; have g1 := (hq1 _ _ (by omega)).trans g1; have g2 := (hq1 _ _ (by omega)).trans g2; have g3 := (hq1 _ _ (by omega)).trans g3; have g4 := (hq1 _ _ (by omega)).trans g4; have HW := Aside0.mk (below_step (below_alloc HW.out _) hb2); clear hb2 hq1 hf1)
      | (go_at_call 86; (with_reducible refine (ints3_c _ _ f1 f2 f3).mono ?_); rintro e w2 ⟨rfl, hb2⟩; have HW := Aside0.mk (below_step (below_alloc HW.out _) hb2); clear hb2)
      | (go_at_call 73; (with_reducible refine (LOC.out _ HW.out f3 HCC.out.1 HCC.out.2).mono ?_); rintro e w2 ⟨rfl, hb2⟩; have HW := Aside0.mk (below_step HW.out hb2); clear hb2)
      | (go_at_call 90; (with_reducible refine (GLB.out _ HW.out f2 HBB.out.1 HBB.out.2).mono ?_); rintro e w2 ⟨rfl, hb2⟩; have HW := Aside0.mk (below_step HW.out hb2); clear hb2)
      | (go_at_call 90; (with_reducible refine (GLB.out _ HW.out f1 HA.out.1 HA.out.2).mono ?_); rintro e w2 ⟨rfl, hb2⟩; have HW := Aside0.mk (below_step HW.out hb2); clear hb2)
      | (go_at_call 88; (with_reducible refine (NUM.out _ HW.out _ f4).mono ?_); rintro e w2 ⟨rfl, hb2⟩; have HW := Aside0.mk (below_step HW.out hb2); clear hb2)
      | (go_at_call 89; (with_reducible refine (TO.out _ HW.out _ f4).mono ?_); rintro e w2 ⟨rfl, hb2⟩; have HW := Aside0.mk (below_step HW.out hb2); clear hb2)
      | (go_at_call 87; (with_reducible refine (pone_c _ _ _).mono ?_); rintro e w2 ⟨rfl, hb2⟩; have HW := Aside0.mk (below_step HW.out hb2); clear hb2))
  all_goals
    go_ret
    refine ⟨?_, HW.out⟩
    first | (simp [kindsD, *]; done) | (simp [kindsD, D1.out, D2.out]; done) | (simp [kindsD]; omega)
end
end Go.Proofs.YtocechpmgfhenaaGreatDoor.PL

namespace Go.Proofs.YtocechpmgfhenaaGreatDoor.PL
open Go.RowKit Go.Proofs.YtocechpmgfhenaaGreatDoorW.PrintWords Go.Proofs.YtocechpmgfhenaaGreatDoor.F Go.Proofs.YtocechpmgfhenaaGreatDoor.KP Go.Proofs.YtocechpmgfhenaaGreatDoor.CR Go.Proofs.YtocechpmgfhenaaGreatDoor.SH Go.Proofs.YtocechpmgfhenaaGreatDoor.FM Go.Proofs.YtocechpmgfhenaaGreatDoor.ST0 Go.Proofs.YtocechpmgfhenaaGreatDoor.Scan
set_option linter.unusedVariables false
set_option linter.unusedSectionVars false
set_option linter.unusedSimpArgs false
theorem bt_app (a b : ByteArray) (j : Int) (h0 : 0 ≤ j) : bt (a ++ b) j = if j < a.size then bt a j else bt b (j - a.size) := by
  obtain ⟨n, rfl⟩ := Int.eq_ofNat_of_zero_le h0
  have hz : (a ++ b).size = a.size + b.size := ByteArray.size_append
  unfold bt
  simp only [Int.toNat_natCast]
  by_cases h : n < a.size
  · rw [dif_pos (by omega), if_pos (by omega), dif_pos h, ByteArray.getElem_append_left h]
  · rw [if_neg (by omega)]
    have e : ((n : Int) - a.size).toNat = n - a.size := by omega
    by_cases h' : n < (a ++ b).size
    · rw [dif_pos h', dif_pos (by omega), ByteArray.getElem_append_right (by omega)]
      simp only [e]
    · rw [dif_neg h', dif_neg (by omega)]
theorem refs_app (ts : List ByteArray) (a b : ByteArray) : refs ts (a ++ b) = true ↔ refs ts a = true ∧ refs ts b = true := by
  rw [refs_iff, refs_iff, refs_iff]
  have hz : (a ++ b).size = a.size + b.size := ByteArray.size_append
  constructor
  · rintro ⟨hr, h⟩
    refine ⟨⟨hr, fun j h0 h1 => ?_⟩, hr, fun j h0 h1 => ?_⟩
    · have := h j h0 (by omega)
      rwa [bt_app _ _ _ h0, if_pos h1] at this
    · have := h (j + a.size) (by omega) (by omega)
      rwa [bt_app _ _ _ (by omega), if_neg (by omega), Int.add_sub_cancel] at this
  · rintro ⟨⟨hr, h⟩, _, h'⟩
    refine ⟨hr, fun j h0 h1 => ?_⟩
    rw [bt_app _ _ _ h0]
    split
    · exact h j h0 ‹_›
    · exact h' (j - a.size) (by omega) (by omega)
def rgt (o : Nat) (f1 f2 f3 f4 : Int) : Bool := if (o : Int) < 1 ∨ 15 < (o : Int) then false else rightB o f1 f2 f3 f4
theorem Right_c (w : World) (o : Nat) (f1 f2 f3 f4 : Int) (hot : OT w) : Calls Tryz.prog 58 #[.agg #[.int .u8 o, .int .u8 f1, .int .u8 f2, .int .u8 f3, .int .i64 f4]] w fun e w' => e = .returned (.bool (rgt o f1 f2 f3 f4)) ∧ Below w.heap.size w w' := by
  refine code_Right.calls o f1 f2 f3 f4 _ w ?_ hot
  unfold code_Right.f rgt
  rw [if_pos (by omega), Int.toNat_natCast]
theorem rgt_op {o : Nat} {f1 f2 f3 f4 : Int} (h : rgt o f1 f2 f3 f4 = true) : (1 ≤ o ∧ o ≤ 15) ∧ rightB o f1 f2 f3 f4 = true := by
  unfold rgt at h
  split at h
  · cases h
  · exact ⟨by omega, h⟩
def IsT (r : Bool) : Prop := r = true
theorem IsT.mk : IsT true := rfl
def OkI (r kd : Bool) (o : Nat) (f4 : Int) (n : Nat) : Prop := r = true ∧ kd = true ∧ (o = 3 ∨ o = 4 → 0 ≤ f4 ∧ f4 ≤ n)
section
variable (p : Pg) (w : World) (hp : p.On w)
include hp
set_option maxHeartbeats 8000000 in
set_option maxRecDepth 100000 in
theorem pCheck_c : Calls Tryz.prog 35 #[p.v] w fun e w' => ∃ r er : Int, e = .returned (.tuple #[.int .i64 r, .int .i64 er]) ∧ (er = 0 ↔ SpP p) ∧ (er = 0 → r = -1) ∧ Below w.heap.size w w' := by
  have HP := Aside0.mk hp
  have hlc := hp.hc
  have hla := hp.hla
  have hgl := hp.hgl
  obtain ⟨A0, c0, ts, la, gl, A3, c3, code⟩ := p
  simp only at hlc hla hgl
  obtain ⟨b, hb⟩ : ∃ b, refs ts (la ++ gl) = b := ⟨_, rfl⟩
  have REF : Aside0 (∀ W, Below w.heap.size w W → Calls Tryz.prog 57 #[.slice A0 ts.length c0, .string (la ++ gl)] W fun e w' => e = .returned (.bool b) ∧ Below W.heap.size W w') := ⟨fun W hW => by
    rw [← hb]
    exact pRefs_c ⟨A0, c0, ts, la, gl, A3, c3, code⟩ W (HP.out.below hW) (la ++ gl) (by rw [ByteArray.size_append]; omega)⟩
  have HSP := Aside0.mk (show SpP ⟨A0, c0, ts, la, gl, A3, c3, code⟩ → b = true ∧ ¬ (la.size : Int) > 8 ∧ ¬ (gl.size : Int) > 4 ∧ ¬ (code.length : Int) < 1 ∧ ¬ (code.length : Int) > 200 from fun h => ⟨by rw [← hb]; exact (refs_app ts la gl).2 h.refs, by have := h.locals; simp only at this; omega, by have := h.globals; simp only at this; omega, by have := h.len; simp only at this; omega, by have := h.len; simp only at this; omega⟩)
  have HB0 := Aside0.mk hb
  clear hp hb
  have HW := Aside0.mk (Below.refl w.heap.size w)
  show Calls Tryz.prog 35 #[.agg #[.slice A0 ts.length c0, .string la, .string gl, .slice A3 code.length c3]] w fun e w' => ∃ r er : Int, e = .returned (.tuple #[.int .i64 r, .int .i64 er]) ∧ (er = 0 ↔ SpP ⟨A0, c0, ts, la, gl, A3, c3, code⟩) ∧ (er = 0 → r = -1) ∧ Below w.heap.size w w'
  by_cases hall : b = true ∧ ¬ (la.size : Int) > 8 ∧ ¬ (gl.size : Int) > 4 ∧ ¬ (code.length : Int) < 1 ∧ ¬ (code.length : Int) > 200
  · obtain ⟨rfl, h3, h4, h5, h6⟩ := hall
    have HRL := Aside0.mk (show (refs ts la = true ∧ refs ts gl = true) ∧ la.size ≤ 8 ∧ gl.size ≤ 4 ∧ 1 ≤ code.length ∧ code.length ≤ 200 from ⟨(refs_app ts la gl).1 HB0.out, by omega, by omega, by omega, by omega⟩)
    go_enter Tryz.func35, Tryz.ntmps35
    go_wp2_with (go_at_call 57; (with_reducible refine (REF.out _ ?side1).mono ?_); (case side1 => exact below_alloc HW.out _); rintro e w1 ⟨rfl, hb1⟩; have R0 := (hb1.block w.heap.size (by simp)).trans (heap_alloc_new w _); have kR := fun j => cell_of_row w1 w.heap.size j _ _ _ R0; have HW := Aside0.mk (below_step (below_alloc HW.out _) hb1); clear hb1)
    have HR0 := Aside0.mk R0
    clear kR R0 REF
    go_loopw [42] (fun c wr => ∃ i : Nat, i ≤ code.length ∧ c = .int .i64 i ∧ Aside0 (∀ j, j < i → InsAt ts la gl code j) ∧ Aside0 (wr.heap[w.heap.size]? = some (.cells #[.slice A0 ts.length c0, .string la, .string gl, .slice A3 code.length c3] 25 (0, 0))) ∧ Aside0 (Below w.heap.size w wr)) (fun c _ => code.length - (intOf c).toNat)
    case atStart => exact ⟨0, Nat.zero_le _, rfl, ⟨fun j hj => absurd hj (Nat.not_lt_zero _)⟩, HR0, HW⟩
    case round =>
      clear HR0 HW
      obtain ⟨i, hi, rfl, HI, HR, HB⟩ := hrel
      by_cases hlt : (i : Int) < (code.length : Int)
      · have p0 : (0 : Int) ≤ i := by omega
        obtain ⟨ad, rfl, x0, x1, x2, x3, x4⟩ := at_T46 HP.out.hC (i : Int) p0 hlt
        rw [Int.toNat_natCast] at x0 x1 x2 x3 x4
        replace x0 := (HB.out.cell (World.block_lt_of_cell? w _ x0)).trans x0
        replace x1 := (HB.out.cell (World.block_lt_of_cell? w _ x1)).trans x1
        replace x2 := (HB.out.cell (World.block_lt_of_cell? w _ x2)).trans x2
        replace x3 := (HB.out.cell (World.block_lt_of_cell? w _ x3)).trans x3
        replace x4 := (HB.out.cell (World.block_lt_of_cell? w _ x4)).trans x4
        have hwf := HP.out.hw.rd i (show i < code.length by omega)
        obtain ⟨o, ho⟩ := Int.eq_ofNat_of_zero_le hwf.1.1
        rw [ho] at x0 hwf
        have HIA := Aside0.mk (show InsP ts la gl code.length o (rd_T46 code i).f1 (rd_T46 code i).f2 (rd_T46 code i).f3 (rd_T46 code i).f4 → InsAt ts la gl code i from fun h => ⟨o, ho, h⟩)
        have HIB := Aside0.mk (show InsAt ts la gl code i → InsP ts la gl code.length o (rd_T46 code i).f1 (rd_T46 code i).f2 (rd_T46 code i).f3 (rd_T46 code i).f4 from fun ⟨o', ho', h⟩ => by
          have h2 : (o' : Int) = o := ho'.symm.trans ho
          have : o' = o := by omega
          rwa [this] at h)
        obtain ⟨f1, e1⟩ : ∃ f1, (rd_T46 code i).f1 = f1 := ⟨_, rfl⟩
        obtain ⟨f2, e2⟩ : ∃ f2, (rd_T46 code i).f2 = f2 := ⟨_, rfl⟩
        obtain ⟨f3, e3⟩ : ∃ f3, (rd_T46 code i).f3 = f3 := ⟨_, rfl⟩
        obtain ⟨f4, e4⟩ : ∃ f4, (rd_T46 code i).f4 = f4 := ⟨_, rfl⟩
        rw [e1] at x1
        rw [e2] at x2
        rw [e3] at x3
        rw [e4] at x4
        rw [e1, e2, e3, e4] at HIA HIB hwf
        clear e1 e2 e3 e4 ho
        have HWF := Aside0.mk hwf
        clear hwf
        obtain ⟨r, hr⟩ : ∃ r, rgt o f1 f2 f3 f4 = r := ⟨_, rfl⟩
        obtain ⟨kd, hk⟩ : ∃ kd, kindsD ts la gl o f1 f2 f3 f4 = kd := ⟨_, rfl⟩
        have RGT := Aside0.mk (show ∀ W, Below w.heap.size w W → Calls Tryz.prog 58 #[.agg #[.int .u8 o, .int .u8 f1, .int .u8 f2, .int .u8 f3, .int .i64 f4]] W fun e w' => e = .returned (.bool r) ∧ Below W.heap.size W w' from fun W hW => by rw [← hr]; exact Right_c W o f1 f2 f3 f4 (OT_below HP.out.ot hW))
        have KND := Aside0.mk (show IsT r → ∀ W, Below w.heap.size w W → Calls Tryz.prog 59 #[.agg #[.slice A0 ts.length c0, .string la, .string gl, .slice (some ad) code.length c3], .agg #[.int .u8 o, .int .u8 f1, .int .u8 f2, .int .u8 f3, .int .i64 f4]] W fun e w' => e = .returned (.bool kd) ∧ Below W.heap.size W w' from fun ht W hW => by
          rw [← hk]
          have := rgt_op (hr.trans ht)
          exact pkinds_c ⟨A0, c0, ts, la, gl, some ad, c3, code⟩ W o f1 f2 f3 f4 this.1.1 this.1.2 HWF.out (HP.out.below hW))
        have HIP := Aside0.mk (show InsP ts la gl code.length o f1 f2 f3 f4 ↔ OkI r kd o f4 code.length from ⟨fun h => ⟨by
            rw [← hr]
            unfold rgt
            rw [if_neg (by have := h.op; omega)]
            exact h.right, by rw [← hk]; exact (kindsD_iff h.op.1 h.op.2).2 ⟨h.ints, h.kinds⟩, h.jump⟩, fun ⟨h1, h2, h3⟩ => by
            have a := rgt_op (hr.trans h1)
            have b := (kindsD_iff a.1.1 a.1.2).1 (hk.trans h2)
            exact ⟨a.1, a.2, h3, b.1, b.2⟩⟩)
        clear hr hk
        have HSI := Aside0.mk (show SpP ⟨A0, c0, ts, la, gl, some ad, c3, code⟩ → OkI r kd o f4 code.length from fun h => HIP.out.1 (HIB.out (h.all i (by simp only; omega))))
        obtain ⟨wo, rfl⟩ : ∃ wo : World, wo = wr := ⟨_, rfl⟩
        by_cases hgood : OkI r kd o f4 code.length
        · have HOK := Aside0.mk (HIA.out (HIP.out.2 hgood))
          unfold OkI at hgood
          obtain ⟨rfl, rfl, hj⟩ := hgood
          have hq : (((o : Int) == 3) = true ∧ ¬ f4 < 0 ∧ ¬ f4 > (code.length : Int)) ∨ (((o : Int) == 3) = false ∧ ((o : Int) == 4) = true ∧ ¬ f4 < 0 ∧ ¬ f4 > (code.length : Int)) ∨ (((o : Int) == 3) = false ∧ ((o : Int) == 4) = false) := by
            simp only [beq_eq_false_iff_ne, beq_iff_eq]
            omega
          clear hj HSI HIP HIB HIA
          obtain ⟨q3, j1, j2⟩ | ⟨q3, q4, j1, j2⟩ | ⟨q3, q4⟩ := hq
          all_goals
            go_wp2_with (first
              | (go_at_call 58; (with_reducible refine (RGT.out _ ?side1).mono ?_); (case side1 => exact below_alloc HB.out _); rintro e w1 ⟨rfl, hb1⟩; have R1 := (hb1.block wo.heap.size (by simp)).trans (heap_alloc_new wo _); have kR1 := fun j => cell_of_row w1 wo.heap.size j _ _ _ R1; have R0 := (hb1.block w.heap.size (by have := blk_lt HR.out; simp; omega)).trans (row_old _ _ _ (blk_lt HR.out) HR.out); have kR0 := fun j => cell_of_row w1 w.heap.size j _ _ _ R0; have HR := Aside0.mk R0; clear R0; have HB := Aside0.mk (below_step (below_alloc HB.out _) hb1); clear hb1 R1)
              | (go_at_call 59; (with_reducible refine (KND.out IsT.mk _ HB.out).mono ?_); rintro e w2 ⟨rfl, hb2⟩; have HR := Aside0.mk ((hb2.block w.heap.size (blk_lt HR.out)).trans HR.out); have HB := Aside0.mk (below_step HB.out hb2); clear hb2))
            go_roundw
            case rel => exact ⟨i + 1, by omega, by go_num, ⟨fun j hj => by
              rcases Nat.lt_succ_iff_lt_or_eq.1 hj with hj | rfl
              · exact HI.out j hj
              · exact HOK.out⟩, HR, HB⟩
            case measure => simp [intOf]; omega
        · have HNO := Aside0.mk (show ¬ SpP ⟨A0, c0, ts, la, gl, some ad, c3, code⟩ from fun h => hgood (HSI.out h))
          have hq : r = false ∨ (r = true ∧ ((o : Int) == 3) = true ∧ f4 < 0) ∨ (r = true ∧ ((o : Int) == 3) = true ∧ ¬ f4 < 0 ∧ f4 > (code.length : Int)) ∨ (r = true ∧ ((o : Int) == 3) = false ∧ ((o : Int) == 4) = true ∧ f4 < 0) ∨ (r = true ∧ ((o : Int) == 3) = false ∧ ((o : Int) == 4) = true ∧ ¬ f4 < 0 ∧ f4 > (code.length : Int)) ∨ (r = true ∧ kd = false ∧ ((o : Int) == 3) = true ∧ ¬ f4 < 0 ∧ ¬ f4 > (code.length : Int)) ∨ (r = true ∧ kd = false ∧ ((o : Int) == 3) = false ∧ ((o : Int) == 4) = true ∧ ¬ f4 < 0 ∧ ¬ f4 > (code.length : Int)) ∨ (r = true ∧ kd = false ∧ ((o : Int) == 3) = false ∧ ((o : Int) == 4) = false) := by
            unfold OkI at hgood
            simp only [beq_eq_false_iff_ne, beq_iff_eq]
            cases r <;> cases kd <;> simp at hgood ⊢ <;> omega
          clear hgood HSI HIP HIB HIA
          obtain rfl | ⟨rfl, q3, j1⟩ | ⟨rfl, q3, j1, j2⟩ | ⟨rfl, q3, q4, j1⟩ | ⟨rfl, q3, q4, j1, j2⟩ | ⟨rfl, rfl, q3, j1, j2⟩ | ⟨rfl, rfl, q3, q4, j1, j2⟩ | ⟨rfl, rfl, q3, q4⟩ := hq
          all_goals
            go_wp2_with (first
              | (go_at_call 58; (with_reducible refine (RGT.out _ ?side1).mono ?_); (case side1 => exact below_alloc HB.out _); rintro e w1 ⟨rfl, hb1⟩; have R1 := (hb1.block wo.heap.size (by simp)).trans (heap_alloc_new wo _); have kR1 := fun j => cell_of_row w1 wo.heap.size j _ _ _ R1; have R0 := (hb1.block w.heap.size (by have := blk_lt HR.out; simp; omega)).trans (row_old _ _ _ (blk_lt HR.out) HR.out); have kR0 := fun j => cell_of_row w1 w.heap.size j _ _ _ R0; have HR := Aside0.mk R0; clear R0; have HB := Aside0.mk (below_step (below_alloc HB.out _) hb1); clear hb1 R1)
              | (go_at_call 59; (with_reducible refine (KND.out IsT.mk _ HB.out).mono ?_); rintro e w2 ⟨rfl, hb2⟩; have HR := Aside0.mk ((hb2.block w.heap.size (blk_lt HR.out)).trans HR.out); have HB := Aside0.mk (below_step HB.out hb2); clear hb2))
            go_ret2
            exact ⟨_, _, rfl, ⟨fun e => absurd e (by decide), fun h => absurd h HNO.out⟩, fun e => absurd e (by decide), HB.out⟩
      · obtain rfl : i = code.length := by omega
        go_wp2
        go_ret2
        exact ⟨_, _, rfl, ⟨fun _ => ⟨HRL.out.1, HRL.out.2.1, HRL.out.2.2.1, HRL.out.2.2.2, HI.out⟩, fun _ => rfl⟩, fun _ => rfl, HB.out⟩
  · have HN := Aside0.mk (fun h => hall (HSP.out h))
    obtain rfl | ⟨rfl, h3⟩ | ⟨rfl, h3, h4⟩ | ⟨rfl, h3, h4, h5⟩ | ⟨rfl, h3, h4, h5, h6⟩ : b = false ∨ (b = true ∧ (la.size : Int) > 8) ∨ (b = true ∧ ¬ (la.size : Int) > 8 ∧ (gl.size : Int) > 4) ∨ (b = true ∧ ¬ (la.size : Int) > 8 ∧ ¬ (gl.size : Int) > 4 ∧ (code.length : Int) < 1) ∨ (b = true ∧ ¬ (la.size : Int) > 8 ∧ ¬ (gl.size : Int) > 4 ∧ ¬ (code.length : Int) < 1 ∧ (code.length : Int) > 200) := by
      cases b
      · exact .inl rfl
      · refine .inr ?_
        simp only [true_and] at hall ⊢
        omega
    all_goals
      clear hall
      go_enter Tryz.func35, Tryz.ntmps35
      go_wp2_with (go_at_call 57; (with_reducible refine (REF.out _ ?side1).mono ?_); (case side1 => exact below_alloc HW.out _); rintro e w1 ⟨rfl, hb1⟩; have R0 := (hb1.block w.heap.size (by simp)).trans (heap_alloc_new w _); have kR := fun j => cell_of_row w1 w.heap.size j _ _ _ R0; have HW := Aside0.mk (below_step (below_alloc HW.out _) hb1); clear hb1)
      go_ret2
      exact ⟨_, _, rfl, ⟨fun e => absurd e (by decide), fun h => absurd h HN.out⟩, fun e => absurd e (by decide), HW.out⟩
end
end Go.Proofs.YtocechpmgfhenaaGreatDoor.PL

namespace Go.Proofs.YtocechpmgfhenaaGreatDoor.B8
open Go.Proofs.YtocechpmgfhenaaGreatDoor.FP
abbrev S8 := BitVec 8
def iv (z : S8) : Int := (z.toNat : Int)
def bv (x : Int) : S8 := BitVec.ofInt 8 x
theorem bv_iv (z : S8) : bv (iv z) = z := by
  apply BitVec.eq_of_toNat_eq
  unfold bv iv
  rw [BitVec.ofInt_natCast, BitVec.toNat_ofNat]
  exact Nat.mod_eq_of_lt z.isLt
theorem iv_inj {a b : S8} (h : iv a = iv b) : a = b := by rw [← bv_iv a, h, bv_iv]
theorem wrap_iv (z : S8) : IntKind.u8.wrap (z.toNat : Int) = iv z := wraps_u8 _ (Int.natCast_nonneg _) (by have := z.isLt; omega)
theorem bits_or (a b : S8) : bits .or .u8 (iv a) (iv b) = iv (a ||| b) := by
  have h : bits .or .u8 (iv a) (iv b) = IntKind.u8.wrap ((bv (iv a) ||| bv (iv b) : S8).toNat : Int) := rfl
  rw [h, bv_iv, bv_iv, wrap_iv]
theorem bits_and (a b : S8) : bits .and .u8 (iv a) (iv b) = iv (a &&& b) := by
  have h : bits .and .u8 (iv a) (iv b) = IntKind.u8.wrap ((bv (iv a) &&& bv (iv b) : S8).toNat : Int) := rfl
  rw [h, bv_iv, bv_iv, wrap_iv]
theorem bits_not (a b : S8) : bits .andNot .u8 (iv a) (iv b) = iv (a &&& ~~~ b) := by
  have h : bits .andNot .u8 (iv a) (iv b) = IntKind.u8.wrap ((bv (iv a) &&& ~~~ bv (iv b) : S8).toNat : Int) := rfl
  rw [h, bv_iv, bv_iv, wrap_iv]
def Sub (a b : S8) : Prop := ∀ i, a.getLsbD i = true → b.getLsbD i = true
theorem Sub.refl (a : S8) : Sub a a := fun _ h => h
theorem Sub.trans {a b c : S8} (h : Sub a b) (k : Sub b c) : Sub a c := fun i hi => k i (h i hi)
theorem Sub.anti {a b : S8} (h : Sub a b) (k : Sub b a) : a = b :=
  BitVec.eq_of_getLsbD_eq fun i _ => by rw [Bool.eq_iff_iff]; exact ⟨h i, k i⟩
theorem Sub.zero (a : S8) : Sub 0 a := fun i h => by simp at h
theorem Sub.all (a : S8) : Sub a 255 := fun i h => by
  have hi : i < 8 := BitVec.lt_of_getLsbD h
  have : ∀ j, j < 8 → (255#8).getLsbD j = true := by decide
  exact this i hi
theorem sub_and_r {a b c : S8} : Sub a (b &&& c) ↔ Sub a b ∧ Sub a c := by
  constructor
  · intro h
    exact ⟨fun i hi => by have := h i hi; rw [BitVec.getLsbD_and, Bool.and_eq_true] at this; exact this.1, fun i hi => by have := h i hi; rw [BitVec.getLsbD_and, Bool.and_eq_true] at this; exact this.2⟩
  · rintro ⟨h, k⟩ i hi
    rw [BitVec.getLsbD_and, Bool.and_eq_true]
    exact ⟨h i hi, k i hi⟩
theorem not_bit (a b : S8) (i : Nat) : (a &&& ~~~ b).getLsbD i = true ↔ a.getLsbD i = true ∧ b.getLsbD i = false := by
  rw [BitVec.getLsbD_and, Bool.and_eq_true, BitVec.getLsbD_not, Bool.and_eq_true]
  constructor
  · rintro ⟨h, _, k⟩
    exact ⟨h, by simpa using k⟩
  · rintro ⟨h, k⟩
    exact ⟨h, by simpa using BitVec.lt_of_getLsbD h, by simpa using k⟩
theorem and_eq {a b : S8} : a &&& b = a ↔ Sub a b := by
  constructor
  · intro h
    have k : Sub a (a &&& b) := by rw [h]; exact Sub.refl a
    exact (sub_and_r.1 k).2
  · intro h
    exact Sub.anti (fun i hi => by rw [BitVec.getLsbD_and, Bool.and_eq_true] at hi; exact hi.1) (sub_and_r.2 ⟨Sub.refl a, h⟩)
def pc (z : S8) : Nat := cnt ((List.range 8).map z.getLsbD)
theorem pc_le {a b : S8} (h : Sub a b) : pc a ≤ pc b ∧ (a ≠ b → pc a < pc b) := by
  have hg : ∀ (z : S8) i, ((List.range 8).map z.getLsbD).getD i false = z.getLsbD i := by
    intro z i
    rw [List.getD_eq_getElem?_getD, List.getElem?_map]
    by_cases hi : i < 8
    · rw [List.getElem?_range hi]
      rfl
    · rw [List.getElem?_eq_none (by simpa using hi)]
      exact (BitVec.getLsbD_of_ge z i (by omega)).symm
  have hle : LE ((List.range 8).map a.getLsbD) ((List.range 8).map b.getLsbD) := ⟨by simp, fun i hi => by rw [hg] at hi ⊢; exact h i hi⟩
  refine ⟨(cnt_le hle).1, fun hne => (cnt_le hle).2 fun e => hne ?_⟩
  exact BitVec.eq_of_getLsbD_eq fun i _ => by rw [← hg a, ← hg b, e]
theorem pc_8 (z : S8) : pc z ≤ 8 := by
  have := cnt_len ((List.range 8).map z.getLsbD)
  simpa [pc] using this
theorem pc_0 : pc 0 = 0 := by decide
abbrev g (l : List S8) (i : Nat) : S8 := l.getD i 0
def LS (a b : List S8) : Prop := a.length = b.length ∧ ∀ i, Sub (g a i) (g b i)
theorem LS.refl (a : List S8) : LS a a := ⟨rfl, fun _ => Sub.refl _⟩
theorem LS.trans {a b c : List S8} (h : LS a b) (k : LS b c) : LS a c := ⟨h.1.trans k.1, fun i => (h.2 i).trans (k.2 i)⟩
theorem g_ext {a b : List S8} (hl : a.length = b.length) (h : ∀ i, g a i = g b i) : a = b := by
  apply List.ext_getElem hl
  intro i h1 h2
  have := h i
  unfold g at this
  rw [List.getD_eq_getElem?_getD, List.getElem?_eq_getElem h1, List.getD_eq_getElem?_getD, List.getElem?_eq_getElem h2] at this
  exact this
theorem LS.anti {a b : List S8} (h : LS a b) (k : LS b a) : a = b := g_ext h.1 fun i => (h.2 i).anti (k.2 i)
theorem g_set (a : List S8) (n i : Nat) (v : S8) : g (a.set n v) i = if i = n ∧ n < a.length then v else g a i := by
  unfold g
  rw [List.getD_eq_getElem?_getD, List.getElem?_set]
  by_cases h : n = i
  · subst h
    by_cases hl : n < a.length
    · rw [if_pos rfl, if_pos hl, if_pos ⟨rfl, hl⟩]
      rfl
    · rw [if_pos rfl, if_neg hl, if_neg (fun e => hl e.2), List.getD_eq_getElem?_getD, List.getElem?_eq_none (by omega)]
  · rw [if_neg h, if_neg (fun e => h e.1.symm), List.getD_eq_getElem?_getD]
theorem g_rep (M i : Nat) : g (List.replicate M 0) i = 0 := by
  unfold g
  rw [List.getD_eq_getElem?_getD, List.getElem?_replicate]
  split <;> rfl
theorem g_out {a : List S8} {i : Nat} (h : a.length ≤ i) : g a i = 0 := by
  unfold g
  rw [List.getD_eq_getElem?_getD, List.getElem?_eq_none h]
  rfl
def tot (l : List S8) : Nat := (l.map pc).sum
theorem tot_cons (x : S8) (l : List S8) : tot (x :: l) = pc x + tot l := by simp [tot]
theorem tot_le : ∀ {a b : List S8}, LS a b → tot a ≤ tot b ∧ (a ≠ b → tot a < tot b) := by
  intro a
  induction a with
  | nil =>
    intro b h
    have : b = [] := List.length_eq_zero_iff.1 h.1.symm
    subst this
    exact ⟨Nat.le_refl _, fun h => absurd rfl h⟩
  | cons x a ih =>
    intro b h
    cases b with
    | nil => cases h.1
    | cons y b =>
      have ht : LS a b := ⟨by have := h.1; simpa using this, fun i => h.2 (i + 1)⟩
      have h0 : Sub x y := h.2 0
      obtain ⟨i1, i2⟩ := ih ht
      obtain ⟨p1, p2⟩ := pc_le h0
      rw [tot_cons, tot_cons]
      refine ⟨by omega, fun hne => ?_⟩
      by_cases hxy : x = y
      · subst hxy
        have := i2 fun e => hne (by rw [e])
        omega
      · have := p2 hxy
        omega
theorem tot_8 : ∀ l : List S8, tot l ≤ 8 * l.length
  | [] => Nat.le_refl _
  | x :: l => by
    have := tot_8 l
    have := pc_8 x
    rw [tot_cons, List.length_cons]
    omega
section
variable (nx : Int → List Int) (N : Nat) (st us : Nat → S8)
def lor (out : List S8) (k : Nat) : S8 := (nx k).foldl (fun n t => n ||| g out t.toNat) 0
theorem fold_or_bit (out : List S8) (i : Nat) : ∀ (l : List Int) (n : S8), (l.foldl (fun n t => n ||| g out t.toNat) n).getLsbD i = true ↔ n.getLsbD i = true ∨ ∃ t ∈ l, (g out t.toNat).getLsbD i = true
  | [], n => by simp
  | t :: l, n => by
    rw [List.foldl_cons, fold_or_bit out i l, BitVec.getLsbD_or, Bool.or_eq_true]
    simp only [List.mem_cons, exists_eq_or_imp]
    exact or_assoc
theorem lor_bit (out : List S8) (k i : Nat) : (lor nx out k).getLsbD i = true ↔ ∃ t ∈ nx k, (g out t.toNat).getLsbD i = true := by
  unfold lor
  rw [fold_or_bit]
  simp
def lst (out : List S8) (k : Nat) : S8 := lor nx out k &&& ~~~ st k ||| us k
theorem lst_bit (out : List S8) (k i : Nat) : (lst nx st us out k).getLsbD i = true ↔ ((∃ t ∈ nx k, (g out t.toNat).getLsbD i = true) ∧ (st k).getLsbD i = false) ∨ (us k).getLsbD i = true := by
  unfold lst
  rw [BitVec.getLsbD_or, Bool.or_eq_true, not_bit, lor_bit]
theorem lst_mono {a b : List S8} (h : ∀ i, Sub (g a i) (g b i)) (k : Nat) : Sub (lst nx st us a k) (lst nx st us b k) := by
  intro i hi
  rw [lst_bit] at hi ⊢
  exact hi.imp (fun ⟨⟨t, ht, hb⟩, hs⟩ => ⟨⟨t, ht, h _ i hb⟩, hs⟩) id
def Pre (o : List S8) : Prop := o.length = N + 1 ∧ ∀ k, k < N → Sub (lst nx st us o k) (g o k)
structure LInv (out : List S8) : Prop where
  len : out.length = N + 1
  last : g out N = 0
  up : ∀ k, k < N → Sub (g out k) (lst nx st us out k)
  least : ∀ o, Pre nx N st us o → LS out o
def LFix (out : List S8) : Prop := ∀ k, k < N → g out k = lst nx st us out k
theorem LInv.start : LInv nx N st us (List.replicate (N + 1) 0) :=
  ⟨by simp, g_rep .., fun k _ => by rw [g_rep]; exact Sub.zero _, fun o ho => ⟨by simp [ho.1], fun i => by rw [g_rep]; exact Sub.zero _⟩⟩
variable {nx N st us}
theorem LInv.ls {out : List S8} (h : LInv nx N st us out) {k : Nat} (hk : k < N) : LS out (out.set k (lst nx st us out k)) := by
  refine ⟨by simp, fun i => ?_⟩
  rw [g_set]
  split
  · rename_i e
    rw [e.1]
    exact h.up k hk
  · exact Sub.refl _
theorem LInv.set {out : List S8} (h : LInv nx N st us out) {k : Nat} (hk : k < N) : LInv nx N st us (out.set k (lst nx st us out k)) := by
  have hm : ∀ j, Sub (lst nx st us out j) (lst nx st us (out.set k (lst nx st us out k)) j) := fun j => lst_mono _ _ _ (h.ls hk).2 j
  refine ⟨by rw [List.length_set, h.len], ?_, fun j hj => ?_, fun o ho => ⟨by rw [List.length_set, h.len, ho.1], fun j => ?_⟩⟩
  · rw [g_set, if_neg (by omega)]
    exact h.last
  · rw [g_set]
    split
    · rename_i e
      rw [e.1]
      exact hm k
    · exact (h.up j hj).trans (hm j)
  · rw [g_set]
    split
    · rename_i e
      rw [e.1]
      exact (lst_mono _ _ _ (h.least o ho).2 k).trans (ho.2 k hk)
    · exact (h.least o ho).2 j
variable (nx N st us)
def sw : Nat → List S8 → List S8
  | 0, out => out
  | k + 1, out => sw k (out.set k (lst nx st us out k))
def rnd : Nat → List S8
  | 0 => List.replicate (N + 1) 0
  | r + 1 => sw nx st us N (rnd r)
variable {nx N st us}
theorem sw_inv : ∀ (k : Nat) (out : List S8), k ≤ N → LInv nx N st us out → LInv nx N st us (sw nx st us k out) ∧ LS out (sw nx st us k out)
  | 0, out, _, h => ⟨h, LS.refl _⟩
  | k + 1, out, hk, h => by
    obtain ⟨a, b⟩ := sw_inv k (out.set k (lst nx st us out k)) (by omega) (h.set hk)
    exact ⟨a, (h.ls hk).trans b⟩
variable (nx N st us)
def lv : List S8 := rnd nx N st us (8 * N + 1)
variable {nx N st us}
end
section
variable (nx : Int → List Int) (N : Nat) (F : Nat → S8 → S8)
def Sol (s : List S8) : Prop := s.length = N + 1 ∧ ∀ k, k ≤ N → ∀ t ∈ nx k, Sub (g s t.toNat) (F k (g s k))
structure GInv (l : List S8) : Prop where
  len : l.length = N + 1
  great : ∀ s, Sol nx N F s → LS s l
variable {nx N F}
theorem GInv.eq {a b : List S8} (h : GInv nx N F a) (k : GInv nx N F b) (fa : Sol nx N F a) (fb : Sol nx N F b) : a = b := (k.great a fa).anti (h.great b fb)
theorem GInv.start : GInv nx N F (List.replicate (N + 1) 255) := by
  refine ⟨by simp, fun s hs => ⟨by simp [hs.1], fun i => ?_⟩⟩
  by_cases hi : i < N + 1
  · have e : g (List.replicate (N + 1) (255 : S8)) i = 255 := by
      unfold g
      rw [List.getD_eq_getElem?_getD, List.getElem?_replicate, if_pos hi]
      rfl
    rw [e]
    exact Sub.all _
  · rw [g_out (by rw [hs.1]; omega)]
    exact Sub.zero _
def cut (l : List S8) (n : S8) (t : Nat) : List S8 := l.set t (g l t &&& n)
theorem cut_get (l : List S8) (n : S8) (t i : Nat) : g (cut l n t) i = if i = t ∧ t < l.length then g l t &&& n else g l i := g_set ..
theorem cut_ls (l : List S8) (n : S8) (t : Nat) : LS (cut l n t) l := by
  refine ⟨by simp [cut], fun i => ?_⟩
  rw [cut_get]
  split
  · rename_i e
    rw [e.1]
    exact (sub_and_r.1 (Sub.refl _)).1
  · exact Sub.refl _
theorem GInv.cut {l : List S8} (h : GInv nx N F l) {n : S8} {k : Nat} (hk : k ≤ N) {t : Int} (ht : t ∈ nx k) (hn : ∀ s, Sol nx N F s → Sub (F k (g s k)) n) : GInv nx N F (cut l n t.toNat) := by
  refine ⟨by rw [← h.len]; exact (cut_ls ..).1, fun s hs => ⟨by rw [hs.1, ← h.len]; exact (cut_ls ..).1.symm, fun i => ?_⟩⟩
  rw [cut_get]
  split
  · rename_i e
    rw [e.1]
    exact sub_and_r.2 ⟨(h.great s hs).2 _, (hs.2 k hk t ht).trans (hn s hs)⟩
  · exact (h.great s hs).2 i
end
end Go.Proofs.YtocechpmgfhenaaGreatDoor.B8

namespace Go.Proofs.YtocechpmgfhenaaGreatDoor.B8
open Go.Proofs.YtocechpmgfhenaaGreatDoor.FP
set_option linter.unusedVariables false
theorem cut_of_sub {l : List S8} {n : S8} {t : Nat} (h : Sub (g l t) n) : cut l n t = l :=
  g_ext (by simp [cut]) fun i => by
    rw [cut_get]
    split
    · rename_i e
      rw [e.1, and_eq.2 h]
    · rfl
theorem cut_sub {l : List S8} (n : S8) {t : Nat} (h : t < l.length) : Sub (g (cut l n t) t) n := by
  rw [cut_get, if_pos ⟨rfl, h⟩]
  exact (sub_and_r.1 (Sub.refl _)).2
section
variable {nx : Int → List Int} {N : Nat} {F : Nat → S8 → S8} (hI : InR nx (N + 1)) (hF : ∀ k a b, Sub a b → Sub (F k a) (F k b))
variable (nx N F) in
structure WI (l : List S8) (todo : List Int) : Prop where
  inv : GInv nx N F l
  range : ∀ k ∈ todo, 0 ≤ k ∧ k ≤ N
  ok : ∀ k : Nat, k ≤ N → (k : Int) ∉ todo → ∀ t ∈ nx k, Sub (g l t.toNat) (F k (g l k))
variable (nx N F) in
structure WJ (l : List S8) (todo : List Int) (k : Nat) (n : S8) (j : Nat) : Prop where
  inv : GInv nx N F l
  range : ∀ k ∈ todo, 0 ≤ k ∧ k ≤ N
  kn : k ≤ N
  bound : ∀ s, Sol nx N F s → Sub (F k (g s k)) n
  ok : ∀ i : Nat, i ≤ N → i ≠ k → (i : Int) ∉ todo → ∀ t ∈ nx i, Sub (g l t.toNat) (F i (g l i))
  own : (k : Int) ∉ todo → n = F k (g l k)
  did : ∀ t ∈ (nx k).take j, Sub (g l t.toNat) n
theorem WI.start : WI nx N F (List.replicate (N + 1) 255) ((List.range (N + 1)).map fun (i : Nat) => (i : Int)) := by
  refine ⟨GInv.start, fun k hk => ?_, fun k hk hn => absurd (List.mem_map.2 ⟨k, List.mem_range.2 (by have : k ≤ N := hk; omega), rfl⟩) hn⟩
  obtain ⟨i, hi, rfl⟩ := List.mem_map.1 hk
  have := List.mem_range.1 hi
  omega
theorem WI.done {l : List S8} (h : WI nx N F l []) : Sol nx N F l := ⟨h.inv.len, fun k hk => h.ok k hk (by simp)⟩
include hF in
theorem WI.pop {l : List S8} {todo : List Int} {k : Nat} (h : WI nx N F l ((k : Int) :: todo)) : WJ nx N F l todo k (F k (g l k)) 0 := by
  refine ⟨h.inv, fun i hi => h.range i (List.mem_cons_of_mem _ hi), ?_, fun s hs => hF _ _ _ ((h.inv.great s hs).2 k), fun i hi hne hn => h.ok i hi ?_, fun _ => rfl, fun t ht => by simp at ht⟩
  · have := h.range k (List.mem_cons_self ..)
    omega
  · intro hm
    rcases List.mem_cons.1 hm with e | hm
    · exact hne (by omega)
    · exact hn hm
section
variable {l : List S8} {todo : List Int} {k j : Nat} {n : S8} (h : WJ nx N F l todo k n j)
include h
theorem WJ.skip (hj : j < (nx k).length) (e : g l (nx k)[j].toNat &&& n = g l (nx k)[j].toNat) : WJ nx N F l todo k n (j + 1) := by
  refine ⟨h.inv, h.range, h.kn, h.bound, h.ok, h.own, fun t ht => ?_⟩
  rw [List.take_add_one, List.getElem?_eq_getElem hj, Option.toList_some, List.mem_append, List.mem_singleton] at ht
  rcases ht with ht | rfl
  · exact h.did t ht
  · exact and_eq.1 e
include hI in
theorem WJ.cut (hj : j < (nx k).length) : WJ nx N F (cut l n (nx k)[j].toNat) (todo ++ [(nx k)[j]]) k n (j + 1) := by
  have hm : (nx k)[j] ∈ nx k := List.getElem_mem hj
  have hr := hI _ _ hm
  have ec : (((nx k)[j].toNat : Nat) : Int) = (nx k)[j] := by omega
  have hls := cut_ls l n (nx k)[j].toNat
  have hout : ∀ i : Nat, (i : Int) ∉ todo ++ [(nx k)[j]] → g (B8.cut l n (nx k)[j].toNat) i = g l i ∧ (i : Int) ∉ todo := by
    intro i hi
    rw [List.mem_append, List.mem_singleton, not_or] at hi
    refine ⟨?_, hi.1⟩
    rw [cut_get, if_neg fun e => hi.2 (by rw [e.1, ec])]
  refine ⟨h.inv.cut h.kn hm h.bound, fun i hi => ?_, h.kn, h.bound, fun i hi hne hn t ht => ?_, fun hn => ?_, fun t ht => ?_⟩
  · rcases List.mem_append.1 hi with hi | hi
    · exact h.range i hi
    · rw [List.mem_singleton] at hi
      subst hi
      omega
  · obtain ⟨e1, e2⟩ := hout i hn
    rw [e1]
    exact (hls.2 _).trans (h.ok i hi hne e2 t ht)
  · obtain ⟨e1, e2⟩ := hout k hn
    rw [e1]
    exact h.own e2
  · rw [List.take_add_one, List.getElem?_eq_getElem hj, Option.toList_some, List.mem_append, List.mem_singleton] at ht
    rcases ht with ht | rfl
    · exact (hls.2 _).trans (h.did t ht)
    · exact cut_sub n (by rw [h.inv.len]; omega)
theorem WJ.done (hj : (nx k).length ≤ j) : WI nx N F l todo := by
  refine ⟨h.inv, h.range, fun i hi hn t ht => ?_⟩
  by_cases e : i = k
  · subst e
    rw [← h.own hn]
    exact h.did t (by rw [List.take_of_length_le hj]; exact ht)
  · exact h.ok i hi e hn t ht
end
def lft (l : List S8) (todo : List Int) : Nat := 2 * tot l + todo.length
theorem lft_pop (l : List S8) (todo : List Int) (k : Int) : lft l todo < lft l (k :: todo) := by
  unfold lft
  rw [List.length_cons]
  omega
theorem tot_cut {l : List S8} {n : S8} {t : Nat} (ht : t < l.length) (h : g l t &&& n ≠ g l t) : tot (cut l n t) < tot l := by
  refine (tot_le (cut_ls l n t)).2 fun e => h ?_
  have := cut_get l n t t
  rw [e, if_pos ⟨rfl, ht⟩] at this
  exact this.symm
theorem lft_cut {l : List S8} {todo : List Int} {n : S8} {t : Nat} {x : Int} (ht : t < l.length) (h : g l t &&& n ≠ g l t) : lft (cut l n t) (todo ++ [x]) < lft l todo := by
  have := tot_cut ht h
  unfold lft
  rw [List.length_append, List.length_singleton]
  omega
variable (nx F) in
def jc (l : List S8) (n : S8) (ts : List Int) (j : Nat) : List S8 := (ts.take j).foldl (fun l t => cut l n t.toNat) l
variable (nx F) in
def kc (l : List S8) : Nat → List S8
  | 0 => l
  | k + 1 => jc (kc l k) (F k (g (kc l k) k)) (nx k) (nx k).length
variable (nx N F) in
def rc : Nat → List S8
  | 0 => List.replicate (N + 1) 255
  | r + 1 => kc nx F (rc r) N
theorem fold_ls (n : S8) : ∀ (ts : List Int) (l : List S8), LS (ts.foldl (fun l t => cut l n t.toNat) l) l
  | [], l => LS.refl l
  | t :: ts, l => (fold_ls n ts _).trans (cut_ls l n _)
theorem fold_sub (n : S8) : ∀ (ts : List Int) (l : List S8), (∀ t ∈ ts, t.toNat < l.length) → ∀ t ∈ ts, Sub (g (ts.foldl (fun l t => cut l n t.toNat) l) t.toNat) n
  | [], _, _, t, ht => by cases ht
  | x :: ts, l, hl, t, ht => by
    rw [List.foldl_cons]
    rcases List.mem_cons.1 ht with rfl | ht
    · exact ((fold_ls n ts _).2 _).trans (cut_sub n (hl _ (List.mem_cons_self ..)))
    · exact fold_sub n ts _ (fun y hy => by rw [(cut_ls l n x.toNat).1]; exact hl y (List.mem_cons_of_mem _ hy)) t ht
theorem fold_id (n : S8) : ∀ (ts : List Int) (l : List S8), (∀ t ∈ ts, Sub (g l t.toNat) n) → ts.foldl (fun l t => cut l n t.toNat) l = l
  | [], _, _ => rfl
  | x :: ts, l, h => by
    rw [List.foldl_cons, cut_of_sub (h x (List.mem_cons_self ..))]
    exact fold_id n ts l fun t ht => h t (List.mem_cons_of_mem _ ht)
theorem fold_inv (n : S8) {k : Nat} (hk : k ≤ N) (hn : ∀ s, Sol nx N F s → Sub (F k (g s k)) n) : ∀ (ts : List Int) (l : List S8), (∀ t ∈ ts, t ∈ nx k) → GInv nx N F l → GInv nx N F (ts.foldl (fun l t => cut l n t.toNat) l)
  | [], _, _, h => h
  | x :: ts, l, ht, h => fold_inv n hk hn ts _ (fun t hm => ht t (List.mem_cons_of_mem _ hm)) (h.cut hk (ht x (List.mem_cons_self ..)) hn)
theorem kc_ls (l : List S8) : ∀ k, LS (kc nx F l k) l
  | 0 => LS.refl l
  | k + 1 => (fold_ls ..).trans (kc_ls l k)
theorem kc_le (l : List S8) (k : Nat) : ∀ d, LS (kc nx F l (k + d)) (kc nx F l k)
  | 0 => LS.refl _
  | d + 1 => (fold_ls ..).trans (kc_le l k d)
include hF in
theorem kc_inv {l : List S8} (h : GInv nx N F l) : ∀ k, k ≤ N → GInv nx N F (kc nx F l k)
  | 0, _ => h
  | k + 1, hk => by
    have ih := kc_inv h k (by omega)
    exact fold_inv _ (by omega) (fun s hs => hF _ _ _ ((ih.great s hs).2 k)) _ _ (fun t ht => List.mem_of_mem_take ht) ih
include hF in
theorem rc_inv : ∀ r, GInv nx N F (rc nx N F r)
  | 0 => GInv.start
  | r + 1 => kc_inv hF (rc_inv r) N (Nat.le_refl _)
theorem kc_id {l : List S8} (h : Sol nx N F l) : ∀ k, k ≤ N → kc nx F l k = l
  | 0, _ => rfl
  | k + 1, hk => by
    have ih := kc_id h k (by omega)
    show jc (kc nx F l k) (F k (g (kc nx F l k) k)) (nx k) (nx k).length = l
    rw [ih]
    exact fold_id _ _ _ fun t ht => h.2 k (by omega) t (List.mem_of_mem_take ht)
variable (hN : nx N = [])
include hI hN in
theorem kc_sol {l : List S8} (hl : l.length = N + 1) (he : ∀ i, i < N → g (kc nx F l N) i = g l i) : Sol nx N F (kc nx F l N) := by
  refine ⟨by rw [(kc_ls l N).1, hl], fun k hk t ht => ?_⟩
  rcases Nat.lt_or_eq_of_le hk with hlt | rfl
  · have hmid : g (kc nx F l k) k = g l k := by
      obtain ⟨d, hd⟩ : ∃ d, N = k + d := ⟨N - k, by omega⟩
      refine Sub.anti ((kc_ls l k).2 k) ?_
      rw [← he k hlt]
      have := (kc_le (nx := nx) (F := F) l k d).2 k
      rwa [← hd] at this
    have h1 : Sub (g (kc nx F l (k + 1)) t.toNat) (F k (g (kc nx F l k) k)) := by
      refine fold_sub _ ((nx k).take (nx k).length) (kc nx F l k) (fun t ht => ?_) t (by rw [List.take_length]; exact ht)
      have := hI _ _ (List.mem_of_mem_take ht)
      rw [(kc_ls l k).1, hl]
      omega
    obtain ⟨d, hd⟩ : ∃ d, N = k + 1 + d := ⟨N - (k + 1), by omega⟩
    have h2 := (kc_le (nx := nx) (F := F) l (k + 1) d).2 t.toNat
    rw [← hd] at h2
    rw [he k hlt, ← hmid]
    exact h2.trans h1
  · rw [hN] at ht
    cases ht
theorem take_ls {a b : List S8} (h : LS a b) (N : Nat) : LS (a.take N) (b.take N) := by
  refine ⟨by rw [List.length_take, List.length_take, h.1], fun i => ?_⟩
  by_cases hi : i < N
  · have e : ∀ l : List S8, g (l.take N) i = g l i := fun l => by
      unfold g
      rw [List.getD_eq_getElem?_getD, List.getD_eq_getElem?_getD, List.getElem?_take, if_pos hi]
    rw [e, e]
    exact h.2 i
  · rw [g_out (by rw [List.length_take]; omega)]
    exact Sub.zero _
theorem take_eq {a b : List S8} {N : Nat} (h : a.take N = b.take N) (i : Nat) (hi : i < N) : g a i = g b i := by
  have e : ∀ l : List S8, g (l.take N) i = g l i := fun l => by
    unfold g
    rw [List.getD_eq_getElem?_getD, List.getD_eq_getElem?_getD, List.getElem?_take, if_pos hi]
  rw [← e a, ← e b, h]
include hI hF hN in
theorem rc_all : ∀ r, Sol nx N F (rc nx N F r) ∨ tot ((rc nx N F r).take N) + r ≤ 8 * N
  | 0 => .inr (by have := tot_8 ((rc nx N F 0).take N); rw [List.length_take, (rc_inv hF 0).len] at this; omega)
  | r + 1 => by
    rcases rc_all r with h | h
    · left
      show Sol nx N F (kc nx F (rc nx N F r) N)
      rw [kc_id h N (Nat.le_refl _)]
      exact h
    · have hls := take_ls (kc_ls (nx := nx) (F := F) (rc nx N F r) N) N
      by_cases e : (kc nx F (rc nx N F r) N).take N = (rc nx N F r).take N
      · exact .inl (kc_sol hI hN (rc_inv hF r).len (take_eq e))
      · right
        have := (tot_le hls).2 e
        show tot ((kc nx F (rc nx N F r) N).take N) + (r + 1) ≤ 8 * N
        omega
variable (nx N F) in
def fr : List S8 := rc nx N F (8 * N + 1)
include hF in
theorem fr_inv : GInv nx N F (fr nx N F) := rc_inv hF _
include hI hF hN in
theorem fr_sol : Sol nx N F (fr nx N F) := (rc_all hI hF hN (8 * N + 1)).resolve_right (by omega)
include hI hF hN in
theorem fr_of {l : List S8} (h : GInv nx N F l) (s : Sol nx N F l) : l = fr nx N F := h.eq (fr_inv hF) s (fr_sol hI hF hN)
end
end Go.Proofs.YtocechpmgfhenaaGreatDoor.B8

namespace Go.Proofs.YtocechpmgfhenaaGreatDoor.ZP
open Go.RowKit Go.Proofs.YtocechpmgfhenaaGreatDoorW.PrintWords Go.Proofs.YtocechpmgfhenaaGreatDoor.F Go.Proofs.YtocechpmgfhenaaGreatDoor.PL Go.Proofs.YtocechpmgfhenaaGreatDoor.NX Go.Proofs.YtocechpmgfhenaaGreatDoor.FP Go.Proofs.YtocechpmgfhenaaGreatDoor.B8 Go.Proofs.YtocechpmgfhenaaGreatDoor.FSF
set_option linter.unusedVariables false
def own (a : Int) : S8 := BitVec.twoPow 8 a.toNat
theorem own_bit (a : Int) (i : Nat) : (own a).getLsbD i = true ↔ a.toNat = i ∧ i < 8 := by
  unfold own
  rw [BitVec.getLsbD_twoPow, Bool.and_eq_true, decide_eq_true_iff, decide_eq_true_iff]
  omega
theorem iv_own (n : Nat) (h : n < 8) : iv (own (n : Int)) = 2 ^ n := by
  unfold iv own
  rw [BitVec.toNat_twoPow, Int.toNat_natCast, Nat.mod_eq_of_lt (Nat.pow_lt_pow_right (by decide) h)]
  exact Int.natCast_pow 2 n
theorem pow_lt {n : Nat} (h : n < 8) : (2 : Int) ^ n < 256 := by
  have h1 : 2 ^ n < 2 ^ 8 := Nat.pow_lt_pow_right (by decide) h
  have h2 : ((2 ^ n : Nat) : Int) = (2 : Int) ^ n := Int.natCast_pow 2 n
  rw [← h2]
  exact Int.ofNat_lt.2 h1
theorem own_out {a : Int} (h : a > 7) : own a = 0 := by
  refine BitVec.eq_of_getLsbD_eq fun i hi => ?_
  rw [Bool.eq_iff_iff, own_bit]
  simp
  omega
theorem shl_own {a : Int} (h : 0 ≤ a) : shl .u8 1 a = iv (own a) := by
  obtain ⟨n, rfl⟩ := Int.eq_ofNat_of_zero_le h
  unfold shl
  rw [IntKind.wrap_u8, Int.toNat_natCast]
  by_cases hn : n < 8
  · rw [iv_own n hn, show min n IntKind.u8.bits = n from Nat.min_eq_left (Nat.le_of_lt hn), Int.one_mul]
    have := pow_lt hn
    have : (0 : Int) ≤ 2 ^ n := Int.pow_nonneg (by decide)
    omega
  · rw [own_out (by omega), show min n IntKind.u8.bits = 8 from Nat.min_eq_right (by show 8 ≤ n; omega)]
    rfl
theorem shr_nat (z : S8) {b : Int} (h : 0 ≤ b) : shr .u8 (iv z) b = ((z.toNat / 2 ^ b.toNat : Nat) : Int) := by
  unfold shr iv
  by_cases hb : b.toNat ≤ 8
  · rw [show min b.toNat IntKind.u8.bits = b.toNat from Nat.min_eq_left hb]
    have e : ((2 ^ b.toNat : Nat) : Int) = (2 : Int) ^ b.toNat := Int.natCast_pow 2 _
    rw [← e]
    rfl
  · have h8 : z.toNat < 2 ^ 8 := z.isLt
    have h9 : z.toNat < 2 ^ b.toNat := Nat.lt_of_lt_of_le h8 (Nat.pow_le_pow_right (by decide) (by omega))
    rw [show min b.toNat IntKind.u8.bits = 8 from Nat.min_eq_right (by show 8 ≤ b.toNat; omega), Nat.div_eq_of_lt h9]
    exact Int.ediv_eq_zero_of_lt (Int.natCast_nonneg _) (Int.ofNat_lt.2 h8)
theorem bit_mod (z : S8) (n : Nat) : z.toNat / 2 ^ n % 2 = if z.getLsbD n then 1 else 0 := by
  have e : z.getLsbD n = decide (z.toNat / 2 ^ n % 2 = 1) := by
    show z.toNat.testBit n = _
    exact Nat.testBit_eq_decide_div_mod_eq
  rw [e]
  by_cases h : z.toNat / 2 ^ n % 2 = 1
  · rw [decide_eq_true h, if_pos rfl, h]
  · rw [decide_eq_false h, if_neg (by decide)]
    omega
theorem shr_and (z : S8) {b : Int} (h : 0 ≤ b) : (bits .and .u8 (shr .u8 (iv z) b) 1 == 1) = z.getLsbD b.toNat := by
  have hm : z.toNat / 2 ^ b.toNat < 256 := Nat.lt_of_le_of_lt (Nat.div_le_self ..) z.isLt
  have e : bits .and .u8 (shr .u8 (iv z) b) (2 ^ 1 - 1) = shr .u8 (iv z) b % 2 ^ 1 := by
    refine bits_mask .u8 8 (by decide) wraps_u8 1 (by decide) _ ?_ ?_
    · rw [shr_nat z h]
      exact Int.natCast_nonneg _
    · rw [shr_nat z h]
      exact Int.ofNat_lt.2 hm
  have e1 : bits .and .u8 (shr .u8 (iv z) b) 1 = ((z.toNat / 2 ^ b.toNat % 2 : Nat) : Int) := by
    rw [show (1 : Int) = 2 ^ 1 - 1 from rfl, e, shr_nat z h]
    rfl
  rw [e1, bit_mod]
  cases z.getLsbD b.toNat <;> rfl
def outI (safe : Bool) (x : S46) (z : S8) : S8 :=
  let s := if safe then 0 else z
  if x.f0 = 5 ∨ x.f0 = 6 ∨ (x.f0 = 7 ∧ s.getLsbD x.f2.toNat = true) then s ||| own x.f1
  else if x.f0 = 7 ∨ x.f0 = 10 ∨ x.f0 = 12 then s &&& ~~~ own x.f1 else s
def outB (code : List S46) (a : Int) (z : S8) : S8 := if 0 ≤ a ∧ a < code.length then outI (sf code a) (rd_T46 code a) z else z
theorem outI_bit (safe : Bool) (x : S46) (z : S8) (i : Nat) : (outI safe x z).getLsbD i = true ↔
    (if x.f0 = 5 ∨ x.f0 = 6 then ((safe = false ∧ z.getLsbD i = true) ∨ (own x.f1).getLsbD i = true)
      else if x.f0 = 7 then (if (own x.f1).getLsbD i = true then (safe = false ∧ z.getLsbD x.f2.toNat = true) else (safe = false ∧ z.getLsbD i = true))
      else if x.f0 = 10 ∨ x.f0 = 12 then ((safe = false ∧ z.getLsbD i = true) ∧ (own x.f1).getLsbD i = false) else (safe = false ∧ z.getLsbD i = true)) := by
  have hs : ∀ j, (if safe then (0 : S8) else z).getLsbD j = true ↔ safe = false ∧ z.getLsbD j = true := by
    intro j
    cases safe <;> simp
  unfold outI
  simp only
  by_cases h5 : x.f0 = 5 ∨ x.f0 = 6
  · rw [if_pos (h5.elim .inl fun h => .inr (.inl h)), if_pos h5, BitVec.getLsbD_or, Bool.or_eq_true, hs]
  · rw [if_neg h5]
    by_cases h7 : x.f0 = 7
    · rw [if_pos h7]
      by_cases hb : (if safe then (0 : S8) else z).getLsbD x.f2.toNat = true
      · rw [if_pos (.inr (.inr ⟨h7, hb⟩)), BitVec.getLsbD_or, Bool.or_eq_true, hs]
        rw [hs] at hb
        by_cases ho : (own x.f1).getLsbD i = true
        · rw [if_pos ho]
          exact ⟨fun _ => hb, fun _ => .inr ho⟩
        · rw [if_neg ho]
          exact ⟨fun h => h.resolve_right ho, .inl⟩
      · rw [if_neg (by rintro (h | h | h); exact h5 (.inl h); exact h5 (.inr h); exact hb h.2), if_pos (.inl h7), not_bit, hs]
        rw [hs] at hb
        by_cases ho : (own x.f1).getLsbD i = true
        · rw [if_pos ho, ho]
          exact ⟨fun h => (by cases h.2), fun h => absurd h hb⟩
        · rw [if_neg ho]
          exact ⟨fun h => h.1, fun h => ⟨h, by simpa using ho⟩⟩
    · rw [if_neg h7]
      by_cases h10 : x.f0 = 10 ∨ x.f0 = 12
      · rw [if_neg (by rintro (h | h | h); exact h5 (.inl h); exact h5 (.inr h); exact h7 h.1), if_pos (.inr h10), if_pos h10, not_bit, hs]
      · rw [if_neg (by rintro (h | h | h); exact h5 (.inl h); exact h5 (.inr h); exact h7 h.1), if_neg (by rintro (h | h); exact h7 h; exact h10 h), if_neg h10, hs]
theorem outI_mono (safe : Bool) (x : S46) {a b : S8} (h : Sub a b) : Sub (outI safe x a) (outI safe x b) := by
  have hk : ∀ j, (safe = false ∧ a.getLsbD j = true) → (safe = false ∧ b.getLsbD j = true) := fun j hj => ⟨hj.1, h j hj.2⟩
  intro i hi
  rw [outI_bit] at hi ⊢
  split
  · rename_i h5
    rw [if_pos h5] at hi
    exact hi.imp (hk i) id
  · rename_i h5
    rw [if_neg h5] at hi
    split
    · rename_i h7
      rw [if_pos h7] at hi
      split
      · rename_i ho
        rw [if_pos ho] at hi
        exact hk _ hi
      · rename_i ho
        rw [if_neg ho] at hi
        exact hk _ hi
    · rename_i h7
      rw [if_neg h7] at hi
      split
      · rename_i h10
        rw [if_pos h10] at hi
        exact ⟨hk i hi.1, hi.2⟩
      · rename_i h10
        rw [if_neg h10] at hi
        exact hk i hi
theorem outB_mono (code : List S46) (k : Int) {a b : S8} (h : Sub a b) : Sub (outB code k a) (outB code k b) := by
  unfold outB
  split
  · exact outI_mono _ _ h
  · exact h
theorem outI_safe (safe : Bool) (x : S46) (z : S8) : outI safe x z = outI false x (if safe then 0 else z) := by cases safe <;> rfl
abbrev FB (code : List S46) (k : Nat) (z : S8) : S8 := outB code k z
def frB (code : List S46) : List S8 := fr (nxt code) code.length (FB code)
def frI (code : List S46) : List Int := (frB code).map iv
theorem FB_mono (code : List S46) : ∀ k a b, Sub a b → Sub (FB code k a) (FB code k b) := fun k _ _ h => outB_mono code k h
theorem nxt_last (code : List S46) : nxt code ((code.length : Nat) : Int) = [] := by unfold nxt; rw [if_neg (by omega)]
end Go.Proofs.YtocechpmgfhenaaGreatDoor.ZP

namespace Go.Proofs.YtocechpmgfhenaaGreatDoor.ZP
open Go.RowKit Go.Proofs.YtocechpmgfhenaaGreatDoorW.PrintWords Go.Proofs.YtocechpmgfhenaaGreatDoor.F Go.Proofs.YtocechpmgfhenaaGreatDoor.PL Go.Proofs.YtocechpmgfhenaaGreatDoor.NX Go.Proofs.YtocechpmgfhenaaGreatDoor.FP Go.Proofs.YtocechpmgfhenaaGreatDoor.B8 Go.Proofs.YtocechpmgfhenaaGreatDoor.FSF
set_option linter.unusedVariables false
set_option linter.unusedSimpArgs false
set_option maxHeartbeats 4000000 in
set_option maxRecDepth 100000 in
theorem Out_c (p : Pg) (w : World) (h : p.On w) (a : Int) (z : S8) : Calls Tryz.prog 39 #[p.v, .int .i64 a, .int .u8 (iv z)] w fun e w' => e = .returned (.int .u8 (iv (outB p.code a z))) ∧ Below w.heap.size w w' := by
  have hmax := Kd.C_max h.hC
  have hC := h.hC
  have SF := Aside0.mk (fun W (hW : Below w.heap.size w W) => Safe_c p W (h.below hW) a)
  have HWF := h.hw
  clear h
  obtain ⟨A0, c0, ts, la, gl, A3, c3, code⟩ := p
  simp only at hmax hC
  change WfC code at HWF
  change Aside0 (∀ W, Below w.heap.size w W → Calls Tryz.prog 63 #[.agg #[.slice A0 ts.length c0, .string la, .string gl, .slice A3 code.length c3], .int .i64 a] W fun e w' => e = .returned (.bool (sf code a)) ∧ Below W.heap.size W w') at SF
  show Calls _ _ #[.agg #[.slice A0 ts.length c0, .string la, .string gl, .slice A3 code.length c3], .int .i64 a, _] _ fun e w' => e = .returned (.int .u8 (iv (outB code a z))) ∧ _
  by_cases hr : 0 ≤ a ∧ a < code.length
  · obtain ⟨an, rfl⟩ := Int.eq_ofNat_of_zero_le hr.1
    have hwf := HWF.rd an (by omega)
    obtain ⟨ad, rfl, hy⟩ := at_box hC an (by omega)
    rw [show outB code an z = outI (sf code an) (rd_T46 code an) z from if_pos hr, outI_safe]
    obtain ⟨⟨x0, x1, x2, x3, x4⟩, hx⟩ : ∃ x, x = rd_T46 code an := ⟨_, rfl⟩
    rw [← hx] at hy hwf ⊢
    have HY := Aside0.mk hy
    obtain ⟨b, hb⟩ : ∃ b, b = sf code an := ⟨_, rfl⟩
    rw [← hb] at SF ⊢
    have h0 : ¬ (an : Int) < 0 := by omega
    have h1 : ¬ (an : Int) ≥ code.length := by omega
    have g1 := hwf.2.1.1
    have g2 := hwf.2.2.1.1
    simp only at g1 g2
    have sho : (2 : Int) ^ min x1.toNat 8 % 256 = iv (own x1) := by
      rw [← shl_own g1]
      unfold shl
      rw [Int.one_mul]
      rfl
    clear hC hx hy hr hb HWF hwf
    obtain ⟨s, hs⟩ : ∃ s : S8, s = if b then 0 else z := ⟨_, rfl⟩
    rw [← hs]
    have hshr := shr_and s g2
    have fin : ∀ v : Int, v = iv (outI false ⟨x0, x1, x2, x3, x4⟩ s) → Calls Tryz.prog 39 #[.agg #[.slice A0 ts.length c0, .string la, .string gl, .slice (some ad) code.length c3], .int .i64 an, .int .u8 (iv z)] w (fun e w' => e = .returned (.int .u8 v) ∧ Below w.heap.size w w') → Calls Tryz.prog 39 #[.agg #[.slice A0 ts.length c0, .string la, .string gl, .slice (some ad) code.length c3], .int .i64 an, .int .u8 (iv z)] w (fun e w' => e = .returned (.int .u8 (iv (outI false ⟨x0, x1, x2, x3, x4⟩ s))) ∧ Below w.heap.size w w') := fun v e h => by rw [← e]; exact h
    have q1 : x0 = 5 ∨ x0 = 6 ∨ (x0 = 7 ∧ s.getLsbD x2.toNat = true) → bits .or .u8 (iv s) ((2 : Int) ^ min x1.toNat 8 % 256) = iv (outI false ⟨x0, x1, x2, x3, x4⟩ s) := fun h => by
      rw [sho, bits_or]
      unfold outI
      simp only [Bool.false_eq_true, if_false]
      rw [if_pos h]
    have q2 : (x0 = 7 ∧ ¬ s.getLsbD x2.toNat = true) ∨ x0 = 10 ∨ x0 = 12 → bits .andNot .u8 (iv s) ((2 : Int) ^ min x1.toNat 8 % 256) = iv (outI false ⟨x0, x1, x2, x3, x4⟩ s) := fun h => by
      rw [sho, bits_not]
      unfold outI
      simp only [Bool.false_eq_true, if_false]
      rw [if_neg (by rcases h with h | h | h <;> (rintro (g | g | g) <;> first | omega | exact h.2 g.2)), if_pos (by rcases h with h | h | h <;> omega)]
    have q3 : x0 ≠ 5 ∧ x0 ≠ 6 ∧ x0 ≠ 7 ∧ x0 ≠ 10 ∧ x0 ≠ 12 → iv s = iv (outI false ⟨x0, x1, x2, x3, x4⟩ s) := fun h => by
      unfold outI
      simp only [Bool.false_eq_true, if_false]
      rw [if_neg (by rintro (g | g | g) <;> omega), if_neg (by rintro (g | g | g) <;> omega)]
    have Q1 := Aside0.mk q1
    have Q2 := Aside0.mk q2
    have Q3 := Aside0.mk q3
    clear q1 q2 q3 sho
    obtain ⟨t, ht⟩ : ∃ t : Int, iv s = t := ⟨_, rfl⟩
    have HT := Aside0.mk ht
    have hshr' : (bits .and .u8 (shr .u8 t x2) 1 == 1) = s.getLsbD x2.toNat := by rw [← ht]; exact hshr
    clear hshr
    change (bits .and .u8 (t / 2 ^ min x2.toNat 8) 1 == 1) = _ at hshr'
    rw [ht] at Q1 Q2 Q3
    have HS := Aside0.mk (show b = true → t = 0 from fun h => by rw [← ht, hs, h]; rfl)
    have HS' := Aside0.mk (show b = false → iv z = t from fun h => by rw [← ht, hs, h]; rfl)
    clear ht hs
    by_cases c5 : x0 = 5
    · refine fin _ (Q1.out (.inl c5)) ?_
      clear fin hshr'
      subst c5
      cases b with
      | true =>
        obtain rfl := HS.out rfl
        try rw [Int.zero_ediv] at hshr'
        go_enter Tryz.func39, Tryz.ntmps39
        go_wp2_with (go_at_call 63; (with_reducible refine (SF.out _ (below_alloc (Below.refl _ _) _)).mono ?_); rintro e w1 ⟨rfl, hb1⟩; have R0 := (hb1.block w.heap.size (by simp)).trans (heap_alloc_new w _); have kR := fun j => cell_of_row w1 w.heap.size j _ _ _ R0; obtain ⟨y0, y1, y2, y3, y4⟩ := HY.out w1 (below_step (below_alloc (Below.refl _ _) _) hb1); have HB := Aside0.mk (below_step (below_alloc (Below.refl _ _) _) hb1); clear hb1 R0)
        go_ret
        exact ⟨rfl, below_alloc HB.out _⟩
      | false =>
        rw [HS'.out rfl]
        go_enter Tryz.func39, Tryz.ntmps39
        go_wp2_with (go_at_call 63; (with_reducible refine (SF.out _ (below_alloc (Below.refl _ _) _)).mono ?_); rintro e w1 ⟨rfl, hb1⟩; have R0 := (hb1.block w.heap.size (by simp)).trans (heap_alloc_new w _); have kR := fun j => cell_of_row w1 w.heap.size j _ _ _ R0; obtain ⟨y0, y1, y2, y3, y4⟩ := HY.out w1 (below_step (below_alloc (Below.refl _ _) _) hb1); have HB := Aside0.mk (below_step (below_alloc (Below.refl _ _) _) hb1); clear hb1 R0)
        go_ret
        exact ⟨rfl, below_alloc HB.out _⟩
    by_cases c6 : x0 = 6
    · refine fin _ (Q1.out (.inr (.inl c6))) ?_
      clear fin hshr' c5
      subst c6
      cases b with
      | true =>
        obtain rfl := HS.out rfl
        try rw [Int.zero_ediv] at hshr'
        go_enter Tryz.func39, Tryz.ntmps39
        go_wp2_with (go_at_call 63; (with_reducible refine (SF.out _ (below_alloc (Below.refl _ _) _)).mono ?_); rintro e w1 ⟨rfl, hb1⟩; have R0 := (hb1.block w.heap.size (by simp)).trans (heap_alloc_new w _); have kR := fun j => cell_of_row w1 w.heap.size j _ _ _ R0; obtain ⟨y0, y1, y2, y3, y4⟩ := HY.out w1 (below_step (below_alloc (Below.refl _ _) _) hb1); have HB := Aside0.mk (below_step (below_alloc (Below.refl _ _) _) hb1); clear hb1 R0)
        go_ret
        exact ⟨rfl, below_alloc HB.out _⟩
      | false =>
        rw [HS'.out rfl]
        go_enter Tryz.func39, Tryz.ntmps39
        go_wp2_with (go_at_call 63; (with_reducible refine (SF.out _ (below_alloc (Below.refl _ _) _)).mono ?_); rintro e w1 ⟨rfl, hb1⟩; have R0 := (hb1.block w.heap.size (by simp)).trans (heap_alloc_new w _); have kR := fun j => cell_of_row w1 w.heap.size j _ _ _ R0; obtain ⟨y0, y1, y2, y3, y4⟩ := HY.out w1 (below_step (below_alloc (Below.refl _ _) _) hb1); have HB := Aside0.mk (below_step (below_alloc (Below.refl _ _) _) hb1); clear hb1 R0)
        go_ret
        exact ⟨rfl, below_alloc HB.out _⟩
    by_cases c7 : x0 = 7
    · by_cases hb : s.getLsbD x2.toNat = true
      · refine fin _ (Q1.out (.inr (.inr ⟨c7, hb⟩))) ?_
        rw [hb] at hshr'
        clear fin c5 c6 hb
        subst c7
        cases b with
        | true =>
          obtain rfl := HS.out rfl
          try rw [Int.zero_ediv] at hshr'
          go_enter Tryz.func39, Tryz.ntmps39
          go_wp2_with (go_at_call 63; (with_reducible refine (SF.out _ (below_alloc (Below.refl _ _) _)).mono ?_); rintro e w1 ⟨rfl, hb1⟩; have R0 := (hb1.block w.heap.size (by simp)).trans (heap_alloc_new w _); have kR := fun j => cell_of_row w1 w.heap.size j _ _ _ R0; obtain ⟨y0, y1, y2, y3, y4⟩ := HY.out w1 (below_step (below_alloc (Below.refl _ _) _) hb1); have HB := Aside0.mk (below_step (below_alloc (Below.refl _ _) _) hb1); clear hb1 R0)
          go_ret
          exact ⟨rfl, below_alloc HB.out _⟩
        | false =>
          rw [HS'.out rfl]
          go_enter Tryz.func39, Tryz.ntmps39
          go_wp2_with (go_at_call 63; (with_reducible refine (SF.out _ (below_alloc (Below.refl _ _) _)).mono ?_); rintro e w1 ⟨rfl, hb1⟩; have R0 := (hb1.block w.heap.size (by simp)).trans (heap_alloc_new w _); have kR := fun j => cell_of_row w1 w.heap.size j _ _ _ R0; obtain ⟨y0, y1, y2, y3, y4⟩ := HY.out w1 (below_step (below_alloc (Below.refl _ _) _) hb1); have HB := Aside0.mk (below_step (below_alloc (Below.refl _ _) _) hb1); clear hb1 R0)
          go_ret
          exact ⟨rfl, below_alloc HB.out _⟩
      · refine fin _ (Q2.out (.inl ⟨c7, hb⟩)) ?_
        rw [eq_false_of_ne_true hb] at hshr'
        clear fin c5 c6 hb
        subst c7
        cases b with
        | true =>
          obtain rfl := HS.out rfl
          try rw [Int.zero_ediv] at hshr'
          go_enter Tryz.func39, Tryz.ntmps39
          go_wp2_with (go_at_call 63; (with_reducible refine (SF.out _ (below_alloc (Below.refl _ _) _)).mono ?_); rintro e w1 ⟨rfl, hb1⟩; have R0 := (hb1.block w.heap.size (by simp)).trans (heap_alloc_new w _); have kR := fun j => cell_of_row w1 w.heap.size j _ _ _ R0; obtain ⟨y0, y1, y2, y3, y4⟩ := HY.out w1 (below_step (below_alloc (Below.refl _ _) _) hb1); have HB := Aside0.mk (below_step (below_alloc (Below.refl _ _) _) hb1); clear hb1 R0)
          go_ret
          exact ⟨rfl, below_alloc HB.out _⟩
        | false =>
          rw [HS'.out rfl]
          go_enter Tryz.func39, Tryz.ntmps39
          go_wp2_with (go_at_call 63; (with_reducible refine (SF.out _ (below_alloc (Below.refl _ _) _)).mono ?_); rintro e w1 ⟨rfl, hb1⟩; have R0 := (hb1.block w.heap.size (by simp)).trans (heap_alloc_new w _); have kR := fun j => cell_of_row w1 w.heap.size j _ _ _ R0; obtain ⟨y0, y1, y2, y3, y4⟩ := HY.out w1 (below_step (below_alloc (Below.refl _ _) _) hb1); have HB := Aside0.mk (below_step (below_alloc (Below.refl _ _) _) hb1); clear hb1 R0)
          go_ret
          exact ⟨rfl, below_alloc HB.out _⟩
    by_cases c10 : x0 = 10
    · refine fin _ (Q2.out (.inr (.inl c10))) ?_
      clear fin hshr' c5 c6 c7
      subst c10
      cases b with
      | true =>
        obtain rfl := HS.out rfl
        try rw [Int.zero_ediv] at hshr'
        go_enter Tryz.func39, Tryz.ntmps39
        go_wp2_with (go_at_call 63; (with_reducible refine (SF.out _ (below_alloc (Below.refl _ _) _)).mono ?_); rintro e w1 ⟨rfl, hb1⟩; have R0 := (hb1.block w.heap.size (by simp)).trans (heap_alloc_new w _); have kR := fun j => cell_of_row w1 w.heap.size j _ _ _ R0; obtain ⟨y0, y1, y2, y3, y4⟩ := HY.out w1 (below_step (below_alloc (Below.refl _ _) _) hb1); have HB := Aside0.mk (below_step (below_alloc (Below.refl _ _) _) hb1); clear hb1 R0)
        go_ret
        exact ⟨rfl, below_alloc HB.out _⟩
      | false =>
        rw [HS'.out rfl]
        go_enter Tryz.func39, Tryz.ntmps39
        go_wp2_with (go_at_call 63; (with_reducible refine (SF.out _ (below_alloc (Below.refl _ _) _)).mono ?_); rintro e w1 ⟨rfl, hb1⟩; have R0 := (hb1.block w.heap.size (by simp)).trans (heap_alloc_new w _); have kR := fun j => cell_of_row w1 w.heap.size j _ _ _ R0; obtain ⟨y0, y1, y2, y3, y4⟩ := HY.out w1 (below_step (below_alloc (Below.refl _ _) _) hb1); have HB := Aside0.mk (below_step (below_alloc (Below.refl _ _) _) hb1); clear hb1 R0)
        go_ret
        exact ⟨rfl, below_alloc HB.out _⟩
    by_cases c12 : x0 = 12
    · refine fin _ (Q2.out (.inr (.inr c12))) ?_
      clear fin hshr' c5 c6 c7 c10
      subst c12
      cases b with
      | true =>
        obtain rfl := HS.out rfl
        try rw [Int.zero_ediv] at hshr'
        go_enter Tryz.func39, Tryz.ntmps39
        go_wp2_with (go_at_call 63; (with_reducible refine (SF.out _ (below_alloc (Below.refl _ _) _)).mono ?_); rintro e w1 ⟨rfl, hb1⟩; have R0 := (hb1.block w.heap.size (by simp)).trans (heap_alloc_new w _); have kR := fun j => cell_of_row w1 w.heap.size j _ _ _ R0; obtain ⟨y0, y1, y2, y3, y4⟩ := HY.out w1 (below_step (below_alloc (Below.refl _ _) _) hb1); have HB := Aside0.mk (below_step (below_alloc (Below.refl _ _) _) hb1); clear hb1 R0)
        go_ret
        exact ⟨rfl, below_alloc HB.out _⟩
      | false =>
        rw [HS'.out rfl]
        go_enter Tryz.func39, Tryz.ntmps39
        go_wp2_with (go_at_call 63; (with_reducible refine (SF.out _ (below_alloc (Below.refl _ _) _)).mono ?_); rintro e w1 ⟨rfl, hb1⟩; have R0 := (hb1.block w.heap.size (by simp)).trans (heap_alloc_new w _); have kR := fun j => cell_of_row w1 w.heap.size j _ _ _ R0; obtain ⟨y0, y1, y2, y3, y4⟩ := HY.out w1 (below_step (below_alloc (Below.refl _ _) _) hb1); have HB := Aside0.mk (below_step (below_alloc (Below.refl _ _) _) hb1); clear hb1 R0)
        go_ret
        exact ⟨rfl, below_alloc HB.out _⟩
    refine fin _ (Q3.out ⟨c5, c6, c7, c10, c12⟩) ?_
    have b5 : (x0 == 5) = false := beq_false_of_ne c5
    have b6 : (x0 == 6) = false := beq_false_of_ne c6
    have b7 : (x0 == 7) = false := beq_false_of_ne c7
    have b10 : (x0 == 10) = false := beq_false_of_ne c10
    have b12 : (x0 == 12) = false := beq_false_of_ne c12
    clear fin hshr'
    cases b with
    | true =>
      obtain rfl := HS.out rfl
      try rw [Int.zero_ediv] at hshr'
      go_enter Tryz.func39, Tryz.ntmps39
      go_wp2_with (go_at_call 63; (with_reducible refine (SF.out _ (below_alloc (Below.refl _ _) _)).mono ?_); rintro e w1 ⟨rfl, hb1⟩; have R0 := (hb1.block w.heap.size (by simp)).trans (heap_alloc_new w _); have kR := fun j => cell_of_row w1 w.heap.size j _ _ _ R0; obtain ⟨y0, y1, y2, y3, y4⟩ := HY.out w1 (below_step (below_alloc (Below.refl _ _) _) hb1); have HB := Aside0.mk (below_step (below_alloc (Below.refl _ _) _) hb1); clear hb1 R0)
      go_ret
      exact ⟨rfl, below_alloc HB.out _⟩
    | false =>
      rw [HS'.out rfl]
      go_enter Tryz.func39, Tryz.ntmps39
      go_wp2_with (go_at_call 63; (with_reducible refine (SF.out _ (below_alloc (Below.refl _ _) _)).mono ?_); rintro e w1 ⟨rfl, hb1⟩; have R0 := (hb1.block w.heap.size (by simp)).trans (heap_alloc_new w _); have kR := fun j => cell_of_row w1 w.heap.size j _ _ _ R0; obtain ⟨y0, y1, y2, y3, y4⟩ := HY.out w1 (below_step (below_alloc (Below.refl _ _) _) hb1); have HB := Aside0.mk (below_step (below_alloc (Below.refl _ _) _) hb1); clear hb1 R0)
      go_ret
      exact ⟨rfl, below_alloc HB.out _⟩
  · rw [show outB code a z = z from if_neg hr]
    by_cases h0 : a < 0
    · go_enter Tryz.func39, Tryz.ntmps39
      go_wp2
      go_ret
      exact ⟨rfl, below_alloc (Below.refl _ _) _⟩
    · have h1 : a ≥ (code.length : Int) := by omega
      go_enter Tryz.func39, Tryz.ntmps39
      go_wp2
      go_ret
      exact ⟨rfl, below_alloc (Below.refl _ _) _⟩
end Go.Proofs.YtocechpmgfhenaaGreatDoor.ZP

namespace Go.Proofs.YtocechpmgfhenaaGreatDoor.ZP
open Go.RowKit Go.Proofs.YtocechpmgfhenaaGreatDoorW.PrintWords Go.Proofs.YtocechpmgfhenaaGreatDoorW.PrintLast Go.Proofs.YtocechpmgfhenaaGreatDoorW.PrintMore Go.Proofs.YtocechpmgfhenaaGreatDoor.F Go.Proofs.YtocechpmgfhenaaGreatDoor.PL Go.Proofs.YtocechpmgfhenaaGreatDoor.NX Go.Proofs.YtocechpmgfhenaaGreatDoor.FP Go.Proofs.YtocechpmgfhenaaGreatDoor.B8 Go.Proofs.YtocechpmgfhenaaGreatDoor.FSF Go.Proofs.YtocechpmgfhenaaGreatDoor.FG
set_option linter.unusedVariables false
set_option linter.unusedSimpArgs false
theorem append1_q {P : Program} {ops : Array Oper} {rest : List Oper} {o : Oper} {a : Act} {Q : Exit → Act → World → Prop} {W : World} (base : Nat) (hgd : o.guard = none) (s x : Operand) (t e : TypeId) (bytes : Nat)
    (ho : o.op = .call { callee := .builtin .append, args := #[s, x], argTypes := #[t, t] })
    (ht : P.underlying t = some (.slice e)) (hinfo : (P.info? e).map (fun i => (i.zero, i.size, i.bytes)) = some (some (.int .i64 0), 1, bytes))
    (v : Value) (xs : List Int) (n : Nat) (hn : xs.length = n) (y : Int) (g : Nat) (hs : a.eval s = v) (hx : a.eval x = .slice (some ⟨g, 0, none⟩) 1 1)
    (HO : QRow W base e 1 v n (nums .i64 xs)) (HR : W.heap[g]? = some (.cells #[.int .i64 y] e (0, 0))) (hbase : base ≤ W.heap.size) (h63 : n + 1 ≤ maxLen) (hl : (n + 1) * bytes ≤ 140737488355328)
    (h : ∀ v1 w1, QRow w1 base e 1 v1 (n + 1) (nums .i64 (xs ++ [y])) → W.grownBy w1 v.ownBlock → (v1.ownBlock = v.ownBlock ∨ ∃ b, v1.ownBlock = some b ∧ W.heap.size ≤ b) → wpList P ops Q rest (a.put o.dst v1) w1) :
    wpList P ops Q (o :: rest) a W := by
  obtain ⟨i0, hi, hzz⟩ := Option.map_eq_some_iff.1 hinfo
  simp only [Prod.mk.injEq] at hzz
  obtain ⟨hz0, hz1, hz2⟩ := hzz
  obtain ⟨v1, w1, hr, hown, hg, hat⟩ := q_append (P := P) W base t o.type e i0 (.int .i64 0) 1 bytes ht hi hz0 hz1 hz2 rfl (by decide) v n (nums .i64 xs) HO ⟨g, 0, none⟩ 1 1 [.int .i64 y] rfl (World.news_of_block (cs := #[.int .i64 y]) HR) (by simp [Value.oneCell']) (by decide) h63 hl hbase
  refine wpList_plain hgd fun K hK => ?_
  unfold Oper.wp execOp
  simp only [ho, resolve, invoke, builtin, Sem.run_bind, Sem.run_pure, Result.andThen_ok, List.map_toArray, List.map_cons, List.map_nil, hs, hx, hr]
  exact hK _ _ (h v1 w1 (by simpa [nums] using hown) hg hat)
def RowU (w : World) (b : Nat) (l : List S8) : Prop := w.heap[b]? = some (.cells (l.map fun z => Value.int .u8 (iv z)).toArray 5 (0, 0))
theorem RowU.cell {w : World} {b : Nat} {l : List S8} (h : RowU w b l) (k : Nat) (hk : k < l.length) : w.cell? ⟨b, k, none⟩ = some (.int .u8 (iv (g l k))) := by
  refine (blk_cell h k).trans ?_
  simp [g, List.getElem?_eq_getElem hk, List.getD_eq_getElem?_getD]
theorem RowU.set {w : World} {b : Nat} {l : List S8} (h : RowU w b l) (k : Nat) (z : S8) : RowU (w.setCell ⟨b, k, none⟩ (.int .u8 (iv z))) b (l.set k z) := by
  refine (ST0.row_cellS (i := b) (j := k) (.int .u8 (iv z)) h).trans ?_
  simp [List.map_set]
def rowUOf (w : World) (b : Nat) : List S8 := match w.heap[b]? with
  | some (.cells cs _ _) => cs.toList.map fun v => match v with | .int _ x => bv x | _ => 0
  | _ => []
theorem RowU.of {w : World} {b : Nat} {l : List S8} (h : RowU w b l) : rowUOf w b = l := by
  unfold rowUOf
  rw [h]
  simp [List.map_map, Function.comp_def, bv_iv]
def measU (b : Nat) (v : Value) (w : World) : Nat := 2 * tot (rowUOf w b) + lenOf v
theorem measU_eq {w : World} {b : Nat} {l : List S8} (h : RowU w b l) (A : Option Addr) (todo : List Int) (n c : Nat) (hn : todo.length = n) : measU b (.slice A n c) w = lft l todo := by
  unfold measU lft
  rw [h.of, ← hn]
  rfl
structure FI (w wr : World) (pv : Array Value) (v : Value) (l : List S8) (n : Nat) (todo : List Int) : Prop where
  row : RowU wr (w.heap.size + 1) l
  q : QRow wr w.heap.size 3 1 v n (nums .i64 todo)
  len : todo.length = n
  below : Below w.heap.size w wr
  box : wr.heap[w.heap.size]? = some (.cells pv 25 (0, 0))
theorem FI.ne {w wr : World} {pv : Array Value} {v : Value} {l : List S8} {n : Nat} {todo : List Int} (h : FI w wr pv v l n todo) {k : Nat} {cs : Array Value} {t : TypeId} (hk : wr.heap[k]? = some (.cells cs t (0, 0))) (ht : t ≠ 3) : some k ≠ v.ownBlock := fun e => by
  obtain ⟨_, cs', hc⟩ := q_typed h.q k e.symm
  rw [hk] at hc
  injection hc with hc
  injection hc with _ hc _
  exact ht hc
theorem FI.grown {w wr w1 : World} {pv : Array Value} {v v1 : Value} {l : List S8} {n n' : Nat} {todo t' : List Int} (h : FI w wr pv v l n todo) {o : Obj} (hg : (wr.alloc o).grownBy w1 v.ownBlock) (hq : QRow w1 w.heap.size 3 1 v1 n' (nums .i64 t')) (hn : t'.length = n') : FI w w1 pv v1 l n' t' := by
  have mv : ∀ k, k < wr.heap.size → some k ≠ v.ownBlock → w1.heap[k]? = wr.heap[k]? := fun k hk he => (hg.block k (by simp; omega) he).trans (by show (wr.heap.push o)[k]? = _; rw [Array.getElem?_push, if_neg (Nat.ne_of_lt hk)])
  refine ⟨(mv _ (blk_lt h.row) (h.ne h.row (by decide))).trans h.row, hq, hn, ?_, (mv _ (blk_lt h.box) (h.ne h.box (by decide))).trans h.box⟩
  exact Below.grown (below_alloc h.below o) hg (Nat.le_trans h.below.size (by simp)) fun k hk => (q_typed h.q k hk).1
theorem FI.keep {w wr w1 : World} {pv : Array Value} {v : Value} {l : List S8} {n : Nat} {todo : List Int} (h : FI w wr pv v l n todo) (hb : Below wr.heap.size wr w1) : FI w w1 pv v l n todo :=
  ⟨(hb.block _ (blk_lt h.row)).trans h.row, q_move h.q fun k hk => hb.block k (q_lt h.q k hk), h.len, below_step h.below hb, (hb.block _ (blk_lt h.box)).trans h.box⟩
theorem FI.set {w wr : World} {pv : Array Value} {v : Value} {l : List S8} {n : Nat} {todo : List Int} (h : FI w wr pv v l n todo) (k : Nat) (z : S8) : FI w (wr.setCell ⟨w.heap.size + 1, k, none⟩ (.int .u8 (iv z))) pv v (l.set k z) n todo :=
  ⟨h.row.set k z, q_move h.q fun j hj => Below.heap_setCell wr _ _ j fun e => h.ne h.row (by decide) (by rw [hj]; exact congrArg some e.symm), h.len, h.below.setCell (Nat.le_succ _) _, blk_far h.box (by simp) _⟩
def pre (M k : Nat) : List S8 := List.replicate k 255 ++ List.replicate (M - k) 0
theorem pre_len {M k : Nat} (h : k ≤ M) : (pre M k).length = M := by simp [pre]; omega
theorem pre_set {M k : Nat} (h : k < M) : (pre M k).set k 255 = pre M (k + 1) := by
  obtain ⟨m, hm⟩ : ∃ m, M - k = m + 1 := ⟨M - k - 1, by omega⟩
  have hm' : M - (k + 1) = m := by omega
  unfold pre
  rw [hm, hm', List.set_append_right _ _ (by simp), List.replicate_succ (n := m), List.length_replicate, Nat.sub_self, List.set_cons_zero, List.replicate_succ' (n := k), List.append_assoc]
  rfl
theorem made_pre (M : Nat) : madeCells #[Value.int .u8 0] M = ((pre M 0).map fun z => Value.int .u8 (iv z)).toArray := by
  apply Array.ext'
  rw [toList_madeCells_one]
  simp [pre]
  exact .inr rfl
def upTo (k : Nat) : List Int := (List.range k).map fun (i : Nat) => (i : Int)
theorem upTo_succ (k : Nat) : upTo k ++ [(k : Int)] = upTo (k + 1) := by unfold upTo; rw [List.range_succ, List.map_append]; rfl
theorem upTo_len (k : Nat) : (upTo k).length = k := by simp [upTo]
theorem take_nx (l : List Int) (j : Nat) (hj : j < l.length) {w : World} {B c : Nat} {A : Option Addr} (h : w.ownsRow B 3 1 (.slice A l.length c) l.length (nums .i64 l)) : ∃ ad, A = some ad ∧ w.cell? (ad.add j) = some (.int .i64 l[j]) := by
  rcases h.2 with ⟨_, e⟩ | ⟨g, cap, cur, e, _⟩
  · omega
  · injection e with e1 _ _
    exact ⟨_, e1, h.cells (g := g) (by rw [e1]; rfl) j _ (by simp [nums, List.getElem?_eq_getElem hj])⟩
set_option maxHeartbeats 8000000 in
set_option maxRecDepth 100000 in
theorem In_c (p : Pg) (w : World) (h : p.On w) (hI : InR (nxt p.code) (p.code.length + 1)) (hsm : p.code.length ≤ 1000000) : Calls Tryz.prog 22 #[p.v] w fun e w' =>
    ∃ g c, e = .returned (.slice (some ⟨g, 0, none⟩) (p.code.length + 1) c) ∧ p.code.length + 1 ≤ c ∧ w.heap.size ≤ g ∧ RowU w' g (frB p.code) ∧ Below w.heap.size w w' := by
  have hC := h.hC
  have OUT := Aside0.mk (fun W (hW : Below w.heap.size w W) (a : Int) (z : S8) => Out_c p W (h.below hW) a z)
  clear h
  obtain ⟨A0, c0, ts, la, gl, A3, c3, code⟩ := p
  simp only at hC hI hsm
  change Aside0 (∀ W, Below w.heap.size w W → ∀ (a : Int) (z : S8), Calls Tryz.prog 39 #[.agg #[.slice A0 ts.length c0, .string la, .string gl, .slice A3 code.length c3], .int .i64 a, .int .u8 (iv z)] W fun e w' => e = .returned (.int .u8 (iv (outB code a z))) ∧ Below W.heap.size W w') at OUT
  have NX := Aside0.mk (fun W (hW : Below w.heap.size w W) (a : Int) => Next_own W A0 c0 ts la gl A3 c3 code (Kd.C_below hC hW) a)
  have HI := Aside0.mk hI
  have h2 := nxt_two code
  have hmk1 : ∀ W : World, (Instr.makeSlice 62 (.int .i64 ((code.length : Int) + 1)) (.int .i64 ((code.length : Int) + 1))).run Tryz.prog W = .ok (.slice (some ⟨W.heap.size, 0, none⟩) (code.length + 1) (code.length + 1)) (W.alloc (.cells (madeCells #[.int .u8 0] (code.length + 1)) 5)) :=
    print_make_of (P := Tryz.prog) 62 5 (.int .u8 0) 1 Tryz.underlying62 (by kernel_rfl) rfl (by decide) (code.length + 1) (by omega)
  have hmk2 : ∀ W : World, (Instr.makeSlice 89 (.int .i64 0) (.int .i64 ((code.length : Int) + 1))).run Tryz.prog W = .ok (.slice (some ⟨W.heap.size, 0, none⟩) 0 (code.length + 1)) (W.alloc (.cells (madeCells #[.int .i64 0] (code.length + 1)) 3)) := fun W => by
    obtain ⟨i0, hi, hzz⟩ := Option.map_eq_some_iff.1 info_int
    simp only [Prod.mk.injEq] at hzz
    have hr := run_make (P := Tryz.prog) W 89 3 i0 (.int .i64 0) Tryz.underlying89 hi hzz.1 .i64 .i64 (0 : Int) ((code.length + 1 : Nat) : Int) (by omega) (by omega) (by rw [hzz.2.2]; omega) (by omega)
    rw [hzz.2.1, Int.toNat_natCast, Nat.mul_one] at hr
    exact hr
  clear hC hI
  show Calls _ _ #[.agg #[.slice A0 ts.length c0, .string la, .string gl, .slice A3 code.length c3]] _ fun e w' => ∃ g c, e = .returned (.slice (some ⟨g, 0, none⟩) (code.length + 1) c) ∧ code.length + 1 ≤ c ∧ w.heap.size ≤ g ∧ RowU w' g (frB code) ∧ Below w.heap.size w w'
  go_enter Tryz.func22, Tryz.ntmps22
  go_upto_region 3 with (fail)
  obtain ⟨W0, hW0⟩ : ∃ W0 : World, W0 = ((w.alloc (.cells #[.slice A0 ts.length c0, .string la, .string gl, .slice A3 code.length c3] 25)).alloc (.cells (madeCells #[.int .u8 0] (code.length + 1)) 5)).alloc (.cells (madeCells #[.int .i64 0] (code.length + 1)) 3) := ⟨_, rfl⟩
  have HF := Aside0.mk (show FI w W0 #[.slice A0 ts.length c0, .string la, .string gl, .slice A3 code.length c3] (.slice (some ⟨w.heap.size + 1 + 1, 0, none⟩) 0 (code.length + 1)) (pre (code.length + 1) 0) 0 (upTo 0) by
    rw [hW0]
    refine ⟨?_, ?_, rfl, below_alloc (below_alloc (below_alloc (Below.refl _ _) _) _) _, ?_⟩
    · unfold RowU
      rw [made_pre]
      exact ST0.row_old _ _ _ (by simp) (ST0.row_new _ _ _ (by simp))
    · have := World.ownsRow_made (base := w.heap.size) (e := 3) (size := 1) ((w.alloc (.cells #[.slice A0 ts.length c0, .string la, .string gl, .slice A3 code.length c3] 25)).alloc (.cells (madeCells #[.int .u8 0] (code.length + 1)) 5)) (madeCells #[.int .i64 0] (code.length + 1)) (code.length + 1) (by simp; omega) (by unfold maxLen; omega) (by simp [madeCells])
      have h2 := q_of_own this
      simpa [upTo, nums] using h2
    · exact ST0.row_old _ _ _ (by simp; omega) (ST0.row_old _ _ _ (by simp) (ST0.row_new _ _ _ rfl)))
  rw [← hW0]
  clear hW0 hmk1 hmk2
  go_wp2
  go_loopw [20, 4] (fun x v wr => ∃ k : Nat, x = .int .i64 k ∧ k ≤ code.length + 1 ∧ Aside0 (FI w wr #[.slice A0 ts.length c0, .string la, .string gl, .slice A3 code.length c3] v (pre (code.length + 1) k) k (upTo k))) (fun x _ _ => code.length + 1 - (intOf x).toNat)
  case atStart => exact ⟨0, rfl, Nat.zero_le _, HF⟩
  case round =>
    clear HF
    obtain ⟨k, rfl, hk, HF⟩ := hrel
    by_cases hlt : (k : Int) < (code.length : Int) + 1
    · have k0 : (0 : Int) ≤ k := by omega
      have hpl : (pre (code.length + 1) k).length = code.length + 1 := pre_len hk
      have hc := HF.out.row.cell k (by omega)
      have hf := blk_frozen HF.out.row k
      go_upto_region 7 with (fail)
      obtain ⟨w3, hw3⟩ : ∃ w3 : World, w3 = wr.setCell ⟨w.heap.size + 1, k, none⟩ (.int .u8 255) := ⟨_, rfl⟩
      have HF3 := Aside0.mk (show FI w w3 #[.slice A0 ts.length c0, .string la, .string gl, .slice A3 code.length c3] u4 (pre (code.length + 1) (k + 1)) k (upTo k) by
        rw [hw3, ← pre_set (by omega)]
        exact HF.out.set k 255)
      rw [← hw3]
      clear hw3 hc hf HF
      have hzw := HF3.out.below.size
      go_wp2_with (at_builtin; refine append1_q w.heap.size rfl _ _ 89 3 8 rfl Tryz.underlying89 info_int u4 (upTo k) k (upTo_len k) k w3.heap.size rfl rfl (q_move HF3.out.q fun j hj => by rw [Below.heap_alloc _ _ _ (q_lt HF3.out.q j hj)]) (ST0.row_new _ _ _ rfl) (Nat.le_trans hzw (by simp)) (by unfold maxLen; omega) (by omega) ?_; intro v1 w1 hq hg hat; have HQ := Aside0.mk hq; have HG := Aside0.mk hg; clear hq hg hat)
      go_roundw
      case rel => exact ⟨k + 1, by go_num, by omega, ⟨HF3.out.grown HG.out (by rw [← upTo_succ]; exact HQ.out) (upTo_len _)⟩⟩
      case measure =>
        simp [intOf]
        omega
    · obtain rfl : k = code.length + 1 := by omega
      have e0 : pre (code.length + 1) (code.length + 1) = List.replicate (code.length + 1) 255 := by simp [pre]
      rw [e0] at HF
      have ht : lft (List.replicate (code.length + 1) (255 : S8)) (upTo (code.length + 1)) ≤ 17 * (code.length + 1) := by
        have := tot_8 (List.replicate (code.length + 1) (255 : S8))
        rw [List.length_replicate] at this
        unfold lft
        rw [upTo_len]
        omega
      have HT := Aside0.mk ht
      clear e0 ht hlt hk
      obtain ⟨n1, hn1⟩ : ∃ n1, n1 = code.length + 1 := ⟨_, rfl⟩
      have HS := Aside0.mk (show FI w wr #[.slice A0 ts.length c0, .string la, .string gl, .slice A3 code.length c3] u4 (List.replicate (code.length + 1) 255) n1 (upTo (code.length + 1)) by rw [hn1]; exact HF.out)
      clear HF hn1
      go_wp2
      go_loopw [4] (fun v wr => ∃ l todo n, Aside0 (FI w wr #[.slice A0 ts.length c0, .string la, .string gl, .slice A3 code.length c3] v l n todo ∧ WI (nxt code) code.length (FB code) l todo ∧ lft l todo ≤ 17 * (code.length + 1))) (fun v wr => measU (w.heap.size + 1) v wr)
      case atStart => exact ⟨_, _, _, ⟨HS.out, WI.start, HT.out⟩⟩
      case round =>
        clear HS HT
        obtain ⟨l, todo, n, HR⟩ := hrel
        obtain ⟨w3, hw3⟩ : ∃ w3 : World, w3 = wr := ⟨_, rfl⟩
        subst hw3
        obtain ⟨hF, hWI, hlf⟩ := HR.out
        obtain ⟨A, c, hv, hc⟩ := q_slice hF.q
        subst hv
        have hln := hF.len
        have y0 := (blk_cell hF.box 0).trans (rfl : _ = some (Value.slice A0 ts.length c0))
        have y1 := (blk_cell hF.box 1).trans (rfl : _ = some (Value.string la))
        have y2 := (blk_cell hF.box 2).trans (rfl : _ = some (Value.string gl))
        have y3 := (blk_cell hF.box 3).trans (rfl : _ = some (Value.slice A3 code.length c3))
        cases todo with
        | nil =>
          obtain rfl : n = 0 := hln.symm
          have e : l = frB code := fr_of HI.out (FB_mono code) (nxt_last code) hWI.inv hWI.done
          have HFE := Aside0.mk hF
          have HE := Aside0.mk e
          clear hF hWI hlf e HR
          go_wp2
          go_ret
          exact ⟨w.heap.size + 1, _, rfl, Nat.le_refl _, Nat.le_succ _, HE.out ▸ HFE.out.row, HFE.out.below⟩
        | cons k todo =>
          obtain ⟨m, rfl⟩ : ∃ m, n = m + 1 := ⟨todo.length, by simpa using hln.symm⟩
          have hlm : todo.length = m := by simpa using hln
          have hkr := hWI.range k (List.mem_cons_self ..)
          obtain ⟨kn, rfl⟩ := Int.eq_ofNat_of_zero_le hkr.1
          have hll : l.length = code.length + 1 := hWI.inv.len
          obtain ⟨ad, rfl, hcells⟩ := q_cells hF.q (by simp)
          have hx := hcells 0 (.int .i64 kn) (by simp [nums])
          rw [show ad.add 0 = ad by simp [Addr.add]] at hx
          have hb := hF.row.cell kn (by omega)
          have HWJ := Aside0.mk (hWI.pop (FB_mono code))
          have hlt := lft_pop l todo (kn : Int)
          have hm1 : m + 1 ≤ c := hc
          have HFF := Aside0.mk hF
          have hk2 : (kn : Int) < (code.length : Int) + 1 := by omega
          have hk0 : (0 : Int) ≤ kn := Int.natCast_nonneg _
          have hq' := q_drop (k := 1) hF.q (by omega)
          rw [show (nums .i64 ((kn : Int) :: todo)).drop (1 * 1) = nums .i64 todo by simp [nums], show m + 1 - 1 = m by omega] at hq'
          clear hcells hF hWI hln HR
          go_upto_region 12 with (fail)
          obtain ⟨A', hA'⟩ : ∃ A' : Option Addr, A' = (if c = 1 then some ad else some ⟨ad.block, ad.off + 1, none⟩) := ⟨_, rfl⟩
          have hA2 : (if c = 1 then some ad else (some ad).map (·.add (1 * 1))) = A' := by
            rw [hA']
            obtain ⟨g, off, cap, e1, e2⟩ : ∃ g off cap, ad = ⟨g, off, none⟩ ∧ c = cap := by
              rcases HFF.out.q.2 with ⟨h, _⟩ | ⟨g, off, cap, cur, he, _⟩
              · simp at h
              · injection he with h1 _ h3
                injection h1 with h1
                exact ⟨g, off * 1, cap, h1, h3⟩
            subst e1
            split <;> simp [Addr.add]
          rw [hA2] at hq'
          have hF' := Aside0.mk (show FI w w3 #[.slice A0 ts.length c0, .string la, .string gl, .slice A3 code.length c3] (.slice A' m (c - 1)) l m todo from ⟨HFF.out.row, hq', hlm, HFF.out.below, HFF.out.box⟩)
          rw [← hA']
          clear hA' hA2 hq' hx
          obtain ⟨z, hz⟩ : ∃ z : S8, outB code kn (g l kn) = z := ⟨_, rfl⟩
          have hzz := hz
          obtain ⟨y, hy⟩ : ∃ y : S8, y = g l kn := ⟨_, rfl⟩
          rw [← hy] at hb hzz
          have OZ := Aside0.mk (fun W (hW : Below w.heap.size w W) => (by have := OUT.out W hW kn y; rw [hzz] at this; exact this : Calls Tryz.prog 39 #[.agg #[.slice A0 ts.length c0, .string la, .string gl, .slice A3 code.length c3], .int .i64 kn, .int .u8 (iv y)] W fun e w' => e = .returned (.int .u8 (iv z)) ∧ Below W.heap.size W w'))
          have HWZ := Aside0.mk (show WJ (nxt code) code.length (FB code) l todo kn z 0 by rw [← hz]; exact HWJ.out)
          clear hz HWJ hy hzz
          go_still_tail 6, (by kernel_rfl)
          go_wp2_with (first
            | (go_at_call 39; (with_reducible refine (OZ.out _ ?side1).mono ?_); (case side1 => first | exact hF'.out.below | exact below_drew1 hF'.out.below); rintro e w5 ⟨rfl, hb5⟩; have HF5 := Aside0.mk (hF'.out.keep (by first | exact hb5 | exact below_step (below_drew1 (Below.refl _ _)) hb5)); have y0 := (blk_cell HF5.out.box 0).trans (rfl : _ = some (Value.slice A0 ts.length c0)); have y1 := (blk_cell HF5.out.box 1).trans (rfl : _ = some (Value.string la)); have y2 := (blk_cell HF5.out.box 2).trans (rfl : _ = some (Value.string gl)); have y3 := (blk_cell HF5.out.box 3).trans (rfl : _ = some (Value.slice A3 code.length c3)); clear hb5)
            | (go_at_call 40; (with_reducible refine (NX.out _ HF5.out.below _).mono ?_); rintro e w6 ⟨v', rfl, ho, hb6⟩; have HO6 := Aside0.mk ho; have HF6 := Aside0.mk (HF5.out.keep hb6); have hsz6 := hb6.size; have hne6 : ∀ j, v'.ownBlock = some j → (Value.slice A' m (c - 1)).ownBlock ≠ some j := (fun j hj e => by have h1 := own_base ho j hj; have h2 := q_lt HF5.out.q j e; omega); obtain ⟨An, cn, hvn⟩ := own_slice ho; subst hvn; have HNE := Aside0.mk hne6; clear ho hb6 hne6))
          have hzr := HF6.out.row
          have hB5 : w5.heap.size ≤ w6.heap.size := hsz6
          obtain ⟨B5, hB5'⟩ : ∃ B5, B5 = w5.heap.size := ⟨_, rfl⟩
          rw [← hB5'] at HO6 hB5
          have HLF := Aside0.mk (show lft l todo ≤ 17 * (code.length + 1) by omega)
          have HLT := Aside0.mk hlt
          have HFT := Aside0.mk (measU_eq HFF.out.row (some ad) ((kn : Int) :: todo) (m + 1) c (by simp [hlm]))
          obtain ⟨nn, hnn⟩ : ∃ nn, nn = (nxt code kn).length := ⟨_, rfl⟩
          have h22 := h2 kn
          rw [← hnn] at HO6 HNE h22 ⊢
          have HNN := Aside0.mk hnn
          clear hb y0 y1 y2 y3 hlf hlt hB5' hzr hnn hkr OZ
          go_loopw [50, 4] (fun x v wr => ∃ (j : Nat) (l' : List S8) (todo' : List Int) (n' : Nat), x = .int .i64 j ∧ j ≤ nn ∧ Aside0 (FI w wr #[.slice A0 ts.length c0, .string la, .string gl, .slice A3 code.length c3] v l' n' todo' ∧ WJ (nxt code) code.length (FB code) l' todo' kn z j ∧ lft l' todo' ≤ lft l todo ∧ wr.ownsRow B5 3 1 (.slice An nn cn) nn (nums .i64 (nxt code kn)) ∧ ∀ j, (Value.slice An nn cn).ownBlock = some j → v.ownBlock ≠ some j)) (fun x _ _ => nn - (intOf x).toNat)
          case atStart => exact ⟨0, l, todo, m, rfl, Nat.zero_le _, ⟨HF6.out, HWZ.out, Nat.le_refl _, HO6.out, HNE.out⟩⟩
          case round =>
            clear HF6 HWZ HF5 hF' HNE HO6
            obtain ⟨j, l', todo', n', rfl, hj, HR⟩ := hrel
            obtain ⟨w7, hw7⟩ : ∃ w7 : World, w7 = wr := ⟨_, rfl⟩
            subst hw7
            by_cases hjl : (j : Int) < nn
            · have hjn : j < (nxt code kn).length := by rw [← HNN.out]; omega
              obtain ⟨hF, hWJ, hle, hrow, hne⟩ := HR.out
              have hrow' : w7.ownsRow B5 3 1 (.slice An (nxt code kn).length cn) (nxt code kn).length (nums .i64 (nxt code kn)) := by rw [← HNN.out]; exact hrow
              obtain ⟨ad2, eA, hcell⟩ := take_nx _ j hjn hrow'
              subst eA
              have hr := HI.out _ _ (List.getElem_mem hjn)
              obtain ⟨tn, htn⟩ := Int.eq_ofNat_of_zero_le hr.1
              have hll' : l'.length = code.length + 1 := hWJ.inv.len
              have htl : tn < l'.length := by omega
              rw [htn] at hcell
              have hb := hF.row.cell tn htl
              have hfz := blk_frozen hF.row tn
              have t0 : (0 : Int) ≤ tn := Int.natCast_nonneg _
              have t1 : (tn : Int) < (code.length : Int) + 1 := by omega
              have j0 : (0 : Int) ≤ j := Int.natCast_nonneg _
              have HTN := Aside0.mk htn
              have HRA := Aside0.mk hrow
              have HNA := Aside0.mk hne
              have HFA := Aside0.mk hF
              have HWA := Aside0.mk hWJ
              have HLA := Aside0.mk hle
              obtain ⟨y, hy⟩ : ∃ y : S8, y = g l' tn := ⟨_, rfl⟩
              rw [← hy] at hb
              have HY := Aside0.mk hy
              clear hF hWJ hrow hrow' hne hle HR hr hy htn
              by_cases e : y &&& z = y
              · have e1 : (bits .and .u8 (iv y) (iv z) != iv y) = false := by rw [bits_and, e]; simp
                have HE := Aside0.mk e
                clear e
                go_upto_region 16 with (fail)
                go_still (by kernel_rfl)
                go_wp2
                refine ⟨⟨j + 1, l', todo', n', by go_num, by omega, ⟨HFA.out.keep (below_drew1 (Below.refl _ _)), HWA.out.skip hjn ?_, HLA.out, HRA.out, HNA.out⟩⟩, by simp [intOf]; omega⟩
                rw [HTN.out, Int.toNat_natCast, ← HY.out]
                exact HE.out
              · have e1 : (bits .and .u8 (iv y) (iv z) != iv y) = true := bne_iff_ne.2 (by rw [bits_and]; exact fun h => e (iv_inj h))
                have HE := Aside0.mk e
                clear e
                go_upto_region 16 with (fail)
                go_still (by kernel_rfl)
                go_upto_region 18 with (fail)
                obtain ⟨w8, hw8⟩ : ∃ w8 : World, w8 = (w7.setCell ⟨w.heap.size + 1, tn, none⟩ (.int .u8 (bits .and .u8 (iv y) (iv z)))).drew := ⟨_, rfl⟩
                have HF8 := Aside0.mk (show FI w w8 #[.slice A0 ts.length c0, .string la, .string gl, .slice A3 code.length c3] u4 (cut l' z tn) n' todo' by
                  rw [hw8, bits_and]
                  unfold cut
                  rw [← HY.out]
                  exact (HFA.out.set tn _).keep (below_drew1 (Below.refl _ _)))
                have HR8 := Aside0.mk (show w8.ownsRow B5 3 1 (.slice (some ad2) nn cn) nn (nums .i64 (nxt code kn)) by
                  rw [hw8]
                  exact own_drew (own_setCell (p := ⟨w.heap.size + 1, tn, none⟩) HRA.out (own_ne HRA.out HFA.out.row (by decide)) _))
                have hz8 : w7.heap.size ≤ w8.heap.size := by rw [hw8]; simp
                rw [← hw8]
                clear hw8 hb hfz hcell
                have hzw := HF8.out.below.size
                have hnb : n' + 1 ≤ 17000020 := by
                  have h1 := HLA.out
                  have h2 := HLF.out
                  have h3 := HF8.out.len
                  unfold lft at h1 h2
                  omega
                go_wp2_with (at_builtin; refine append1_q w.heap.size rfl _ _ 89 3 8 rfl Tryz.underlying89 info_int u4 todo' n' HF8.out.len tn w8.heap.size rfl rfl (q_move HF8.out.q fun j hj => by rw [Below.heap_alloc _ _ _ (q_lt HF8.out.q j hj)]) (ST0.row_new _ _ _ rfl) (Nat.le_trans hzw (by simp)) (by unfold maxLen; omega) (by omega) ?_; intro v1 w9 hq hg hat; have HQ := Aside0.mk hq; have HG := Aside0.mk hg; have HAT := Aside0.mk hat; clear hq hg hat)
                have hlc := lft_cut (todo := todo') (x := (tn : Int)) htl (show g l' tn &&& z ≠ g l' tn by rw [← HY.out]; exact HE.out)
                have hwc := HWA.out.cut HI.out hjn
                rw [HTN.out, Int.toNat_natCast] at hwc
                refine ⟨⟨j + 1, cut l' z tn, todo' ++ [(tn : Int)], n' + 1, by go_num, by omega, ⟨HF8.out.grown HG.out HQ.out (by rw [List.length_append, HF8.out.len]; rfl), hwc, Nat.le_trans (Nat.le_of_lt hlc) HLA.out, ?_, fun q hq e => ?_⟩⟩, by simp [intOf]; omega⟩
                · exact own_move HR8.out fun q hq => (HG.out.block q (by have := own_lt HR8.out q hq; simp; omega) fun e => HNA.out q hq e.symm).trans (Below.heap_alloc _ _ _ (own_lt HR8.out q hq))
                · rcases HAT.out with h1 | ⟨b, h1, h2⟩
                  · exact HNA.out q hq (h1 ▸ e)
                  · have h3 := own_lt HR8.out q hq
                    rw [h1] at e
                    injection e with e
                    simp at h2
                    omega
            · obtain ⟨hF, hWJ, hle, _, _⟩ := HR.out
              obtain rfl : j = nn := by omega
              have HRA := Aside0.mk (And.intro hF (And.intro hWJ hle))
              clear hF hWJ hle HR
              go_wp2
              refine ⟨⟨l', todo', n', ⟨HRA.out.1, HRA.out.2.1.done (by rw [← HNN.out]; exact Nat.le_refl _), Nat.le_trans HRA.out.2.2 HLF.out⟩⟩, ?_⟩
              obtain ⟨A4, c4, hv4, _⟩ := q_slice HRA.out.1.q
              rw [hv4]
              show measU _ _ _ < measU _ _ _
              rw [HFT.out, measU_eq HRA.out.1.row A4 todo' n' c4 HRA.out.1.len]
              exact Nat.lt_of_le_of_lt HRA.out.2.2 HLT.out
end Go.Proofs.YtocechpmgfhenaaGreatDoor.ZP

namespace Go.Proofs.YtocechpmgfhenaaGreatDoor.PF
open Go.RowKit Go.Proofs.YtocechpmgfhenaaGreatDoorW.PrintWords Go.Proofs.YtocechpmgfhenaaGreatDoor.F Go.Proofs.YtocechpmgfhenaaGreatDoor.PL Go.Proofs.YtocechpmgfhenaaGreatDoor.FP Go.Proofs.YtocechpmgfhenaaGreatDoor.FSF Go.Proofs.YtocechpmgfhenaaGreatDoor.PK Go.Proofs.YtocechpmgfhenaaGreatDoor.NX Go.Proofs.YtocechpmgfhenaaGreatDoor.FG Go.Proofs.YtocechpmgfhenaaGreatDoor.ZP Go.Proofs.YtocechpmgfhenaaGreatDoor.LK Go.Proofs.YtocechpmgfhenaaGreatDoor.FUL Go.Proofs.YtocechpmgfhenaaGreatDoor.B8
set_option linter.unusedVariables false
set_option linter.unusedSimpArgs false
def ldO : Oper := { dst := some 38, op := .load 25 (.tmp 1), type := 25, pos := "plan.go:36", after := #[{ on := 6, ground := .guard }], guard := some (6, true) }
def mvO : Oper := { dst := some 39, op := .move (.tmp 7), type := 3, pos := "plan.go:36", after := #[{ on := 6, ground := .guard }], guard := some (6, true) }
def ntO : Oper := { dst := some 41, op := .unOp .not 4 (.tmp 40), type := 4, pos := "plan.go:36", after := #[{ on := 9, ground := .data }, { on := 6, ground := .guard }], guard := some (6, true) }
attribute [local go_sem] ldO mvO ntO
theorem made_f (n i : Nat) (h : i < n) : (madeCells #[Value.bool false, .bool false, .bool false] n)[i]? = some (.bool false) := by
  unfold madeCells
  rw [Array.getElem?_map, Array.getElem?_range, if_pos h]
  have : i % 3 = 0 ∨ i % 3 = 1 ∨ i % 3 = 2 := by omega
  rcases this with e | e | e <;> simp [e]
theorem RowF.made (w : World) (n : Nat) : RowF (w.alloc (.cells (madeCells #[.bool false, .bool false, .bool false] (n * 3)) 35)) w.heap.size n fun _ => ⟨false, false, false⟩ :=
  ⟨_, ST0.row_new _ _ _ rfl, size_madeCells _ _, fun k hk => ⟨made_f _ _ (by omega), made_f _ _ (by omega), made_f _ _ (by omega)⟩⟩
theorem info_fact : (Tryz.prog.info? 35).map (fun i => (i.zero, i.size, i.bytes)) = some (some (.agg #[.bool false, .bool false, .bool false]), 3, 3) := by kernel_rfl
set_option maxHeartbeats 8000000 in
set_option maxRecDepth 100000 in
theorem None_c (p : Pg) (w : World) (h : p.On w) (hsm : p.code.length ≤ 1000000) : Calls Tryz.prog 20 #[p.v] w fun e w' => ∃ (er : Int) (v : Value), e = .returned (.tuple #[v, .int .i64 er]) ∧ (er = 0 ↔ SpP p) ∧ Below w.heap.size w w' ∧ (er = 0 → ∃ g, v = .slice (some ⟨g, 0, none⟩) p.code.length p.code.length ∧ w.heap.size ≤ g ∧ RowF w' g p.code.length fun _ => ⟨false, false, false⟩) ∧ (er ≠ 0 → v = .slice none 0 0) := by
  have CH := Aside0.mk (fun W (hW : Below w.heap.size w W) => pCheck_c p W (h.below hW))
  clear h
  generalize SpP p = SP at CH ⊢
  obtain ⟨A0, c0, ts, la, gl, A3, c3, code⟩ := p
  simp only at hsm
  change Aside0 (∀ W, Below w.heap.size w W → Calls Tryz.prog 35 #[.agg #[.slice A0 ts.length c0, .string la, .string gl, .slice A3 code.length c3]] W _) at CH
  show Calls _ _ #[.agg #[.slice A0 ts.length c0, .string la, .string gl, .slice A3 code.length c3]] _ _
  have hmk : ∀ W : World, (Instr.makeSlice 29 (.int .i64 (code.length : Int)) (.int .i64 (code.length : Int))).run Tryz.prog W = .ok (.slice (some ⟨W.heap.size, 0, none⟩) code.length code.length) (W.alloc (.cells (madeCells #[.bool false, .bool false, .bool false] (code.length * 3)) 35)) := fun W => by
    obtain ⟨i0, hi, hzz⟩ := Option.map_eq_some_iff.1 info_fact
    simp only [Prod.mk.injEq] at hzz
    have hr := run_make (P := Tryz.prog) W 29 35 i0 (.agg #[.bool false, .bool false, .bool false]) Tryz.underlying29 hi hzz.1 .i64 .i64 (code.length : Int) (code.length : Int) (by omega) (by omega) (by rw [hzz.2.2]; omega) (by omega)
    rw [hzz.2.1, Int.toNat_natCast] at hr
    exact hr
  go_enter Tryz.func20, Tryz.ntmps20
  go_wp2_with (go_at_call 35; (with_reducible refine (CH.out _ (below_alloc (Below.refl _ _) _)).mono ?_); rintro e w1 ⟨r, er, rfl, h1, h2, hb⟩; have HB := Aside0.mk (below_step (below_alloc (Below.refl _ _) _) hb); have HR := Aside0.mk ((hb.block w.heap.size (by simp)).trans (heap_alloc_new w _)); have H1 := Aside0.mk h1; have y3 := (blk_cell HR.out 3).trans (rfl : _ = some (Value.slice A3 code.length c3)); clear h1 h2 hb)
  · rename_i hz
    have hz : er ≠ 0 := bne_iff_ne.1 hz
    (try simp only [Exit.inBlock, Exit.then])
    refine bodyPost_ret (results_tmp2 rfl _ _ _) rfl ⟨2, _, rfl, ⟨fun h => absurd h (by decide), fun h => absurd (H1.out.2 h) hz⟩, HB.out, fun h => absurd h (by decide), fun _ => rfl⟩
  · rename_i hz
    have hz : er = 0 := by simpa using hz
    (try simp only [Exit.inBlock, Exit.then])
    refine bodyPost_ret (results_tmp2 rfl _ _ _) rfl ⟨0, _, rfl, ⟨fun _ => H1.out.1 hz, fun _ => rfl⟩, below_alloc HB.out _, fun _ => ⟨w1.heap.size, rfl, HB.out.size, RowF.made w1 code.length⟩, fun h => absurd rfl h⟩
noncomputable def bestF (p : Pg) (k : Nat) : Fc := if (rd_T46 p.code k).f0 = 5 then ⟨!leakB p.code p.la.size k && !loopB p.code k, decide (0 ≤ lastB p k), false⟩ else if (rd_T46 p.code k).f0 = 11 then ⟨false, false, (g (frB p.code) k).getLsbD (rd_T46 p.code k).f1.toNat⟩ else ⟨false, false, false⟩
def upF (f : Nat → Fc) (k j : Nat) : Fc := if j < k then f j else ⟨false, false, false⟩
theorem upF_lt (f : Nat → Fc) {k j : Nat} (h : j < k) : upF f k j = f j := if_pos h
theorem upF_ge (f : Nat → Fc) {k j : Nat} (h : ¬ j < k) : upF f k j = ⟨false, false, false⟩ := if_neg h
structure BI (w W : World) (pv : Array Value) (gl gi n k : Nat) (f : Nat → Fc) (fr : List S8) : Prop where
  box : W.heap[w.heap.size]? = some (.cells pv 25 (0, 0))
  inn : RowU W gi fr
  row : RowF W gl n (upF f k)
  below : Below w.heap.size w W
  h1 : w.heap.size < gl
  h2 : gl < gi
theorem BI.keep {w W W' : World} {pv : Array Value} {gl gi n k : Nat} {f : Nat → Fc} {fr : List S8} (h : BI w W pv gl gi n k f fr) (hb : Below W.heap.size W W') : BI w W' pv gl gi n k f fr :=
  ⟨(hb.block _ (blk_lt h.box)).trans h.box, (hb.block _ (blk_lt h.inn)).trans h.inn, h.row.move (hb.block _ h.row.lt), below_step h.below hb, h.h1, h.h2⟩
theorem BI.next {w W : World} {pv : Array Value} {gl gi n k : Nat} {f : Nat → Fc} {fr : List S8} (h : BI w W pv gl gi n k f fr) (hf : f k = ⟨false, false, false⟩) : BI w W pv gl gi n (k + 1) f fr := by
  refine ⟨h.box, h.inn, ?_, h.below, h.h1, h.h2⟩
  have e : upF f (k + 1) = upF f k := funext fun j => by
    by_cases h1 : j < k
    · rw [upF_lt _ h1, upF_lt _ (by omega)]
    · by_cases h2 : j = k
      · subst h2
        rw [upF_lt _ (by omega), upF_ge _ h1, hf]
      · rw [upF_ge _ h1, upF_ge _ (by omega)]
  rw [e]
  exact h.row
theorem BI.old {w W : World} {pv : Array Value} {gl gi n k : Nat} {f : Nat → Fc} {fr : List S8} (h : BI w W pv gl gi n k f fr) (hkn : k < n) : W.cell? ⟨gl, k * 3, none⟩ = some (.bool false) ∧ W.cell? ⟨gl, k * 3 + 1, none⟩ = some (.bool false) ∧ W.cell? ⟨gl, k * 3 + 2, none⟩ = some (.bool false) ∧ W.frozen? ⟨gl, k * 3, none⟩ = false ∧ W.frozen? ⟨gl, k * 3 + 1, none⟩ = false ∧ W.frozen? ⟨gl, k * 3 + 2, none⟩ = false := by
  obtain ⟨cs, hcs, hs, hy⟩ := h.row
  have hz := hy k hkn
  rw [upF_ge _ (Nat.lt_irrefl k)] at hz
  exact ⟨(blk_cell hcs _).trans hz.1, (blk_cell hcs _).trans hz.2.1, (blk_cell hcs _).trans hz.2.2, blk_frozen hcs _, blk_frozen hcs _, blk_frozen hcs _⟩
theorem far3 {W : World} {b g o i j l : Nat} {x y z : Value} {v : Option Value} (h : W.cell? ⟨b, o, none⟩ = v) (hn : b ≠ g) : (((W.setCell ⟨g, i, none⟩ x).setCell ⟨g, j, none⟩ y).setCell ⟨g, l, none⟩ z).cell? ⟨b, o, none⟩ = v := by
  refine (World.cell?_of_block (a := ⟨b, o, none⟩) ?_).trans h
  exact ((Below.heap_setCell _ _ _ b hn).trans (Below.heap_setCell _ _ _ b hn)).trans (Below.heap_setCell _ _ _ b hn)
theorem BI.put {w W W' : World} {pv : Array Value} {gl gi n k : Nat} {f : Nat → Fc} {fr : List S8} (h : BI w W pv gl gi n k f fr) (cs cs' : Array Value) (hcs : W.heap[gl]? = some (.cells cs 35 (0, 0))) (hc : W'.heap[gl]? = some (.cells cs' 35 (0, 0))) (hs : cs'.size = cs.size) (ho : ∀ i, i / 3 ≠ k → cs'[i]? = cs[i]?) (hk : cs'[k * 3]? = some (.bool (f k).st) ∧ cs'[k * 3 + 1]? = some (.bool (f k).raw) ∧ cs'[k * 3 + 2]? = some (.bool (f k).pl))
    (hb : ∀ b, b < W.heap.size → b ≠ gl → W'.heap[b]? = W.heap[b]?) (hB : Below w.heap.size w W') : BI w W' pv gl gi n (k + 1) f fr := by
  have h1 := h.h1
  have h2 := h.h2
  refine ⟨(hb _ (blk_lt h.box) (by omega)).trans h.box, (hb _ (blk_lt h.inn) (by omega)).trans h.inn, ?_, hB, h1, h2⟩
  obtain ⟨cs0, hc0, hs0, hy⟩ := h.row
  rw [hcs] at hc0
  obtain rfl : cs = cs0 := by
    injection hc0 with e
    injection e
  refine ⟨cs', hc, hs.trans hs0, fun j hj => ?_⟩
  by_cases e : j = k
  · subst e
    rw [upF_lt _ (by omega)]
    exact hk
  · have := hy j hj
    rw [ho _ (by omega), ho _ (by omega), ho _ (by omega)]
    by_cases h3 : j < k
    · rw [upF_lt _ h3] at this
      rw [upF_lt _ (by omega)]
      exact this
    · rw [upF_ge _ h3] at this
      rw [upF_ge _ (by omega)]
      exact this
theorem BI.putP {w W : World} {pv : Array Value} {gl gi n k : Nat} {f : Nat → Fc} {fr : List S8} (h : BI w W pv gl gi n k f fr) (hkn : k < n) {b : Bool} (hf : f k = ⟨false, false, b⟩) : BI w (W.setCell ⟨gl, k * 3 + 2, none⟩ (.bool b)).drew pv gl gi n (k + 1) f fr := by
  obtain ⟨cs, hcs, hs, hy⟩ := h.row
  have hz := hy k hkn
  rw [upF_ge _ (Nat.lt_irrefl k)] at hz
  refine h.put cs _ hcs (ST0.row_cellS _ hcs) (by simp) (fun i hi => ?_) ?_ (fun b hb e => Below.heap_setCell W _ _ b (fun e' => e e')) ((h.below.setCell (Nat.le_of_lt h.h1) _).drew)
  · rw [Array.getElem?_setIfInBounds_ne (by omega)]
  · rw [hf]
    exact ⟨by rw [Array.getElem?_setIfInBounds_ne (by omega)]; exact hz.1, by rw [Array.getElem?_setIfInBounds_ne (by omega)]; exact hz.2.1, by rw [Array.getElem?_setIfInBounds_self_of_lt (by omega)]⟩
theorem BI.putN {w W : World} {pv : Array Value} {gl gi n k : Nat} {f : Nat → Fc} {fr : List S8} (h : BI w W pv gl gi n k f fr) (hkn : k < n) {a b : Bool} (hf : f k = ⟨a, b, false⟩) : BI w (((W.setCell ⟨gl, k * 3, none⟩ (.bool a)).setCell ⟨gl, k * 3 + 1, none⟩ (.bool b)).setCell ⟨gl, k * 3 + 2, none⟩ (.bool false)) pv gl gi n (k + 1) f fr := by
  obtain ⟨cs, hcs, hs, hy⟩ := h.row
  have hle := Nat.le_of_lt h.h1
  refine h.put cs _ hcs (ST0.row_cellS _ (ST0.row_cellS _ (ST0.row_cellS _ hcs))) (by simp) (fun i hi => ?_) ?_ (fun b hb e => ((Below.heap_setCell _ _ _ b e).trans (Below.heap_setCell _ _ _ b e)).trans (Below.heap_setCell _ _ _ b e)) (((h.below.setCell hle _).setCell hle _).setCell hle _)
  · rw [Array.getElem?_setIfInBounds_ne (by omega), Array.getElem?_setIfInBounds_ne (by omega), Array.getElem?_setIfInBounds_ne (by omega)]
  · rw [hf]
    refine ⟨?_, ?_, ?_⟩
    · rw [Array.getElem?_setIfInBounds_ne (by omega), Array.getElem?_setIfInBounds_ne (by omega), Array.getElem?_setIfInBounds_self_of_lt (by omega)]
    · rw [Array.getElem?_setIfInBounds_ne (by omega), Array.getElem?_setIfInBounds_self_of_lt (by simp; omega)]
    · rw [Array.getElem?_setIfInBounds_self_of_lt (by simp; omega)]
theorem RowF.to {w : World} {b n : Nat} {f f' : Nat → Fc} (h : RowF w b n f) (he : ∀ j, j < n → f j = f' j) : RowF w b n f' := by
  obtain ⟨cs, hc, hs, hy⟩ := h
  exact ⟨cs, hc, hs, fun k hk => he k hk ▸ hy k hk⟩
set_option maxHeartbeats 8000000 in
set_option maxRecDepth 100000 in
theorem Best_c (p : Pg) (w : World) (h : p.On w) (hL : p.la.size ≤ 1000) (hsm : p.code.length ≤ 1000000) : Calls Tryz.prog 11 #[p.v] w fun e w' => ∃ (er : Int) (v : Value), e = .returned (.tuple #[v, .int .i64 er]) ∧ (er = 0 ↔ SpP p) ∧ Below w.heap.size w w' ∧ (er = 0 → ∃ g, v = .slice (some ⟨g, 0, none⟩) p.code.length p.code.length ∧ w.heap.size ≤ g ∧ RowF w' g p.code.length (bestF p)) ∧ (er ≠ 0 → v = .slice none 0 0) := by
  have HW := Aside0.mk h.hw
  have HC := Aside0.mk h.hC
  have NO := Aside0.mk (fun W (hW : Below w.heap.size w W) => None_c p W (h.below hW) hsm)
  have FI := Aside0.mk (fun (hs : SpP p) W (hW : Below w.heap.size w W) => In_c p W (h.below hW) (SpP.inR hs) hsm)
  have LE := Aside0.mk (fun W (hW : Below w.heap.size w W) k (hk : k < p.code.length) => Leaks_c p W (h.below hW) hL hsm k hk)
  have LO := Aside0.mk (fun (hs : SpP p) W (hW : Below w.heap.size w W) k (hk : k < p.code.length) => Loops_c p W (h.below hW) (SpP.inR hs) hsm k hk)
  have FU := Aside0.mk (fun W (hW : Below w.heap.size w W) k (hk : k < p.code.length) => Full_c p W (h.below hW) hsm k hk)
  have BF : Aside0 (∀ k : Nat, bestF p k = if (rd_T46 p.code k).f0 = 5 then ⟨!leakB p.code p.la.size k && !loopB p.code k, decide (0 ≤ lastB p k), false⟩ else if (rd_T46 p.code k).f0 = 11 then ⟨false, false, (g (frB p.code) k).getLsbD (rd_T46 p.code k).f1.toNat⟩ else ⟨false, false, false⟩) := ⟨fun k => rfl⟩
  clear h
  generalize SpP p = SP at NO FI LO ⊢
  generalize bestF p = bf at BF ⊢
  generalize leakB p.code p.la.size = lk at LE BF
  generalize loopB p.code = lo at LO BF
  generalize lastB p = la' at FU BF
  have hfl : (frB p.code).length = p.code.length + 1 := (fr_inv (FB_mono p.code)).len
  generalize frB p.code = fr at FI BF hfl
  obtain ⟨A0, c0, ts, la, gl, A3, c3, code⟩ := p
  simp only at hsm HC HW FI LE LO FU BF NO hfl ⊢
  generalize hp : Pg.v ⟨A0, c0, ts, la, gl, A3, c3, code⟩ = pv at NO FI LE LO FU ⊢
  subst hp
  clear hL
  show Calls _ _ #[.agg #[.slice A0 ts.length c0, .string la, .string gl, .slice A3 code.length c3]] _ _
  by_cases hsp : SP
  · go_enter Tryz.func11, Tryz.ntmps11
    go_upto_region 5 with (first
      | (go_at_call 20; (with_reducible refine (NO.out _ (below_alloc (Below.refl _ _) _)).mono ?_); rintro e w1 ⟨er, v, rfl, h1, hb, h2, h3⟩; obtain rfl : er = 0 := h1.2 hsp; obtain ⟨gl', rfl, hgl, hrow⟩ := h2 rfl; have HB := Aside0.mk (below_step (below_alloc (Below.refl _ _) _) hb); have HR := Aside0.mk ((hb.block w.heap.size (by simp)).trans (heap_alloc_new w _)); have HL := Aside0.mk hrow; have HG := Aside0.mk hgl; have y0 := (blk_cell HR.out 0).trans (rfl : _ = some (Value.slice A0 ts.length c0)); have y1 := (blk_cell HR.out 1).trans (rfl : _ = some (Value.string la)); have y2 := (blk_cell HR.out 2).trans (rfl : _ = some (Value.string gl)); have y3 := (blk_cell HR.out 3).trans (rfl : _ = some (Value.slice A3 code.length c3)); clear h1 h2 h3 hb hrow hgl)
      | (go_at_call 22; (with_reducible refine (FI.out hsp _ HB.out).mono ?_); rintro e w2 ⟨gi, ci, rfl, hci, hgi, hrow, hb⟩; have HB2 := Aside0.mk (below_step HB.out hb); have HR2 := Aside0.mk ((hb.block w.heap.size (blk_lt HR.out)).trans HR.out); have HL2 := Aside0.mk (HL.out.move (hb.block _ HL.out.lt)); have HI2 := Aside0.mk hrow; have HG2 := Aside0.mk hgi; have y0 := (blk_cell HR2.out 0).trans (rfl : _ = some (Value.slice A0 ts.length c0)); have y1 := (blk_cell HR2.out 1).trans (rfl : _ = some (Value.string la)); have y2 := (blk_cell HR2.out 2).trans (rfl : _ = some (Value.string gl)); have y3 := (blk_cell HR2.out 3).trans (rfl : _ = some (Value.slice A3 code.length c3)); clear hb hrow hgi hci))
    have HS := Aside0.mk (show BI w w2 #[.slice A0 ts.length c0, .string la, .string gl, .slice A3 code.length c3] gl' gi code.length 0 bf fr from ⟨HR2.out, HI2.out, HL2.out, HB2.out, by have := HG.out; simp at this; omega, by have := HL.out.lt; have := HG2.out; omega⟩)
    clear HR HR2 HI2 HL HL2 HB HB2 HG HG2
    go_wp2
    go_loopw [22] (fun x W => ∃ k : Nat, x = .int .i64 k ∧ k ≤ code.length ∧ Aside0 (BI w W #[.slice A0 ts.length c0, .string la, .string gl, .slice A3 code.length c3] gl' gi code.length k bf fr)) (fun x _ => code.length - (intOf x).toNat)
    case atStart => exact ⟨0, rfl, Nat.zero_le _, HS⟩
    case round =>
      clear HS
      obtain ⟨k, rfl, hk, HS⟩ := hrel
      by_cases hlt : (k : Int) < code.length
      · have k0 : (0 : Int) ≤ k := by omega
        have hkn : k < code.length := by omega
        obtain ⟨ad, rfl, hy⟩ := at_box HC.out k hkn
        obtain ⟨z0, z1, z2, z3, z4⟩ := hy _ HS.out.below
        have BFk := Aside0.mk (BF.out k)
        have hwx := HW.out.rd k hkn
        obtain ⟨x, hx⟩ : ∃ x, x = rd_T46 code k := ⟨_, rfl⟩
        rw [← hx] at z0 z1 z2 z3 z4 BFk hwx
        obtain ⟨x0, x1, x2, x3, x4⟩ := x
        simp only at z0 z1 z2 z3 z4 BFk hwx
        clear hx hy
        by_cases c5 : x0 = 5
        · subst c5
          rw [if_pos rfl] at BFk
          go_upto_region 10 with (fail)
          obtain ⟨W1, hW1⟩ : ∃ W1 : World, W1 = wr.alloc (.cells #[.int .u8 5, .int .u8 x1, .int .u8 x2, .int .u8 x3, .int .i64 x4] 46) := ⟨_, rfl⟩
          have HS := Aside0.mk (HS.out.keep (hW1 ▸ below_alloc (Below.refl _ _) _))
          rw [← hW1]
          clear hW1 z0 z1 z2 z3 z4
          have LEk := Aside0.mk (fun W (hW : Below w.heap.size w W) => (LE.out W hW k hkn : Calls Tryz.prog 23 #[.agg #[.slice A0 ts.length c0, .string la, .string gl, .slice (some ad) code.length c3], .int .i64 k] W fun e w' => e = .returned (.bool (lk k)) ∧ Below W.heap.size W w'))
          have LOk := Aside0.mk (fun W (hW : Below w.heap.size w W) => (LO.out hsp W hW k hkn : Calls Tryz.prog 24 #[.agg #[.slice A0 ts.length c0, .string la, .string gl, .slice (some ad) code.length c3], .int .i64 k] W fun e w' => e = .returned (.bool (lo k)) ∧ Below W.heap.size W w'))
          have FUk := Aside0.mk (fun W (hW : Below w.heap.size w W) => (FU.out W hW k hkn : Calls Tryz.prog 25 #[.agg #[.slice A0 ts.length c0, .string la, .string gl, .slice (some ad) code.length c3], .int .i64 k] W fun e w' => e = .returned (.bool (decide (0 ≤ la' k))) ∧ Below W.heap.size W w'))
          generalize lk k = bl at LEk BFk
          generalize lo k = bo at LOk BFk
          generalize decide (0 ≤ la' k) = br at FUk BFk
          have y0 := (blk_cell HS.out.box 0).trans (rfl : _ = some (Value.slice A0 ts.length c0))
          have y1 := (blk_cell HS.out.box 1).trans (rfl : _ = some (Value.string la))
          have y2 := (blk_cell HS.out.box 2).trans (rfl : _ = some (Value.string gl))
          have y3 := (blk_cell HS.out.box 3).trans (rfl : _ = some (Value.slice (some ad) code.length c3))
          have hgw : w.heap.size ≠ gl' := Nat.ne_of_lt HS.out.h1
          cases bl
          · go_region_held3 (fun W => W.cell? ⟨w.heap.size, 0, none⟩ = some (.slice A0 ts.length c0) ∧ W.cell? ⟨w.heap.size, 1, none⟩ = some (.string la) ∧ W.cell? ⟨w.heap.size, 2, none⟩ = some (.string gl) ∧ W.cell? ⟨w.heap.size, 3, none⟩ = some (.slice (some ad) code.length c3))
              (first
                | exact ⟨y0, y1, y2, y3⟩
                | go_keep
                | exact ⟨far3 y0 hgw, far3 y1 hgw, far3 y2 hgw, far3 y3 hgw⟩)
              (first
                | (go_at_call 23; (with_reducible refine (LEk.out _ ?side1).mono ?_); (case side1 => first | exact HS.out.below | exact below_drew1 HS.out.below); rintro e w4 ⟨rfl, hb⟩; have HS := Aside0.mk (HS.out.keep (by first | exact hb | exact below_step (below_drew1 (Below.refl _ _)) hb)); have y0 := (blk_cell HS.out.box 0).trans (rfl : _ = some (Value.slice A0 ts.length c0)); have y1 := (blk_cell HS.out.box 1).trans (rfl : _ = some (Value.string la)); have y2 := (blk_cell HS.out.box 2).trans (rfl : _ = some (Value.string gl)); have y3 := (blk_cell HS.out.box 3).trans (rfl : _ = some (Value.slice (some ad) code.length c3)); clear hb)
                | (go_at_call 24; (with_reducible refine (LOk.out _ ?side1).mono ?_); (case side1 => first | exact HS.out.below | exact below_drew1 HS.out.below); rintro e w4 ⟨rfl, hb⟩; have HS := Aside0.mk (HS.out.keep (by first | exact hb | exact below_step (below_drew1 (Below.refl _ _)) hb)); have y0 := (blk_cell HS.out.box 0).trans (rfl : _ = some (Value.slice A0 ts.length c0)); have y1 := (blk_cell HS.out.box 1).trans (rfl : _ = some (Value.string la)); have y2 := (blk_cell HS.out.box 2).trans (rfl : _ = some (Value.string gl)); have y3 := (blk_cell HS.out.box 3).trans (rfl : _ = some (Value.slice (some ad) code.length c3)); clear hb)
                | (go_at_call 25; (with_reducible refine (FUk.out _ ?side1).mono ?_); (case side1 => first | exact HS.out.below | exact below_drew1 HS.out.below); rintro e w4 ⟨rfl, hb⟩; have HS := Aside0.mk (HS.out.keep (by first | exact hb | exact below_step (below_drew1 (Below.refl _ _)) hb)); have y0 := (blk_cell HS.out.box 0).trans (rfl : _ = some (Value.slice A0 ts.length c0)); have y1 := (blk_cell HS.out.box 1).trans (rfl : _ = some (Value.string la)); have y2 := (blk_cell HS.out.box 2).trans (rfl : _ = some (Value.string gl)); have y3 := (blk_cell HS.out.box 3).trans (rfl : _ = some (Value.slice (some ad) code.length c3)); obtain ⟨q0, q1, q2, q3, q4, q5⟩ := HS.out.old hkn; clear hb))
            go_wp2
            exact ⟨⟨k + 1, by go_num, by omega, ⟨HS.out.putN hkn BFk.out⟩⟩, by simp [intOf]; omega⟩
          · rw [show ({ dst := some 38, op := .load 25 (.tmp 1), type := 25, pos := "plan.go:36", after := #[{ on := 6, ground := .guard }], guard := some (6, true) } : Oper) = ldO from rfl, show ({ dst := some 39, op := .move (.tmp 7), type := 3, pos := "plan.go:36", after := #[{ on := 6, ground := .guard }], guard := some (6, true) } : Oper) = mvO from rfl, show ({ dst := some 41, op := .unOp .not 4 (.tmp 40), type := 4, pos := "plan.go:36", after := #[{ on := 9, ground := .data }, { on := 6, ground := .guard }], guard := some (6, true) } : Oper) = ntO from rfl]
            go_region_held3 (fun W => W.cell? ⟨w.heap.size, 0, none⟩ = some (.slice A0 ts.length c0) ∧ W.cell? ⟨w.heap.size, 1, none⟩ = some (.string la) ∧ W.cell? ⟨w.heap.size, 2, none⟩ = some (.string gl) ∧ W.cell? ⟨w.heap.size, 3, none⟩ = some (.slice (some ad) code.length c3))
              (first
                | exact ⟨y0, y1, y2, y3⟩
                | go_keep
                | exact ⟨far3 y0 hgw, far3 y1 hgw, far3 y2 hgw, far3 y3 hgw⟩)
              (first
                | (go_at_call 23; (with_reducible refine (LEk.out _ ?side1).mono ?_); (case side1 => first | exact HS.out.below | exact below_drew1 HS.out.below); rintro e w4 ⟨rfl, hb⟩; have HS := Aside0.mk (HS.out.keep (by first | exact hb | exact below_step (below_drew1 (Below.refl _ _)) hb)); have y0 := (blk_cell HS.out.box 0).trans (rfl : _ = some (Value.slice A0 ts.length c0)); have y1 := (blk_cell HS.out.box 1).trans (rfl : _ = some (Value.string la)); have y2 := (blk_cell HS.out.box 2).trans (rfl : _ = some (Value.string gl)); have y3 := (blk_cell HS.out.box 3).trans (rfl : _ = some (Value.slice (some ad) code.length c3)); clear hb)
                | (go_at_call 24; (with_reducible refine (LOk.out _ ?side1).mono ?_); (case side1 => first | exact HS.out.below | exact below_drew1 HS.out.below); rintro e w4 ⟨rfl, hb⟩; have HS := Aside0.mk (HS.out.keep (by first | exact hb | exact below_step (below_drew1 (Below.refl _ _)) hb)); have y0 := (blk_cell HS.out.box 0).trans (rfl : _ = some (Value.slice A0 ts.length c0)); have y1 := (blk_cell HS.out.box 1).trans (rfl : _ = some (Value.string la)); have y2 := (blk_cell HS.out.box 2).trans (rfl : _ = some (Value.string gl)); have y3 := (blk_cell HS.out.box 3).trans (rfl : _ = some (Value.slice (some ad) code.length c3)); clear hb)
                | (go_at_call 25; (with_reducible refine (FUk.out _ ?side1).mono ?_); (case side1 => first | exact HS.out.below | exact below_drew1 HS.out.below); rintro e w4 ⟨rfl, hb⟩; have HS := Aside0.mk (HS.out.keep (by first | exact hb | exact below_step (below_drew1 (Below.refl _ _)) hb)); have y0 := (blk_cell HS.out.box 0).trans (rfl : _ = some (Value.slice A0 ts.length c0)); have y1 := (blk_cell HS.out.box 1).trans (rfl : _ = some (Value.string la)); have y2 := (blk_cell HS.out.box 2).trans (rfl : _ = some (Value.string gl)); have y3 := (blk_cell HS.out.box 3).trans (rfl : _ = some (Value.slice (some ad) code.length c3)); obtain ⟨q0, q1, q2, q3, q4, q5⟩ := HS.out.old hkn; clear hb))
            all_goals go_wp2
            all_goals exact ⟨⟨k + 1, by go_num, by omega, ⟨HS.out.putN hkn BFk.out⟩⟩, by simp [intOf]; omega⟩
        · by_cases c11 : x0 = 11
          · subst c11
            rw [if_neg c5, if_pos rfl] at BFk
            go_upto_region 12 with (fail)
            obtain ⟨W1, hW1⟩ : ∃ W1 : World, W1 = wr.alloc (.cells #[.int .u8 11, .int .u8 x1, .int .u8 x2, .int .u8 x3, .int .i64 x4] 46) := ⟨_, rfl⟩
            have HS1 := Aside0.mk (HS.out.keep (hW1 ▸ below_alloc (Below.refl _ _) _))
            have hbx := hW1 ▸ heap_alloc_new wr (.cells #[.int .u8 11, .int .u8 x1, .int .u8 x2, .int .u8 x3, .int .i64 x4] 46)
            have w1x := (blk_cell hbx 1).trans (rfl : _ = some (Value.int .u8 x1))
            rw [← hW1]
            clear hW1 hbx
            obtain ⟨cs, hcs, hsz, hce⟩ := HS1.out.row
            have hold : cs[k * 3 + 2]? = some (.bool false) := by have h := (hce k hkn).2.2; rwa [upF_ge _ (Nat.lt_irrefl k)] at h
            have q0 := (blk_cell hcs (k * 3 + 2)).trans hold
            have q1 := blk_frozen hcs (k * 3 + 2)
            have q2 := HS1.out.inn.cell k (by omega)
            have q3 := shr_and (g fr k) hwx.2.1.1
            obtain ⟨z, hz⟩ : ∃ z, z = g fr k := ⟨_, rfl⟩
            rw [← hz] at q2 q3 BFk
            obtain ⟨bb, hb⟩ : ∃ bb, z.getLsbD x1.toNat = bb := ⟨_, rfl⟩
            rw [hb] at q3 BFk
            obtain ⟨zi, hzi⟩ : ∃ zi, iv z = zi := ⟨_, rfl⟩
            rw [hzi] at q2 q3
            change (bits .and .u8 (zi / 2 ^ min x1.toNat 8) 1 == 1) = _ at q3
            have k1 : (k : Int) < (code.length : Int) + 1 := by omega
            have s0 : ¬ x1 < 0 := by have := hwx.2.1.1; omega
            have s1 : 0 ≤ x1 := hwx.2.1.1
            clear hz hzi hb hsz hce hold
            go_still_tail 13, (by kernel_rfl)
            go_wp2
            exact ⟨⟨k + 1, by go_num, by omega, ⟨HS1.out.putP hkn BFk.out⟩⟩, by simp [intOf]; omega⟩
          · rw [if_neg c5, if_neg c11] at BFk
            have b5 : (x0 == 5) = false := beq_eq_false_iff_ne.2 c5
            have b11 : (x0 == 11) = false := beq_eq_false_iff_ne.2 c11
            clear c5 c11 hwx
            go_wp2
            go_roundw
            case rel => exact ⟨k + 1, by go_num, by omega, ⟨(HS.out.next BFk.out).keep (below_alloc (Below.refl _ _) _)⟩⟩
            case measure =>
              simp [intOf]
              omega
      · obtain rfl : k = code.length := by omega
        go_wp2
        (try simp only [Exit.inBlock, Exit.then])
        refine bodyPost_ret (results_tmp2 rfl _ _ _) rfl ⟨0, _, rfl, ⟨fun _ => hsp, fun _ => rfl⟩, HS.out.below, fun _ => ⟨gl', rfl, Nat.le_of_lt HS.out.h1, ?_⟩, fun h => absurd rfl h⟩
        exact HS.out.row.to fun j hj => upF_lt _ hj
  · go_enter Tryz.func11, Tryz.ntmps11
    go_wp2_with (go_at_call 20; (with_reducible refine (NO.out _ (below_alloc (Below.refl _ _) _)).mono ?_); rintro e w1 ⟨er, v, rfl, h1, hb, h2, h3⟩; have hz : er ≠ 0 := (fun h => hsp (h1.1 h)); have hz' : (er != 0) = true := bne_iff_ne.2 hz; have HZ := Aside0.mk hz; obtain rfl := h3 hz; have HB := Aside0.mk (below_step (below_alloc (Below.refl _ _) _) hb); clear h1 h2 h3 hb hz)
    (try simp only [Exit.inBlock, Exit.then])
    refine bodyPost_ret (results_tmp2 rfl _ _ _) rfl ⟨er, _, rfl, ⟨fun h => absurd h HZ.out, fun h => absurd h hsp⟩, HB.out, fun h => absurd h HZ.out, fun _ => rfl⟩
end Go.Proofs.YtocechpmgfhenaaGreatDoor.PF

namespace Go.Proofs.YtocechpmgfhenaaGreatDoor.PF
open Go.RowKit Go.Proofs.YtocechpmgfhenaaGreatDoorW.PrintWords Go.Proofs.YtocechpmgfhenaaGreatDoor.F Go.Proofs.YtocechpmgfhenaaGreatDoor.PL Go.Proofs.YtocechpmgfhenaaGreatDoor.FP Go.Proofs.YtocechpmgfhenaaGreatDoor.FSF Go.Proofs.YtocechpmgfhenaaGreatDoor.PK
set_option linter.unusedVariables false
set_option linter.unusedSimpArgs false
theorem RowF.at {w : World} {b n : Nat} {f : Nat → Fc} (h : RowF w b n f) {k : Nat} (hk : k < n) : w.cell? ⟨b, k * 3, none⟩ = some (.bool (f k).st) ∧ w.cell? ⟨b, k * 3 + 1, none⟩ = some (.bool (f k).raw) ∧ w.cell? ⟨b, k * 3 + 2, none⟩ = some (.bool (f k).pl) := by
  obtain ⟨cs, hc, _, hy⟩ := h
  obtain ⟨y0, y1, y2⟩ := hy k hk
  exact ⟨(blk_cell hc _).trans y0, (blk_cell hc _).trans y1, (blk_cell hc _).trans y2⟩
def wth (f g : Fc) : Bool := (g.st || !f.st) && (g.raw || !f.raw) && (g.pl || !f.pl)
set_option maxHeartbeats 8000000 in
set_option maxRecDepth 100000 in
theorem within_c (w : World) (f g : Fc) : Calls Tryz.prog 26 #[.agg #[.bool f.st, .bool f.raw, .bool f.pl], .agg #[.bool g.st, .bool g.raw, .bool g.pl]] w fun e w' => e = .returned (.bool (wth f g)) ∧ Below w.heap.size w w' := by
  obtain ⟨a0, a1, a2⟩ := f
  obtain ⟨b0, b1, b2⟩ := g
  show Calls _ _ #[.agg #[.bool a0, .bool a1, .bool a2], .agg #[.bool b0, .bool b1, .bool b2]] _ fun e w' => e = .returned (.bool ((b0 || !a0) && (b1 || !a1) && (b2 || !a2))) ∧ _
  go_enter Tryz.func26, Tryz.ntmps26
  go_wp2
  all_goals go_ret
  all_goals exact ⟨by first | rfl | simp_all, below_alloc (below_alloc (Below.refl _ _) _) _⟩
set_option maxHeartbeats 8000000 in
set_option maxRecDepth 100000 in
theorem Fits_c (p : Pg) (w : World) (h : p.On w) (hL : p.la.size ≤ 1000) (hsm : p.code.length ≤ 1000000) (A : Option Addr) (n c : Nat) (f : Nat → Fc) (hF : FC w A n f) (hn : n ≤ 4000000) (bb : Bool) (hbb : bb = true ↔ SpP p ∧ n = p.code.length ∧ ∀ k, k < n → wth (f k) (bestF p k) = true) : Calls Tryz.prog 12 #[p.v, .slice A n c] w fun e w' => e = .returned (.bool bb) ∧ Below w.heap.size w w' := by
  have HBB := Aside0.mk hbb
  have BE := Aside0.mk (fun W (hW : Below w.heap.size w W) => Best_c p W (h.below hW) hL hsm)
  have HF := Aside0.mk hF
  clear h hL hF hbb
  generalize SpP p = SP at BE HBB ⊢
  generalize bestF p = bf at BE HBB ⊢
  obtain ⟨A0, c0, ts, la, gl, A3, c3, code⟩ := p
  simp only at hsm BE HBB ⊢
  generalize hp : Pg.v ⟨A0, c0, ts, la, gl, A3, c3, code⟩ = pv at BE ⊢
  subst hp
  show Calls _ _ #[.agg #[.slice A0 ts.length c0, .string la, .string gl, .slice A3 code.length c3], .slice A n c] _ _
  by_cases hsp : SP
  · by_cases hN : n = code.length
    · subst hN
      go_enter Tryz.func12, Tryz.ntmps12
      go_upto_region 5 with (go_at_call 11; (with_reducible refine (BE.out _ (below_alloc (Below.refl _ _) _)).mono ?_); rintro e w1 ⟨er, v, rfl, h1, hb, h2, h3⟩; obtain rfl : er = 0 := h1.2 hsp; obtain ⟨gl', rfl, hgl, hrow⟩ := h2 rfl; have HB := Aside0.mk (below_step (below_alloc (Below.refl _ _) _) hb); have HL := Aside0.mk hrow; clear h1 h2 h3 hb hrow hgl)
      go_loopw [25] (fun x W => ∃ k : Nat, x = .int .i64 k ∧ k ≤ code.length ∧ Aside0 (Below w.heap.size w W) ∧ Aside0 (RowF W gl' code.length bf) ∧ Aside0 (∀ j, j < k → wth (f j) (bf j) = true)) (fun x _ => code.length - (intOf x).toNat)
      case atStart => exact ⟨0, rfl, Nat.zero_le _, HB, HL, ⟨fun j hj => absurd hj (Nat.not_lt_zero j)⟩⟩
      case round =>
        clear HB HL
        obtain ⟨k, rfl, hk, HB, HL, HA⟩ := hrel
        by_cases hlt : (k : Int) < code.length
        · have k0 : (0 : Int) ≤ k := by omega
          have hkn : k < code.length := by omega
          obtain ⟨ad, rfl, hy⟩ := HF.out k hkn
          obtain ⟨z0, z1, z2⟩ := hy _ HB.out
          obtain ⟨y0, y1, y2⟩ := HL.out.at hkn
          have hlz := HL.out.lt
          have HFK := Aside0.mk (fun (h : wth (f k) (bf k) = true) => (fun j hj => by rcases Nat.lt_succ_iff_lt_or_eq.1 hj with h1 | h1; exact HA.out j h1; subst h1; exact h : ∀ j, j < k + 1 → wth (f j) (bf j) = true))
          have HNB := Aside0.mk (fun (h : wth (f k) (bf k) = false) => ((Bool.eq_false_iff.2 fun e => by have h2 := (HBB.out.1 e).2.2 k hkn; rw [h] at h2; cases h2) : bb = false))
          have WI := Aside0.mk (fun W => within_c W (f k) (bf k))
          generalize f k = fk at z0 z1 z2 WI HFK HNB
          generalize bf k = bk at y0 y1 y2 WI HFK HNB
          obtain ⟨a0, a1, a2⟩ := fk
          obtain ⟨b0, b1, b2⟩ := bk
          simp only at z0 z1 z2 y0 y1 y2 WI
          generalize wth ⟨a0, a1, a2⟩ ⟨b0, b1, b2⟩ = bw at WI HFK HNB
          go_upto_region 7 with (fail)
          obtain ⟨W1, hW1⟩ : ∃ W1 : World, W1 = wr.alloc (.cells #[.bool a0, .bool a1, .bool a2] 35) := ⟨_, rfl⟩
          have hb1 : Below wr.heap.size wr W1 := hW1 ▸ below_alloc (Below.refl _ _) _
          have hbx := hW1 ▸ heap_alloc_new wr (.cells #[.bool a0, .bool a1, .bool a2] 35)
          have HB := Aside0.mk (below_step HB.out hb1)
          have HL := Aside0.mk (HL.out.move (hb1.block _ HL.out.lt))
          rw [← hW1]
          have y0 := (World.cell?_of_block (a := ⟨gl', k * 3, none⟩) (hb1.block _ hlz)).trans y0
          have y1 := (World.cell?_of_block (a := ⟨gl', k * 3 + 1, none⟩) (hb1.block _ hlz)).trans y1
          have y2 := (World.cell?_of_block (a := ⟨gl', k * 3 + 2, none⟩) (hb1.block _ hlz)).trans y2
          have HX := Aside0.mk (blk_lt hbx)
          have x0 := (blk_cell hbx 0).trans (rfl : _ = some (Value.bool a0))
          have x1 := (blk_cell hbx 1).trans (rfl : _ = some (Value.bool a1))
          have x2 := (blk_cell hbx 2).trans (rfl : _ = some (Value.bool a2))
          clear hW1 hb1 hbx z0 z1 z2
          go_region_held3 (fun W => W.cell? ⟨wr.heap.size, 0, none⟩ = some (.bool a0) ∧ W.cell? ⟨wr.heap.size, 1, none⟩ = some (.bool a1) ∧ W.cell? ⟨wr.heap.size, 2, none⟩ = some (.bool a2) ∧ W.cell? ⟨gl', k * 3, none⟩ = some (.bool b0) ∧ W.cell? ⟨gl', k * 3 + 1, none⟩ = some (.bool b1) ∧ W.cell? ⟨gl', k * 3 + 2, none⟩ = some (.bool b2))
            (first
              | exact ⟨x0, x1, x2, y0, y1, y2⟩
              | go_keep)
            (first | (go_at_call 26; (with_reducible refine (WI.out _).mono ?_); rintro e w4 ⟨rfl, hb⟩; have hb := (by first | exact hb | exact below_step (below_drew1 (Below.refl _ _)) hb : Below W1.heap.size W1 w4); have x0 := (World.cell?_of_block (a := ⟨wr.heap.size, 0, none⟩) (hb.block _ HX.out)).trans x0; have x1 := (World.cell?_of_block (a := ⟨wr.heap.size, 1, none⟩) (hb.block _ HX.out)).trans x1; have x2 := (World.cell?_of_block (a := ⟨wr.heap.size, 2, none⟩) (hb.block _ HX.out)).trans x2; have y0 := (World.cell?_of_block (a := ⟨gl', k * 3, none⟩) (hb.block _ HL.out.lt)).trans y0; have y1 := (World.cell?_of_block (a := ⟨gl', k * 3 + 1, none⟩) (hb.block _ HL.out.lt)).trans y1; have y2 := (World.cell?_of_block (a := ⟨gl', k * 3 + 2, none⟩) (hb.block _ HL.out.lt)).trans y2; have HB := Aside0.mk (below_step HB.out hb); have HL := Aside0.mk (HL.out.move (hb.block _ HL.out.lt)); clear hb))
          cases bw
          · go_wp2
            go_ret
            exact ⟨by rw [HNB.out (by first | rfl | trivial)]; rfl, HB.out⟩
          · go_wp2
            go_roundw
            case rel => exact ⟨k + 1, by go_num, by omega, HB, HL, ⟨HFK.out (by first | rfl | trivial)⟩⟩
            case measure =>
              simp [intOf]
              omega
        · obtain rfl : k = code.length := by omega
          go_wp2
          go_ret
          exact ⟨by rw [HBB.out.2 ⟨hsp, by first | trivial | rfl, HA.out⟩]; rfl, HB.out⟩
    · have hN' : ((n : Int) != (code.length : Int)) = true := bne_iff_ne.2 (by omega)
      go_enter Tryz.func12, Tryz.ntmps12
      go_wp2_with (go_at_call 11; (with_reducible refine (BE.out _ (below_alloc (Below.refl _ _) _)).mono ?_); rintro e w1 ⟨er, v, rfl, h1, hb, h2, h3⟩; obtain rfl : er = 0 := h1.2 hsp; obtain ⟨gl', rfl, hgl, hrow⟩ := h2 rfl; have HB := Aside0.mk (below_step (below_alloc (Below.refl _ _) _) hb); clear h1 h2 h3 hb hrow hgl)
      go_ret
      exact ⟨by rw [show bb = false from Bool.eq_false_iff.2 fun h => hN (HBB.out.1 h).2.1]; rfl, HB.out⟩
  · go_enter Tryz.func12, Tryz.ntmps12
    go_wp2_with (go_at_call 11; (with_reducible refine (BE.out _ (below_alloc (Below.refl _ _) _)).mono ?_); rintro e w1 ⟨er, v, rfl, h1, hb, h2, h3⟩; have hz : er ≠ 0 := (fun h => hsp (h1.1 h)); have hz' : (er != 0) = true := bne_iff_ne.2 hz; obtain rfl := h3 hz; have HB := Aside0.mk (below_step (below_alloc (Below.refl _ _) _) hb); clear h1 h2 h3 hb hz)
    go_ret
    exact ⟨by rw [show bb = false from Bool.eq_false_iff.2 fun h => hsp (HBB.out.1 h).1]; rfl, HB.out⟩
end Go.Proofs.YtocechpmgfhenaaGreatDoor.PF

namespace Go.Proofs.YtocechpmgfhenaaGreatDoor.PF
open Go.RowKit Go.Proofs.YtocechpmgfhenaaGreatDoorW.PrintWords Go.Proofs.YtocechpmgfhenaaGreatDoor.F Go.Proofs.YtocechpmgfhenaaGreatDoor.KP Go.Proofs.YtocechpmgfhenaaGreatDoor.CR Go.Proofs.YtocechpmgfhenaaGreatDoor.SH Go.Proofs.YtocechpmgfhenaaGreatDoor.PL Go.Proofs.YtocechpmgfhenaaGreatDoor.FP Go.Proofs.YtocechpmgfhenaaGreatDoor.FSF Go.Proofs.YtocechpmgfhenaaGreatDoor.PK Go.Proofs.YtocechpmgfhenaaGreatDoor.NX Go.Proofs.YtocechpmgfhenaaGreatDoor.FG Go.Proofs.YtocechpmgfhenaaGreatDoor.ZP Go.Proofs.YtocechpmgfhenaaGreatDoor.LK Go.Proofs.YtocechpmgfhenaaGreatDoor.FUL Go.Proofs.YtocechpmgfhenaaGreatDoor.B8
set_option linter.unusedVariables false
set_option linter.unusedSectionVars false
set_option linter.unusedSimpArgs false
def TA : List ByteArray := [⟨#[105, 48]⟩]
def LA : ByteArray := ⟨#[48]⟩
def cA : List S46 := [⟨5, 0, 0, 0, 0⟩, ⟨9, 0, 0, 0, 0⟩, ⟨11, 0, 0, 0, 1⟩, ⟨5, 0, 0, 0, 0⟩]
def pA (g h : Nat) : Pg := ⟨some ⟨g, 0, none⟩, 1, TA, LA, ByteArray.empty, some ⟨h, 0, none⟩, 4, cA⟩
theorem rtA : Rt TA := by
  refine ⟨fun i h0 h1 => ?_, by decide, by decide⟩
  obtain rfl : i = 0 := by
    have : (TA.length : Int) = 1 := rfl
    omega
  refine ⟨by decide, by decide, fun j j0 j1 => ?_⟩
  have : ((rdOf ByteArray.empty TA 0).size : Int) = 2 := rfl
  obtain rfl | rfl : j = 0 ∨ j = 1 := by omega
  · exact .inl rfl
  · exact .inr (by decide)
theorem refsL : refs TA LA = true := by
  rw [refs_iff]
  refine ⟨rtA, fun j h0 h1 => ?_⟩
  have : (LA.size : Int) = 1 := rfl
  obtain rfl : j = 0 := by omega
  decide
theorem refsE : refs TA ByteArray.empty = true := by
  rw [refs_iff]
  refine ⟨rtA, fun j h0 h1 => ?_⟩
  have : ((ByteArray.empty).size : Int) = 0 := rfl
  omega
theorem atA : atv TA LA 0 = 0 := by
  unfold atv
  rw [if_pos ⟨by decide, by rw [show LA.extract (0 : Int).toNat ((0 : Int) + 1).toNat = LA from by decide]; exact refsL⟩]
  decide
theorem isA : Is TA 0 := ⟨rtA, by decide, by decide⟩
theorem szA : size TA 0 = 2 := by
  unfold size
  rw [typ_is isA]
  rfl
theorem to0 : to_ TA 0 0 = -1 := by
  unfold to_
  rw [szA, if_pos (by decide), typ_is isA]
  decide
theorem to1 : to_ TA 0 1 = 0 := by
  unfold to_
  rw [szA, if_pos (by decide), typ_is isA]
  decide
theorem pA_sp (g h : Nat) : SpP (pA g h) where
  refs := ⟨refsL, refsE⟩
  locals := by show LA.size ≤ 8; decide
  globals := by show ByteArray.empty.size ≤ 4; decide
  len := ⟨by show 1 ≤ cA.length; decide, by show cA.length ≤ 200; decide⟩
  all := fun j hj => by
    change InsAt TA LA ByteArray.empty cA j
    have h4 : j < 4 := hj
    have ha := atA
    have hz := szA
    have t0 := to0
    have t1 := to1
    obtain rfl | rfl | rfl | rfl : j = 0 ∨ j = 1 ∨ j = 2 ∨ j = 3 := by omega
    · refine ⟨5, rfl, by decide, by decide, fun h => by omega, by decide, ?_⟩
      show KindsP TA LA _ 5 0 0 0 0
      unfold KindsP
      refine ⟨fun h => ?_, fun h => ?_, fun h => ?_, fun h => ?_, fun h => ?_, fun h => ?_, fun h => ?_, fun h => ?_, fun h => ?_⟩ <;> omega
    · refine ⟨9, rfl, by decide, by decide, fun h => by omega, by decide, ?_⟩
      show KindsP TA LA _ 9 0 0 0 0
      unfold KindsP
      rw [ha, hz, t0]
      refine ⟨fun h => ?_, fun h => ?_, fun h => ?_, fun h => ?_, fun h => ?_, fun h => ?_, fun h => ?_, fun h => ?_, fun h => ?_⟩ <;> omega
    · refine ⟨11, rfl, by decide, by decide, fun h => by omega, by decide, ?_⟩
      show KindsP TA LA _ 11 0 0 0 1
      unfold KindsP
      rw [ha, hz, t1]
      refine ⟨fun h => ?_, fun h => ?_, fun h => ?_, fun h => ?_, fun h => ?_, fun h => ?_, fun h => ?_, fun h => ?_, fun h => ?_⟩ <;> omega
    · refine ⟨5, rfl, by decide, by decide, fun h => by omega, by decide, ?_⟩
      show KindsP TA LA _ 5 0 0 0 0
      unfold KindsP
      refine ⟨fun h => ?_, fun h => ?_, fun h => ?_, fun h => ?_, fun h => ?_, fun h => ?_, fun h => ?_, fun h => ?_, fun h => ?_⟩ <;> omega
theorem leak0 : leakB cA LA.size 0 = true := leakB_iff.2 ⟨2, 0, by decide, by decide, .inl rfl, rfl, by decide, .new (by decide) (by decide) rfl rfl⟩
theorem leak3 : leakB cA LA.size 3 = true := leakB_iff.2 ⟨2, 0, by decide, by decide, .inl rfl, rfl, by decide, .new (by decide) (by decide) rfl rfl⟩
theorem last0 (g h : Nat) : lastB (pA g h) 0 = 2 := by
  unfold lastB
  show (if (5 : Int) = 5 then lastG cA 0 (2 ^ (size TA (atv TA LA 0)).toNat - 1) 3 1 0 else -1) = 2
  rw [if_pos rfl, atA, szA]
  decide
theorem last3 (g h : Nat) : lastB (pA g h) 3 = -1 := by
  unfold lastB
  show (if (5 : Int) = 5 then lastG cA 0 (2 ^ (size TA (atv TA LA 0)).toNat - 1) 0 4 0 else -1) = -1
  rw [if_pos rfl]
  rfl
theorem fr2 : (g (frB cA) 2).getLsbD 0 = true := by decide +kernel
theorem best0 (g h : Nat) : bestF (pA g h) 0 = ⟨false, true, false⟩ := by
  unfold bestF
  show (if (5 : Int) = 5 then (⟨!leakB cA LA.size 0 && !loopB cA 0, decide (0 ≤ lastB (pA g h) 0), false⟩ : Fc) else _) = _
  rw [if_pos rfl, leak0, last0]
  rfl
theorem best3 (g h : Nat) : bestF (pA g h) 3 = ⟨false, false, false⟩ := by
  unfold bestF
  show (if (5 : Int) = 5 then (⟨!leakB cA LA.size 3 && !loopB cA 3, decide (0 ≤ lastB (pA g h) 3), false⟩ : Fc) else _) = _
  rw [if_pos rfl, leak3, last3]
  rfl
theorem best1 (g h : Nat) : bestF (pA g h) 1 = ⟨false, false, false⟩ := by
  unfold bestF
  exact (if_neg (by show ¬ (9 : Int) = 5; decide)).trans (if_neg (by show ¬ (9 : Int) = 11; decide))
theorem best2 (g h : Nat) : bestF (pA g h) 2 = ⟨false, false, true⟩ := by
  unfold bestF
  refine (if_neg (by show ¬ (11 : Int) = 5; decide)).trans ((if_pos (by show (11 : Int) = 11; rfl)).trans ?_)
  show (⟨false, false, (B8.g (frB cA) 2).getLsbD 0⟩ : Fc) = _
  rw [fr2]
end Go.Proofs.YtocechpmgfhenaaGreatDoor.PF

namespace Go.Proofs.YtocechpmgfhenaaGreatDoor.PF
open Go.RowKit Go.Proofs.YtocechpmgfhenaaGreatDoorW.PrintWords Go.Proofs.YtocechpmgfhenaaGreatDoorW.PrintLast Go.Proofs.YtocechpmgfhenaaGreatDoorW.PrintMore Go.Proofs.YtocechpmgfhenaaGreatDoor.F Go.Proofs.YtocechpmgfhenaaGreatDoor.KP Go.Proofs.YtocechpmgfhenaaGreatDoor.CR Go.Proofs.YtocechpmgfhenaaGreatDoor.SH Go.Proofs.YtocechpmgfhenaaGreatDoor.FM Go.Proofs.YtocechpmgfhenaaGreatDoor.ST0 Go.Proofs.YtocechpmgfhenaaGreatDoor.PL Go.Proofs.YtocechpmgfhenaaGreatDoor.FSF
set_option linter.unusedVariables false
set_option linter.unusedSectionVars false
set_option linter.unusedSimpArgs false
theorem C_row {α : Type} (d : Kd α) {W : World} {g : Nat} {t : TypeId} {inner : List Value} {ps : List α} (hg : W.heap[g]? = some (.cells inner.toArray t (0, 0))) (hr : Reps (d.K W) d.sz ps inner) (hm : ps.length ≤ 9223372036854775807) : d.C W (some ⟨g, 0, none⟩) ps.length ps := by
  refine ⟨rfl, hm, fun _ => ⟨⟨g, 0, none⟩, rfl, fun j p hj => ⟨(inner.drop (j * d.sz)).take d.sz, ?_, hr.2 j p hj, fun i u hu => ?_⟩⟩⟩
  · have hl := (List.getElem?_eq_some_iff.1 hj).1
    have : j * d.sz + d.sz ≤ ps.length * d.sz := by rw [← Nat.succ_mul]; exact Nat.mul_le_mul_right _ hl
    rw [List.length_take, List.length_drop, hr.1]
    omega
  · have e : (⟨g, 0, none⟩ : Addr).add (j * d.sz + i) = ⟨g, j * d.sz + i, none⟩ := by
      unfold Addr.add
      split
      · rename_i h
        rw [h]
      · simp
    rw [List.getElem?_take] at hu
    split at hu
    · rw [List.getElem?_drop] at hu
      rw [e, cell_of_row _ _ _ _ _ _ hg]
      simpa using hu
    · cases hu
theorem pA_on (w : World) (g h : Nat) (s t : TypeId) (hg : w.heap[g]? = some (.cells #[.string ⟨#[105, 48]⟩] s (0, 0))) (hh : w.heap[h]? = some (.cells #[.int .u8 5, .int .u8 0, .int .u8 0, .int .u8 0, .int .i64 0, .int .u8 9, .int .u8 0, .int .u8 0, .int .u8 0, .int .i64 0, .int .u8 11, .int .u8 0, .int .u8 0, .int .u8 0, .int .i64 1, .int .u8 5, .int .u8 0, .int .u8 0, .int .u8 0, .int .i64 0] t (0, 0))) (hot : OT w) : (pA g h).On w where
  hT := C_row Kd.string hg (Kd.reps_scalar (enc := Value.string) [⟨#[105, 48]⟩]) (by show (1 : Nat) ≤ 9223372036854775807; decide)
  hc0 := Nat.le_refl _
  hC := C_row k46 hh (((((Reps.none (k46.K w) 5).snoc (k46_mk w ⟨5, 0, 0, 0, 0⟩) rfl).snoc (k46_mk w ⟨9, 0, 0, 0, 0⟩) rfl).snoc (k46_mk w ⟨11, 0, 0, 0, 1⟩) rfl).snoc (k46_mk w ⟨5, 0, 0, 0, 0⟩) rfl) (by show (4 : Nat) ≤ 9223372036854775807; decide)
  hc3 := Nat.le_refl _
  hs := fun s hs => by
    obtain rfl : s = ⟨#[105, 48]⟩ := by simpa [pA, TA] using hs
    decide
  hla := by show LA.size ≤ _; decide
  hgl := Nat.zero_le _
  hw := fun x hx => by
    have hx' : x = ⟨5, 0, 0, 0, 0⟩ ∨ x = ⟨9, 0, 0, 0, 0⟩ ∨ x = ⟨11, 0, 0, 0, 1⟩ ∨ x = ⟨5, 0, 0, 0, 0⟩ := by simpa [pA, cA] using hx
    rcases hx' with rfl | rfl | rfl | rfl <;> exact ⟨by decide, by decide, by decide, by decide, by decide⟩
  ot := hot
set_option maxHeartbeats 8000000 in
set_option maxRecDepth 100000 in
theorem alive_c (w : World) (hot : OT w) : Calls Tryz.prog 9 #[] w fun e w' => e = .returned (.bool true) ∧ Below w.heap.size w w' := by
  have HOT := Aside0.mk hot
  clear hot
  go_enter Tryz.func9, Tryz.ntmps9
  go_upto_region 2 with (fail)
  obtain ⟨W0, hW0⟩ : ∃ W0 : World, W0 = ((w.alloc (.cells #[.string ⟨#[105, 48]⟩] 9)).alloc (.cells #[.int .u8 5, .int .u8 0, .int .u8 0, .int .u8 0, .int .i64 0, .int .u8 9, .int .u8 0, .int .u8 0, .int .u8 0, .int .i64 0, .int .u8 11, .int .u8 0, .int .u8 0, .int .u8 0, .int .i64 1, .int .u8 5, .int .u8 0, .int .u8 0, .int .u8 0, .int .i64 0] 46)).alloc (.cells #[.slice (some ⟨w.heap.size, 0, none⟩) 1 1, .string ⟨#[48]⟩, .string ⟨#[]⟩, .slice (some ⟨w.heap.size + 1, 0, none⟩) 4 4] 25) := ⟨_, rfl⟩
  have r0 : W0.heap[w.heap.size]? = some (.cells #[.string ⟨#[105, 48]⟩] 9 (0, 0)) := by rw [hW0]; exact rowT
  have r1 : W0.heap[w.heap.size + 1]? = some (.cells #[.int .u8 5, .int .u8 0, .int .u8 0, .int .u8 0, .int .i64 0, .int .u8 9, .int .u8 0, .int .u8 0, .int .u8 0, .int .i64 0, .int .u8 11, .int .u8 0, .int .u8 0, .int .u8 0, .int .i64 1, .int .u8 5, .int .u8 0, .int .u8 0, .int .u8 0, .int .i64 0] 46 (0, 0)) := by rw [hW0]; exact rowT
  have HR := Aside0.mk (show W0.heap[w.heap.size + 1 + 1]? = some (.cells #[.slice (some ⟨w.heap.size, 0, none⟩) 1 1, .string ⟨#[48]⟩, .string ⟨#[]⟩, .slice (some ⟨w.heap.size + 1, 0, none⟩) 4 4] 25 (0, 0)) by rw [hW0]; exact rowT)
  have HW := Aside0.mk (show Below w.heap.size w W0 by rw [hW0]; repeat (first | exact Below.refl _ _ | refine below_alloc ?_ _))
  rw [← hW0]
  clear hW0
  have hon : (pA w.heap.size (w.heap.size + 1)).On W0 := pA_on W0 _ _ _ _ r0 r1 (OT_below HOT.out HW.out)
  have BE := Aside0.mk (show ∀ W, Below W0.heap.size W0 W → Calls Tryz.prog 11 #[.agg #[.slice (some ⟨w.heap.size, 0, none⟩) 1 1, .string ⟨#[48]⟩, .string ⟨#[]⟩, .slice (some ⟨w.heap.size + 1, 0, none⟩) 4 4]] W fun e w' => ∃ g, e = .returned (.tuple #[.slice (some ⟨g, 0, none⟩) 4 4, .int .i64 0]) ∧ Below W.heap.size W w' ∧ RowF w' g 4 (bestF (pA w.heap.size (w.heap.size + 1))) from fun W hW => (Best_c _ W (hon.below hW) (by show LA.size ≤ 1000; decide) (by show (4 : Nat) ≤ 1000000; decide)).mono fun e w' ⟨er, v, h1, h2, h3, h4, _⟩ => by
    obtain rfl := h2.2 (pA_sp _ _)
    obtain ⟨g, rfl, _, h5⟩ := h4 rfl
    exact ⟨g, h1, h3, h5⟩)
  have NO := Aside0.mk (show ∀ W, Below W0.heap.size W0 W → Calls Tryz.prog 20 #[.agg #[.slice (some ⟨w.heap.size, 0, none⟩) 1 1, .string ⟨#[48]⟩, .string ⟨#[]⟩, .slice (some ⟨w.heap.size + 1, 0, none⟩) 4 4]] W fun e w' => ∃ g, e = .returned (.tuple #[.slice (some ⟨g, 0, none⟩) 4 4, .int .i64 0]) ∧ Below W.heap.size W w' ∧ RowF w' g 4 (fun _ => ⟨false, false, false⟩) from fun W hW => (None_c _ W (hon.below hW) (by show (4 : Nat) ≤ 1000000; decide)).mono fun e w' ⟨er, v, h1, h2, h3, h4, _⟩ => by
    obtain rfl := h2.2 (pA_sp _ _)
    obtain ⟨g, rfl, _, h5⟩ := h4 rfl
    exact ⟨g, h1, h3, h5⟩)
  have SA := Aside0.mk (show ∀ W g, RowF W g 4 (bestF (pA w.heap.size (w.heap.size + 1))) → Calls Tryz.prog 17 #[.slice (some ⟨g, 0, none⟩) 4 4] W fun e w' => e = .returned (.tuple #[.int .i64 0, .int .i64 1, .int .i64 1]) ∧ Below W.heap.size W w' from fun W g h => (Saved_c W _ 4 4 _ h.fc (by decide)).mono fun e w' h => by
    rw [show cnt (fun k => (bestF (pA w.heap.size (w.heap.size + 1)) k).st) 4 = 0 by simp [cnt, best0, best1, best2, best3], show cnt (fun k => (bestF (pA w.heap.size (w.heap.size + 1)) k).raw) 4 = 1 by simp [cnt, best0, best1, best2, best3], show cnt (fun k => (bestF (pA w.heap.size (w.heap.size + 1)) k).pl) 4 = 1 by simp [cnt, best0, best1, best2, best3]] at h
    exact h)
  have FI := Aside0.mk (show ∀ W, Below W0.heap.size W0 W → ∀ g, RowF W g 4 (fun _ => ⟨false, false, false⟩) → Calls Tryz.prog 12 #[.agg #[.slice (some ⟨w.heap.size, 0, none⟩) 1 1, .string ⟨#[48]⟩, .string ⟨#[]⟩, .slice (some ⟨w.heap.size + 1, 0, none⟩) 4 4], .slice (some ⟨g, 0, none⟩) 4 4] W fun e w' => e = .returned (.bool true) ∧ Below W.heap.size W w' from fun W hW g h => Fits_c _ W (hon.below hW) (by show LA.size ≤ 1000; decide) (by show (4 : Nat) ≤ 1000000; decide) _ 4 4 _ h.fc (by decide) true ⟨fun _ => ⟨pA_sp _ _, rfl, fun k _ => by simp [wth]⟩, fun _ => rfl⟩)
  have FN := Aside0.mk (show ∀ W, Below W0.heap.size W0 W → Calls Tryz.prog 12 #[.agg #[.slice (some ⟨w.heap.size, 0, none⟩) 1 1, .string ⟨#[48]⟩, .string ⟨#[]⟩, .slice (some ⟨w.heap.size + 1, 0, none⟩) 4 4], .slice none 0 0] W fun e w' => e = .returned (.bool false) ∧ Below W.heap.size W w' from fun W hW => Fits_c _ W (hon.below hW) (by show LA.size ≤ 1000; decide) (by show (4 : Nat) ≤ 1000000; decide) none 0 0 (fun _ => ⟨false, false, false⟩) (fun k hk => absurd hk (Nat.not_lt_zero k)) (by decide) false ⟨(fun h => by cases h), (fun h => by have := h.2.1; cases this)⟩)
  have HB := Aside0.mk (Below.refl W0.heap.size W0)
  have y0 := (blk_cell HR.out 0).trans (rfl : _ = some (Value.slice (some ⟨w.heap.size, 0, none⟩) 1 1))
  have y1 := (blk_cell HR.out 1).trans (rfl : _ = some (Value.string ⟨#[48]⟩))
  have y2 := (blk_cell HR.out 2).trans (rfl : _ = some (Value.string ⟨#[]⟩))
  have y3 := (blk_cell HR.out 3).trans (rfl : _ = some (Value.slice (some ⟨w.heap.size + 1, 0, none⟩) 4 4))
  clear r0 r1 hon
  go_wp2_with (first
    | (go_at_call 11; (with_reducible refine (BE.out _ HB.out).mono ?_); rintro e w1 ⟨gb, rfl, hb, hr⟩; have HR := Aside0.mk ((hb.block _ (blk_lt HR.out)).trans HR.out); have HB := Aside0.mk (below_step HB.out hb); have y0 := (blk_cell HR.out 0).trans (rfl : _ = some (Value.slice (some ⟨w.heap.size, 0, none⟩) 1 1)); have y1 := (blk_cell HR.out 1).trans (rfl : _ = some (Value.string ⟨#[48]⟩)); have y2 := (blk_cell HR.out 2).trans (rfl : _ = some (Value.string ⟨#[]⟩)); have y3 := (blk_cell HR.out 3).trans (rfl : _ = some (Value.slice (some ⟨w.heap.size + 1, 0, none⟩) 4 4)); have HL := Aside0.mk hr; clear hb hr)
    | (go_at_call 20; (with_reducible refine (NO.out _ HB.out).mono ?_); rintro e w1 ⟨gn, rfl, hb, hr⟩; have HR := Aside0.mk ((hb.block _ (blk_lt HR.out)).trans HR.out); have HB := Aside0.mk (below_step HB.out hb); have y0 := (blk_cell HR.out 0).trans (rfl : _ = some (Value.slice (some ⟨w.heap.size, 0, none⟩) 1 1)); have y1 := (blk_cell HR.out 1).trans (rfl : _ = some (Value.string ⟨#[48]⟩)); have y2 := (blk_cell HR.out 2).trans (rfl : _ = some (Value.string ⟨#[]⟩)); have y3 := (blk_cell HR.out 3).trans (rfl : _ = some (Value.slice (some ⟨w.heap.size + 1, 0, none⟩) 4 4)); have HL := Aside0.mk (HL.out.move (hb.block _ HL.out.lt)); have HN := Aside0.mk hr; clear hb hr)
    | (go_at_call 17; (with_reducible refine (SA.out _ _ HL.out).mono ?_); rintro e w1 ⟨rfl, hb⟩; have HR := Aside0.mk ((hb.block _ (blk_lt HR.out)).trans HR.out); have HB := Aside0.mk (below_step HB.out hb); have y0 := (blk_cell HR.out 0).trans (rfl : _ = some (Value.slice (some ⟨w.heap.size, 0, none⟩) 1 1)); have y1 := (blk_cell HR.out 1).trans (rfl : _ = some (Value.string ⟨#[48]⟩)); have y2 := (blk_cell HR.out 2).trans (rfl : _ = some (Value.string ⟨#[]⟩)); have y3 := (blk_cell HR.out 3).trans (rfl : _ = some (Value.slice (some ⟨w.heap.size + 1, 0, none⟩) 4 4)); have HL := Aside0.mk (HL.out.move (hb.block _ HL.out.lt)); have HN := Aside0.mk (HN.out.move (hb.block _ HN.out.lt)); obtain ⟨l0, l1, l2⟩ := HL.out.at (k := 0) (by decide); obtain ⟨l6, l7, l8⟩ := HL.out.at (k := 2) (by decide); rw [best0] at l0 l1 l2; rw [best2] at l6 l7 l8; simp only [Nat.reduceMul, Nat.reduceAdd] at l0 l1 l2 l6 l7 l8; clear hb)
    | (go_at_call 12; (with_reducible refine (FI.out _ HB.out _ HN.out).mono ?_); rintro e w1 ⟨rfl, hb⟩; have HR := Aside0.mk ((hb.block _ (blk_lt HR.out)).trans HR.out); have HB := Aside0.mk (below_step HB.out hb); have y0 := (blk_cell HR.out 0).trans (rfl : _ = some (Value.slice (some ⟨w.heap.size, 0, none⟩) 1 1)); have y1 := (blk_cell HR.out 1).trans (rfl : _ = some (Value.string ⟨#[48]⟩)); have y2 := (blk_cell HR.out 2).trans (rfl : _ = some (Value.string ⟨#[]⟩)); have y3 := (blk_cell HR.out 3).trans (rfl : _ = some (Value.slice (some ⟨w.heap.size + 1, 0, none⟩) 4 4)); clear hb)
    | (go_at_call 12; (with_reducible refine (FN.out _ HB.out).mono ?_); rintro e w1 ⟨rfl, hb⟩; have HR := Aside0.mk ((hb.block _ (blk_lt HR.out)).trans HR.out); have HB := Aside0.mk (below_step HB.out hb); have y0 := (blk_cell HR.out 0).trans (rfl : _ = some (Value.slice (some ⟨w.heap.size, 0, none⟩) 1 1)); have y1 := (blk_cell HR.out 1).trans (rfl : _ = some (Value.string ⟨#[48]⟩)); have y2 := (blk_cell HR.out 2).trans (rfl : _ = some (Value.string ⟨#[]⟩)); have y3 := (blk_cell HR.out 3).trans (rfl : _ = some (Value.slice (some ⟨w.heap.size + 1, 0, none⟩) 4 4)); clear hb))
  go_ret
  exact ⟨rfl, below_step HW.out HB.out⟩
end Go.Proofs.YtocechpmgfhenaaGreatDoor.PF

namespace Go.Proofs.YtocechpmgfhenaaGreatDoor.RFL
open Go.RowKit Go.Proofs.YtocechpmgfhenaaGreatDoorW.PrintWords Go.Proofs.YtocechpmgfhenaaGreatDoor.Scan Go.Proofs.YtocechpmgfhenaaGreatDoor.F Go.Proofs.YtocechpmgfhenaaGreatDoor.PL Go.Proofs.YtocechpmgfhenaaGreatDoor.NX Go.Proofs.YtocechpmgfhenaaGreatDoor.FP Go.Proofs.YtocechpmgfhenaaGreatDoor.FSF Go.Proofs.YtocechpmgfhenaaGreatDoor.LK
set_option linter.unusedVariables false
set_option linter.unusedSectionVars false
section
variable {ts : List ByteArray} {la gl : ByteArray} {code : List S46} (h : InR (nxt code) (code.length + 1)) (hs : code.length ≤ 200) (a : Int) (ha0 : 0 ≤ a) (ha1 : a ≤ code.length)
include h hs ha0 ha1
end
section
variable (p : Pg) (w : World) (h : p.In w)
include h
end
end Go.Proofs.YtocechpmgfhenaaGreatDoor.RFL

namespace Go.Proofs.YtocechpmgfhenaaGreatDoor.PL
open Go.RowKit Go.Proofs.YtocechpmgfhenaaGreatDoorW.PrintWords Go.Proofs.YtocechpmgfhenaaGreatDoor.F Go.Proofs.YtocechpmgfhenaaGreatDoor.KP Go.Proofs.YtocechpmgfhenaaGreatDoor.CR Go.Proofs.YtocechpmgfhenaaGreatDoor.SH Go.Proofs.YtocechpmgfhenaaGreatDoor.FM Go.Proofs.YtocechpmgfhenaaGreatDoor.ST0
set_option linter.unusedVariables false
set_option linter.unusedSectionVars false
set_option linter.unusedSimpArgs false
noncomputable def kindsB (ts : List ByteArray) (la gl : ByteArray) (o : Nat) (f1 f2 f3 f4 : Int) : Bool :=
  if o = 5 ∨ o = 6 then decide (0 ≤ atv ts la f1) else if o = 7 then oneB (atv ts la f1) (atv ts la f2) else if o = 15 then oneB (atv ts la f2) (atv ts la f3)
  else if o = 8 then decide (0 ≤ atv ts la f2) && numB ts (atv ts la f2) f4 else if o = 9 then decide (0 ≤ atv ts la f1) && numB ts (atv ts la f1) f4
  else if o = 10 then decide (0 ≤ atv ts la f2) && oneB (atv ts la f1) (to_ ts (atv ts la f2) f4) else if o = 11 then decide (0 ≤ atv ts la f1) && oneB (atv ts la f2) (to_ ts (atv ts la f1) f4)
  else if o = 12 then oneB (atv ts la f1) (atv ts gl f2) else if o = 13 then oneB (atv ts la f2) (atv ts gl f1) else true
theorem oneB_iff (a b : Int) : oneB a b = true ↔ 0 ≤ a ∧ a = b := by simp [oneB]
theorem numB_iff (ts : List ByteArray) (t n : Int) : numB ts t n = true ↔ 0 ≤ n ∧ n < size ts t ∧ to_ ts t n < 0 := by
  unfold numB
  split
  · simp
    omega
  · simp
    omega
theorem kindsB_iff {ts : List ByteArray} {la gl : ByteArray} {o : Nat} {f1 f2 f3 f4 : Int} (h1 : 1 ≤ o) (h15 : o ≤ 15) : kindsB ts la gl o f1 f2 f3 f4 = true ↔ KindsP ts la gl o f1 f2 f3 f4 := by
  unfold kindsB KindsP
  obtain rfl | rfl | rfl | rfl | rfl | rfl | rfl | rfl | rfl | rfl | rfl | rfl | rfl | rfl | rfl : o = 1 ∨ o = 2 ∨ o = 3 ∨ o = 4 ∨ o = 5 ∨ o = 6 ∨ o = 7 ∨ o = 8 ∨ o = 9 ∨ o = 10 ∨ o = 11 ∨ o = 12 ∨ o = 13 ∨ o = 14 ∨ o = 15 := by omega
  all_goals simp [oneB_iff, numB_iff]
section
variable (p : Pg) (w : World) (o : Nat) (f1 f2 f3 f4 : Int) (h1 : 1 ≤ o) (h15 : o ≤ 15) (hx : WfI o f1 f2 f3 f4) (hp : p.In w)
include h1 h15 hx hp
set_option maxHeartbeats 4000000 in
set_option maxRecDepth 100000 in
theorem kinds_c : Calls Tryz.prog 33 #[p.v, .agg #[.int .u8 o, .int .u8 f1, .int .u8 f2, .int .u8 f3, .int .i64 f4]] w fun e w' => e = .returned (.bool (kindsB p.ts p.la p.gl o f1 f2 f3 f4)) ∧ Below w.heap.size w w' := by
  obtain ⟨_, ⟨a0, a1⟩, ⟨b0, b1⟩, ⟨c0', c1⟩, _⟩ := hx
  obtain ⟨A0, c0, ts, la, gl, A3, c3, code⟩ := p
  have HP := Aside0.mk hp
  have HA := Aside0.mk (And.intro a0 a1)
  have HBB := Aside0.mk (And.intro b0 b1)
  have HCC := Aside0.mk (And.intro c0' c1)
  clear hp a0 a1 b0 b1 c0' c1
  have LOC : Aside0 (∀ W, Below w.heap.size w W → ∀ a : Int, 0 ≤ a → a ≤ 255 → Calls Tryz.prog 45 #[.agg #[.slice A0 ts.length c0, .string la, .string gl, .slice A3 code.length c3], .int .u8 a] W fun e w' => e = .returned (.int .i64 (atv ts la a)) ∧ Below W.heap.size W w') := ⟨fun W hW a h0 h1 => Local_c ⟨A0, c0, ts, la, gl, A3, c3, code⟩ W (HP.out.below hW) a h0 h1⟩
  have HW := Aside0.mk (Below.refl w.heap.size w)
  show Calls Tryz.prog 33 #[.agg #[.slice A0 ts.length c0, .string la, .string gl, .slice A3 code.length c3], .agg #[.int .u8 o, .int .u8 f1, .int .u8 f2, .int .u8 f3, .int .i64 f4]] w fun e w' => e = .returned (.bool (kindsB ts la gl o f1 f2 f3 f4)) ∧ Below w.heap.size w w'
  go_enter Tryz.func33, Tryz.ntmps33
  go_upto_region 1 with (fail)
  obtain ⟨W0, hW0⟩ : ∃ W0 : World, W0 = (w.alloc (.cells #[.slice A0 ts.length c0, .string la, .string gl, .slice A3 code.length c3] 25)).alloc (.cells #[.int .u8 o, .int .u8 f1, .int .u8 f2, .int .u8 f3, .int .i64 f4] 46) := ⟨_, rfl⟩
  have R0 : W0.heap[w.heap.size]? = some (.cells #[.slice A0 ts.length c0, .string la, .string gl, .slice A3 code.length c3] 25 (0, 0)) := by rw [hW0]; exact row_old _ _ _ (by simp) (heap_alloc_new _ _)
  have R1 : W0.heap[w.heap.size + 1]? = some (.cells #[.int .u8 o, .int .u8 f1, .int .u8 f2, .int .u8 f3, .int .i64 f4] 46 (0, 0)) := by rw [hW0]; exact row_new _ _ _ (by simp)
  have zz : w.heap.size + 1 + 1 ≤ W0.heap.size := by rw [hW0]; simp
  have HW := Aside0.mk (show Below w.heap.size w W0 by rw [hW0]; exact below_alloc (below_alloc (Below.refl _ _) _) _)
  rw [← hW0]
  clear hW0
  have e0 : W0.cell? ⟨w.heap.size, 0, none⟩ = some (.slice A0 ts.length c0) := (cell_of_row _ _ 0 _ _ _ R0).trans rfl
  have e1 : W0.cell? ⟨w.heap.size, 1, none⟩ = some (.string la) := (cell_of_row _ _ 1 _ _ _ R0).trans rfl
  have e2 : W0.cell? ⟨w.heap.size, 2, none⟩ = some (.string gl) := (cell_of_row _ _ 2 _ _ _ R0).trans rfl
  have e3 : W0.cell? ⟨w.heap.size, 3, none⟩ = some (.slice A3 code.length c3) := (cell_of_row _ _ 3 _ _ _ R0).trans rfl
  have g0 : W0.cell? ⟨w.heap.size + 1, 0, none⟩ = some (.int .u8 o) := (cell_of_row _ _ 0 _ _ _ R1).trans rfl
  have g1 : W0.cell? ⟨w.heap.size + 1, 1, none⟩ = some (.int .u8 f1) := (cell_of_row _ _ 1 _ _ _ R1).trans rfl
  have g2 : W0.cell? ⟨w.heap.size + 1, 2, none⟩ = some (.int .u8 f2) := (cell_of_row _ _ 2 _ _ _ R1).trans rfl
  have g3 : W0.cell? ⟨w.heap.size + 1, 3, none⟩ = some (.int .u8 f3) := (cell_of_row _ _ 3 _ _ _ R1).trans rfl
  have g4 : W0.cell? ⟨w.heap.size + 1, 4, none⟩ = some (.int .i64 f4) := (cell_of_row _ _ 4 _ _ _ R1).trans rfl
  clear R0 R1
  go_region_held3 (fun w' => w'.cell? ⟨w.heap.size, 0, none⟩ = some (.slice A0 ts.length c0) ∧ w'.cell? ⟨w.heap.size, 1, none⟩ = some (.string la) ∧ w'.cell? ⟨w.heap.size, 2, none⟩ = some (.string gl) ∧ w'.cell? ⟨w.heap.size, 3, none⟩ = some (.slice A3 code.length c3) ∧ w'.cell? ⟨w.heap.size + 1, 1, none⟩ = some (.int .u8 f1) ∧ w'.cell? ⟨w.heap.size + 1, 2, none⟩ = some (.int .u8 f2))
      (first
        | (exact ⟨e0, e1, e2, e3, g1, g2⟩)
        | go_keep)
      ((first
        | (go_at_call 45; ((with_reducible refine (LOC.out _ ?side1 f1 HA.out.1 HA.out.2).mono ?_); (case side1 => first | exact HW.out | exact below_drew1 HW.out); rintro e w1 ⟨rfl, hb1⟩; obtain ⟨hq1, hf1⟩ := bcell (B := w.heap.size + 1 + 1) (hb1.mono zz); have e0 := (hq1 _ _ (by omega)).trans e0; have e1 := (hq1 _ _ (by omega)).trans e1; have e2 := (hq1 _ _ (by omega)).trans e2; have e3 := (hq1 _ _ (by omega)).trans e3; have g0 := (hq1 _ _ (by omega)).trans g0; have g1 := (hq1 _ _ (by omega)).trans g1; have g2 := (hq1 _ _ (by omega)).trans g2; have g3 := (hq1 _ _ (by omega)).trans g3; have g4 := (hq1 _ _ (by omega)).trans g4; have HW := Aside0.mk (show Below w.heap.size w w1 from below_step (by first | exact HW.out | exact below_drew1 HW.out) hb1); have zz : w.heap.size + 1 + 1 ≤ w1.heap.size := Nat.le_trans zz hb1.size; clear hb1 hq1 hf1))
        | (go_at_call 45; ((with_reducible refine (LOC.out _ ?side1 f2 HBB.out.1 HBB.out.2).mono ?_); (case side1 => first | exact HW.out | exact below_drew1 HW.out); rintro e w1 ⟨rfl, hb1⟩; obtain ⟨hq1, hf1⟩ := bcell (B := w.heap.size + 1 + 1) (hb1.mono zz); have e0 := (hq1 _ _ (by omega)).trans e0; have e1 := (hq1 _ _ (by omega)).trans e1; have e2 := (hq1 _ _ (by omega)).trans e2; have e3 := (hq1 _ _ (by omega)).trans e3; have g0 := (hq1 _ _ (by omega)).trans g0; have g1 := (hq1 _ _ (by omega)).trans g1; have g2 := (hq1 _ _ (by omega)).trans g2; have g3 := (hq1 _ _ (by omega)).trans g3; have g4 := (hq1 _ _ (by omega)).trans g4; have HW := Aside0.mk (show Below w.heap.size w w1 from below_step (by first | exact HW.out | exact below_drew1 HW.out) hb1); have zz : w.heap.size + 1 + 1 ≤ w1.heap.size := Nat.le_trans zz hb1.size; clear hb1 hq1 hf1))))
  have GLB : Aside0 (∀ W, Below w.heap.size w W → ∀ a : Int, 0 ≤ a → a ≤ 255 → Calls Tryz.prog 55 #[.agg #[.slice A0 ts.length c0, .string la, .string gl, .slice A3 code.length c3], .int .u8 a] W fun e w' => e = .returned (.int .i64 (atv ts gl a)) ∧ Below W.heap.size W w') := ⟨fun W hW a h0 h1 => Glob_c ⟨A0, c0, ts, la, gl, A3, c3, code⟩ W (HP.out.below hW) a h0 h1⟩
  have NUM : Aside0 (∀ W, Below w.heap.size w W → ∀ a n : Int, Calls Tryz.prog 53 #[.agg #[.slice A0 ts.length c0, .string la, .string gl, .slice A3 code.length c3], .int .i64 a, .int .i64 n] W fun e w' => e = .returned (.bool (numB ts a n)) ∧ Below W.heap.size W w') := ⟨fun W hW a n => number_c ⟨A0, c0, ts, la, gl, A3, c3, code⟩ W (HP.out.below hW) a n⟩
  have TO : Aside0 (∀ W, Below w.heap.size w W → ∀ a n : Int, Calls Tryz.prog 54 #[.agg #[.slice A0 ts.length c0, .string la, .string gl, .slice A3 code.length c3], .int .i64 a, .int .i64 n] W fun e w' => e = .returned (.int .i64 (to_ ts a n)) ∧ Below W.heap.size W w') := ⟨fun W hW a n => to_c ⟨A0, c0, ts, la, gl, A3, c3, code⟩ W (HP.out.below hW) a n⟩
  obtain rfl | rfl | rfl | rfl | rfl | rfl | rfl | rfl | rfl | rfl | rfl | rfl | rfl | rfl | rfl : o = 1 ∨ o = 2 ∨ o = 3 ∨ o = 4 ∨ o = 5 ∨ o = 6 ∨ o = 7 ∨ o = 8 ∨ o = 9 ∨ o = 10 ∨ o = 11 ∨ o = 12 ∨ o = 13 ∨ o = 14 ∨ o = 15 := by omega
  all_goals
    go_wp2_with (first
      | (go_at_call 45; (with_reducible refine (LOC.out _ HW.out f3 HCC.out.1 HCC.out.2).mono ?_); rintro e w2 ⟨rfl, hb2⟩; have HW := Aside0.mk (below_step HW.out hb2); clear hb2)
      | (go_at_call 55; (with_reducible refine (GLB.out _ HW.out f2 HBB.out.1 HBB.out.2).mono ?_); rintro e w2 ⟨rfl, hb2⟩; have HW := Aside0.mk (below_step HW.out hb2); clear hb2)
      | (go_at_call 55; (with_reducible refine (GLB.out _ HW.out f1 HA.out.1 HA.out.2).mono ?_); rintro e w2 ⟨rfl, hb2⟩; have HW := Aside0.mk (below_step HW.out hb2); clear hb2)
      | (go_at_call 53; (with_reducible refine (NUM.out _ HW.out _ f4).mono ?_); rintro e w2 ⟨rfl, hb2⟩; have HW := Aside0.mk (below_step HW.out hb2); clear hb2)
      | (go_at_call 54; (with_reducible refine (TO.out _ HW.out _ f4).mono ?_); rintro e w2 ⟨rfl, hb2⟩; have HW := Aside0.mk (below_step HW.out hb2); clear hb2)
      | (go_at_call 52; (with_reducible refine (one_c _ _ _).mono ?_); rintro e w2 ⟨rfl, hb2⟩; have HW := Aside0.mk (below_step HW.out hb2); clear hb2))
  all_goals
    go_ret
    refine ⟨?_, HW.out⟩
    first | (simp [kindsB, *]; done) | (simp [kindsB]; omega)
end
end Go.Proofs.YtocechpmgfhenaaGreatDoor.PL

namespace Go.Proofs.YtocechpmgfhenaaGreatDoor.NU
open Go.RowKit Go.Proofs.YtocechpmgfhenaaGreatDoorW.PrintWords Go.Proofs.YtocechpmgfhenaaGreatDoor.FM
abbrev nd (u : Nat) : Nat := Lib.nDigits u
theorem nd_pos (u : Nat) : 1 ≤ nd u := Lib.nDigits_pos u
theorem nd_min (u : Nat) (h : 2 ≤ nd u) : 10 ^ (nd u - 1) ≤ u := by
  induction u using Nat.strongRecOn with
  | ind u ih =>
    by_cases h10 : u < 10
    · rw [nd, Lib.nDigits_small h10] at h
      omega
    · have e : nd u = nd (u / 10) + 1 := Lib.nDigits_big h10
      rw [e]
      by_cases h2 : 2 ≤ nd (u / 10)
      · have := ih (u / 10) (by omega) h2
        have e2 : 10 ^ (nd (u / 10) + 1 - 1) = 10 ^ (nd (u / 10) - 1) * 10 := by
          rw [← Nat.pow_succ]
          congr 1
          omega
        rw [e2]
        omega
      · have e1 : nd (u / 10) = 1 := by have := nd_pos (u / 10); omega
        rw [e1]
        omega
theorem nd_le (u : Nat) (h : u ≤ 9223372036854775808) : nd u ≤ 19 := by
  rcases Nat.lt_or_ge 19 (nd u) with h' | h'
  · have h1 := nd_min u (by omega)
    have h2 : 10 ^ 19 ≤ 10 ^ (nd u - 1) := Nat.pow_le_pow_right (by decide) (by omega)
    omega
  · exact h'
def dgt (u j : Nat) : Nat := u / 10 ^ (nd u - 1 - j) % 10
theorem dgt_lt (u j : Nat) : dgt u j < 10 := Nat.mod_lt _ (by decide)
theorem dec_get (u j : Nat) (h : j < nd u) : (Lib.decDigits u)[j]? = some (UInt8.ofNat (48 + dgt u j)) := by
  rw [Lib.decDigits_eq, List.getElem?_map, List.getElem?_range h]
  simp only [Option.map_some, dgt, Lib.dg]
theorem dec_len (u : Nat) : (Lib.decDigits u).length = nd u := Lib.decDigits_length u
def acc (u j : Nat) : Nat := u / 10 ^ (nd u - j)
theorem acc_zero (u : Nat) : acc u 0 = 0 := Nat.div_eq_of_lt (Lib.lt_pow_nDigits u)
theorem acc_all (u : Nat) : acc u (nd u) = u := by simp [acc]
theorem acc_succ (u j : Nat) (h : j < nd u) : acc u (j + 1) = acc u j * 10 + dgt u j := by
  unfold acc dgt
  have e : nd u - j = (nd u - (j + 1)) + 1 := by omega
  have e2 : nd u - 1 - j = nd u - (j + 1) := by omega
  rw [e, e2, Nat.pow_succ, ← Nat.div_div_eq_div_mul]
  omega
theorem acc_le (u j : Nat) : acc u j ≤ u := Nat.div_le_self ..
theorem first (u : Nat) (h : 2 ≤ nd u) : dgt u 0 ≠ 0 := by
  have h1 := nd_min u h
  have h2 := Lib.lt_pow_nDigits u
  unfold dgt
  have e : 10 ^ nd u = 10 ^ (nd u - 1) * 10 := by
    rw [← Nat.pow_succ]
    congr 1
    omega
  have h3 : u / 10 ^ (nd u - 1 - 0) < 10 := by
    rw [Nat.sub_zero]
    exact Nat.div_lt_of_lt_mul (by rw [← e]; exact h2)
  have h4 : 1 ≤ u / 10 ^ (nd u - 1 - 0) := by
    rw [Nat.sub_zero]
    exact (Nat.one_le_div_iff (Nat.pow_pos (by decide))).2 h1
  omega
theorem ofNat_toNat (d : Nat) (h : d < 10) : (UInt8.ofNat (48 + d)).toNat = 48 + d := by
  simp only [UInt8.toNat_ofNat']
  omega
theorem size_mk (l : List UInt8) : (⟨l.toArray⟩ : ByteArray).size = l.length := rfl
theorem bt_mk (l : List UInt8) (j : Nat) (x : UInt8) (h : l[j]? = some x) : bt ⟨l.toArray⟩ j = x.toNat := by
  obtain ⟨hj, rfl⟩ := List.getElem?_eq_some_iff.1 h
  unfold bt
  rw [dif_pos (show ((j : Int).toNat) < (⟨l.toArray⟩ : ByteArray).size from hj)]
  rfl
theorem num_pos (u : Nat) : (num u).size = nd u ∧ ∀ j : Nat, j < nd u → bt (num u) j = 48 + dgt u j := by
  unfold num
  rw [Lib.itoa_nonneg]
  refine ⟨dec_len u, fun j hj => ?_⟩
  rw [bt_mk _ j _ (dec_get u j hj), ofNat_toNat _ (dgt_lt u j)]
  rfl
theorem num_neg (u : Nat) (h : 1 ≤ u) : (num (-(u : Int))).size = nd u + 1 ∧ bt (num (-(u : Int))) 0 = 45 ∧ ∀ j : Nat, j < nd u → bt (num (-(u : Int))) (j + 1) = 48 + dgt u j := by
  unfold num
  rw [Lib.itoa_neg u h]
  refine ⟨by rw [size_mk, List.length_cons, dec_len], (by have := bt_mk (45 :: Lib.decDigits u) 0 _ rfl; exact this), fun j hj => ?_⟩
  have := bt_mk (45 :: Lib.decDigits u) (j + 1) _ (by rw [List.getElem?_cons_succ]; exact dec_get u j hj)
  rw [ofNat_toNat _ (dgt_lt u j)] at this
  rw [Int.natCast_add] at this
  exact this
end Go.Proofs.YtocechpmgfhenaaGreatDoor.NU

namespace Go.Proofs.YtocechpmgfhenaaGreatDoor.NU
open Go.RowKit Go.Proofs.YtocechpmgfhenaaGreatDoorW.PrintWords Go.Proofs.YtocechpmgfhenaaGreatDoor.FM
set_option linter.unusedVariables false
set_option linter.unusedSectionVars false
set_option linter.unusedSimpArgs false
theorem ne_false {a b : Int} (h : a ≠ b) : (a == b) = false := beq_eq_false_iff_ne.2 h
theorem isE {s : ByteArray} (h : 1 ≤ s.size) : s.toList.isEmpty = false := by
  rw [ByteArray.toList_eq, List.isEmpty_eq_false_iff]
  intro e
  have : s.data.toList.length = s.size := by simp
  rw [e] at this
  simp at this
  omega
theorem bt_zero (s : ByteArray) {c : Int} (h : bt s 0 = c) : ∀ h : 0 < s.size, ((s[0]'h).toNat : Int) = c := fun hh => by rw [← h]; exact bt_at s 0 hh
theorem bt_nat (s : ByteArray) (m : Nat) {c : Int} (h : bt s m = c) : ∀ h : m < s.size, ((s[m]'h).toNat : Int) = c := fun hh => by
  rw [← h]
  have := bt_at s (m : Int) (by simpa using hh)
  simpa using this
theorem bt_tail (s : ByteArray) (n j : Nat) (hn : s.size = n + 1) (hj : j < n) : bt (s.extract 1 (n + 1)) j = bt s (j + 1) := by
  have e1 : (s.extract 1 (n + 1)).size = n := by rw [ByteArray.size_extract]; omega
  unfold bt
  rw [dif_pos (by rw [e1]; simpa using hj), dif_pos (by rw [hn]; omega)]
  congr 2
  rw [ByteArray.getElem_extract]
  congr 1
  omega
section
variable (w : World) (s : ByteArray) (u : Nat) (hu : u ≤ 9223372036854775808) (hs : s.size = nd u) (hb : ∀ j : Nat, j < nd u → bt s j = 48 + dgt u j)
include hu hs hb
set_option maxRecDepth 100000 in
theorem digits_pos : Calls Tryz.prog 102 #[.string s] w fun e w' => e = .returned (.bool true) ∧ w' = w := by
  have n1 := nd_pos u
  have n19 := nd_le u hu
  have b0 := hb 0 (by omega)
  have d0 := dgt_lt u 0
  have f0 := first u
  obtain ⟨c0, e0⟩ : ∃ c0, c0 = bt s 0 := ⟨_, rfl⟩
  have h0 := bt_zero s e0.symm
  have hE := isE (s := s) (by omega)
  have hm : (c0 == 45) = false := ne_false (by rw [e0]; have := b0; simp only [Int.natCast_zero] at this; omega)
  have H := Aside0.mk hb
  obtain ⟨N, eN⟩ : ∃ N, N = nd u := ⟨_, rfl⟩
  have hz : (c0 == 48) = true → ¬ ((N : Int) > 1) := fun hc h => by
    have hc := beq_iff_eq.1 hc
    have := f0 (by omega)
    simp only [Int.natCast_zero] at b0
    omega
  rw [← eN] at hs n1 n19 H
  clear hb b0 d0 f0 e0 eN
  cases hq : c0 == 48
  case' true => have hN1 := hz hq
  all_goals
    clear hz
    go_enter Tryz.func102, Tryz.ntmps102
    go_wp2
    go_loop [4] (fun a => ∃ m : Nat, a = .int .i64 m ∧ m ≤ N) (fun a => N - (intOf a).toNat)
    case atStart => exact ⟨0, rfl, Nat.zero_le _⟩
    case round =>
      obtain ⟨m, rfl, hm2⟩ := hrel
      by_cases hml : (m : Int) < (N : Int)
      · obtain ⟨c, ec⟩ : ∃ c, c = bt s m := ⟨_, rfl⟩
        have hx := bt_nat s m ec.symm
        have hv := H.out m (by omega)
        have hd := dgt_lt u m
        have g1 : ¬ c < 48 := by omega
        have g2 : ¬ c > 57 := by omega
        clear hv ec
        have m0 : (0 : Int) ≤ m := by omega
        go_wp2
        refine ⟨⟨m + 1, by go_num, by omega⟩, ?_⟩
        simp [intOf]
        omega
      · go_wp2
        go_ret
        exact ⟨rfl, rfl⟩
end
section
variable (w : World) (s : ByteArray) (u : Nat) (hu : u ≤ 9223372036854775808) (hs : s.size = nd u + 1) (h45 : bt s 0 = 45) (hb : ∀ j : Nat, j < nd u → bt s (j + 1) = 48 + dgt u j) (h1 : 1 ≤ u)
include hu hs h45 hb h1
theorem zero_one : dgt u 0 ≠ 0 := by
  by_cases h : 2 ≤ nd u
  · exact first u h
  · have e : nd u = 1 := by have := nd_pos u; omega
    have := Lib.lt_pow_nDigits u
    unfold dgt
    rw [show Lib.nDigits u = 1 from e] at this
    rw [e]
    simp
    omega
set_option maxRecDepth 100000 in
theorem digits_neg : Calls Tryz.prog 102 #[.string s] w fun e w' => e = .returned (.bool true) ∧ w' = w := by
  have n1 := nd_pos u
  have n19 := nd_le u hu
  have h0 := bt_zero s h45
  have z := zero_one s u hu hs h45 hb h1
  obtain ⟨d, ed⟩ : ∃ d, d = s.extract 1 (nd u + 1) := ⟨_, rfl⟩
  have hds : d.size = nd u := by rw [ed, ByteArray.size_extract]; omega
  have hdb : ∀ j : Nat, j < nd u → bt d j = 48 + dgt u j := fun j hj => by rw [ed, bt_tail s (nd u) j hs hj]; exact hb j hj
  have H := Aside0.mk hdb
  have d0 := bt_zero d (hdb 0 (by omega))
  have hq : (((48 : Int) + (dgt u 0 : Int)) == 48) = false := ne_false (by omega)
  have hE := isE (s := d) (by omega)
  obtain ⟨N, eN⟩ : ∃ N, N = nd u := ⟨_, rfl⟩
  rw [← eN] at hs n1 n19 H hds ed
  clear hb h45 eN hdb z
  go_enter Tryz.func102, Tryz.ntmps102
  go_upto_region 4 with (fail)
  rw [← ed]
  clear ed h0
  go_wp2
  go_loop [4] (fun a => ∃ m : Nat, a = .int .i64 m ∧ m ≤ N) (fun a => N - (intOf a).toNat)
  case atStart => exact ⟨0, rfl, Nat.zero_le _⟩
  case round =>
    obtain ⟨m, rfl, hm2⟩ := hrel
    by_cases hml : (m : Int) < (N : Int)
    · obtain ⟨c, ec⟩ : ∃ c, c = bt d m := ⟨_, rfl⟩
      have hx := bt_nat d m ec.symm
      have hv := H.out m (by omega)
      have hd := dgt_lt u m
      have g1 : ¬ c < 48 := by omega
      have g2 : ¬ c > 57 := by omega
      clear hv ec
      have m0 : (0 : Int) ≤ m := by omega
      go_wp2
      refine ⟨⟨m + 1, by go_num, by omega⟩, ?_⟩
      simp [intOf]
      omega
    · go_wp2
      go_ret
      exact ⟨rfl, rfl⟩
end
set_option maxRecDepth 100000 in
theorem number_pos (w : World) (s : ByteArray) (u : Nat) (hu : u ≤ 9223372036854775807) (hs : s.size = nd u) (hb : ∀ j : Nat, j < nd u → bt s j = 48 + dgt u j) :
    Calls Tryz.prog 77 #[.string s] w fun e w' => e = .returned (.tuple #[.int .i64 u, .int .i64 0]) ∧ w' = w := by
  have D := Aside0.mk (digits_pos w s u (by omega) hs hb)
  have n1 := nd_pos u
  have n19 := nd_le u (by omega)
  have d0 := dgt_lt u 0
  have b0 := bt_zero s (hb 0 (by omega))
  have hm : (((48 : Int) + (dgt u 0 : Int)) == 45) = false := ne_false (by omega)
  have H := Aside0.mk hb
  have AC := Aside0.mk (acc_succ u)
  have AL := Aside0.mk (acc_le u)
  have AZ := Aside0.mk (acc_zero u)
  have AA := acc_all u
  obtain ⟨N, eN⟩ : ∃ N, N = nd u := ⟨_, rfl⟩
  rw [← eN] at hs n1 n19 H AC AA
  clear hb eN
  go_enter Tryz.func77, Tryz.ntmps77
  go_wp2_with (go_at_call 102; (with_reducible refine D.out.mono ?_); rintro e w' ⟨rfl, rfl⟩)
  go_loop [6, 7] (fun b a => ∃ m : Nat, a = .int .i64 m ∧ b = .int .u64 (acc u m) ∧ m ≤ N) (fun _ a => N - (intOf a).toNat)
  case atStart => exact ⟨0, rfl, by rw [AZ.out]; rfl, Nat.zero_le _⟩
  case round =>
    obtain ⟨m, rfl, rfl, hm2⟩ := hrel
    by_cases hml : (m : Int) < (N : Int)
    · have hx := bt_nat s m (H.out m (by omega))
      have hd := dgt_lt u m
      have ha := AC.out m (by omega)
      have hl := AL.out (m + 1)
      have m0 : (0 : Int) ≤ m := by omega
      have m19 : (m : Int) < 19 := by omega
      go_wp2
      refine ⟨⟨m + 1, by go_num, ?_, by omega⟩, ?_⟩
      · congr 1
        omega
      · simp [intOf]
        omega
    · obtain rfl : m = N := by omega
      rw [AA]
      have n19' : ¬ ((m : Int) > 19) := by omega
      have g1 : ¬ ((u : Int) > 9223372036854775808) := by omega
      have g2 : ((u : Int) == 9223372036854775808) = false := ne_false (by omega)
      go_wp2
      go_ret2
      exact ⟨rfl, rfl⟩
set_option maxRecDepth 100000 in
theorem number_neg (w : World) (s : ByteArray) (u : Nat) (hu : u ≤ 9223372036854775808) (hs : s.size = nd u + 1) (h45 : bt s 0 = 45) (hb : ∀ j : Nat, j < nd u → bt s (j + 1) = 48 + dgt u j) (h1 : 1 ≤ u) :
    Calls Tryz.prog 77 #[.string s] w fun e w' => e = .returned (.tuple #[.int .i64 (-(u : Int)), .int .i64 0]) ∧ w' = w := by
  have D := Aside0.mk (digits_neg w s u (by omega) hs h45 hb h1)
  have n1 := nd_pos u
  have n19 := nd_le u (by omega)
  have b0 := bt_zero s h45
  obtain ⟨d, ed⟩ : ∃ d, d = s.extract 1 (nd u + 1) := ⟨_, rfl⟩
  have hds : d.size = nd u := by rw [ed, ByteArray.size_extract]; omega
  have H := Aside0.mk (show ∀ j : Nat, j < nd u → bt d j = 48 + dgt u j from fun j hj => by rw [ed, bt_tail s (nd u) j hs hj]; exact hb j hj)
  have AC := Aside0.mk (acc_succ u)
  have AL := Aside0.mk (acc_le u)
  have AZ := Aside0.mk (acc_zero u)
  have AA := acc_all u
  obtain ⟨N, eN⟩ : ∃ N, N = nd u := ⟨_, rfl⟩
  rw [← eN] at hs n1 n19 H AC AA hds ed
  clear hb eN h45
  go_enter Tryz.func77, Tryz.ntmps77
  go_upto_region 7 with (go_at_call 102; (with_reducible refine D.out.mono ?_); rintro e w' ⟨rfl, rfl⟩)
  rw [← ed]
  clear ed b0
  go_wp2
  go_loop [6, 7] (fun b a => ∃ m : Nat, a = .int .i64 m ∧ b = .int .u64 (acc u m) ∧ m ≤ N) (fun _ a => N - (intOf a).toNat)
  case atStart => exact ⟨0, rfl, by rw [AZ.out]; rfl, Nat.zero_le _⟩
  case round =>
    obtain ⟨m, rfl, rfl, hm2⟩ := hrel
    by_cases hml : (m : Int) < (N : Int)
    · have hx := bt_nat d m (H.out m (by omega))
      have hd := dgt_lt u m
      have ha := AC.out m (by omega)
      have hl := AL.out (m + 1)
      have m0 : (0 : Int) ≤ m := by omega
      have m19 : (m : Int) < 19 := by omega
      go_wp2
      refine ⟨⟨m + 1, by go_num, ?_, by omega⟩, ?_⟩
      · congr 1
        omega
      · simp [intOf]
        omega
    · obtain rfl : m = N := by omega
      rw [AA]
      have n19' : ¬ ((m : Int) > 19) := by omega
      have g1 : ¬ ((u : Int) > 9223372036854775808) := by omega
      by_cases h : (u : Int) = 9223372036854775808
      · have g2 : ((u : Int) == 9223372036854775808) = true := beq_iff_eq.2 h
        rw [h] at g1 g2 ⊢
        go_wp2
        go_ret2
        refine ⟨?_, rfl⟩
        show Ending.returned (.tuple #[.int .i64 (wrap64 (-wrap64 9223372036854775808)), .int .i64 0]) = _
        rw [show wrap64 (-wrap64 9223372036854775808) = -9223372036854775808 by unfold wrap64; decide +kernel]
      · have g2 : ((u : Int) == 9223372036854775808) = false := ne_false h
        have g3 : (u : Int) < 9223372036854775808 := by omega
        go_wp2
        go_ret2
        exact ⟨rfl, rfl⟩
theorem number_num (w : World) (n : Int) (h0 : -9223372036854775808 ≤ n) (h1 : n ≤ 9223372036854775807) :
    Calls Tryz.prog 77 #[.string (num n)] w fun e w' => e = .returned (.tuple #[.int .i64 n, .int .i64 0]) ∧ w' = w := by
  by_cases h : 0 ≤ n
  · obtain ⟨u, rfl⟩ := Int.eq_ofNat_of_zero_le h
    obtain ⟨a, b⟩ := num_pos u
    exact number_pos w _ u (by omega) a b
  · obtain ⟨u, hu⟩ := Int.eq_ofNat_of_zero_le (show 0 ≤ -n by omega)
    obtain rfl : n = -(u : Int) := by omega
    obtain ⟨a, b, c⟩ := num_neg u (by omega)
    exact number_neg w _ u (by omega) a b c (by omega)
end Go.Proofs.YtocechpmgfhenaaGreatDoor.NU

namespace Go.Proofs.YtocechpmgfhenaaGreatDoor.SH
open Go.RowKit Go.Proofs.YtocechpmgfhenaaGreatDoorW.PrintWords Go.Proofs.YtocechpmgfhenaaGreatDoor.FM Go.Proofs.YtocechpmgfhenaaGreatDoor.CR Go.Proofs.YtocechpmgfhenaaGreatDoor.ST0
set_option linter.unusedVariables false
set_option linter.unusedSectionVars false
set_option linter.unusedSimpArgs false
def nmB (o : Nat) : ByteArray := ⟨(opsL.getD o ([], [])).1.toArray⟩
def haB (o : Nat) : ByteArray := ⟨(hasOf o).toArray⟩
theorem out_B {o : Nat} (h : o = 0 ∨ 16 ≤ o) : nmB o = ⟨#[]⟩ ∧ haB o = ⟨#[]⟩ := by
  rcases h with rfl | h
  · exact ⟨rfl, rfl⟩
  · have e : opsL.getD o ([], []) = ([], []) := by rw [List.getD_eq_getElem?_getD, List.getElem?_eq_none (by show 16 ≤ o; exact h)]; rfl
    unfold nmB haB hasOf
    rw [e]
    exact ⟨rfl, rfl⟩
set_option maxRecDepth 100000 in
theorem rest_c (w : World) (o : Nat) (h : o = 0 ∨ 11 ≤ o) : Calls Tryz.prog 76 #[.int .u8 o] w fun e w' => e = .returned (.tuple #[.string (nmB o), .string (haB o)]) ∧ w' = w := by
  by_cases h15 : 1 ≤ o ∧ o ≤ 15
  · obtain rfl | rfl | rfl | rfl | rfl : o = 11 ∨ o = 12 ∨ o = 13 ∨ o = 14 ∨ o = 15 := by omega
    all_goals
      go_enter Tryz.func76, Tryz.ntmps76
      go_wp2
      go_ret2
      exact ⟨rfl, rfl⟩
  · obtain ⟨e1, e2⟩ := out_B (o := o) (by omega)
    rw [e1, e2]
    have h1 : ((o : Int) == 11) = false := NU.ne_false (by omega)
    have h2 : ((o : Int) == 12) = false := NU.ne_false (by omega)
    have h3 : ((o : Int) == 13) = false := NU.ne_false (by omega)
    have h4 : ((o : Int) == 14) = false := NU.ne_false (by omega)
    have h5 : ((o : Int) == 15) = false := NU.ne_false (by omega)
    clear e1 e2
    go_enter Tryz.func76, Tryz.ntmps76
    go_wp2
    go_ret2
    exact ⟨rfl, rfl⟩
set_option maxHeartbeats 2000000 in
set_option maxRecDepth 100000 in
theorem shape_c (w : World) (o : Nat) : Calls Tryz.prog 49 #[.int .u8 o] w fun e w' => e = .returned (.tuple #[.string (nmB o), .string (haB o)]) ∧ w' = w := by
  by_cases h10 : 1 ≤ o ∧ o ≤ 10
  · obtain rfl | rfl | rfl | rfl | rfl | rfl | rfl | rfl | rfl | rfl : o = 1 ∨ o = 2 ∨ o = 3 ∨ o = 4 ∨ o = 5 ∨ o = 6 ∨ o = 7 ∨ o = 8 ∨ o = 9 ∨ o = 10 := by omega
    all_goals
      go_enter Tryz.func49, Tryz.ntmps49
      go_wp2_with (fail)
      go_ret2
      exact ⟨rfl, rfl⟩
  · have R := Aside0.mk (rest_c w o (by omega))
    have h1 : ((o : Int) == 1) = false := NU.ne_false (by omega)
    have h2 : ((o : Int) == 2) = false := NU.ne_false (by omega)
    have h3 : ((o : Int) == 3) = false := NU.ne_false (by omega)
    have h4 : ((o : Int) == 4) = false := NU.ne_false (by omega)
    have h5 : ((o : Int) == 5) = false := NU.ne_false (by omega)
    have h6 : ((o : Int) == 6) = false := NU.ne_false (by omega)
    have h7 : ((o : Int) == 7) = false := NU.ne_false (by omega)
    have h8 : ((o : Int) == 8) = false := NU.ne_false (by omega)
    have h9 : ((o : Int) == 9) = false := NU.ne_false (by omega)
    have h10' : ((o : Int) == 10) = false := NU.ne_false (by omega)
    clear h10
    go_enter Tryz.func49, Tryz.ntmps49
    go_wp2_with (go_at_call 76; (with_reducible refine R.out.mono ?_); rintro e w' ⟨rfl, rfl⟩)
    go_ret2
    exact ⟨rfl, rfl⟩
def partV (f1 f2 f3 f4 c : Int) : Int := if c = 97 then f1 else if c = 98 then f2 else if c = 99 then f3 else f4
theorem sizeI : (Tryz.prog.info? 46).map (·.size) = some 5 := by kernel_rfl
theorem ldI_run {w : World} {g : Nat} {cs : Array Value} (hg : w.heap[g]? = some (.cells cs 46 (0, 0))) (hs : cs.size = 5) : (loadVar 46 ⟨g, 0, none⟩).run Tryz.prog w = .ok (.agg cs) w :=
  run_loadVar_row (P := Tryz.prog) w g 46 46 cs (0, 0) _ hg Tryz.underlying46 rfl (by rw [sizeI, hs])
section
variable {ops : Array Oper} {rest : List Oper} {o : Oper} {a : Act} {w w' : World} {Q : Exit → Act → World → Prop} {x y : Operand} {g : Nat} {cs old : Array Value}
theorem ldI (ho : o.op = .load 46 x) (hgd : o.guard = none) (hx : a.eval x = .pointer (some ⟨g, 0, none⟩)) (hg : w.heap[g]? = some (.cells cs 46 (0, 0))) (hs : cs.size = 5)
    (h : wpList Tryz.prog ops Q rest (a.put o.dst (.agg cs)) w) : wpList Tryz.prog ops Q (o :: rest) a w :=
  wpList_load_row hgd 46 x ho g hx 46 cs (0, 0) _ hg Tryz.underlying46 rfl (by rw [sizeI, hs]) h
theorem srI (ho : o.op = .store 46 x y) (hgd : o.guard = none) (hx : a.eval x = .pointer (some ⟨g, 0, none⟩)) (hy : a.eval y = .agg cs) (hg : w.heap[g]? = some (.cells old 46 (0, 0)))
    (hs : cs.size = 5) (hs' : old.size = 5) (h1 : cs.toList.all (·.oneCell') = true) (hw : w.setRow g cs = w')
    (h : wpList Tryz.prog ops Q rest (a.put o.dst undef) w') : wpList Tryz.prog ops Q (o :: rest) a w := by
  subst hw
  exact wpList_store_row hgd 46 x y ho g cs hx hy 46 old hg (by rw [sizeI, hs]) (by rw [hs, hs']) (by rw [← Array.all_toList]; exact h1) h
end
theorem ret2I {fn : Func} {R : Ending → World → Prop} {a : Act} {w : World} {p q : Tmp} {g : Nat} {cs : Array Value} {v : Value} (h : fn.results = #[.cell p 46, .tmp q]) (hd : a.defers = []) (hp : a.tmps.getD p undef = .pointer (some ⟨g, 0, none⟩))
    (hq : a.tmps.getD q undef = v) (hg : w.heap[g]? = some (.cells cs 46 (0, 0))) (hs : cs.size = 5) (hR : R (.returned (.tuple #[.agg cs, v])) w) : bodyPost Tryz.prog fn R .ret a w := by
  refine bodyPost_ret ?_ hd hR
  have hp' : a.tmps[p]?.getD undef = .pointer (some ⟨g, 0, none⟩) := by simpa using hp
  have hq' : a.tmps[q]?.getD undef = v := by simpa using hq
  simp [results, h, hp', hq', asAddr, ldI_run hg hs]
def wA (c n f : Int) : Int := if c = 97 then n else f
def wB (c n f : Int) : Int := if c = 98 then n else f
def wC (c n f : Int) : Int := if c = 99 then n else f
def wN (c n f : Int) : Int := if c = 110 then n else f
set_option maxRecDepth 100000 in
theorem with_c (w : World) (f0 f1 f2 f3 f4 c n : Int) (hc : c = 97 ∨ c = 98 ∨ c = 99 ∨ c = 110) (hn : c = 110 ∨ (0 ≤ n ∧ n ≤ 255)) :
    Calls Tryz.prog 78 #[.agg #[.int .u8 f0, .int .u8 f1, .int .u8 f2, .int .u8 f3, .int .i64 f4], .int .u8 c, .int .i64 n] w fun e w' => e = .returned (.tuple #[.agg #[.int .u8 f0, .int .u8 (wA c n f1), .int .u8 (wB c n f2), .int .u8 (wC c n f3), .int .i64 (wN c n f4)], .bool true]) ∧ Below w.heap.size w w' := by
  rcases hc with rfl | rfl | rfl | rfl
  case' inr.inr.inr => clear hn
  case' inl => have n0 : ¬ n < 0 := by omega
  case' inl => have n1 : ¬ n > 255 := by omega
  case' inr.inl => have n0 : ¬ n < 0 := by omega
  case' inr.inl => have n1 : ¬ n > 255 := by omega
  case' inr.inr.inl => have n0 : ¬ n < 0 := by omega
  case' inr.inr.inl => have n1 : ¬ n > 255 := by omega
  all_goals
    simp only [wA, wB, wC, wN, Int.reduceEq, reduceIte]
    go_enter Tryz.func78, Tryz.ntmps78
    go_wp2
    refine ret2I rfl rfl rfl rfl rowT rfl ⟨rfl, ?_⟩
    repeat (first | exact Below.refl _ _ | refine below_alloc ?_ _)
end Go.Proofs.YtocechpmgfhenaaGreatDoor.SH

namespace Go.Proofs.YtocechpmgfhenaaGreatDoor.SH
open Go.RowKit Go.Proofs.YtocechpmgfhenaaGreatDoorW.PrintWords Go.Proofs.YtocechpmgfhenaaGreatDoor.FM Go.Proofs.YtocechpmgfhenaaGreatDoor.CR Go.Proofs.YtocechpmgfhenaaGreatDoor.ST0
set_option linter.unusedVariables false
set_option linter.unusedSectionVars false
set_option linter.unusedSimpArgs false
def lV (o : Nat) (f1 f2 f3 f4 : Int) : List ByteArray := nmB o :: (hasOf o).map fun c => num (partV f1 f2 f3 f4 c.toNat)
theorem lV_len (o : Nat) (f1 f2 f3 f4 : Int) : (lV o f1 f2 f3 f4).length = (haB o).size + 1 := by
  show (List.map _ _).length + 1 = _
  rw [List.length_map]
  rfl
def gk (o k : Nat) (c : UInt8) (f : Int) : Int := if c ∈ (hasOf o).take k then f else 0
theorem nm_ne {m o : Nat} (h : m < o) (ho : o ≤ 15) : nmB o ≠ nmB m := by
  have : ∀ o : Fin 16, ∀ m : Fin 16, m < o → nmB o ≠ nmB m := by decide +kernel
  exact this ⟨o, by omega⟩ ⟨m, by omega⟩ h
theorem ha_mem : ∀ o : Fin 16, ∀ c ∈ hasOf o, c = 97 ∨ c = 98 ∨ c = 99 ∨ c = 110 := by decide +kernel
theorem ha_len : ∀ o : Fin 16, (hasOf o).length ≤ 3 ∧ (hasOf o).Nodup := by decide +kernel
theorem toList_inj {a b : ByteArray} (h : a.toList = b.toList) : a = b := by
  rw [ByteArray.toList_eq, ByteArray.toList_eq] at h
  obtain ⟨⟨a⟩⟩ := a
  obtain ⟨⟨b⟩⟩ := b
  simp at h
  rw [h]
theorem gk_succ (o k : Nat) (c x : UInt8) (f : Int) (h : (hasOf o)[k]? = some x) : gk o (k + 1) c f = if x = c then f else gk o k c f := by
  obtain ⟨hk, e⟩ := List.getElem?_eq_some_iff.1 h
  have e2 : (hasOf o).take (k + 1) = (hasOf o).take k ++ [x] := by rw [List.take_add_one, h]; rfl
  unfold gk
  rw [e2]
  by_cases hc : x = c
  · rw [if_pos hc, if_pos (by simp [hc])]
  · rw [if_neg hc]
    have : (c ∈ List.take k (hasOf o) ++ [x]) ↔ c ∈ List.take k (hasOf o) := by simp [show ¬ c = x from fun e => hc e.symm]
    simp only [this]
def gI (o k : Nat) (f1 f2 f3 f4 : Int) : Array Value := #[.int .u8 o, .int .u8 (gk o k 97 f1), .int .u8 (gk o k 98 f2), .int .u8 (gk o k 99 f3), .int .i64 (gk o k 110 f4)]
theorem gI_succ (o k : Nat) (f1 f2 f3 f4 : Int) (x : UInt8) (h : (hasOf o)[k]? = some x) (hx : x = 97 ∨ x = 98 ∨ x = 99 ∨ x = 110) :
    #[Value.int .u8 o, .int .u8 (wA x.toNat (partV f1 f2 f3 f4 x.toNat) (gk o k 97 f1)), .int .u8 (wB x.toNat (partV f1 f2 f3 f4 x.toNat) (gk o k 98 f2)), .int .u8 (wC x.toNat (partV f1 f2 f3 f4 x.toNat) (gk o k 99 f3)), .int .i64 (wN x.toNat (partV f1 f2 f3 f4 x.toNat) (gk o k 110 f4))] = gI o (k + 1) f1 f2 f3 f4 := by
  unfold gI
  rw [gk_succ o k 97 x f1 h, gk_succ o k 98 x f2 h, gk_succ o k 99 x f3 h, gk_succ o k 110 x f4 h]
  rcases hx with rfl | rfl | rfl | rfl
  all_goals simp [wA, wB, wC, wN, partV]
section
variable (w : World) (o : Nat) (f1 f2 f3 f4 : Int) (h1 : 1 ≤ o) (h15 : o ≤ 15) (b1 : 0 ≤ f1 ∧ f1 ≤ 255) (b2 : 0 ≤ f2 ∧ f2 ≤ 255) (b3 : 0 ≤ f3 ∧ f3 ≤ 255) (b4 : -9223372036854775808 ≤ f4 ∧ f4 ≤ 9223372036854775807)
  (A : Option Addr) (c : Nat) (hL : Kd.C Kd.string w A (lV o f1 f2 f3 f4).length (lV o f1 f2 f3 f4)) (hc : (lV o f1 f2 f3 f4).length ≤ c)
include h1 h15 b1 b2 b3 b4 hL hc
set_option maxHeartbeats 40000000 in
set_option maxRecDepth 100000 in
theorem read_c : Calls Tryz.prog 50 #[.slice A (lV o f1 f2 f3 f4).length c] w fun e w' =>
    e = .returned (.tuple #[.agg #[.int .u8 o, .int .u8 (gk o 3 97 f1), .int .u8 (gk o 3 98 f2), .int .u8 (gk o 3 99 f3), .int .i64 (gk o 3 110 f4)], .bool true]) ∧ Below w.heap.size w w' := by
  have hl3 := ha_len ⟨o, by omega⟩
  simp only at hl3
  obtain ⟨S, eS⟩ : ∃ S, S = (haB o).size := ⟨_, rfl⟩
  obtain ⟨L, eL⟩ : ∃ L, L = (lV o f1 f2 f3 f4).length := ⟨_, rfl⟩
  obtain rfl : L = S + 1 := by rw [eL, eS]; exact lV_len o f1 f2 f3 f4
  have S3 : S ≤ 3 := by rw [eS]; exact hl3.1
  obtain ⟨ad, rfl, hx⟩ : ∃ ad, A = some ad ∧ ∀ j : Nat, j < S + 1 → w.cell? (ad.add j) = some (.string ((lV o f1 f2 f3 f4).getD j ByteArray.empty)) := by
    obtain ⟨_, _, h3⟩ := Kd.reads_of_C (d := ByteArray.empty) hL
    obtain ⟨ad, e, h4⟩ := h3 (by omega)
    exact ⟨ad, e, fun j hj => h4 j (by omega)⟩
  have hS := eS.symm
  have HL := Aside0.mk hL
  have HX := Aside0.mk hx
  rw [← eL] at hc ⊢
  clear hL hx eL eS
  obtain ⟨Z, hZ⟩ : ∃ Z : World, Z = w.alloc (.cells #[.int .u8 0, .int .u8 0, .int .u8 0, .int .u8 0, .int .i64 0] 46) := ⟨_, rfl⟩
  have zZ : Z.heap.size = w.heap.size + 1 := by rw [hZ]; simp
  have HZ := Aside0.mk (show Below w.heap.size w Z by rw [hZ]; exact below_alloc (Below.refl _ _) _)
  have RZ := Aside0.mk (show Z.heap[w.heap.size]? = some (.cells #[.int .u8 0, .int .u8 0, .int .u8 0, .int .u8 0, .int .i64 0] 46 (0, 0)) by rw [hZ]; exact heap_alloc_new _ _)
  have HX := Aside0.mk (show ∀ j : Nat, j < S + 1 → ∀ W, Below Z.heap.size Z W → W.cell? (ad.add j) = some (.string ((lV o f1 f2 f3 f4).getD j ByteArray.empty)) from fun j hj W hW => by
    have h1 := HX.out j hj
    have h2 := HZ.out.cell (World.block_lt_of_cell? w _ h1)
    have h3 := hW.cell (p := ad.add j) (by have := World.block_lt_of_cell? w _ h1; omega)
    rw [h3, h2, h1])
  go_enter Tryz.func50, Tryz.ntmps50
  go_wp2
  rw [← hZ]
  clear hZ
  go_loopw [4] (fun a wr => ∃ m : Nat, a = .int .u8 m ∧ 1 ≤ m ∧ m ≤ o ∧ Z = wr) (fun a _ => 16 - (intOf a).toNat)
  case atStart => exact ⟨1, rfl, by omega, h1, rfl⟩
  case round =>
    obtain ⟨m, rfl, hm1, hmo, hZw⟩ := hrel
    rw [← hZw]
    clear hZw
    have m15 : (m : Int) ≤ 15 := by omega
    have hc0 : Z.cell? ad = some (.string (nmB o)) := by
      have := HX.out 0 (by omega) Z (Below.refl _ _)
      rw [Addr.add_zero'] at this
      exact this
    by_cases hlt : m < o
    · have hne : ¬ (nmB o).toList = (nmB m).toList := fun e => nm_ne hlt h15 (toList_inj e)
      go_wp2_with (go_at_call 49; (with_reducible refine (shape_c _ m).mono ?_); rintro e w' ⟨rfl, hw'⟩; rw [hw']; clear hw')
      refine ⟨⟨m + 1, by go_num, by omega, by omega, trivial⟩, ?_⟩
      simp [intOf]
      omega
    · obtain rfl : m = o := by omega
      go_wp2_with (go_at_call 49; (with_reducible refine (shape_c _ m).mono ?_); rintro e w' ⟨rfl, hw'⟩; rw [hw']; clear hw')
      have hst := Aside0.mk (And.intro (below_alloc (Below.refl _ Z) (.cells #[.int .u8 m, .int .u8 0, .int .u8 0, .int .u8 0, .int .i64 0] 46)) (row_new Z #[.int .u8 m, .int .u8 0, .int .u8 0, .int .u8 0, .int .i64 0] 46 (i := w.heap.size + 1) (by rw [zZ])))
      go_loopw [8] (fun a wr => ∃ k : Nat, a = .int .i64 k ∧ k ≤ S ∧ Below Z.heap.size Z wr ∧ wr.heap[w.heap.size + 1]? = some (.cells (gI m k f1 f2 f3 f4) 46 (0, 0))) (fun a _ => S - (intOf a).toNat)
      case atStart => exact ⟨0, rfl, Nat.zero_le _, hst.out.1, hst.out.2⟩
      case round =>
        obtain ⟨k, rfl, hk, hbW, hrow⟩ := hrel
        obtain ⟨W, hW⟩ : ∃ x : World, x = wr := ⟨_, rfl⟩
        subst hW
        have HBW := Aside0.mk hbW
        have HR := Aside0.mk hrow
        have k0 : (0 : Int) ≤ k := by omega
        by_cases hlt : (k : Int) < (S : Int)
        · obtain ⟨x, hxk⟩ : ∃ x, (hasOf m)[k]? = some x := ⟨_, List.getElem?_eq_getElem (by have : (hasOf m).length = S := hS; omega)⟩
          have hx4 := ha_mem ⟨m, by omega⟩ x (List.mem_of_getElem? hxk)
          have hbx := NU.bt_nat (haB m) k (NU.bt_mk (hasOf m) k x hxk)
          have hcell : W.cell? (ad.add (k + 1)) = some (.string (num (partV f1 f2 f3 f4 x.toNat))) := by
            rw [HX.out (k + 1) (by omega) W hbW]
            unfold lV
            rw [List.getD_cons_succ, List.getD_eq_getElem?_getD, List.getElem?_map, hxk]
            rfl
          obtain ⟨n, en⟩ : ∃ n, n = partV f1 f2 f3 f4 x.toNat := ⟨_, rfl⟩
          have hn : -9223372036854775808 ≤ n ∧ n ≤ 9223372036854775807 ∧ (x = 110 ∨ (0 ≤ n ∧ n ≤ 255)) := by
            rw [en]
            rcases hx4 with rfl | rfl | rfl | rfl
            · show _ ≤ f1 ∧ f1 ≤ _ ∧ (_ ∨ 0 ≤ f1 ∧ f1 ≤ 255); omega
            · show _ ≤ f2 ∧ f2 ≤ _ ∧ (_ ∨ 0 ≤ f2 ∧ f2 ≤ 255); omega
            · show _ ≤ f3 ∧ f3 ≤ _ ∧ (_ ∨ 0 ≤ f3 ∧ f3 ≤ 255); omega
            · show _ ≤ f4 ∧ f4 ≤ _ ∧ ((110 : UInt8) = 110 ∨ _); exact ⟨by omega, by omega, .inl rfl⟩
          rw [← en, Addr.add_succ'] at hcell
          have HXK := Aside0.mk hxk
          have HX4 := Aside0.mk hx4
          have HN := Aside0.mk hn
          have EN := Aside0.mk en
          clear hxk hx4 hn en
          go_upto_region 11 with (first
            | (go_at_call 77; (with_reducible refine (NU.number_num _ n HN.out.1 HN.out.2.1).mono ?_); rintro e w' ⟨rfl, rfl⟩))
          have C4 := Aside0.mk (show (x.toNat : Int) = 97 ∨ (x.toNat : Int) = 98 ∨ (x.toNat : Int) = 99 ∨ (x.toNat : Int) = 110 by rcases HX4.out with rfl | rfl | rfl | rfl <;> simp)
          have N4 := Aside0.mk (show (x.toNat : Int) = 110 ∨ (0 ≤ n ∧ n ≤ 255) by rcases HN.out.2.2 with rfl | h; exact .inl rfl; exact .inr h)
          have hx0 := HR.out
          have ki := fun j => cell_of_row w' (w.heap.size + 1) j _ _ _ hx0
          unfold gI at ki
          clear hx0
          have zB : w.heap.size + 1 < w'.heap.size := blk_lt HR.out
          have zC : ¬ w.heap.size + 1 = w'.heap.size := by omega
          have zD : ¬ w'.heap.size = w.heap.size + 1 := by omega
          have EG := Aside0.mk (gI_succ m k f1 f2 f3 f4 x HXK.out HX4.out)
          rw [← EN.out] at EG
          have HGO : Aside0 (Value.int .i64 ((k : Int) + 1) = .int .i64 ((k + 1 : Nat) : Int)) := ⟨by go_num⟩
          have HK1 : Aside0 (k + 1 ≤ S) := ⟨by omega⟩
          have HZ1 : Aside0 (Z.heap.size ≤ w.heap.size + 1) := ⟨by omega⟩
          have HZ2 : Aside0 (Z.heap.size ≤ w'.heap.size) := ⟨by omega⟩
          have HMS : Aside0 (S - (intOf (.int .i64 ((k : Int) + 1))).toNat < S - (intOf (.int .i64 (k : Int))).toNat) := ⟨by
            simp [intOf]
            omega⟩
          go_region_with (go_at_call 78; (with_reducible refine (with_c _ m (gk m k 97 f1) (gk m k 98 f2) (gk m k 99 f3) (gk m k 110 f4) x.toNat n C4.out N4.out).mono ?_); rintro e w2 ⟨rfl, hb2⟩; have r2 := (hb2.block (w.heap.size + 1) (by have := blk_lt HR.out; simp <;> omega)).trans (by first | exact row_drew HR.out | exact row_old _ _ _ (blk_lt HR.out) (row_drew HR.out)); unfold gI at r2; have z2 := blk_lt r2; (try have rz := (hb2.block w'.heap.size (by simp; done)).trans (row_new w'.drew _ _ rfl)); (try have kz := fun j => cell_of_row w2 w'.heap.size j _ _ _ rz); (try have fz := fun j => frozen_of_row w2 w'.heap.size j _ _ rz); have HB2 := Aside0.mk hb2; clear hb2)
          all_goals
            go_wp2_with (first
              | (apply ldI; (with_reducible rfl); rfl; rfl; exact rowT; rfl)
              | (apply srI; (with_reducible rfl); rfl; rfl; rfl; exact rowT; rfl; rfl; rfl; exact setT))
          all_goals
            refine ⟨⟨k + 1, HGO.out, HK1.out, ?_, ?_⟩, HMS.out⟩
            · refine below_row ?_ HZ1.out
              have hZ2 : Below Z.heap.size Z w2 := below_step (by repeat (first | exact HBW.out | refine below_alloc ?_ _ | refine below_drew1 ?_)) HB2.out
              repeat (first | exact hZ2 | (with_reducible refine below_alloc ?_ _) | (with_reducible refine Below.setCell ?_ HZ2.out _))
            · rw [← EG.out]
              first
                | (with_reducible exact row_setS (row_old _ _ _ z2 r2))
                | exact row_setS (row_cellO _ _ zC (row_cellO _ _ zC (row_cellO _ _ zC (row_cellO _ _ zC (row_cellO _ _ zC r2)))))
        · obtain rfl : k = S := by omega
          have rz := (hbW.block w.heap.size (by omega)).trans RZ.out
          have eI : gI m k f1 f2 f3 f4 = #[.int .u8 m, .int .u8 (gk m 3 97 f1), .int .u8 (gk m 3 98 f2), .int .u8 (gk m 3 99 f3), .int .i64 (gk m 3 110 f4)] := by
            have hk3 : (hasOf m).length ≤ k := by have : (hasOf m).length = k := hS; omega
            unfold gI gk
            rw [List.take_of_length_le hk3, List.take_of_length_le (show (hasOf m).length ≤ 3 by omega)]
          rw [eI] at hrow
          have hb9 := Aside0.mk (below_step HZ.out HBW.out)
          clear hbW HR eI
          go_wp2_with (first
            | (apply ldI; (with_reducible rfl); rfl; rfl; exact rowT; rfl)
            | (apply srI; (with_reducible rfl); rfl; rfl; rfl; exact rowT; rfl; rfl; rfl; rfl))
          refine ret2I rfl rfl rfl rfl (row_setS rz) rfl ⟨rfl, below_row hb9.out (Nat.le_refl _)⟩
end
end Go.Proofs.YtocechpmgfhenaaGreatDoor.SH

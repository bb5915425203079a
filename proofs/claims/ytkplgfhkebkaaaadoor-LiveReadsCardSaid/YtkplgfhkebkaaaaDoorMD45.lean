/- Texts of this claim, pruned to what it needs and laid together by prune.py. -/
import Derived.Test.YtkplgfhkebkaaaaDoorMD41
import Derived.Outline
import Derived.Deep.LoopGhost
import Derived.RegionTactic
import Derived.BigRegion
import Derived.BigQuiet
import Derived.Deep.QuietTactic
import Derived.Test.YtkplgfhkebkaaaaDoorMD43
namespace Go.Proofs.YtkplgfhkebkaaaaDoor.ST
open Go.RowKit Go.Proofs.YtkplgfhkebkaaaaDoorW.PrintWords Go.Proofs.YtkplgfhkebkaaaaDoor.Scan Go.Proofs.YtkplgfhkebkaaaaDoor.F Go.Proofs.YtkplgfhkebkaaaaDoor.FM Go.Proofs.YtkplgfhkebkaaaaDoor.H Go.Proofs.YtkplgfhkebkaaaaDoor.KP Go.Proofs.YtkplgfhkebkaaaaDoor.TT Go.Proofs.YtkplgfhkebkaaaaDoor.NX Go.Proofs.YtkplgfhkebkaaaaDoor.FP Go.Proofs.YtkplgfhkebkaaaaDoor.FL Go.Proofs.YtkplgfhkebkaaaaDoor.B8 Go.Proofs.YtkplgfhkebkaaaaDoor.LB Go.Proofs.YtkplgfhkebkaaaaDoor.LG Go.Proofs.YtkplgfhkebkaaaaDoor.GL Go.Proofs.YtkplgfhkebkaaaaDoor.LL Go.Proofs.YtkplgfhkebkaaaaDoor.V
set_option linter.unusedVariables false
set_option linter.unusedSectionVars false
set_option linter.unusedSimpArgs false
def jm (z : S8) (J : Nat → Int) (L : Nat) (n : Nat → Int) (m : Nat) : Nat → Int := fun j => if j < m ∧ z.getLsbD j = false then (J j) % ((L : Int) + 1) else n j
theorem jm_zero (z : S8) (J : Nat → Int) (L : Nat) (n : Nat → Int) : jm z J L n 0 = n := by
  funext j
  exact if_neg (by omega)
theorem jm_keep {z : S8} {J : Nat → Int} {L : Nat} {n : Nat → Int} {m : Nat} (h : z.getLsbD m = true) : jm z J L n (m + 1) = jm z J L n m := by
  funext j
  unfold jm
  by_cases e : j = m
  · subst e
    rw [if_neg (by rw [h]; simp), if_neg (by omega)]
  · by_cases e2 : j < m
    · simp [e2, show j < m + 1 from by omega]
    · simp [e2, show ¬ j < m + 1 from by omega]
theorem jm_cut {z : S8} {J : Nat → Int} {L : Nat} {n : Nat → Int} {m : Nat} (h : z.getLsbD m = false) : jm z J L n (m + 1) = upd (jm z J L n m) m ((J m) % ((L : Int) + 1)) := by
  funext j
  unfold jm upd
  by_cases e : j = m
  · subst e
    rw [if_pos ⟨by omega, h⟩, if_pos rfl]
  · rw [if_neg e]
    by_cases e2 : j < m
    · simp [e2, show j < m + 1 from by omega]
    · simp [e2, show ¬ j < m + 1 from by omega]
def junkS (z : S8) (J : Nat → Int) (s : PS) : PS := { s with n := fun k => if 8 ≤ k ∧ k < 16 then jm z J s.objs.length (fun j => s.n (8 + j)) 8 (k - 8) else s.n k }
theorem junk_p (z : S8) (J : Nat → Int) (s : PS) {j : Nat} (h : j < 8) : (junkS z J s).n (8 + j) = jm z J s.objs.length (fun j => s.n (8 + j)) 8 j := by
  show (if 8 ≤ 8 + j ∧ 8 + j < 16 then _ else _) = _
  rw [if_pos ⟨by omega, by omega⟩, show 8 + j - 8 = j by omega]
theorem junk_lo (z : S8) (J : Nat → Int) (s : PS) {k : Nat} (h : k < 8) : (junkS z J s).n k = s.n k := if_neg (by omega)
theorem junk_hi (z : S8) (J : Nat → Int) (s : PS) {k : Nat} (h : 16 ≤ k) : (junkS z J s).n k = s.n k := if_neg (by omega)
theorem junk_in (z : S8) (J : Nat → Int) (s : PS) {a : Nat} (ha : a < 8) (h : z.getLsbD a = true) : (junkS z J s).n (8 + a) = s.n (8 + a) := by
  rw [junk_p z J s ha]
  exact if_neg (by rw [h]; simp)
theorem Alk.junk (z : S8) (J : Nat → Int) (s : PS) : Alk z s (junkS z J s) :=
  ⟨fun k hk => (junk_lo z J s hk).symm, fun k hk => (junk_hi z J s (by omega)).symm, fun a ha hb => (junk_in z J s ha hb).symm, rfl, rfl, rfl, rfl⟩
theorem put_junk (z : S8) (J : Nat → Int) (s : PS) (O T : Value) (pc st : Int) : putAt (stA s.n O T pc st) 8 (v8 fun j => (junkS z J s).n (8 + j)) = stA (junkS z J s).n O T pc st := by
  have e : ∀ n : Nat → Int, (∀ k, k < 8 → s.n k = n k) → (∀ k, 16 ≤ k → s.n k = n k) → putAt (stA s.n O T pc st) 8 (v8 fun j => n (8 + j)) = stA n O T pc st := fun n h1 h2 => by
    unfold stA
    rw [h1 0 (by omega), h1 1 (by omega), h1 2 (by omega), h1 3 (by omega), h1 4 (by omega), h1 5 (by omega), h1 6 (by omega), h1 7 (by omega), h2 16 (by omega), h2 17 (by omega), h2 18 (by omega), h2 19 (by omega)]
    simp only [putAt, v8, List.setIfInBounds_toArray, List.set_cons_succ, List.set_cons_zero, Nat.reduceAdd]
  exact e _ (fun k hk => (junk_lo z J s hk).symm) (fun k hk => (junk_hi z J s hk).symm)
theorem LW.next2 {Ws wr W2 w5 w7 : World} {s u : PS} {cs cs' : Array Value} (h : LW Ws wr s cs) (hW : Below wr.heap.size wr W2) (hb : Below W2.heap.size W2 w5) (hu : IsS w5 (fun k => k ≠ Ws.heap.size ∨ W2.heap.size ≤ k) u cs') (h7 : Below w5.heap.size w5 w7) :
    LW Ws (w7.setRow Ws.heap.size cs') u cs' := by
  have hlt : Ws.heap.size < wr.heap.size := (Array.getElem?_eq_some_iff.1 h.row).1
  have z1 := hW.size
  have z2 := hb.size
  have z3 := h7.size
  have hA := below_step hW (below_step hb h7)
  refine ⟨below_row (below_step h.below hA) (Nat.le_refl _), setRow_heap _ _ _ _ _ _ ((hA.block _ hlt).trans h.row), ?_⟩
  refine (hu.step fun k hk hl => ⟨?_, ?_⟩).mono fun k hk => (by rcases hk with hk | hk <;> omega)
  · exact (setRow_other _ _ k _ (by rcases hk with hk | hk <;> omega)).trans (h7.block _ hl)
  · simp [World.setRow]
    omega
section
variable (w : World) (A0 : Option Addr) (c0 : Nat) (ts : List ByteArray) (la gl : ByteArray) (A3 : Option Addr) (c3 : Nat) (code : List S47)
  (hT : Kd.C Kd.string w A0 ts.length ts) (hc0 : ts.length ≤ c0) (hC : Kd.C k47 w A3 code.length code) (hc3 : code.length ≤ c3) (htab : TB w)
  (hl : (ts.length : Int) ≤ 9223372036854775807) (hsz : ∀ s ∈ ts, (s.size : Int) ≤ 9223372036854775807) (hla : Fit la) (hgl : Fit gl) (hw : WfC code) (many : Nat) (hm : many ≤ 255) (J : Nat → Int) (hJ : ∀ j, j < 8 → 0 ≤ J j ∧ J j ≤ 255)
include hT hc0 hC hc3 htab hl hsz hla hgl hw hm hJ
set_option maxHeartbeats 2000000 in
set_option maxRecDepth 100000 in
theorem LiveReads_no (ks ka : Nat) (hS : lockstitchlaw07_Sound.f ks ts la gl code = some false) (hA : lockstitchlaw08_alive.f ka = some true) :
    Calls Tryd.prog 5 #[.agg #[.slice A0 ts.length c0, .string la, .string gl, .slice A3 code.length c3], .int .u8 many, .agg #[.int .u8 (J 0), .int .u8 (J 1), .int .u8 (J 2), .int .u8 (J 3), .int .u8 (J 4), .int .u8 (J 5), .int .u8 (J 6), .int .u8 (J 7)]] w fun e w' => e = .returned (.bool true) ∧ Below w.heap.size w w' := by
  have HT := Aside0.mk hT
  have HC := Aside0.mk hC
  have HTB := Aside0.mk htab
  have HS := Aside0.mk hS
  have HA := Aside0.mk hA
  clear hT hC htab hS hA
  go_enter Tryd.func5, Tryd.ntmps5
  go_wp2_with (first
    | (go_at_call 8; (with_reducible refine (lockstitchlaw07_Sound.calls ks A0 c0 ts la gl A3 c3 code false _ (Kd.C_alloc (Kd.C_alloc HT.out _) _) hc0 (Kd.C_alloc (Kd.C_alloc HC.out _) _) hc3 HS.out (TB_below HTB.out (below_alloc (below_alloc (Below.refl _ _) _) _))).mono ?_); rintro e w1 ⟨rfl, hb1⟩; have HB1 := Aside0.mk (below_step (below_alloc (below_alloc (Below.refl _ _) _) _) hb1); clear hb1)
    | (go_at_call 14; (with_reducible refine (lockstitchlaw08_alive.calls ka true _ HA.out).mono ?_); rintro e w2 ⟨rfl, hb2⟩; have HB2 := Aside0.mk hb2; clear hb2))
  go_ret
  exact ⟨rfl, below_step HB1.out HB2.out⟩
set_option maxHeartbeats 8000000 in
set_option maxRecDepth 100000 in
theorem LiveReads_yes (ks ka kc : Nat) (ck : Int) (hS : lockstitchlaw07_Sound.f ks ts la gl code = some true) (hA : lockstitchlaw08_alive.f ka = some true) (hsp : SP ts la gl code) (hK : lockstitchref05_Check.f kc ts la gl code = some (ck, 0)) :
    Calls Tryd.prog 5 #[.agg #[.slice A0 ts.length c0, .string la, .string gl, .slice A3 code.length c3], .int .u8 many, .agg #[.int .u8 (J 0), .int .u8 (J 1), .int .u8 (J 2), .int .u8 (J 3), .int .u8 (J 4), .int .u8 (J 5), .int .u8 (J 6), .int .u8 (J 7)]] w fun e w' => e = .returned (.bool true) ∧ Below w.heap.size w w' := by
  have HT := Aside0.mk hT
  have HC := Aside0.mk hC
  have HTB := Aside0.mk htab
  have HS := Aside0.mk hS
  have HA := Aside0.mk hA
  have HK := Aside0.mk hK
  have HSP := Aside0.mk hsp
  have hcs := hsp.small
  have hlo := hsp.locals
  clear hT hC htab hS hA hK hsp
  go_enter Tryd.func5, Tryd.ntmps5
  go_wp2_with (first
    | (go_at_call 8; (with_reducible refine (lockstitchlaw07_Sound.calls ks A0 c0 ts la gl A3 c3 code true _ (Kd.C_alloc (Kd.C_alloc HT.out _) _) hc0 (Kd.C_alloc (Kd.C_alloc HC.out _) _) hc3 HS.out (TB_below HTB.out (below_alloc (below_alloc (Below.refl _ _) _) _))).mono ?_); rintro e w1 ⟨rfl, hb1⟩; have HB1 := Aside0.mk (below_step (below_alloc (below_alloc (Below.refl _ _) _) _) hb1); have HX1 := Aside0.mk ((hb1.block w.heap.size (by simp; omega)).trans (row_old _ _ _ (by simp) (heap_alloc_new w _))); have HJ1 := Aside0.mk ((hb1.block (w.heap.size + 1) (by simp)).trans (row_new _ _ _ (by simp))); clear hb1)
    | (go_at_call 14; (with_reducible refine (lockstitchlaw08_alive.calls ka true _ HA.out).mono ?_); rintro e w3 ⟨rfl, hb2⟩; have HB3 := Aside0.mk (below_step HB1.out hb2); have HX3 := Aside0.mk ((hb2.block w.heap.size (blk_lt HX1.out)).trans HX1.out); have HJ3 := Aside0.mk ((hb2.block (w.heap.size + 1) (blk_lt HJ1.out)).trans HJ1.out); clear hb2))
  have hB := HB3.out
  have hX := HX3.out
  have hJX := HJ3.out
  have hLT := Aside0.mk (LW.start w3)
  clear HB1 HX1 HJ1
  go_outline
  go_loopw [30] (fun i wr => ∃ (k : Nat) (s : PS) (cs : Array Value), i = .int .i64 k ∧ k ≤ many ∧ LW w3 wr s cs ∧ SInv ts la gl code k s) (fun i _ => many - (intOf i).toNat)
  case atStart => exact ⟨0, PS0, _, rfl, Nat.zero_le _, hLT.out, SInv.start ..⟩
  case round =>
    obtain ⟨k, s, cs, rfl, hk, hL, hI⟩ := hrel
    have hlt3 : w.heap.size + 1 < w3.heap.size := blk_lt hJX
    obtain ⟨wr', hwr⟩ : ∃ x : World, x = wr := ⟨_, rfl⟩
    subst hwr
    have hltL := blk_lt hL.row
    have HL := Aside0.mk hL
    have HI := Aside0.mk hI
    have hxr := (hL.below.block w.heap.size (by omega)).trans hX
    have kp := fun j => cell_of_row wr' w.heap.size j _ _ _ hxr
    by_cases hlt : k < many
    · obtain ⟨oA, hs, oc, tA, tc, ecs, ehs, hcell⟩ := hL.cell
      have hpc := hI.pc1
      obtain ⟨q, hq⟩ := Int.eq_ofNat_of_zero_le hI.pc0
      have kpc : wr'.cell? ⟨w3.heap.size, 22, none⟩ = some (.int .i64 s.pc) := hcell 22 _ rfl
      have hob := hI.objs
      have hou := hI.out
      rw [hq] at kpc hpc
      have q0 : (0 : Int) ≤ q := by omega
      by_cases hql : q < code.length
      · have q1 : (q : Int) < code.length := by omega
        obtain ⟨ad, eA, d0, d1, d2, d3, d4⟩ := at_T47 (Kd.C_below HC.out (below_step hB hL.below)) (q : Int) q0 q1
        subst eA
        rw [Int.toNat_natCast] at d0 d1 d2 d3 d4
        have hrs := hL.row
        have hcz := hL.is.size
        have hsz1 := hL.is.one
        have hv8 : ∀ j v, (v8 fun j => s.n (8 + j))[j]? = some v → cs[8 + j]? = some v := fun j v hv => by
          have hj : j < 8 := (List.getElem?_eq_some_iff.1 hv).1
          rw [ecs, stA_num _ _ _ _ _ _ (by omega)]
          rw [← hv]
          obtain rfl | rfl | rfl | rfl | rfl | rfl | rfl | rfl : j = 0 ∨ j = 1 ∨ j = 2 ∨ j = 3 ∨ j = 4 ∨ j = 5 ∨ j = 6 ∨ j = 7 := by omega
          all_goals rfl
        have hwi := Aside0.mk (hw.rd q hql)
        obtain ⟨z, ez⟩ : ∃ z, z = usesB (rd_T47 code q).f0 (rd_T47 code q).f1 (rd_T47 code q).f2 (rd_T47 code q).f3 := ⟨_, rfl⟩
        obtain ⟨y, ey⟩ : ∃ y, y = setsB (rd_T47 code q).f0 (rd_T47 code q).f1 := ⟨_, rfl⟩
        obtain ⟨ku, hku⟩ := ev_at (uses_ev hwi.out)
        obtain ⟨kv, hkv⟩ := ev_at (sets_ev hwi.out)
        rw [← ez] at hku
        rw [← ey] at hkv
        have USES := Aside0.mk hku
        have SETS := Aside0.mk hkv
        have EZ := Aside0.mk ez
        have EY := Aside0.mk ey
        obtain ⟨f0, ef0⟩ : ∃ x, x = (rd_T47 code q).f0 := ⟨_, rfl⟩
        obtain ⟨f1, ef1⟩ : ∃ x, x = (rd_T47 code q).f1 := ⟨_, rfl⟩
        obtain ⟨f2, ef2⟩ : ∃ x, x = (rd_T47 code q).f2 := ⟨_, rfl⟩
        obtain ⟨f3, ef3⟩ : ∃ x, x = (rd_T47 code q).f3 := ⟨_, rfl⟩
        obtain ⟨f4, ef4⟩ : ∃ x, x = (rd_T47 code q).f4 := ⟨_, rfl⟩
        rw [← ef0] at d0
        rw [← ef1] at d1
        rw [← ef2] at d2
        rw [← ef3] at d3
        rw [← ef4] at d4
        have EF := Aside0.mk (And.intro ef0 (And.intro ef1 (And.intro ef2 (And.intro ef3 ef4))))
        have ECS := Aside0.mk ecs
        have EHS := Aside0.mk ehs
        have HCELL := Aside0.mk hcell
        have HQ := Aside0.mk hq
        clear hku hkv ez ey ef0 ef1 ef2 ef3 ef4 hL hI hxr ecs ehs hcell hq hwi
        go_upto_region 11 with (first
          | (apply ldS; (with_reducible rfl); rfl; rfl; exact rowT; (first | rfl | assumption))
          | (apply srS; (with_reducible rfl); rfl; rfl; rfl; exact rowT; (first | rfl | assumption); (first | rfl | assumption); (first | rfl | assumption); exact setT)
          | (apply ldP; (with_reducible rfl); rfl; rfl; exact rowT; exact hv8; rfl)
          | (apply srQ; (with_reducible rfl); rfl; rfl; rfl; exact rowT; rfl; rfl; rfl; exact setT))
        obtain ⟨WA, hWA⟩ : ∃ x : World, x = (wr'.alloc (.cells #[.int .u8 f0, .int .u8 f1, .int .u8 f2, .int .u8 f3, .int .i64 f4] 47)).alloc (.cells cs 34) := ⟨_, rfl⟩
        have zA : WA.heap.size = wr'.heap.size + 1 + 1 := by rw [hWA]; simp
        have HBA := Aside0.mk (show Below wr'.heap.size wr' WA by rw [hWA]; exact below_alloc (below_alloc (Below.refl _ _) _) _)
        have RI := Aside0.mk (show WA.heap[wr'.heap.size]? = some (.cells #[.int .u8 f0, .int .u8 f1, .int .u8 f2, .int .u8 f3, .int .i64 f4] 47 (0, 0)) by rw [hWA]; exact row_old _ _ _ (by simp) (heap_alloc_new _ _))
        have RT := Aside0.mk (show WA.heap[wr'.heap.size + 1]? = some (.cells cs 34 (0, 0)) by rw [hWA]; exact row_new _ _ _ (by simp))
        have hst0 := Aside0.mk (show Below WA.heap.size WA (WA.alloc (.cells (v8 fun j => s.n (8 + j)).toArray 29)) ∧ (WA.alloc (.cells (v8 fun j => s.n (8 + j)).toArray 29)).heap[wr'.heap.size + 1 + 1]? = some (.cells (v8 (jm z J s.objs.length (fun j => s.n (8 + j)) 0)).toArray 29 (0, 0)) from ⟨below_alloc (Below.refl _ _) _, by rw [jm_zero]; exact row_new _ _ _ zA.symm⟩)
        rw [← hWA]
        clear hWA d0 d1 d2 d3 d4 kp kpc hrs hcz hsz1 hv8
        go_wp2
        go_outline
        go_loopw [47] (fun a wr => ∃ m : Nat, a = .int .i64 m ∧ m ≤ 8 ∧ Below WA.heap.size WA wr ∧ wr.heap[wr'.heap.size + 1 + 1]? = some (.cells (v8 (jm z J s.objs.length (fun j => s.n (8 + j)) m)).toArray 29 (0, 0))) (fun a _ => 8 - (intOf a).toNat)
        case atStart => exact ⟨0, rfl, by omega, hst0.out.1, hst0.out.2⟩
        case round =>
          obtain ⟨m, rfl, hm8, hbW, hrW⟩ := hrel
          obtain ⟨W, hWW⟩ : ∃ x : World, x = wr := ⟨_, rfl⟩
          subst hWW
          have hltW := blk_lt hrW
          have HBW := Aside0.mk hbW
          have HRW := Aside0.mk hrW
          have rI := (hbW.block _ (blk_lt RI.out)).trans RI.out
          have ki := fun j => cell_of_row W wr'.heap.size j _ _ _ rI
          by_cases hml : m < 8
          · have m0 : (0 : Int) ≤ m := by omega
            have m1 : (m : Int) < 8 := by omega
            have hbv := bit_val z m
            have hJm := hJ m hml
            have ehs2 := EHS.out
            cases hzb : z.getLsbD m with
            | true =>
              rw [hzb, if_pos rfl] at hbv
              go_wp2_with (first
                | (go_at_call 17; (with_reducible refine (live_Uses.calls ku f0 f1 f2 f3 f4 _ W (by rw [EF.out.1, EF.out.2.1, EF.out.2.2.1, EF.out.2.2.2.1, EF.out.2.2.2.2]; exact USES.out)).mono ?_); rintro e W1 ⟨rfl, hb1⟩; have HB1 := Aside0.mk hb1; clear hb1))
              refine ⟨⟨m + 1, by go_num, by omega, below_step HBW.out HB1.out, by rw [jm_keep hzb]; exact (HB1.out.block _ (blk_lt HRW.out)).trans HRW.out⟩, ?_⟩
              simp [intOf]
              omega
            | false =>
              rw [hzb, if_neg (by simp)] at hbv
              go_upto_region 15 with (first
                | (go_at_call 17; (with_reducible refine (live_Uses.calls ku f0 f1 f2 f3 f4 _ W (by rw [EF.out.1, EF.out.2.1, EF.out.2.2.1, EF.out.2.2.2.1, EF.out.2.2.2.2]; exact USES.out)).mono ?_); rintro e W1 ⟨rfl, hb1⟩; have HB1 := Aside0.mk hb1; clear hb1))
              have hbX := below_step HBA.out (below_step HBW.out HB1.out)
              have rJ := (hbX.block _ (by omega)).trans ((HL.out.below.block _ (by omega)).trans HJ3.out)
              have rS := (hbX.block _ (blk_lt HL.out.row)).trans HL.out.row
              have r2 := (HB1.out.block _ (blk_lt HRW.out)).trans HRW.out
              have kj : W1.cell? ⟨w.heap.size + 1, m, none⟩ = some (.int .u8 (J m)) := by
                rw [cell_of_row _ _ m _ _ _ rJ]
                obtain rfl | rfl | rfl | rfl | rfl | rfl | rfl | rfl : m = 0 ∨ m = 1 ∨ m = 2 ∨ m = 3 ∨ m = 4 ∨ m = 5 ∨ m = 6 ∨ m = 7 := by omega
                all_goals rfl
              have ko : W1.cell? ⟨w3.heap.size, 20, none⟩ = some (.slice oA hs.length oc) := by
                rw [cell_of_row _ _ 20 _ _ _ rS, ECS.out]
                rfl
              have k2 : W1.cell? ⟨wr'.heap.size + 1 + 1, m, none⟩ = some (.int .i64 (jm z J s.objs.length (fun j => s.n (8 + j)) m m)) := by
                rw [cell_of_row _ _ m _ _ _ r2]
                obtain rfl | rfl | rfl | rfl | rfl | rfl | rfl | rfl : m = 0 ∨ m = 1 ∨ m = 2 ∨ m = 3 ∨ m = 4 ∨ m = 5 ∨ m = 6 ∨ m = 7 := by omega
                all_goals rfl
              have fq : ∀ j, W1.frozen? ⟨wr'.heap.size + 1 + 1, j, none⟩ = false := fun j => frozen_of_row W1 _ j _ _ r2
              clear rJ rS rI ki hbX
              go_region
              go_wp2
              refine ⟨⟨m + 1, by go_num, by omega, below_drew1 (Below.setCell (below_step HBW.out HB1.out) (show WA.heap.size ≤ wr'.heap.size + 1 + 1 by omega) _), row_drew ?_⟩, ?_⟩
              · rw [jm_cut hzb, ← v8_set _ hml]
                exact heap_setCell_same W1 _ m _ _ _ r2
              · simp [intOf]
                omega
          · obtain rfl : m = 8 := by omega
            have hvm : v8 (jm z J s.objs.length (fun j => s.n (8 + j)) 8) = v8 (fun j => (junkS z J s).n (8 + j)) := by
              unfold v8
              rw [← junk_p z J s (j := 0) (by omega), ← junk_p z J s (j := 1) (by omega), ← junk_p z J s (j := 2) (by omega), ← junk_p z J s (j := 3) (by omega), ← junk_p z J s (j := 4) (by omega), ← junk_p z J s (j := 5) (by omega), ← junk_p z J s (j := 6) (by omega), ← junk_p z J s (j := 7) (by omega)]
            rw [hvm] at hrW
            have rTW := (hbW.block _ (by omega)).trans RT.out
            have hcz := HL.out.is.size
            go_upto_region 18 with (first
              | (apply ldP; (with_reducible rfl); rfl; rfl; exact hrW; exact fun j v hv => (by rw [Nat.zero_add]; exact (List.getElem?_toArray ..).trans hv); rfl)
              | (apply srP; (with_reducible rfl); rfl; rfl; rfl; exact rTW; rfl; omega; rfl; rfl))
            obtain ⟨W2, hW2⟩ : ∃ x, x = W.setRow (wr'.heap.size + 1) (putAt cs 8 (v8 fun j => (junkS z J s).n (8 + j))) := ⟨_, rfl⟩
            obtain ⟨ct, hct⟩ : ∃ x, x = putAt cs 8 (v8 fun j => (junkS z J s).n (8 + j)) := ⟨_, rfl⟩
            have HB2 := Aside0.mk (show Below wr'.heap.size wr' W2 by rw [hW2]; exact below_row (below_step HBA.out HBW.out) (by omega))
            have z2 : W2.heap.size = W.heap.size := by rw [hW2]; simp [World.setRow]
            have rI2 : W2.heap[wr'.heap.size]? = some (.cells #[.int .u8 f0, .int .u8 f1, .int .u8 f2, .int .u8 f3, .int .i64 f4] 47 (0, 0)) := by rw [hW2]; exact (setRow_other _ _ _ _ (by omega)).trans rI
            have rT2 : W2.heap[wr'.heap.size + 1]? = some (.cells ct 34 (0, 0)) := by rw [hW2, hct]; exact setRow_heap _ _ _ _ _ _ rTW
            have rS2 := (HB2.out.block _ hltL).trans HL.out.row
            have hIt : IsS W2 (fun k => k ≠ w3.heap.size) (junkS z J s) ct := by
              have := HL.out.is.below HB2.out
              obtain ⟨oA', hs', oc', tA', tc', e', h1, h2, h3, h4⟩ := this
              exact ⟨oA', hs', oc', tA', tc', by rw [hct, e']; exact put_junk z J s _ _ _ _, h1, h2, h3, h4⟩
            have HIT := Aside0.mk hIt
            rw [← hW2]
            have hql2 : s.pc < code.length := by rw [HQ.out]; exact q1
            have hA := Alk.junk (usesB (rd_T47 code s.pc).f0 (rd_T47 code s.pc).f1 (rd_T47 code s.pc).f2 (rd_T47 code s.pc).f3) J s
            have hSR := step_reads HSP.out hl hsz hla hgl hw HI.out.pc0 hql2 hA
            obtain ⟨t, ht⟩ : ∃ t, t = junkS z J s := ⟨_, rfl⟩
            rw [HQ.out, ← EZ.out, ← EY.out, ← ht] at hSR
            rw [← ht] at hIt
            have htp : t.pc = s.pc := by rw [ht]; rfl
            have hto : s.objs = t.objs := by rw [ht]; rfl
            have htu : s.out = t.out := by rw [ht]; rfl
            have hUse : ∀ j : Nat, z.getLsbD j = true → s.n (8 + j) = t.n (8 + j) := fun j hj => by rw [ht]; exact (junk_in z J s (BitVec.lt_of_getLsbD hj) hj).symm
            have GO : Aside0 (∀ u v d er, stepP (size ts) (atv ts la) code s = (u, d, er) → stepP (size ts) (atv ts la) code t = (v, d, er) →
              (∀ W, Below W2.heap.size W2 W → Calls Tryd.prog 12 #[.agg #[.slice A0 ts.length c0, .string la, .string gl, .slice (some ad) code.length c3], .agg cs] W fun e w' =>
                ∃ cu, e = .returned (.tuple #[.agg cu, .bool d, .int .i64 er]) ∧ IsS w' (fun k => k ≠ w3.heap.size ∨ W.heap.size ≤ k) u cu ∧ Below W.heap.size W w') ∧
              (∀ W, Below W2.heap.size W2 W → Calls Tryd.prog 12 #[.agg #[.slice A0 ts.length c0, .string la, .string gl, .slice (some ad) code.length c3], .agg ct] W fun e w' =>
                ∃ cv, e = .returned (.tuple #[.agg cv, .bool d, .int .i64 er]) ∧ IsS w' (fun k => k ≠ w3.heap.size ∨ W.heap.size ≤ k) v cv ∧ Below W.heap.size W w')) := ⟨fun u v d er hu hv => by
              obtain ⟨ty, hty⟩ := HI.out.wt
              refine ⟨fun W hW => ?_, fun W hW => ?_⟩
              · have hb := below_step (below_step HB3.out HL.out.below) (below_step HB2.out hW)
                have := Step_ps (P := fun k => k ≠ w3.heap.size) (Kd.C_below HT.out hb) hc0 (Kd.C_below HC.out hb) hc3 HK.out (TB_below HTB.out hb) HSP.out hl hsz hla hgl hw (HL.out.is.below (below_step HB2.out hW)) hty HI.out.pc0 HI.out.pc1 (by omega) (by omega)
                rw [hu] at this
                exact this
              · have hb := below_step (below_step HB3.out HL.out.below) (below_step HB2.out hW)
                have := Step_pu (P := fun k => k ≠ w3.heap.size) (Kd.C_below HT.out hb) hc0 (Kd.C_below HC.out hb) hc3 HK.out (TB_below HTB.out hb) HSP.out hl hsz hla hgl hw (hIt.below hW) hty hto (fun j hj => hUse j (by rw [htp, HQ.out, ← EZ.out] at hj; exact hj)) (by rw [htp]; exact HI.out.pc0) (by rw [htp]; exact HI.out.pc1) (by rw [← hto]; omega) (by rw [← htu]; omega)
                rw [hv] at this
                exact this⟩
            have RI2 := Aside0.mk rI2
            have RS2 := Aside0.mk rS2
            have RT2 := Aside0.mk rT2
            have xV := (HB2.out.block w.heap.size (by omega)).trans ((HL.out.below.block w.heap.size (by omega)).trans HX3.out)
            have kpV := fun j => cell_of_row W2 w.heap.size j _ _ _ xV
            have hctz := hIt.size
            have HTT := Aside0.mk (And.intro htp (And.intro hto htu))
            have HIt := Aside0.mk hIt
            clear hIt HIT ht htp hto htu hUse hrW rI rTW ki rI2 hW2 hct hA
            rcases hSR with ⟨u, v, hu, hv, hal, hps⟩ | ⟨hu, hv⟩
            · have GO1 := Aside0.mk (GO.out u v false 0 hu hv).1
              have GO2 := Aside0.mk (GO.out u v false 0 hu hv).2
              have HU := Aside0.mk hu
              have HAL := Aside0.mk hal
              have HPS := Aside0.mk hps
              clear hu hv hal hps GO
              go_upto_region 24 with (first
                | (go_at_call 12; (with_reducible refine (GO1.out W2 (Below.refl _ _)).mono ?_); rintro e w5 ⟨cu, rfl, hS5, hb5⟩; have hzu := hS5.size; have hou1 := hS5.one; have b5t := (hb5.block _ (blk_lt RT2.out)).trans RT2.out; have b5s := (hb5.block _ (blk_lt RS2.out)).trans RS2.out; have b5i := (hb5.block _ (blk_lt RI2.out)).trans RI2.out; have hz5 := blk_lt b5t; have x5 := (hb5.block _ (blk_lt xV)).trans xV; have kp5a := fun j => cell_of_row (w5.alloc (.cells cu 34)) w.heap.size j _ _ _ (row_old _ _ _ (blk_lt x5) x5); have kp5 := fun j => cell_of_row w5 w.heap.size j _ _ _ x5; have HS5 := Aside0.mk hS5; have HB5 := Aside0.mk hb5; clear hS5 hb5)
                | (go_at_call 12; (with_reducible refine (GO2.out _ (below_alloc HB5.out _)).mono ?_); rintro e w6 ⟨cv, rfl, hS6, hb6⟩; have hzv := hS6.size; have hov1 := hS6.one; have b6u := (hb6.block _ (by simp)).trans (heap_alloc_new w5 _); have b6t := (hb6.block _ (by simp; omega)).trans (row_old _ _ _ hz5 b5t); have b6s := (hb6.block _ (by simp; omega)).trans (row_old _ _ _ (by omega) b5s); have b6i := (hb6.block _ (by simp; omega)).trans (row_old _ _ _ (by omega) b5i); have hz6 := blk_lt b6u; have HS6 := Aside0.mk hS6; have HB6 := Aside0.mk hb6; clear hS6 hb6)
                | (apply ldS; (with_reducible rfl); rfl; rfl; exact rowT; (first | rfl | assumption))
                | (apply srS; (with_reducible rfl); rfl; rfl; rfl; exact rowT; (first | rfl | assumption); (first | rfl | assumption); (first | rfl | assumption); exact setT))
              obtain ⟨WF, hWF⟩ : ∃ x : World, x = w6.alloc (.cells cv 34) := ⟨_, rfl⟩
              have RX := Aside0.mk (show WF.heap[w5.heap.size]? = some (.cells cu 34 (0, 0)) by rw [hWF]; exact row_old _ _ _ hz6 b6u)
              have RY := Aside0.mk (show WF.heap[w6.heap.size]? = some (.cells cv 34 (0, 0)) by rw [hWF]; exact heap_alloc_new _ _)
              have RS := Aside0.mk (show WF.heap[w3.heap.size]? = some (.cells cs 34 (0, 0)) by rw [hWF]; exact row_old _ _ _ (blk_lt b6s) b6s)
              have RTF := Aside0.mk (show WF.heap[wr'.heap.size + 1]? = some (.cells ct 34 (0, 0)) by rw [hWF]; exact row_old _ _ _ (blk_lt b6t) b6t)
              have RIF := Aside0.mk (show WF.heap[wr'.heap.size]? = some (.cells #[.int .u8 f0, .int .u8 f1, .int .u8 f2, .int .u8 f3, .int .i64 f4] 47 (0, 0)) by rw [hWF]; exact row_old _ _ _ (blk_lt b6i) b6i)
              have HBF := Aside0.mk (show Below w6.heap.size w6 WF by rw [hWF]; exact below_alloc (Below.refl _ _) _)
              rw [← hWF]
              clear hWF b6u b6t b6s b6i b5t b5s b5i x5 xV kp5a kp5 kpV hz5 hz6
              obtain ⟨oT, hsT, ocT, tAT, tcT, ecT, _⟩ := HIt.out
              have ECT := Aside0.mk ecT
              obtain ⟨oX, hsX, ocX, tAX, tcX, ecX, _⟩ := HS5.out
              have ECX := Aside0.mk ecX
              obtain ⟨oY, hsY, ocY, tAY, tcY, ecY, _⟩ := HS6.out
              have ECY := Aside0.mk ecY
              clear ecT ecX ecY
              go_wp2
              go_outline
              go_loopw [89] (fun a wr => ∃ m : Nat, a = .int .i64 m ∧ m ≤ 8 ∧ Below WF.heap.size WF wr) (fun a _ => 8 - (intOf a).toNat)
              case atStart => exact ⟨0, rfl, by omega, Below.refl _ _⟩
              case round =>
                obtain ⟨m, rfl, hm8, hbV⟩ := hrel
                obtain ⟨V, hVV⟩ : ∃ x : World, x = wr := ⟨_, rfl⟩
                subst hVV
                have HBV := Aside0.mk hbV
                have rI := (hbV.block _ (blk_lt RIF.out)).trans RIF.out
                have ki := fun j => cell_of_row V wr'.heap.size j _ _ _ rI
                by_cases hml : m < 8
                · have m0 : (0 : Int) ≤ m := by omega
                  have m1 : (m : Int) < 8 := by omega
                  have hbv := bit_val y m
                  have hal := HAL.out.p m hml
                  have hpm := HPS.out m hml
                  cases hyb : y.getLsbD m with
                  | true =>
                    rw [hyb, if_pos rfl] at hbv
                    go_upto_region 28 with (first
                      | (go_at_call 18; (with_reducible refine (live_Sets.calls kv f0 f1 f2 f3 f4 _ V (by rw [EF.out.1, EF.out.2.1, EF.out.2.2.1, EF.out.2.2.2.1, EF.out.2.2.2.2]; exact SETS.out)).mono ?_); rintro e V1 ⟨rfl, hb1⟩; have HB1 := Aside0.mk hb1; clear hb1))
                    have hbX := below_step HBV.out HB1.out
                    have rX := (hbX.block _ (blk_lt RX.out)).trans RX.out
                    have rY := (hbX.block _ (blk_lt RY.out)).trans RY.out
                    have rS := (hbX.block _ (blk_lt RS.out)).trans RS.out
                    have rT := (hbX.block _ (blk_lt RTF.out)).trans RTF.out
                    have kX : V1.cell? ⟨w5.heap.size, 8 + m, none⟩ = some (.int .i64 (u.n (8 + m))) := by
                      rw [cell_of_row _ _ _ _ _ _ rX, ECX.out]
                      exact stA_num _ _ _ _ _ _ (by omega)
                    have kY : V1.cell? ⟨w6.heap.size, 8 + m, none⟩ = some (.int .i64 (v.n (8 + m))) := by
                      rw [cell_of_row _ _ _ _ _ _ rY, ECY.out]
                      exact stA_num _ _ _ _ _ _ (by omega)
                    have kS : V1.cell? ⟨w3.heap.size, 8 + m, none⟩ = some (.int .i64 (s.n (8 + m))) := by
                      rw [cell_of_row _ _ _ _ _ _ rS, ECS.out]
                      exact stA_num _ _ _ _ _ _ (by omega)
                    have kT : V1.cell? ⟨wr'.heap.size + 1, 8 + m, none⟩ = some (.int .i64 (t.n (8 + m))) := by
                      rw [cell_of_row _ _ _ _ _ _ rT, ECT.out]
                      exact stA_num _ _ _ _ _ _ (by omega)
                    clear rX rY rS rT hbX rI ki
                    rw [← hal hyb] at kY
                    go_quiet (fail)
                    go_wp2
                    refine ⟨⟨m + 1, by go_num, by omega, pw_below_drewN (below_step HBV.out HB1.out) _⟩, ?_⟩
                    simp [intOf]
                    omega
                  | false =>
                    rw [hyb, if_neg (by simp)] at hbv
                    go_upto_region 28 with (first
                      | (go_at_call 18; (with_reducible refine (live_Sets.calls kv f0 f1 f2 f3 f4 _ V (by rw [EF.out.1, EF.out.2.1, EF.out.2.2.1, EF.out.2.2.2.1, EF.out.2.2.2.2]; exact SETS.out)).mono ?_); rintro e V1 ⟨rfl, hb1⟩; have HB1 := Aside0.mk hb1; clear hb1))
                    have hbX := below_step HBV.out HB1.out
                    have rX := (hbX.block _ (blk_lt RX.out)).trans RX.out
                    have rY := (hbX.block _ (blk_lt RY.out)).trans RY.out
                    have rS := (hbX.block _ (blk_lt RS.out)).trans RS.out
                    have rT := (hbX.block _ (blk_lt RTF.out)).trans RTF.out
                    have kX : V1.cell? ⟨w5.heap.size, 8 + m, none⟩ = some (.int .i64 (u.n (8 + m))) := by
                      rw [cell_of_row _ _ _ _ _ _ rX, ECX.out]
                      exact stA_num _ _ _ _ _ _ (by omega)
                    have kY : V1.cell? ⟨w6.heap.size, 8 + m, none⟩ = some (.int .i64 (v.n (8 + m))) := by
                      rw [cell_of_row _ _ _ _ _ _ rY, ECY.out]
                      exact stA_num _ _ _ _ _ _ (by omega)
                    have kS : V1.cell? ⟨w3.heap.size, 8 + m, none⟩ = some (.int .i64 (s.n (8 + m))) := by
                      rw [cell_of_row _ _ _ _ _ _ rS, ECS.out]
                      exact stA_num _ _ _ _ _ _ (by omega)
                    have kT : V1.cell? ⟨wr'.heap.size + 1, 8 + m, none⟩ = some (.int .i64 (t.n (8 + m))) := by
                      rw [cell_of_row _ _ _ _ _ _ rT, ECT.out]
                      exact stA_num _ _ _ _ _ _ (by omega)
                    clear rX rY rS rT hbX rI ki
                    rw [(hpm hyb).1] at kX
                    rw [(hpm hyb).2] at kY
                    go_quiet (fail)
                    go_wp2
                    refine ⟨⟨m + 1, by go_num, by omega, pw_below_drewN (below_step HBV.out HB1.out) _⟩, ?_⟩
                    simp [intOf]
                    omega
                · obtain rfl : m = 8 := by omega
                  have rx := (hbV.block _ (blk_lt RX.out)).trans RX.out
                  have ry := (hbV.block _ (blk_lt RY.out)).trans RY.out
                  have rs := (hbV.block _ (blk_lt RS.out)).trans RS.out
                  have eX : v8 v.n = v8 u.n := v8_alike fun k hk => (HAL.out.x k hk).symm
                  have eG : v4 (fun j => v.n (16 + j)) = v4 (fun j => u.n (16 + j)) := v4_alike fun k hk => (HAL.out.gs k hk).symm
                  have ePC : v.pc = u.pc := HAL.out.pc.symm
                  have eOU : v.out = u.out := HAL.out.out.symm
                  obtain ⟨xA, xc, exo, hxc, hxo⟩ := HS5.out.outv
                  obtain ⟨yA, yc, eyo, hyc, hyo⟩ := HS6.out.outv
                  rw [eOU] at eyo hyc hyo
                  have kx22 : V.cell? ⟨w5.heap.size, 22, none⟩ = some (.int .i64 u.pc) := by rw [cell_of_row _ _ 22 _ _ _ rx]; exact HS5.out.pcv
                  have ky22 : V.cell? ⟨w6.heap.size, 22, none⟩ = some (.int .i64 u.pc) := by rw [cell_of_row _ _ 22 _ _ _ ry, ← ePC]; exact HS6.out.pcv
                  have kx21 : V.cell? ⟨w5.heap.size, 21, none⟩ = some (.slice xA u.out.length xc) := by rw [cell_of_row _ _ 21 _ _ _ rx]; exact exo
                  have ky21 : V.cell? ⟨w6.heap.size, 21, none⟩ = some (.slice yA u.out.length yc) := by rw [cell_of_row _ _ 21 _ _ _ ry]; exact eyo
                  have HLY := Aside0.mk (show ∀ j v, (v8 u.n)[j]? = some v → cv[0 + j]? = some v by rw [← eX]; exact HS6.out.x8)
                  have HLG := Aside0.mk (show ∀ j v, (v4 fun j => u.n (16 + j))[j]? = some v → cv[16 + j]? = some v by rw [← eG]; exact HS6.out.g4)
                  have nx := eqX0 V u.n
                  have ng := eqG0 V fun j => u.n (16 + j)
                  have KX := Aside0.mk (show KI.C V xA u.out.length u.out from ((hxo.below (below_step (below_step (below_alloc (Below.refl _ _) _) HB6.out) HBF.out)).below hbV).now)
                  have KY := Aside0.mk (show KI.C V yA u.out.length u.out from ((hyo.below HBF.out).below hbV).now)
                  have hol : (u.out.length : Int) ≤ 9223372036854775807 := by have := KX.out.2.1; omega
                  obtain ⟨kn, hkn⟩ := ev_at (nums_ev u.out hol)
                  have HNU := Aside0.mk hkn
                  have hcs0 := HL.out.is.size
                  clear hkn hxo hyo rI ki
                  go_upto_region 33 with (first
                    | (go_at_call 16; (with_reducible refine (T0.lockstitchref06_Nums.calls kn xA xc u.out yA yc u.out true V KX.out hxc KY.out hyc HNU.out).mono ?_); rintro e w7 ⟨rfl, hd7⟩; have hb7 := hd7.below; have HB7 := Aside0.mk hb7; clear hb7 hd7)
                    | (apply ldX; (with_reducible rfl); rfl; rfl; exact rx; exact HS5.out.x8; rfl)
                    | (apply ldX; (with_reducible rfl); rfl; rfl; exact ry; exact HLY.out; rfl)
                    | (apply ldGg; (with_reducible rfl); rfl; rfl; exact rx; exact HS5.out.g4; rfl)
                    | (apply ldGg; (with_reducible rfl); rfl; rfl; exact ry; exact HLG.out; rfl))
                  have rx7 := (HB7.out.block _ (blk_lt rx)).trans rx
                  have rs7 := (HB7.out.block _ (blk_lt rs)).trans rs
                  clear rx ry rs kx22 ky22 kx21 ky21 nx ng
                  go_wp2_with (first
                    | (apply ldS; (with_reducible rfl); rfl; rfl; exact rowT; (first | rfl | assumption))
                    | (apply srS; (with_reducible rfl); rfl; rfl; rfl; exact rowT; (first | rfl | assumption); (first | rfl | assumption); (first | rfl | assumption); exact setT))
                  go_roundw
                  case rel =>
                    exact ⟨k + 1, u, cu, by go_num, by omega, HL.out.next2 HB2.out HB5.out HS5.out (below_step (below_step (below_step (below_alloc (Below.refl _ _) _) HB6.out) (below_step HBF.out HBV.out)) HB7.out), (SInv.step HSP.out hl hsz hla hgl hw HI.out HU.out).2.1⟩
                  case measure =>
                    simp [intOf]
                    omega
            · have GO1 := Aside0.mk (GO.out _ _ false 9 hu hv).1
              have GO2 := Aside0.mk (GO.out _ _ false 9 hu hv).2
              clear hu hv GO
              go_wp2_with (first
                | (go_at_call 12; (with_reducible refine (GO1.out W2 (Below.refl _ _)).mono ?_); rintro e w5 ⟨cu, rfl, hS5, hb5⟩; have hzu := hS5.size; have hou1 := hS5.one; have b5t := (hb5.block _ (blk_lt RT2.out)).trans RT2.out; have b5s := (hb5.block _ (blk_lt RS2.out)).trans RS2.out; have b5i := (hb5.block _ (blk_lt RI2.out)).trans RI2.out; have hz5 := blk_lt b5t; have x5 := (hb5.block _ (blk_lt xV)).trans xV; have kp5a := fun j => cell_of_row (w5.alloc (.cells cu 34)) w.heap.size j _ _ _ (row_old _ _ _ (blk_lt x5) x5); have kp5 := fun j => cell_of_row w5 w.heap.size j _ _ _ x5; have HS5 := Aside0.mk hS5; have HB5 := Aside0.mk hb5; clear hS5 hb5)
                | (go_at_call 12; (with_reducible refine (GO2.out _ (below_alloc HB5.out _)).mono ?_); rintro e w6 ⟨cv, rfl, hS6, hb6⟩; have hzv := hS6.size; have hov1 := hS6.one; have b6u := (hb6.block _ (by simp)).trans (heap_alloc_new w5 _); have b6t := (hb6.block _ (by simp; omega)).trans (row_old _ _ _ hz5 b5t); have b6s := (hb6.block _ (by simp; omega)).trans (row_old _ _ _ (by omega) b5s); have b6i := (hb6.block _ (by simp; omega)).trans (row_old _ _ _ (by omega) b5i); have hz6 := blk_lt b6u; have HS6 := Aside0.mk hS6; have HB6 := Aside0.mk hb6; clear hS6 hb6)
                | (apply ldS; (with_reducible rfl); rfl; rfl; exact rowT; (first | rfl | assumption))
                | (apply srS; (with_reducible rfl); rfl; rfl; rfl; exact rowT; (first | rfl | assumption); (first | rfl | assumption); (first | rfl | assumption); exact setT))
              go_ret
              exact ⟨rfl, below_alloc (below_step (below_alloc (below_step (below_step (below_step HB3.out HL.out.below) HB2.out) HB5.out) _) HB6.out) _⟩
      · have : q = code.length := by omega
        subst this
        go_wp2
        go_ret
        exact ⟨rfl, below_step HB3.out HL.out.below⟩
    · go_wp2
      go_ret
      exact ⟨rfl, below_step HB3.out HL.out.below⟩
end
theorem LiveReads_walk (w : World) (A0 : Option Addr) (c0 : Nat) (ts : List ByteArray) (la gl : ByteArray) (A3 : Option Addr) (c3 : Nat) (code : List S47)
    (hT : Kd.C Kd.string w A0 ts.length ts) (hc0 : ts.length ≤ c0) (hC : Kd.C k47 w A3 code.length code) (hc3 : code.length ≤ c3) (htab : TB w)
    (hl : (ts.length : Int) ≤ 9223372036854775807) (hsz : ∀ s ∈ ts, (s.size : Int) ≤ 9223372036854775807) (hla : Fit la) (hgl : Fit gl) (hw : WfC code) (many : Int) (h0 : 0 ≤ many) (h1 : many ≤ 255) (J : Nat → Int) (hJ : ∀ j, j < 8 → 0 ≤ J j ∧ J j ≤ 255) :
    Calls Tryd.prog 5 #[.agg #[.slice A0 ts.length c0, .string la, .string gl, .slice A3 code.length c3], .int .u8 many, .agg #[.int .u8 (J 0), .int .u8 (J 1), .int .u8 (J 2), .int .u8 (J 3), .int .u8 (J 4), .int .u8 (J 5), .int .u8 (J 6), .int .u8 (J 7)]] w fun e w' => e = .returned (.bool true) ∧ Below w.heap.size w w' := by
  obtain ⟨m, rfl⟩ := Int.eq_ofNat_of_zero_le h0
  have hc : (code.length : Int) ≤ 9223372036854775807 := by have := Kd.C_max hC; omega
  obtain ⟨b, hb, hsp⟩ := sound_chk hl hsz hla hgl hc hw
  obtain ⟨ks, hks⟩ := ev_at hb
  obtain ⟨ka, hka⟩ := ev_at LL.alive_ev
  cases b with
  | false => exact LiveReads_no w A0 c0 ts la gl A3 c3 code hT hc0 hC hc3 htab hl hsz hla hgl hw m (by omega) J hJ ks ka hks hka
  | true =>
    obtain ⟨hp, ck, hck⟩ := hsp rfl
    obtain ⟨kc, hkc⟩ := ev_at hck
    exact LiveReads_yes w A0 c0 ts la gl A3 c3 code hT hc0 hC hc3 htab hl hsz hla hgl hw m (by omega) J hJ ks ka kc ck hks hka hp hkc
end Go.Proofs.YtkplgfhkebkaaaaDoor.ST

namespace Go.Proofs.YtkplgfhkebkaaaaDoor.Rw
open Go.ChangeShapes Go.ChangeAt Go.RowKit Go.WideShapes Go.Proofs.YtkplgfhkebkaaaaDoorW.PrintWords Go.Proofs.YtkplgfhkebkaaaaDoor.F Go.Proofs.YtkplgfhkebkaaaaDoor.TT
set_option linter.unusedVariables false
section
variable {H : Type} {enc : TypeId × Value → H} {W : World} {held : Bool}
def oct (a b c d e f g h : Int) : Nat → Int
  | 0 => a
  | 1 => b
  | 2 => c
  | 3 => d
  | 4 => e
  | 5 => f
  | 6 => g
  | _ => h
set_option maxRecDepth 100000 in
theorem open_oct8 {r : Reach} {b0 : Nat} {v : Value} {d : DataW H} {ps : List MemPlace} {base : Nat} {t e : TypeId}
    (ht : Tryd.prog.underlying t = some (.array 8 e)) (he : Tryd.prog.underlying e = some (.int .u8)) (hc : Tryd.prog.cellsOf e = 1) (hct : Tryd.prog.cellsOf t = 8) (hval : Value.okWide Tryd.prog W r b0 t v) (hd : DataW.Trod enc Tryd.prog W base (fun _ => true) held t v d ps) :
    ∃ J : Nat → Int, v = .agg #[.int .u8 (J 0), .int .u8 (J 1), .int .u8 (J 2), .int .u8 (J 3), .int .u8 (J 4), .int .u8 (J 5), .int .u8 (J 6), .int .u8 (J 7)] ∧ ∀ j, j < 8 → 0 ≤ J j ∧ J j ≤ 255 := by
  simp only [Value.okWide, ht] at hval
  obtain ⟨cs, rfl, hn, _⟩ := hval
  rw [hct] at hn
  obtain ⟨fuel, hf⟩ := hd
  obtain ⟨xs, m, _, _, _, hxl, h⟩ := DataW.trod_array ht hf
  obtain ⟨a0, a1, a2, a3, a4, a5, a6, a7, hcs⟩ : ∃ a0 a1 a2 a3 a4 a5 a6 a7, cs = #[a0, a1, a2, a3, a4, a5, a6, a7] := by
    obtain ⟨l⟩ := cs
    match l, hn with
    | [a0, a1, a2, a3, a4, a5, a6, a7], _ => exact ⟨a0, a1, a2, a3, a4, a5, a6, a7, rfl⟩
  subst hcs
  have hi : ∀ (i : Nat) (hi : i < 8), ∃ x, (#[a0, a1, a2, a3, a4, a5, a6, a7] : Array Value)[i]? = some (.int .u8 x) ∧ 0 ≤ x ∧ x ≤ 255 := fun i hi => by
    have h0 := h i hi
    rw [hc, List.getElem?_eq_getElem (by omega)] at h0
    obtain ⟨x, hx, _, wx⟩ := DataW.trod_int he h0
    refine ⟨x, ?_, wf_u8 wx⟩
    obtain rfl | rfl | rfl | rfl | rfl | rfl | rfl | rfl : i = 0 ∨ i = 1 ∨ i = 2 ∨ i = 3 ∨ i = 4 ∨ i = 5 ∨ i = 6 ∨ i = 7 := by omega
    all_goals
      simp [Value.cells] at hx
      simp [hx]
  obtain ⟨x0, e0, b0⟩ := hi 0 (by omega)
  obtain ⟨x1, e1, b1⟩ := hi 1 (by omega)
  obtain ⟨x2, e2, b2⟩ := hi 2 (by omega)
  obtain ⟨x3, e3, b3⟩ := hi 3 (by omega)
  obtain ⟨x4, e4, b4⟩ := hi 4 (by omega)
  obtain ⟨x5, e5, b5⟩ := hi 5 (by omega)
  obtain ⟨x6, e6, b6⟩ := hi 6 (by omega)
  obtain ⟨x7, e7, b7⟩ := hi 7 (by omega)
  obtain rfl := Option.some.inj e0
  obtain rfl := Option.some.inj e1
  obtain rfl := Option.some.inj e2
  obtain rfl := Option.some.inj e3
  obtain rfl := Option.some.inj e4
  obtain rfl := Option.some.inj e5
  obtain rfl := Option.some.inj e6
  obtain rfl := Option.some.inj e7
  refine ⟨oct x0 x1 x2 x3 x4 x5 x6 x7, rfl, fun j hj => ?_⟩
  obtain rfl | rfl | rfl | rfl | rfl | rfl | rfl | rfl : j = 0 ∨ j = 1 ∨ j = 2 ∨ j = 3 ∨ j = 4 ∨ j = 5 ∨ j = 6 ∨ j = 7 := by omega
  all_goals assumption
end
end Go.Proofs.YtkplgfhkebkaaaaDoor.Rw

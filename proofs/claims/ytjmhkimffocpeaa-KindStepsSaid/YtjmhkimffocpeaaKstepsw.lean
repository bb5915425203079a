/-
  The law KindSteps: the walk.
-/
import Derived.Test.YtjmhkimffocpeaaKsteps
namespace Go.Proofs.Ytjmhkimffocpeaa.KC
open Go.RowKit Go.Proofs.YtjmhkimffocpeaaW.PrintWords Go.Proofs.YtjmhkimffocpeaaW.PrintLast Go.Proofs.YtjmhkimffocpeaaW.PrintMore Go.Proofs.Ytjmhkimffocpeaa.Scan Go.Proofs.Ytjmhkimffocpeaa.K Go.Proofs.Ytjmhkimffocpeaa.KP Go.Proofs.Ytjmhkimffocpeaa.KR Go.Proofs.Ytjmhkimffocpeaa.KF Go.Proofs.Ytjmhkimffocpeaa.KG Go.Proofs.Ytjmhkimffocpeaa.KA Go.Proofs.Ytjmhkimffocpeaa.KL
/-- the world in the law's loops: the list that was captured lies in block b -/
structure SI (w wr : World) (b : Nat) (A : Option Addr) (c : Nat) (xs : List Int) : Prop where
  below : Below w.heap.size w wr
  blk : wr.heap[b]? = some (.cells #[.slice A xs.length c] 32 (0, 0))
  row : Kd.C (Kd.int .i64) wr A xs.length xs
theorem SI.drewN {w wr : World} {b : Nat} {A : Option Addr} {c : Nat} {xs : List Int} (h : SI w wr b A c xs) (n : Nat) : SI w (wr.drewN n) b A c xs := ⟨pw_below_drewN h.below n, h.blk, Kd.C_drewN h.row n⟩
theorem SI.step {w wr w' : World} {b : Nat} {A : Option Addr} {c : Nat} {xs : List Int} (h : SI w wr b A c xs) (hb : Below wr.heap.size wr w') : SI w w' b A c xs :=
  ⟨below_step h.below hb, (hb.block b (blk_lt h.blk)).trans h.blk, Kd.C_below h.row hb⟩
theorem SI.cell {w wr : World} {b : Nat} {A : Option Addr} {c : Nat} {xs : List Int} (h : SI w wr b A c xs) : wr.cell? ⟨b, 0, none⟩ = some (.slice A xs.length c) := cell_of_one h.blk
theorem reach_at (w : World) (A : Option Addr) (xs : List Int) (i : Nat) (h : i < xs.length) (hC : Kd.C (Kd.int .i64) w A xs.length xs) : ∃ ad, A = some ad ∧ w.cell? (ad.add i) = some (.int .i64 (rdOf 0 xs i)) := by
  obtain ⟨ad, e, h⟩ := ReadsOf.at_ (Kd.reads_of_C (d := (0 : Int)) hC) i (by omega) (by omega)
  rw [Int.toNat_natCast] at h
  exact ⟨ad, e, h⟩
section
variable (w : World) (A0 : Option Addr) (c0 : Nat) (ts : List ByteArray) (hr0 : Kd.C Kd.string w A0 ts.length ts) (hc0 : ts.length ≤ c0) (hs : ∀ s ∈ ts, (s.size : Int) ≤ 9223372036854775807) (t : Int)
include hr0 hc0 hs
omit hs in
set_option maxHeartbeats 1000000 in
set_option maxRecDepth 100000 in
theorem Steps_many (hf : ¬ Few ts) : Calls Try.prog 6 #[.slice A0 ts.length c0, .int .i64 t] w fun e w' => e = .returned (.bool true) ∧ Below w.heap.size w w' := by
  have HR := Aside0.mk hr0
  have HC := Aside0.mk hc0
  have HF := Aside0.mk hf
  clear hr0 hc0 hf
  go_enter Try.func6, Try.ntmps6
  go_wp2_with (first
    | (go_at_call 10; refine (alive_c _).mono ?_; rintro e wA ⟨rfl, hb⟩; have HA := Aside0.mk (Kd.C_below HR.out hb); have HB := Aside0.mk hb; clear hb)
    | (go_at_call 11; refine (few_c _ _ _ _ (by repeat (first | exact HA.out | refine Kd.C_drewN ?_ _)) HC.out false (by simpa using HF.out)).mono ?_; rintro e wB ⟨rfl, n, rfl⟩))
  go_ret
  exact ⟨rfl, by repeat (first | exact HB.out | refine pw_below_drewN ?_ _)⟩
set_option maxHeartbeats 1000000 in
set_option maxRecDepth 100000 in
theorem Steps_wrong (hf : Few ts) (hw : right ts = false) : Calls Try.prog 6 #[.slice A0 ts.length c0, .int .i64 t] w fun e w' => e = .returned (.bool true) ∧ Below w.heap.size w w' := by
  have hi : ¬ Is ts t := fun h => by have := (right_iff ts).2 h.1; rw [hw] at this; cases this
  have hz : (reach ts t).length = 0 := by unfold reach; rw [dif_neg fun h => hi h.1]; rfl
  clear hi
  have HI := Aside0.mk hw
  clear hw
  have HR := Aside0.mk hr0
  have HC := Aside0.mk hc0
  have HS := Aside0.mk hs
  have HF := Aside0.mk hf
  clear hr0 hc0 hs hf
  go_enter Try.func6, Try.ntmps6
  go_wp2_with (first
    | (go_at_call 10; refine (alive_c _).mono ?_; rintro e wA ⟨rfl, hb⟩; have HA := Aside0.mk (Kd.C_below HR.out hb); have HB := Aside0.mk hb; clear hb)
    | (go_at_call 11; refine (few_c _ _ _ _ (by repeat (first | exact HA.out | refine Kd.C_drewN ?_ _)) HC.out true (by simpa using HF.out)).mono ?_; rintro e wB ⟨rfl, n, rfl⟩)
    | (go_at_call 13; refine (rRight_c _ _ _ _ (by repeat (first | exact HA.out | refine Kd.C_drewN ?_ _)) HC.out HS.out false HI.out).mono ?_; rintro e wB ⟨rfl, n, rfl⟩)
    | (go_at_call 23; refine (Reach_c _ _ _ _ (by repeat (first | exact HA.out | refine Kd.C_drewN ?_ _)) HC.out HS.out t).mono ?_; rintro e w3 ⟨A3, c3, rfl, hc3, hC3, hb3⟩; have HC3 := Aside0.mk hC3; have HB3 := Aside0.mk (show Below w.heap.size w w3 from below_step (by repeat (first | exact HB.out | refine pw_below_drewN ?_ _)) hb3); clear hC3 hb3))
  go_ret
  exact ⟨by simp, by repeat (first | exact HB3.out | refine pw_below_drewN ?_ _)⟩
set_option maxHeartbeats 1000000 in
set_option maxRecDepth 100000 in
theorem Steps_low (hf : Few ts) (hw : right ts = true) (h0 : t < 0) : Calls Try.prog 6 #[.slice A0 ts.length c0, .int .i64 t] w fun e w' => e = .returned (.bool true) ∧ Below w.heap.size w w' := by
  have hi : ¬ Is ts t := fun h => by have := h.2.1; omega
  have hz : (reach ts t).length = 0 := by unfold reach; rw [dif_neg fun h => hi h.1]; rfl
  clear hi
  have HI := Aside0.mk hw
  clear hw
  have HR := Aside0.mk hr0
  have HC := Aside0.mk hc0
  have HS := Aside0.mk hs
  have HF := Aside0.mk hf
  clear hr0 hc0 hs hf
  go_enter Try.func6, Try.ntmps6
  go_wp2_with (first
    | (go_at_call 10; refine (alive_c _).mono ?_; rintro e wA ⟨rfl, hb⟩; have HA := Aside0.mk (Kd.C_below HR.out hb); have HB := Aside0.mk hb; clear hb)
    | (go_at_call 11; refine (few_c _ _ _ _ (by repeat (first | exact HA.out | refine Kd.C_drewN ?_ _)) HC.out true (by simpa using HF.out)).mono ?_; rintro e wB ⟨rfl, n, rfl⟩)
    | (go_at_call 13; refine (rRight_c _ _ _ _ (by repeat (first | exact HA.out | refine Kd.C_drewN ?_ _)) HC.out HS.out true HI.out).mono ?_; rintro e wB ⟨rfl, n, rfl⟩)
    | (go_at_call 23; refine (Reach_c _ _ _ _ (by repeat (first | exact HA.out | refine Kd.C_drewN ?_ _)) HC.out HS.out t).mono ?_; rintro e w3 ⟨A3, c3, rfl, hc3, hC3, hb3⟩; have HC3 := Aside0.mk hC3; have HB3 := Aside0.mk (show Below w.heap.size w w3 from below_step (by repeat (first | exact HB.out | refine pw_below_drewN ?_ _)) hb3); clear hC3 hb3))
  go_ret
  exact ⟨by simp, by repeat (first | exact HB3.out | refine pw_below_drewN ?_ _)⟩
set_option maxHeartbeats 1000000 in
set_option maxRecDepth 100000 in
theorem Steps_high (hf : Few ts) (hw : right ts = true) (h0 : ¬ t < 0) (h1 : t ≥ ts.length) : Calls Try.prog 6 #[.slice A0 ts.length c0, .int .i64 t] w fun e w' => e = .returned (.bool true) ∧ Below w.heap.size w w' := by
  have hi : ¬ Is ts t := fun h => by have := h.2.2; omega
  have hz : (reach ts t).length = 0 := by unfold reach; rw [dif_neg fun h => hi h.1]; rfl
  clear hi
  have HI := Aside0.mk hw
  clear hw
  have HR := Aside0.mk hr0
  have HC := Aside0.mk hc0
  have HS := Aside0.mk hs
  have HF := Aside0.mk hf
  clear hr0 hc0 hs hf
  go_enter Try.func6, Try.ntmps6
  go_wp2_with (first
    | (go_at_call 10; refine (alive_c _).mono ?_; rintro e wA ⟨rfl, hb⟩; have HA := Aside0.mk (Kd.C_below HR.out hb); have HB := Aside0.mk hb; clear hb)
    | (go_at_call 11; refine (few_c _ _ _ _ (by repeat (first | exact HA.out | refine Kd.C_drewN ?_ _)) HC.out true (by simpa using HF.out)).mono ?_; rintro e wB ⟨rfl, n, rfl⟩)
    | (go_at_call 13; refine (rRight_c _ _ _ _ (by repeat (first | exact HA.out | refine Kd.C_drewN ?_ _)) HC.out HS.out true HI.out).mono ?_; rintro e wB ⟨rfl, n, rfl⟩)
    | (go_at_call 23; refine (Reach_c _ _ _ _ (by repeat (first | exact HA.out | refine Kd.C_drewN ?_ _)) HC.out HS.out t).mono ?_; rintro e w3 ⟨A3, c3, rfl, hc3, hC3, hb3⟩; have HC3 := Aside0.mk hC3; have HB3 := Aside0.mk (show Below w.heap.size w w3 from below_step (by repeat (first | exact HB.out | refine pw_below_drewN ?_ _)) hb3); clear hC3 hb3))
  go_ret
  exact ⟨by simp, by repeat (first | exact HB3.out | refine pw_below_drewN ?_ _)⟩
set_option maxHeartbeats 4000000 in
set_option maxRecDepth 100000 in
theorem Steps_is (hf : Few ts) (hi : Is ts t) : Calls Try.prog 6 #[.slice A0 ts.length c0, .int .i64 t] w fun e w' => e = .returned (.bool true) ∧ Below w.heap.size w w' := by
  have h0 : ¬ t < 0 := by have := hi.2.1; omega
  have h1 : ¬ t ≥ ts.length := by have := hi.2.2; omega
  have HI := Aside0.mk ((right_iff ts).2 hi.1)
  have HII := Aside0.mk hi
  have hpos : 0 < (reach ts t).length := by rw [reach_is hi]; simp
  have hhead : rdOf 0 (reach ts t) ((0 : Nat) : Int) = t := by rw [reach_is hi]; rfl
  obtain ⟨L, hL⟩ : ∃ L : List Int, L = reach ts t := ⟨_, rfl⟩
  rw [← hL] at hpos hhead
  have HL := Aside0.mk hL
  clear hi hL
  have HR := Aside0.mk hr0
  have HC := Aside0.mk hc0
  have HS := Aside0.mk hs
  have HF := Aside0.mk hf
  clear hr0 hc0 hs hf
  go_enter Try.func6, Try.ntmps6
  go_upto_region 6 with (first
    | (go_at_call 10; refine (alive_c _).mono ?_; rintro e wA ⟨rfl, hb⟩; have HA := Aside0.mk (Kd.C_below HR.out hb); have HB := Aside0.mk hb; clear hb)
    | (go_at_call 11; refine (few_c _ _ _ _ (by repeat (first | exact HA.out | refine Kd.C_drewN ?_ _)) HC.out true (by simpa using HF.out)).mono ?_; rintro e wB ⟨rfl, n, rfl⟩)
    | (go_at_call 13; refine (rRight_c _ _ _ _ (by repeat (first | exact HA.out | refine Kd.C_drewN ?_ _)) HC.out HS.out true HI.out).mono ?_; rintro e wB ⟨rfl, n, rfl⟩)
    | (go_at_call 23; refine (Reach_c _ _ _ _ (by repeat (first | exact HA.out | refine Kd.C_drewN ?_ _)) HC.out HS.out t).mono ?_; rintro e w3 ⟨A3, c3, rfl, hc3, hC3, hb3⟩; have HC3 := Aside0.mk hC3; have HB3 := Aside0.mk (show Below w.heap.size w w3 from below_step (by repeat (first | exact HB.out | refine pw_below_drewN ?_ _)) hb3); rw [← HL.out] at hC3 hc3 ⊢; have hmax := Kd.C_max hC3; obtain ⟨ad3, ea3, hx3⟩ := reach_at _ _ _ 0 hpos hC3; subst ea3; have HC4 := Aside0.mk hC3; clear hC3 hb3))
  have HSI := Aside0.mk (show SI w (w3.alloc (.cells #[.slice (some ad3) L.length c3] 32)) w3.heap.size (some ad3) c3 L from ⟨below_alloc HB3.out _, heap_alloc_new w3 _, Kd.C_below HC4.out (below_alloc (Below.refl _ _) _)⟩)
  obtain ⟨b, hb⟩ : ∃ b, b = w3.heap.size := ⟨_, rfl⟩
  obtain ⟨w4, hw4⟩ : ∃ w4 : World, w4 = w3.alloc (.cells #[.slice (some ad3) L.length c3] 32) := ⟨_, rfl⟩
  rw [← hb, ← hw4] at HSI ⊢
  have hcell := HSI.out.cell
  obtain ⟨_, ea4, hx0⟩ := reach_at _ _ _ 0 hpos HSI.out.row
  cases ea4
  rw [hhead, show ad3.add 0 = ad3 by simp [Addr.add]] at hx0
  have hne : ¬ L = [] := fun e => by rw [e] at hpos; cases hpos
  clear hw4 hb hx3 HC4 HC3 HB3
  go_wp2
  have hz : ((L.length : Int) == 0) = false := beq_eq_false_iff_ne.2 (by omega)
  simp only [hz]
  clear hcell hx0 hne hz
  go_loopw [59] (fun v wr => ∃ i : Nat, v = .int .i64 i ∧ i ≤ L.length ∧ SI w wr b (some ad3) c3 L) (fun v _ => L.length - (intOf v).toNat)
  case atStart => exact ⟨0, rfl, Nat.zero_le _, HSI.out⟩
  case round =>
    obtain ⟨i, rfl, hi, hSI⟩ := hrel
    obtain ⟨w5, hw5⟩ : ∃ w5 : World, w5 = wr := ⟨_, rfl⟩
    subst hw5
    have HS5 := Aside0.mk hSI
    clear hSI
    by_cases hlt : i < L.length
    · obtain ⟨x, hx⟩ : ∃ x, x = rdOf 0 L i := ⟨_, rfl⟩
      have hcell := HS5.out.cell
      obtain ⟨_, ea, hxi⟩ := reach_at _ _ _ i hlt HS5.out.row
      cases ea
      rw [← hx] at hxi
      have hmem : x ∈ L := by
        rw [hx]
        unfold rdOf
        rw [Int.toNat_natCast, List.getD_eq_getElem?_getD, List.getElem?_eq_getElem hlt]
        exact List.getElem_mem hlt
      rw [HL.out, reach_mem HII.out] at hmem
      have hxr := RR_lt HII.out x hmem
      have HXI := Aside0.mk (show Is ts x from ⟨HII.out.1, hxr.1, hxr.2⟩)
      have HXM := Aside0.mk hmem
      clear hmem hxr
      have HTO := Aside0.mk (show ∀ f : Nat, 0 ≤ to_ ts x f → to_ ts x f ∈ L from fun f hf => by rw [HL.out, reach_mem HII.out]; exact .step f HXM.out hf)
      have HRE := Aside0.mk (show ∀ y, y ∈ reach ts x → y ∈ L from fun y hy => by rw [reach_mem HXI.out] at hy; rw [HL.out, reach_mem HII.out]; exact RR_trans HXM.out hy)
      have h6 := typ_le ts x
      by_cases hgt : i > 1
      · obtain ⟨y, hy⟩ : ∃ y, y = rdOf 0 L ((i : Int) - 1) := ⟨_, rfl⟩
        obtain ⟨_, ea, hyi⟩ := reach_at _ _ _ (i - 1) (by omega) HS5.out.row
        cases ea
        have hlty : ¬ y ≥ x := by
          have h2 := hlt
          rw [HL.out] at h2
          have := reach_rise HII.out i hgt h2
          rw [← HL.out, ← hx, ← hy] at this
          omega
        rw [show ((i - 1 : Nat) : Int) = (i : Int) - 1 by omega, ← hy] at hyi
        clear hy hx
        go_wp2_with (first
          | (go_at_call 16; refine (Size_c _ _ _ _ (by repeat (first | exact Kd.C_below HR.out HS5.out.below | refine Kd.C_drewN ?_ _)) HC.out HS.out x).mono ?_; rintro e wB ⟨rfl, n, rfl⟩))
        go_loopw [78] (fun v wr => ∃ k : Nat, v = .int .i64 k ∧ k ≤ (typ ts x).size ∧ SI w wr b (some ad3) c3 L) (fun v _ => (typ ts x).size - (intOf v).toNat)
        case atStart => exact ⟨0, rfl, Nat.zero_le _, HS5.out.drewN _⟩
        case round =>
          obtain ⟨k, rfl, hk, hSI⟩ := hrel
          obtain ⟨w6, hw6⟩ : ∃ w6 : World, w6 = wr := ⟨_, rfl⟩
          subst hw6
          have HS6 := Aside0.mk hSI
          clear hSI
          by_cases hkl : k < (typ ts x).size
          · by_cases hto : 0 ≤ to_ ts x k
            · have HM := Aside0.mk (HTO.out k hto)
              go_wp2_with (first
                | (go_at_call 20; (with_reducible refine (To_c _ _ _ _ (by repeat (first | exact Kd.C_below HR.out HS6.out.below | refine Kd.C_drewN ?_ _)) HC.out HS.out x k).mono ?_); rintro e wB ⟨rfl, n, rfl⟩)
                | (go_at_call 25; (with_reducible refine (Has_c _ b (some ad3) c3 L (SI.blk (w := w) (A := some ad3) (c := c3) (xs := L) (by repeat (first | exact HS6.out | refine SI.drewN ?_ _))) (SI.row (w := w) (b := b) (c := c3) (by repeat (first | exact HS6.out | refine SI.drewN ?_ _))) _ HM.out).mono ?_); rintro e wB ⟨rfl, n, rfl⟩))
              go_roundw
              case rel => exact ⟨k + 1, by go_num, by omega, by repeat (first | exact HS6.out | refine SI.drewN ?_ _)⟩
              case measure => simp [intOf]; omega
            · go_wp2_with (first
                | (go_at_call 20; (with_reducible refine (To_c _ _ _ _ (by repeat (first | exact Kd.C_below HR.out HS6.out.below | refine Kd.C_drewN ?_ _)) HC.out HS.out x k).mono ?_); rintro e wB ⟨rfl, n, rfl⟩))
              go_roundw
              case rel => exact ⟨k + 1, by go_num, by omega, by repeat (first | exact HS6.out | refine SI.drewN ?_ _)⟩
              case measure => simp [intOf]; omega
          · go_wp2_with (first
              | (go_at_call 23; (with_reducible refine (Reach_c _ _ _ _ (by repeat (first | exact Kd.C_below HR.out HS6.out.below | refine Kd.C_drewN ?_ _)) HC.out HS.out x).mono ?_); rintro e w7 ⟨A7, c7, rfl, hc7, hC7, hb7⟩; have HC7 := Aside0.mk hC7; have hm7 := Kd.C_max hC7; have HS7 := Aside0.mk (HS6.out.step hb7); clear hC7 hb7))
            go_loopw [98] (fun v wr => ∃ j : Nat, v = .int .i64 j ∧ j ≤ (reach ts x).length ∧ SI w wr b (some ad3) c3 L ∧ Kd.C (Kd.int .i64) wr A7 (reach ts x).length (reach ts x)) (fun v _ => (reach ts x).length - (intOf v).toNat)
            case atStart => exact ⟨0, rfl, Nat.zero_le _, HS7.out, HC7.out⟩
            case round =>
              obtain ⟨j, rfl, hj, hSI, hC⟩ := hrel
              obtain ⟨w8, hw8⟩ : ∃ w8 : World, w8 = wr := ⟨_, rfl⟩
              subst hw8
              have HS8 := Aside0.mk hSI
              have HC8 := Aside0.mk hC
              clear hSI hC
              by_cases hjl : j < (reach ts x).length
              · obtain ⟨ad8, ea8, hy8⟩ := reach_at _ _ _ j hjl HC8.out
                subst ea8
                have HM8 := Aside0.mk (HRE.out (rdOf 0 (reach ts x) j) (by
                  unfold rdOf
                  rw [Int.toNat_natCast, List.getD_eq_getElem?_getD, List.getElem?_eq_getElem hjl]
                  exact List.getElem_mem hjl))
                go_wp2_with (first
                  | (go_at_call 25; (with_reducible refine (Has_c _ b (some ad3) c3 L (SI.blk (w := w) (A := some ad3) (c := c3) (xs := L) (by repeat (first | exact HS8.out | refine SI.drewN ?_ _))) (SI.row (w := w) (b := b) (c := c3) (by repeat (first | exact HS8.out | refine SI.drewN ?_ _))) _ HM8.out).mono ?_); rintro e wB ⟨rfl, n, rfl⟩))
                go_roundw
                case rel => exact ⟨j + 1, by go_num, by omega, by repeat (first | exact HS8.out | refine SI.drewN ?_ _), by repeat (first | exact HC8.out | refine Kd.C_drewN ?_ _)⟩
                case measure => simp [intOf]; omega
              · go_wp2
                go_roundw
                case rel => exact ⟨i + 1, by go_num, by omega, HS8.out⟩
                case measure => simp [intOf]; omega
      · clear hx
        go_wp2_with (first
          | (go_at_call 16; refine (Size_c _ _ _ _ (by repeat (first | exact Kd.C_below HR.out HS5.out.below | refine Kd.C_drewN ?_ _)) HC.out HS.out x).mono ?_; rintro e wB ⟨rfl, n, rfl⟩))
        go_loopw [78] (fun v wr => ∃ k : Nat, v = .int .i64 k ∧ k ≤ (typ ts x).size ∧ SI w wr b (some ad3) c3 L) (fun v _ => (typ ts x).size - (intOf v).toNat)
        case atStart => exact ⟨0, rfl, Nat.zero_le _, HS5.out.drewN _⟩
        case round =>
          obtain ⟨k, rfl, hk, hSI⟩ := hrel
          obtain ⟨w6, hw6⟩ : ∃ w6 : World, w6 = wr := ⟨_, rfl⟩
          subst hw6
          have HS6 := Aside0.mk hSI
          clear hSI
          by_cases hkl : k < (typ ts x).size
          · by_cases hto : 0 ≤ to_ ts x k
            · have HM := Aside0.mk (HTO.out k hto)
              go_wp2_with (first
                | (go_at_call 20; (with_reducible refine (To_c _ _ _ _ (by repeat (first | exact Kd.C_below HR.out HS6.out.below | refine Kd.C_drewN ?_ _)) HC.out HS.out x k).mono ?_); rintro e wB ⟨rfl, n, rfl⟩)
                | (go_at_call 25; (with_reducible refine (Has_c _ b (some ad3) c3 L (SI.blk (w := w) (A := some ad3) (c := c3) (xs := L) (by repeat (first | exact HS6.out | refine SI.drewN ?_ _))) (SI.row (w := w) (b := b) (c := c3) (by repeat (first | exact HS6.out | refine SI.drewN ?_ _))) _ HM.out).mono ?_); rintro e wB ⟨rfl, n, rfl⟩))
              go_roundw
              case rel => exact ⟨k + 1, by go_num, by omega, by repeat (first | exact HS6.out | refine SI.drewN ?_ _)⟩
              case measure => simp [intOf]; omega
            · go_wp2_with (first
                | (go_at_call 20; (with_reducible refine (To_c _ _ _ _ (by repeat (first | exact Kd.C_below HR.out HS6.out.below | refine Kd.C_drewN ?_ _)) HC.out HS.out x k).mono ?_); rintro e wB ⟨rfl, n, rfl⟩))
              go_roundw
              case rel => exact ⟨k + 1, by go_num, by omega, by repeat (first | exact HS6.out | refine SI.drewN ?_ _)⟩
              case measure => simp [intOf]; omega
          · go_wp2_with (first
              | (go_at_call 23; (with_reducible refine (Reach_c _ _ _ _ (by repeat (first | exact Kd.C_below HR.out HS6.out.below | refine Kd.C_drewN ?_ _)) HC.out HS.out x).mono ?_); rintro e w7 ⟨A7, c7, rfl, hc7, hC7, hb7⟩; have HC7 := Aside0.mk hC7; have hm7 := Kd.C_max hC7; have HS7 := Aside0.mk (HS6.out.step hb7); clear hC7 hb7))
            go_loopw [98] (fun v wr => ∃ j : Nat, v = .int .i64 j ∧ j ≤ (reach ts x).length ∧ SI w wr b (some ad3) c3 L ∧ Kd.C (Kd.int .i64) wr A7 (reach ts x).length (reach ts x)) (fun v _ => (reach ts x).length - (intOf v).toNat)
            case atStart => exact ⟨0, rfl, Nat.zero_le _, HS7.out, HC7.out⟩
            case round =>
              obtain ⟨j, rfl, hj, hSI, hC⟩ := hrel
              obtain ⟨w8, hw8⟩ : ∃ w8 : World, w8 = wr := ⟨_, rfl⟩
              subst hw8
              have HS8 := Aside0.mk hSI
              have HC8 := Aside0.mk hC
              clear hSI hC
              by_cases hjl : j < (reach ts x).length
              · obtain ⟨ad8, ea8, hy8⟩ := reach_at _ _ _ j hjl HC8.out
                subst ea8
                have HM8 := Aside0.mk (HRE.out (rdOf 0 (reach ts x) j) (by
                  unfold rdOf
                  rw [Int.toNat_natCast, List.getD_eq_getElem?_getD, List.getElem?_eq_getElem hjl]
                  exact List.getElem_mem hjl))
                go_wp2_with (first
                  | (go_at_call 25; (with_reducible refine (Has_c _ b (some ad3) c3 L (SI.blk (w := w) (A := some ad3) (c := c3) (xs := L) (by repeat (first | exact HS8.out | refine SI.drewN ?_ _))) (SI.row (w := w) (b := b) (c := c3) (by repeat (first | exact HS8.out | refine SI.drewN ?_ _))) _ HM8.out).mono ?_); rintro e wB ⟨rfl, n, rfl⟩))
                go_roundw
                case rel => exact ⟨j + 1, by go_num, by omega, by repeat (first | exact HS8.out | refine SI.drewN ?_ _), by repeat (first | exact HC8.out | refine Kd.C_drewN ?_ _)⟩
                case measure => simp [intOf]; omega
              · go_wp2
                go_roundw
                case rel => exact ⟨i + 1, by go_num, by omega, HS8.out⟩
                case measure => simp [intOf]; omega
    · go_wp2
      go_ret
      exact ⟨by simp, HS5.out.below⟩
theorem Steps_c : Calls Try.prog 6 #[.slice A0 ts.length c0, .int .i64 t] w fun e w' => e = .returned (.bool true) ∧ Below w.heap.size w w' := by
  by_cases hf : Few ts
  · rcases right_cases ts with ⟨hw, hr⟩ | ⟨hw, _⟩
    · by_cases h0 : t < 0
      · exact Steps_low w A0 c0 ts hr0 hc0 hs t hf hw h0
      · by_cases h1 : t ≥ ts.length
        · exact Steps_high w A0 c0 ts hr0 hc0 hs t hf hw h0 h1
        · exact Steps_is w A0 c0 ts hr0 hc0 hs t hf ⟨hr, by omega, by omega⟩
    · exact Steps_wrong w A0 c0 ts hr0 hc0 hs t hf hw
  · exact Steps_many w A0 c0 ts hr0 hc0 t hf
end
end Go.Proofs.Ytjmhkimffocpeaa.KC

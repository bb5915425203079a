/-
  The law KindMore: the walk.
-/
import Derived.Test.YtjmhkimffocpeaaKmore
namespace Go.Proofs.Ytjmhkimffocpeaa.KC
open Go.RowKit Go.Proofs.YtjmhkimffocpeaaW.PrintWords Go.Proofs.YtjmhkimffocpeaaW.PrintLast Go.Proofs.YtjmhkimffocpeaaW.PrintMore Go.Proofs.Ytjmhkimffocpeaa.Scan Go.Proofs.Ytjmhkimffocpeaa.K Go.Proofs.Ytjmhkimffocpeaa.KP Go.Proofs.Ytjmhkimffocpeaa.KR Go.Proofs.Ytjmhkimffocpeaa.KF Go.Proofs.Ytjmhkimffocpeaa.KG Go.Proofs.Ytjmhkimffocpeaa.KA Go.Proofs.Ytjmhkimffocpeaa.KL
theorem own_Cs {w : World} {B e n c : Nat} {A : Option Addr} {xs : List ByteArray} (h : w.ownsRow B e 1 (.slice A n c) n (encs Value.string xs)) : n = xs.length ∧ n ≤ c ∧ Kd.C Kd.string w A xs.length xs := by
  have hl : n = xs.length := by have := h.1; simp [encs] at this; exact this.symm
  subst hl
  obtain ⟨A', c', e1, hr⟩ := own_reads_of (d := ByteArray.empty) h
  injection e1 with e1 _ e2
  subst e1
  refine ⟨rfl, ?_, Kd.C_of_reads (d := ByteArray.empty) hr⟩
  rcases h.2 with ⟨e3, h0⟩ | ⟨g, cap, cur, e3, hn, _⟩
  · injection e3 with _ h1 h2
    omega
  · injection e3 with _ _ e4
    omega
theorem info_str : (Try.prog.info? 9).map (fun i => (i.zero, i.size, i.bytes)) = some (some (.string ByteArray.empty), 1, 16) := by kernel_rfl
theorem Reach_c (w : World) (A0 : Option Addr) (c0 : Nat) (ts : List ByteArray) (hr0 : Kd.C Kd.string w A0 ts.length ts) (hc0 : ts.length ≤ c0) (hs : ∀ s ∈ ts, (s.size : Int) ≤ 9223372036854775807) (t : Int) :
    Calls Try.prog 23 #[.slice A0 ts.length c0, .int .i64 t] w fun e w' => ∃ A c, e = .returned (.slice A (reach ts t).length c) ∧ (reach ts t).length ≤ c ∧ Kd.C (Kd.int .i64) w' A (reach ts t).length (reach ts t) ∧ Below w.heap.size w w' := by
  refine (kind_Reach.calls A0 c0 ts t (reach ts t) w hr0 hc0 (if_pos hs)).mono ?_
  rintro e w' ⟨v, rfl, hR, hb⟩
  have ho := Kd.own_of_R hR
  obtain ⟨A, c, e1, _⟩ := own_reads_of (d := (0 : Int)) ho
  subst e1
  have := own_C ho
  exact ⟨A, c, rfl, this.2.1, this.2.2, hb⟩
theorem same_c (w : World) (A0 : Option Addr) (c0 : Nat) (xs : List Int) (hr0 : Kd.C (Kd.int .i64) w A0 xs.length xs) (hc0 : xs.length ≤ c0) (A1 : Option Addr) (c1 : Nat) (ys : List Int) (hr1 : Kd.C (Kd.int .i64) w A1 ys.length ys) (hc1 : ys.length ≤ c1) (h : xs = ys) :
    Calls Try.prog 22 #[.slice A0 xs.length c0, .slice A1 ys.length c1] w fun e w' => e = .returned (.bool true) ∧ ∃ n, w' = w.drewN n := by
  obtain ⟨k, hk⟩ := ev_at (same_ev xs ys (by have := Kd.C_max hr0; omega))
  rw [decide_eq_true h] at hk
  exact (lockstitchlaw03_same.calls k A0 c0 xs A1 c1 ys _ w hr0 hc0 hr1 hc1 hk).mono fun e w' ⟨h1, h2⟩ => ⟨h1, h2.out⟩
section
variable (w : World) (A0 : Option Addr) (c0 : Nat) (ts : List ByteArray) (hr0 : Kd.C Kd.string w A0 ts.length ts) (hc0 : ts.length ≤ c0) (hs : ∀ s ∈ ts, (s.size : Int) ≤ 9223372036854775807) (t : Int)
include hr0 hc0 hs
omit hs in
set_option maxHeartbeats 1000000 in
set_option maxRecDepth 100000 in
theorem More_many (hf : ¬ Few ts) : Calls Try.prog 7 #[.slice A0 ts.length c0, .int .i64 t] w fun e w' => e = .returned (.bool true) ∧ Below w.heap.size w w' := by
  have HR := Aside0.mk hr0
  have HC := Aside0.mk hc0
  have HF := Aside0.mk hf
  clear hr0 hc0 hf
  go_enter Try.func7, Try.ntmps7
  go_wp2_with (first
    | (go_at_call 10; refine (alive_c _).mono ?_; rintro e wA ⟨rfl, hb⟩; have HA := Aside0.mk (Kd.C_below HR.out hb); have HB := Aside0.mk hb; clear hb)
    | (go_at_call 11; refine (few_c _ _ _ _ (by repeat (first | exact HA.out | refine Kd.C_drewN ?_ _)) HC.out false (by simpa using HF.out)).mono ?_; rintro e wB ⟨rfl, n, rfl⟩))
  go_ret
  exact ⟨rfl, by repeat (first | exact HB.out | refine pw_below_drewN ?_ _)⟩
set_option maxHeartbeats 1000000 in
set_option maxRecDepth 100000 in
theorem More_wrong (hf : Few ts) (hw : right ts = false) : Calls Try.prog 7 #[.slice A0 ts.length c0, .int .i64 t] w fun e w' => e = .returned (.bool true) ∧ Below w.heap.size w w' := by
  have HI := Aside0.mk hw
  clear hw
  have HR := Aside0.mk hr0
  have HC := Aside0.mk hc0
  have HS := Aside0.mk hs
  have HF := Aside0.mk hf
  clear hr0 hc0 hs hf
  go_enter Try.func7, Try.ntmps7
  go_wp2_with (first
    | (go_at_call 10; refine (alive_c _).mono ?_; rintro e wA ⟨rfl, hb⟩; have HA := Aside0.mk (Kd.C_below HR.out hb); have HB := Aside0.mk hb; clear hb)
    | (go_at_call 11; refine (few_c _ _ _ _ (by repeat (first | exact HA.out | refine Kd.C_drewN ?_ _)) HC.out true (by simpa using HF.out)).mono ?_; rintro e wB ⟨rfl, n, rfl⟩)
    | (go_at_call 13; refine (rRight_c _ _ _ _ (by repeat (first | exact HA.out | refine Kd.C_drewN ?_ _)) HC.out HS.out false HI.out).mono ?_; rintro e wB ⟨rfl, n, rfl⟩))
  go_ret
  exact ⟨rfl, by repeat (first | exact HB.out | refine pw_below_drewN ?_ _)⟩
set_option maxHeartbeats 1000000 in
set_option maxRecDepth 100000 in
theorem More_full (hf : Few ts) (hw : right ts = true) (h8 : (ts.length : Int) ≥ 8) : Calls Try.prog 7 #[.slice A0 ts.length c0, .int .i64 t] w fun e w' => e = .returned (.bool true) ∧ Below w.heap.size w w' := by
  have HI := Aside0.mk hw
  clear hw
  have HR := Aside0.mk hr0
  have HC := Aside0.mk hc0
  have HS := Aside0.mk hs
  have HF := Aside0.mk hf
  clear hr0 hc0 hs hf
  go_enter Try.func7, Try.ntmps7
  go_wp2_with (first
    | (go_at_call 10; refine (alive_c _).mono ?_; rintro e wA ⟨rfl, hb⟩; have HA := Aside0.mk (Kd.C_below HR.out hb); have HB := Aside0.mk hb; clear hb)
    | (go_at_call 11; refine (few_c _ _ _ _ (by repeat (first | exact HA.out | refine Kd.C_drewN ?_ _)) HC.out true (by simpa using HF.out)).mono ?_; rintro e wB ⟨rfl, n, rfl⟩)
    | (go_at_call 13; refine (rRight_c _ _ _ _ (by repeat (first | exact HA.out | refine Kd.C_drewN ?_ _)) HC.out HS.out true HI.out).mono ?_; rintro e wB ⟨rfl, n, rfl⟩))
  go_ret
  exact ⟨rfl, by repeat (first | exact HB.out | refine pw_below_drewN ?_ _)⟩
set_option maxHeartbeats 1000000 in
set_option maxRecDepth 100000 in
theorem More_low (hf : Few ts) (hw : right ts = true) (h8 : ts.length < 8) (h0 : t < 0) : Calls Try.prog 7 #[.slice A0 ts.length c0, .int .i64 t] w fun e w' => e = .returned (.bool true) ∧ Below w.heap.size w w' := by
  have HI := Aside0.mk hw
  have hr := (right_iff ts).1 hw
  have h1 := hr.2.1
  have HIM := Aside0.mk ((right_iff _).2 (plus_Rt hr h8))
  have HSM := Aside0.mk (show ∀ s ∈ plus ts, (s.size : Int) ≤ 9223372036854775807 from fun s h => by
    rcases List.mem_append.1 h with h | h
    · exact hs s h
    · rw [List.mem_singleton] at h
      subst h
      decide)
  have hty := plus_last_typ hr h8
  have hsz : ((typ (plus ts) (ts.length : Int)).size : Int) = 3 := by rw [hty]; rfl
  have hma := plus_last_mask hr h8
  have hn : ¬ (ts.length : Int) ≥ 8 := by omega
  clear hw hty
  clear hr
  have HR := Aside0.mk hr0
  have HC := Aside0.mk hc0
  have HS := Aside0.mk hs
  have HF := Aside0.mk hf
  clear hr0 hc0 hs hf
  go_enter Try.func7, Try.ntmps7
  go_wp2_with (first
    | (go_at_call 10; refine (alive_c _).mono ?_; rintro e wA ⟨rfl, hb⟩; have HA := Aside0.mk (Kd.C_below HR.out hb); have HB := Aside0.mk hb; clear hb)
    | (go_at_call 11; refine (few_c _ _ _ _ (by repeat (first | exact HA.out | refine Kd.C_drewN ?_ _)) HC.out true (by simpa using HF.out)).mono ?_; rintro e wB ⟨rfl, n, rfl⟩)
    | (go_at_call 13; refine (rRight_c _ _ _ _ (by repeat (first | exact HA.out | refine Kd.C_drewN ?_ _)) HC.out HS.out true HI.out).mono ?_; rintro e wB ⟨rfl, n, rfl⟩)
    | (at_builtin; refine print_append_row_of (w0 := w) Value.string ByteArray.empty w.heap.size rfl _ _ 22 9 (.string ByteArray.empty) 16 rfl Try.underlying22 info_str rfl (by decide) (fun _ => rfl) (.slice none 0 0) [] ts A0 ts.length c0 rfl rfl (own_nil _ _ _ _) (Kd.reads_of_C (by repeat (first | exact HA.out | refine Kd.C_drewN ?_ _))) (by repeat (first | exact HB.out | refine pw_below_drewN ?_ _)) (by have := HB.out.size; simpa using this) (by simp; omega) ?_; intro v1 w1 hv1 hb1 hg1 ha1; have HV1 := Aside0.mk hv1; have HB1 := Aside0.mk hb1; clear hv1 hb1 hg1 ha1)
    | (at_builtin; refine print_append_of (w0 := w) Value.string w.heap.size rfl _ _ 22 9 (.string ByteArray.empty) 16 rfl Try.underlying22 info_str rfl (by decide) v1 ([] ++ ts) ii0 rfl rfl rfl HV1.out HB1.out HB1.out.size (by simp; omega) ?_; intro v2 w2 hv2 hb2 hg2 ha2; obtain ⟨A2, c2, e2, _⟩ := own_reads_of (d := ByteArray.empty) hv2; have e2' : v2 = .slice A2 (plus ts).length c2 := e2; subst e2'; have HM := Aside0.mk (own_Cs (xs := plus ts) hv2).2.2; have HCM := Aside0.mk (own_Cs (xs := plus ts) hv2).2.1; have HB2 := Aside0.mk hb2; have HA2 := Aside0.mk (Kd.C_below HR.out hb2); clear hv2 hb2 hg2 ha2 e2)
    | (go_at_call 12; refine (Right_c _ _ _ _ (by repeat (first | exact HM.out | refine Kd.C_drewN ?_ _)) HCM.out HSM.out true HIM.out).mono ?_; rintro e wB ⟨rfl, n, rfl⟩)
    | (go_at_call 16; refine (Size_c _ _ _ _ (by repeat (first | exact HM.out | refine Kd.C_drewN ?_ _)) HCM.out HSM.out _).mono ?_; rintro e wB ⟨rfl, n, rfl⟩)
    | (go_at_call 18; refine (Mask_c _ _ _ _ (by repeat (first | exact HM.out | refine Kd.C_drewN ?_ _)) HCM.out HSM.out _).mono ?_; rintro e wB ⟨rfl, n, rfl⟩))
  go_ret
  exact ⟨rfl, by repeat (first | exact HB2.out | refine pw_below_drewN ?_ _)⟩
set_option maxHeartbeats 1000000 in
set_option maxRecDepth 100000 in
theorem More_high (hf : Few ts) (hw : right ts = true) (h8 : ts.length < 8) (h0 : ¬ t < 0) (h1t : t ≥ ts.length) : Calls Try.prog 7 #[.slice A0 ts.length c0, .int .i64 t] w fun e w' => e = .returned (.bool true) ∧ Below w.heap.size w w' := by
  have HI := Aside0.mk hw
  have hr := (right_iff ts).1 hw
  have h1 := hr.2.1
  have HIM := Aside0.mk ((right_iff _).2 (plus_Rt hr h8))
  have HSM := Aside0.mk (show ∀ s ∈ plus ts, (s.size : Int) ≤ 9223372036854775807 from fun s h => by
    rcases List.mem_append.1 h with h | h
    · exact hs s h
    · rw [List.mem_singleton] at h
      subst h
      decide)
  have hty := plus_last_typ hr h8
  have hsz : ((typ (plus ts) (ts.length : Int)).size : Int) = 3 := by rw [hty]; rfl
  have hma := plus_last_mask hr h8
  have hn : ¬ (ts.length : Int) ≥ 8 := by omega
  clear hw hty
  clear hr
  have HR := Aside0.mk hr0
  have HC := Aside0.mk hc0
  have HS := Aside0.mk hs
  have HF := Aside0.mk hf
  clear hr0 hc0 hs hf
  go_enter Try.func7, Try.ntmps7
  go_wp2_with (first
    | (go_at_call 10; refine (alive_c _).mono ?_; rintro e wA ⟨rfl, hb⟩; have HA := Aside0.mk (Kd.C_below HR.out hb); have HB := Aside0.mk hb; clear hb)
    | (go_at_call 11; refine (few_c _ _ _ _ (by repeat (first | exact HA.out | refine Kd.C_drewN ?_ _)) HC.out true (by simpa using HF.out)).mono ?_; rintro e wB ⟨rfl, n, rfl⟩)
    | (go_at_call 13; refine (rRight_c _ _ _ _ (by repeat (first | exact HA.out | refine Kd.C_drewN ?_ _)) HC.out HS.out true HI.out).mono ?_; rintro e wB ⟨rfl, n, rfl⟩)
    | (at_builtin; refine print_append_row_of (w0 := w) Value.string ByteArray.empty w.heap.size rfl _ _ 22 9 (.string ByteArray.empty) 16 rfl Try.underlying22 info_str rfl (by decide) (fun _ => rfl) (.slice none 0 0) [] ts A0 ts.length c0 rfl rfl (own_nil _ _ _ _) (Kd.reads_of_C (by repeat (first | exact HA.out | refine Kd.C_drewN ?_ _))) (by repeat (first | exact HB.out | refine pw_below_drewN ?_ _)) (by have := HB.out.size; simpa using this) (by simp; omega) ?_; intro v1 w1 hv1 hb1 hg1 ha1; have HV1 := Aside0.mk hv1; have HB1 := Aside0.mk hb1; clear hv1 hb1 hg1 ha1)
    | (at_builtin; refine print_append_of (w0 := w) Value.string w.heap.size rfl _ _ 22 9 (.string ByteArray.empty) 16 rfl Try.underlying22 info_str rfl (by decide) v1 ([] ++ ts) ii0 rfl rfl rfl HV1.out HB1.out HB1.out.size (by simp; omega) ?_; intro v2 w2 hv2 hb2 hg2 ha2; obtain ⟨A2, c2, e2, _⟩ := own_reads_of (d := ByteArray.empty) hv2; have e2' : v2 = .slice A2 (plus ts).length c2 := e2; subst e2'; have HM := Aside0.mk (own_Cs (xs := plus ts) hv2).2.2; have HCM := Aside0.mk (own_Cs (xs := plus ts) hv2).2.1; have HB2 := Aside0.mk hb2; have HA2 := Aside0.mk (Kd.C_below HR.out hb2); clear hv2 hb2 hg2 ha2 e2)
    | (go_at_call 12; refine (Right_c _ _ _ _ (by repeat (first | exact HM.out | refine Kd.C_drewN ?_ _)) HCM.out HSM.out true HIM.out).mono ?_; rintro e wB ⟨rfl, n, rfl⟩)
    | (go_at_call 16; refine (Size_c _ _ _ _ (by repeat (first | exact HM.out | refine Kd.C_drewN ?_ _)) HCM.out HSM.out _).mono ?_; rintro e wB ⟨rfl, n, rfl⟩)
    | (go_at_call 18; refine (Mask_c _ _ _ _ (by repeat (first | exact HM.out | refine Kd.C_drewN ?_ _)) HCM.out HSM.out _).mono ?_; rintro e wB ⟨rfl, n, rfl⟩))
  go_ret
  exact ⟨rfl, by repeat (first | exact HB2.out | refine pw_below_drewN ?_ _)⟩
set_option maxHeartbeats 2000000 in
set_option maxRecDepth 100000 in
theorem More_is (hf : Few ts) (hw : right ts = true) (h8 : ts.length < 8) (h0 : ¬ t < 0) (h1t : ¬ t ≥ ts.length) : Calls Try.prog 7 #[.slice A0 ts.length c0, .int .i64 t] w fun e w' => e = .returned (.bool true) ∧ Below w.heap.size w w' := by
  have HI := Aside0.mk hw
  have hr := (right_iff ts).1 hw
  have h1 := hr.2.1
  have HIM := Aside0.mk ((right_iff _).2 (plus_Rt hr h8))
  have HSM := Aside0.mk (show ∀ s ∈ plus ts, (s.size : Int) ≤ 9223372036854775807 from fun s h => by
    rcases List.mem_append.1 h with h | h
    · exact hs s h
    · rw [List.mem_singleton] at h
      subst h
      decide)
  have hty := plus_last_typ hr h8
  have hsz : ((typ (plus ts) (ts.length : Int)).size : Int) = 3 := by rw [hty]; rfl
  have hma := plus_last_mask hr h8
  have hn : ¬ (ts.length : Int) ≥ 8 := by omega
  clear hw hty
  have hi : Is ts t := ⟨hr, by omega, by omega⟩
  have hmt := plus_mask hr h8 hi
  have hst : ((typ (plus ts) t).size : Int) = (typ ts t).size := by rw [plus_typ hr h8 hi]
  have HRE := Aside0.mk (plus_reach hr h8 t hi)
  clear hr hi
  have HR := Aside0.mk hr0
  have HC := Aside0.mk hc0
  have HS := Aside0.mk hs
  have HF := Aside0.mk hf
  clear hr0 hc0 hs hf
  go_enter Try.func7, Try.ntmps7
  go_wp2_with (first
    | (go_at_call 10; (with_reducible refine (alive_c _).mono ?_); rintro e wA ⟨rfl, hb⟩; have HA := Aside0.mk (Kd.C_below HR.out hb); have HB := Aside0.mk hb; clear hb)
    | (go_at_call 11; (with_reducible refine (few_c _ _ _ _ (by repeat (first | exact HA.out | refine Kd.C_drewN ?_ _)) HC.out true (by simpa using HF.out)).mono ?_); rintro e wB ⟨rfl, n, rfl⟩)
    | (go_at_call 13; (with_reducible refine (rRight_c _ _ _ _ (by repeat (first | exact HA.out | refine Kd.C_drewN ?_ _)) HC.out HS.out true HI.out).mono ?_); rintro e wB ⟨rfl, n, rfl⟩)
    | (at_builtin; refine print_append_row_of (w0 := w) Value.string ByteArray.empty w.heap.size rfl _ _ 22 9 (.string ByteArray.empty) 16 rfl Try.underlying22 info_str rfl (by decide) (fun _ => rfl) (.slice none 0 0) [] ts A0 ts.length c0 rfl rfl (own_nil _ _ _ _) (Kd.reads_of_C (by repeat (first | exact HA.out | refine Kd.C_drewN ?_ _))) (by repeat (first | exact HB.out | refine pw_below_drewN ?_ _)) (by have := HB.out.size; simpa using this) (by simp; omega) ?_; intro v1 w1 hv1 hb1 hg1 ha1; have HV1 := Aside0.mk hv1; have HB1 := Aside0.mk hb1; clear hv1 hb1 hg1 ha1)
    | (at_builtin; refine print_append_of (w0 := w) Value.string w.heap.size rfl _ _ 22 9 (.string ByteArray.empty) 16 rfl Try.underlying22 info_str rfl (by decide) v1 ([] ++ ts) ii0 rfl rfl rfl HV1.out HB1.out HB1.out.size (by simp; omega) ?_; intro v2 w2 hv2 hb2 hg2 ha2; obtain ⟨A2, c2, e2, _⟩ := own_reads_of (d := ByteArray.empty) hv2; have e2' : v2 = .slice A2 (plus ts).length c2 := e2; subst e2'; have HM := Aside0.mk (own_Cs (xs := plus ts) hv2).2.2; have HCM := Aside0.mk (own_Cs (xs := plus ts) hv2).2.1; have HB2 := Aside0.mk hb2; have HA2 := Aside0.mk (Kd.C_below HR.out hb2); clear hv2 hb2 hg2 ha2 e2)
    | (go_at_call 12; (with_reducible refine (Right_c _ _ _ _ (by repeat (first | exact HM.out | refine Kd.C_drewN ?_ _)) HCM.out HSM.out true HIM.out).mono ?_); rintro e wB ⟨rfl, n, rfl⟩)
    | (go_at_call 16; (with_reducible refine (Size_c _ _ _ _ (by repeat (first | exact HM.out | refine Kd.C_drewN ?_ _)) HCM.out HSM.out _).mono ?_); rintro e wB ⟨rfl, n, rfl⟩)
    | (go_at_call 18; (with_reducible refine (Mask_c _ _ _ _ (by repeat (first | exact HM.out | refine Kd.C_drewN ?_ _)) HCM.out HSM.out _).mono ?_); rintro e wB ⟨rfl, n, rfl⟩)
    | (go_at_call 16; (with_reducible refine (Size_c _ _ _ _ (by repeat (first | exact HA2.out | refine Kd.C_drewN ?_ _)) HC.out HS.out _).mono ?_); rintro e wB ⟨rfl, n, rfl⟩)
    | (go_at_call 18; (with_reducible refine (Mask_c _ _ _ _ (by repeat (first | exact HA2.out | refine Kd.C_drewN ?_ _)) HC.out HS.out _).mono ?_); rintro e wB ⟨rfl, n, rfl⟩)
    | (go_at_call 23; (with_reducible refine (Reach_c _ _ _ _ (by repeat (first | exact HM.out | refine Kd.C_drewN ?_ _)) HCM.out HSM.out t).mono ?_); rintro e w3 ⟨A3, c3, rfl, hc3, hC3, hb3⟩; have HC3 := Aside0.mk hC3; have HL3 := Aside0.mk hc3; have HB3 := Aside0.mk (show Below w.heap.size w w3 from below_step (by repeat (first | exact HB2.out | refine pw_below_drewN ?_ _)) hb3); have HA3 := Aside0.mk (Kd.C_below HR.out HB3.out); clear hC3 hc3 hb3)
    | (go_at_call 23; (with_reducible refine (Reach_c _ _ _ _ (by repeat (first | exact HA3.out | refine Kd.C_drewN ?_ _)) HC.out HS.out t).mono ?_); rintro e w4 ⟨A4, c4, rfl, hc4, hC4, hb4⟩; have HC4 := Aside0.mk hC4; have HL4 := Aside0.mk hc4; have HB4 := Aside0.mk (show Below w.heap.size w w4 from below_step (by repeat (first | exact HB3.out | refine pw_below_drewN ?_ _)) hb4); have HC34 := Aside0.mk (show Kd.C (Kd.int .i64) w4 A3 (reach (plus ts) t).length (reach (plus ts) t) from Kd.C_below (by repeat (first | exact HC3.out | refine Kd.C_drewN ?_ _)) hb4); clear hC4 hc4 hb4)
    | (go_at_call 22; (with_reducible refine (same_c _ _ _ _ (by repeat (first | exact HC34.out | refine Kd.C_drewN ?_ _)) HL3.out _ _ _ (by repeat (first | exact HC4.out | refine Kd.C_drewN ?_ _)) HL4.out HRE.out).mono ?_); rintro e wB ⟨rfl, n, rfl⟩))
  go_ret
  exact ⟨by simp, by repeat (first | exact HB4.out | refine pw_below_drewN ?_ _)⟩
theorem More_c : Calls Try.prog 7 #[.slice A0 ts.length c0, .int .i64 t] w fun e w' => e = .returned (.bool true) ∧ Below w.heap.size w w' := by
  by_cases hf : Few ts
  · rcases right_cases ts with ⟨hw, hr⟩ | ⟨hw, _⟩
    · by_cases h8 : ts.length < 8
      · by_cases h0 : t < 0
        · exact More_low w A0 c0 ts hr0 hc0 hs t hf hw h8 h0
        · by_cases h1 : t ≥ ts.length
          · exact More_high w A0 c0 ts hr0 hc0 hs t hf hw h8 h0 h1
          · exact More_is w A0 c0 ts hr0 hc0 hs t hf hw h8 h0 h1
      · exact More_full w A0 c0 ts hr0 hc0 hs t hf hw (by omega)
    · exact More_wrong w A0 c0 ts hr0 hc0 hs t hf hw
  · exact More_many w A0 c0 ts hr0 hc0 t hf
end
end Go.Proofs.Ytjmhkimffocpeaa.KC

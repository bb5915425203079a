/-
  The law KindTells: the walk.
-/
import Derived.Test.YtjmhkimffocpeaaKc
import Derived.Test.YtjmhkimffocpeaaKletters
namespace Go.Proofs.Ytjmhkimffocpeaa.KC
open Go.RowKit Go.Proofs.YtjmhkimffocpeaaW.PrintWords Go.Proofs.YtjmhkimffocpeaaW.PrintLast Go.Proofs.YtjmhkimffocpeaaW.PrintMore Go.Proofs.Ytjmhkimffocpeaa.Scan Go.Proofs.Ytjmhkimffocpeaa.K Go.Proofs.Ytjmhkimffocpeaa.KP Go.Proofs.Ytjmhkimffocpeaa.KR Go.Proofs.Ytjmhkimffocpeaa.KF Go.Proofs.Ytjmhkimffocpeaa.KG Go.Proofs.Ytjmhkimffocpeaa.KA Go.Proofs.Ytjmhkimffocpeaa.KL
section
variable (w : World) (A0 : Option Addr) (c0 : Nat) (ts : List ByteArray) (hr0 : Kd.C Kd.string w A0 ts.length ts) (hc0 : ts.length ≤ c0) (hs : ∀ s ∈ ts, (s.size : Int) ≤ 9223372036854775807) (t f : Int) (s : ByteArray) (hz : (s.size : Int) ≤ 140737488351232)
include hr0 hc0 hs hz
set_option maxHeartbeats 1000000 in
set_option maxRecDepth 100000 in
theorem Tells_is (hf : Few ts) (h100 : ¬ (s.size : Int) > 100) : Calls Try.prog 3 #[.slice A0 ts.length c0, .agg #[.int .i64 t, .int .i64 f], .string s] w fun e w' => e = .returned (.bool true) ∧ Below w.heap.size w w' := by
  have HR := Aside0.mk hr0
  have HC := Aside0.mk hc0
  have HS := Aside0.mk hs
  have HF := Aside0.mk hf
  have HZ := Aside0.mk (show (s.size : Int) ≤ 9223372036854775807 by omega)
  clear hr0 hc0 hs hf
  go_enter Try.func3, Try.ntmps3
  go_wp2_with (first
    | (go_at_call 10; refine (alive_c _).mono ?_; rintro e wA ⟨rfl, hb⟩; have HB := Aside0.mk (below_step (below_alloc (Below.refl w.heap.size w) _) hb); have HA := Aside0.mk (Kd.C_below HR.out HB.out); have hblk := (hb.block w.heap.size (by simp)).trans (heap_alloc_new w _); have x0 : wA.cell? ⟨w.heap.size, 0, none⟩ = some (.int .i64 t) := blk_cell hblk 0; have x1 : wA.cell? ⟨w.heap.size, 1, none⟩ = some (.int .i64 f) := blk_cell hblk 1; clear hb hblk)
    | (go_at_call 11; refine (few_c _ _ _ _ (by repeat (first | exact HA.out | refine Kd.C_drewN ?_ _)) HC.out true (by simpa using HF.out)).mono ?_; rintro e wB ⟨rfl, n, rfl⟩))
  go_quiet (fail)
  go_wp2_with (first
    | (go_at_call 12; refine (Right_c _ _ _ _ (by repeat (first | exact HA.out | refine Kd.C_drewN ?_ _)) HC.out HS.out (right ts) rfl).mono ?_; rintro e wB ⟨rfl, n, rfl⟩)
    | (go_at_call 13; refine (rRight_c _ _ _ _ (by repeat (first | exact HA.out | refine Kd.C_drewN ?_ _)) HC.out HS.out (right ts) rfl).mono ?_; rintro e wB ⟨rfl, n, rfl⟩)
    | (go_at_call 14; refine (Refs_c _ _ _ _ (by repeat (first | exact HA.out | refine Kd.C_drewN ?_ _)) HC.out HS.out s HZ.out).mono ?_; rintro e wB ⟨rfl, n, rfl⟩)
    | (go_at_call 15; refine (rRefs_c _ _ _ _ (by repeat (first | exact HA.out | refine Kd.C_drewN ?_ _)) HC.out HS.out s HZ.out).mono ?_; rintro e wB ⟨rfl, n, rfl⟩)
    | (go_at_call 16; refine (Size_c _ _ _ _ (by repeat (first | exact HA.out | refine Kd.C_drewN ?_ _)) HC.out HS.out t).mono ?_; rintro e wB ⟨rfl, n, rfl⟩)
    | (go_at_call 17; refine (rSize_c _ _ _ _ (by repeat (first | exact HA.out | refine Kd.C_drewN ?_ _)) HC.out HS.out t).mono ?_; rintro e wB ⟨rfl, n, rfl⟩)
    | (go_at_call 18; refine (Mask_c _ _ _ _ (by repeat (first | exact HA.out | refine Kd.C_drewN ?_ _)) HC.out HS.out t).mono ?_; rintro e wB ⟨rfl, n, rfl⟩)
    | (go_at_call 19; refine (rMask_c _ _ _ _ (by repeat (first | exact HA.out | refine Kd.C_drewN ?_ _)) HC.out HS.out t).mono ?_; rintro e wB ⟨rfl, n, rfl⟩)
    | (go_at_call 20; refine (To_c _ _ _ _ (by repeat (first | exact HA.out | refine Kd.C_drewN ?_ _)) HC.out HS.out t f).mono ?_; rintro e wB ⟨rfl, n, rfl⟩)
    | (go_at_call 21; refine (rTo_c _ _ _ _ (by repeat (first | exact HA.out | refine Kd.C_drewN ?_ _)) HC.out HS.out t f).mono ?_; rintro e wB ⟨rfl, n, rfl⟩))
  go_ret
  exact ⟨by simp, by repeat (first | exact HB.out | refine pw_below_drewN ?_ _)⟩
omit hs hz in
set_option maxHeartbeats 1000000 in
set_option maxRecDepth 100000 in
theorem Tells_many (hf : ¬ Few ts) : Calls Try.prog 3 #[.slice A0 ts.length c0, .agg #[.int .i64 t, .int .i64 f], .string s] w fun e w' => e = .returned (.bool true) ∧ Below w.heap.size w w' := by
  have HR := Aside0.mk hr0
  have HC := Aside0.mk hc0
  have HF := Aside0.mk hf
  clear hr0 hc0 hf
  go_enter Try.func3, Try.ntmps3
  go_wp2_with (first
    | (go_at_call 10; refine (alive_c _).mono ?_; rintro e wA ⟨rfl, hb⟩; have HB := Aside0.mk (below_step (below_alloc (Below.refl w.heap.size w) _) hb); have HA := Aside0.mk (Kd.C_below HR.out HB.out); clear hb)
    | (go_at_call 11; refine (few_c _ _ _ _ (by repeat (first | exact HA.out | refine Kd.C_drewN ?_ _)) HC.out false (by simpa using HF.out)).mono ?_; rintro e wB ⟨rfl, n, rfl⟩))
  go_ret
  exact ⟨rfl, by repeat (first | exact HB.out | refine pw_below_drewN ?_ _)⟩
omit hs hz in
set_option maxHeartbeats 1000000 in
set_option maxRecDepth 100000 in
theorem Tells_long (hf : Few ts) (h100 : (s.size : Int) > 100) : Calls Try.prog 3 #[.slice A0 ts.length c0, .agg #[.int .i64 t, .int .i64 f], .string s] w fun e w' => e = .returned (.bool true) ∧ Below w.heap.size w w' := by
  have HR := Aside0.mk hr0
  have HC := Aside0.mk hc0
  have HF := Aside0.mk hf
  clear hr0 hc0 hf
  go_enter Try.func3, Try.ntmps3
  go_wp2_with (first
    | (go_at_call 10; refine (alive_c _).mono ?_; rintro e wA ⟨rfl, hb⟩; have HB := Aside0.mk (below_step (below_alloc (Below.refl w.heap.size w) _) hb); have HA := Aside0.mk (Kd.C_below HR.out HB.out); clear hb)
    | (go_at_call 11; refine (few_c _ _ _ _ (by repeat (first | exact HA.out | refine Kd.C_drewN ?_ _)) HC.out true (by simpa using HF.out)).mono ?_; rintro e wB ⟨rfl, n, rfl⟩))
  go_ret
  exact ⟨rfl, by repeat (first | exact HB.out | refine pw_below_drewN ?_ _)⟩
theorem Tells_c : Calls Try.prog 3 #[.slice A0 ts.length c0, .agg #[.int .i64 t, .int .i64 f], .string s] w fun e w' => e = .returned (.bool true) ∧ Below w.heap.size w w' := by
  by_cases hf : Few ts
  · by_cases h : (s.size : Int) > 100
    · exact Tells_long w A0 c0 ts hr0 hc0 t f s hf h
    · exact Tells_is w A0 c0 ts hr0 hc0 hs t f s hz hf h
  · exact Tells_many w A0 c0 ts hr0 hc0 t f s hf
end
end Go.Proofs.Ytjmhkimffocpeaa.KC

/-
  The law LiveMore, for every input: no condition; the tables of strconv as the program's text lays them: tied by the card.
-/
import Derived.Test.YtkmkfiidlbhcgaaDoorCards
import Derived.Test.YtkmkfiidlbhcgaaDoorTie
import Derived.Test.YtkmkfiidlbhcgaaDoorME2
import Derived.Test.YtkmkfiidlbhcgaaDoorME34
import Derived.WalkKit
import Derived.ProofKit
import Derived.OpenShut
import Derived.ShutString
import Derived.ChangeOld
import Derived.Below
import Derived.Carry
import Derived.LaidMore
import Derived.LaidHandle
import Derived.MakeChecks
import Derived.SevenTiedAt
import Derived.Stop.Joined
import Derived.Lib.LaidTab
namespace Go.Proofs.YtkmkfiidlbhcgaaDoor.liveMore
open Go.ChangeShapes Go.WideShapes Go.ChangeAt Go.RowKit
open Go.Proofs.YtkmkfiidlbhcgaaDoorW.PrintWords Go.Proofs.YtkmkfiidlbhcgaaDoor.Scan Go.Proofs.YtkmkfiidlbhcgaaDoor.Rw Go.Proofs.YtkmkfiidlbhcgaaDoor.F Go.Proofs.YtkmkfiidlbhcgaaDoor.TT Go.Proofs.YtkmkfiidlbhcgaaDoor.FM Go.Proofs.YtkmkfiidlbhcgaaDoor.LL Go.Proofs.YtkmkfiidlbhcgaaDoor.L8More
set_option linter.unusedVariables false
theorem own : ownKnob Tryd.prog.godebug = none := by kernel_rfl
theorem laidOut : laidOutB Tryd.prog = true := by kernel_rfl
set_option maxRecDepth 100000 in
theorem lifted (os : Os) (started : os.Started) (H : Type) (enc : TypeId × Value → H) :
    ReturnsInHanded {} Tryd.checked os 10 .any (fun w args => (Rows.liveMoreSpec.pre enc Tryd.prog Tryd.f10 [] false w args ∧ laidMetH Tryd.prog Rows.liveMoreRow.laid w) ∧ sizedMet enc Tryd.prog Tryd.f10 (OpenSpec.ofChange Rows.liveMoreSpec) false w args)
      (Rows.liveMoreSpec.post enc Tryd.prog Tryd.f10 false true false false) := by
  refine returnsInHanded_of_change_and (C := Tryd.checked) (X := fun w _ => laidMetH Tryd.prog Rows.liveMoreRow.laid w) (fun _ _ _ hh h => h.of_heap hh) own started (by kernel_rfl) Tryd.func10
    (ChangeSpec.witness_shaped (enc := enc) (C := Tryd.checked) (os := os) (X := fun w _ => laidMetH Tryd.prog Rows.liveMoreRow.laid w) false (World.doorLaid Tryd.prog 400 os) #[.agg #[.slice none 0 0, .string ByteArray.empty, .string ByteArray.empty, .slice none 0 0], .int .u8 0, .int .u8 0] 8 rfl (World.shaped_of_RefB (by kernel_rfl) (by kernel_rfl)) (by kernel_rfl) (by kernel_rfl) (by kernel_rfl) (LD.door_met os _)) ?_
  intro W base args ds gs before hval0 hW _ _ hL _
  have hval : ∀ (j : Nat) t v, Tryd.f10.params[j]? = some t → args[j]? = some v → Value.okWide Tryd.prog W .any base t v := hval0
  have hW' := hW
  obtain ⟨p, q, hA0, hV, rfl, hfz, hnd⟩ := hW
  have hA : DataW.TrodAll enc Tryd.prog W 0 (fun _ => true) true Tryd.f10.params.toList args.toList ds p := hA0
  rw [Tryd.params10] at hA hval
  obtain ⟨v0, vs0, d0, ds0, p0, q0, hargs, rfl, rfl, h0, r0⟩ := trodAll_cons hA
  obtain ⟨v1, vs1, d1, ds1, p1, q1, rfl, rfl, rfl, h1, r1⟩ := trodAll_cons r0
  obtain ⟨v2, vs2, d2, ds2, p2, q2, rfl, rfl, rfl, h2, r2⟩ := trodAll_cons r1
  obtain ⟨rfl, rfl, rfl⟩ := trodAll_nil r2
  obtain rfl : args = #[v0, v1, v2] := by cases args; simp_all
  obtain ⟨rfl, rfl⟩ := trodVars_none hV
  have k0 := h0
  have lt0 : ∀ x ∈ p0, x.block < W.heap.size := by obtain ⟨m, hm⟩ := k0; exact DataW.trod_lt m _ _ _ hm
  obtain ⟨A0, c0, ts, la, gl, A3, c3, code, rfl, hc0, hC0, hS0, hla, hgl, hc3, hC3, hw⟩ := open_prog (hval 0 25 v0 rfl rfl) h0
  obtain ⟨a1, rfl, rfl, rfl, w1⟩ := open_int Tryd.underlying5 (hval 1 5 v1 rfl rfl) h1
  obtain ⟨a2, rfl, rfl, rfl, w2⟩ := open_int Tryd.underlying5 (hval 2 5 v2 rfl rfl) h2
  clear hA0 hval0
  simp only [List.append_nil] at hW'
  obtain ⟨k, hk⟩ := ev_at (LiveMore_pure ts (by have := Kd.C_max hC0; omega) hS0 la gl hla hgl code (by have := Kd.C_max hC3; omega) hw a1 (wf_u8 w1).1 (wf_u8 w1).2 a2 (wf_u8 w2).1 (wf_u8 w2).2)
  refine (lockstitchlaw08_LiveMore.calls k A0 c0 ts la gl A3 c3 code a1 a2 true W hC0 hc0 hC3 hc3 hk (LD.tab hL)).mono fun e W' ⟨he, bel⟩ => ?_
  subst he
  exact ⟨_, rfl, _, _, _, [], _, [], hW', trodAll_mk1 (shut_bool Tryd.underlying4 _), (trodAll_cons_mk (Below.trod laidOut (by kernel_rfl) (of_decide_eq_true (by kernel_rfl)) k0 bel lt0) (trodAll_cons_mk (shut_int Tryd.underlying5 w1) (trodAll_cons_mk (shut_int Tryd.underlying5 w2) trodAll_mk0))), rfl, bel.frame _, fun h => by cases h⟩
theorem over : Rows.liveMoreRow.holds Tryd.pinned (OpenSpec.ofChange Rows.liveMoreSpec) :=
  OpenClaim.holds_of_wide 10 Tryd.f10 rfl rfl rfl rfl rfl rfl rfl ⟨rfl, rfl, rfl, rfl, rfl⟩ rfl rfl rfl rfl rfl (by kernel_rfl) Tryd.func10 (by kernel_rfl)
    (of_decide_eq_true (by kernel_rfl)) (by unfold Func.isWrapper; first | (rw [if_pos (by decide +kernel)]; kernel_rfl) | (rw [if_neg (by decide +kernel)]; exact ⟨rfl, rfl⟩))
    (fun os started H enc _ => lifted os started H enc)
theorem card : Rows.LiveMoreCardSaid :=
  Claim7.holds_tied_plain_at .later [] [.data, .data, .data] true (true, "4952ab5e77075f4110198fea9a9530deae530e4f2dbb874d9c0a98fd7239fa27") false
    over (fun _ h => by cases h) (by kernel_rfl) (fun _ h => by cases h) liveMore_row_tie rfl ⟨rfl, rfl⟩ (by kernel_rfl) rfl
    (fun f fn hf hfn => by
      obtain rfl : f = 10 := Option.some.inj ((show Tryd.prog.funcNamed "lockstitch/lockstitchlaw08.LiveMore" = some 10 by kernel_rfl).symm.trans hf) |>.symm
      obtain rfl : fn = Tryd.f10 := (Option.some.inj (Tryd.func10.symm.trans hfn)).symm
      exact ⟨by kernel_rfl, fun j t ht => by
        rw [Tryd.params10] at ht
        match j, ht with
        | 0, ht => exact (Option.some.inj ht) ▸ (show Tryd.prog.wantsStandIn 25 = false by kernel_rfl)
        | 1, ht => exact (Option.some.inj ht) ▸ (show Tryd.prog.wantsStandIn 5 = false by kernel_rfl)
        | 2, ht => exact (Option.some.inj ht) ▸ (show Tryd.prog.wantsStandIn 5 = false by kernel_rfl)
        | j + 3, ht => simp at ht⟩)
    (by kernel_rfl)
end Go.Proofs.YtkmkfiidlbhcgaaDoor.liveMore
namespace Go.Proofs.YtkmkfiidlbhcgaaDoor
theorem liveMore_holds : Rows.LiveMoreCardSaid := liveMore.card
end Go.Proofs.YtkmkfiidlbhcgaaDoor

/- Texts of this claim, pruned to what it needs and laid together by prune.py. -/
import Derived.Test.YtkmkfiidlbhcgaaDoorMO31
import Derived.Test.YtkmkfiidlbhcgaaDoorMO34
import Derived.Test.YtkmkfiidlbhcgaaDoorMO33
namespace Go.Proofs.YtkmkfiidlbhcgaaDoor.ZB
open Go.RowKit Go.Proofs.YtkmkfiidlbhcgaaDoorW.PrintWords Go.Proofs.YtkmkfiidlbhcgaaDoor.Scan Go.Proofs.YtkmkfiidlbhcgaaDoor.F Go.Proofs.YtkmkfiidlbhcgaaDoor.TT Go.Proofs.YtkmkfiidlbhcgaaDoor.NX Go.Proofs.YtkmkfiidlbhcgaaDoor.FP Go.Proofs.YtkmkfiidlbhcgaaDoor.FL Go.Proofs.YtkmkfiidlbhcgaaDoor.B8 Go.Proofs.YtkmkfiidlbhcgaaDoor.V Go.Proofs.YtkmkfiidlbhcgaaDoor.LB Go.Proofs.YtkmkfiidlbhcgaaDoor.Z Go.Proofs.YtkmkfiidlbhcgaaDoor.ZE
set_option linter.unusedVariables false
set_option linter.unusedSectionVars false
section
variable {ts : List ByteArray} {la gl : ByteArray} {code : List S36} (hI : InR (nxt code) (code.length + 1)) (hsm : code.length ≤ 1000000) (hw : WfC code)
include hI hsm hw
end
end Go.Proofs.YtkmkfiidlbhcgaaDoor.ZB

namespace Go.Proofs.YtkmkfiidlbhcgaaDoor.ZG
open Go.RowKit Go.Proofs.YtkmkfiidlbhcgaaDoorW.PrintWords Go.Proofs.YtkmkfiidlbhcgaaDoorW.PrintLast Go.Proofs.YtkmkfiidlbhcgaaDoorW.PrintMore Go.Proofs.YtkmkfiidlbhcgaaDoor.F Go.Proofs.YtkmkfiidlbhcgaaDoor.TT Go.Proofs.YtkmkfiidlbhcgaaDoor.NX Go.Proofs.YtkmkfiidlbhcgaaDoor.FP Go.Proofs.YtkmkfiidlbhcgaaDoor.B8 Go.Proofs.YtkmkfiidlbhcgaaDoor.Scan Go.Proofs.YtkmkfiidlbhcgaaDoor.ZB
set_option linter.unusedVariables false
open Classical in
noncomputable def fresh_In.f (l0_0 : List ByteArray) (a0_1 : ByteArray) (a0_2 : ByteArray) (l0_3 : List S36) : Option (List Int) := if InR (nxt l0_3) (l0_3.length + 1) ∧ l0_3.length ≤ 1000000 ∧ WfC l0_3 then some (frI l0_3) else none
theorem fresh_In.calls (A0_0 : Option Addr) (c0_0 : Nat) (l0_0 : List ByteArray) (a0_1 : ByteArray) (a0_2 : ByteArray) (A0_3 : Option Addr) (c0_3 : Nat) (l0_3 : List (S36)) (r : List Int) (w : World) (_hr0_0 : Kd.C Kd.string w A0_0 l0_0.length l0_0) (_hc0_0 : l0_0.length ≤ c0_0) (hr0_3 : Kd.C k36 w A0_3 l0_3.length l0_3) (_hc0_3 : l0_3.length ≤ c0_3) (h : fresh_In.f l0_0 a0_1 a0_2 l0_3 = some r) :
    Calls Tryd.prog 37 #[.agg #[.slice A0_0 l0_0.length c0_0, .string a0_1, .string a0_2, .slice A0_3 l0_3.length c0_3]] w fun e w' => ∃ v0_ : Value, e = .returned (v0_) ∧ Kd.R (Kd.int .u8) 5 w' w.heap.size (fun _ => True) v0_ r ∧ Below w.heap.size w w' := by
  unfold fresh_In.f at h
  split at h
  · rename_i hh
    obtain rfl := Option.some.inj h
    obtain ⟨k, hk⟩ := ev_at (fin_ev (ts := l0_0) (la := a0_1) (gl := a0_2) hh.1 hh.2.1 hh.2.2)
    exact ZD.fresh_In.calls k A0_0 c0_0 l0_0 a0_1 a0_2 A0_3 c0_3 l0_3 _ w _hr0_0 _hc0_0 hr0_3 _hc0_3 hk
  · cases h
open Classical in
noncomputable def lockstitchref09_In.f (l0_0 : List ByteArray) (a0_1 : ByteArray) (a0_2 : ByteArray) (l0_3 : List S36) : Option (List Int) := if InR (nxt l0_3) (l0_3.length + 1) ∧ l0_3.length ≤ 1000000 ∧ WfC l0_3 then some (frI l0_3) else none
end Go.Proofs.YtkmkfiidlbhcgaaDoor.ZG

/- Texts of this claim, pruned to what it needs and laid together by prune.py. -/
import Derived.Test.YtkplgfhkebkaaaaDoorMC38
import Derived.ScopeJumps
import Derived.WalkMore
import Derived.Test.YtkplgfhkebkaaaaDoorMC31
namespace Go.Proofs.YtkplgfhkebkaaaaDoor.XD
open Go.RowKit Go.Proofs.YtkplgfhkebkaaaaDoorW.PrintWords Go.Proofs.YtkplgfhkebkaaaaDoorW.PrintLast Go.Proofs.YtkplgfhkebkaaaaDoorW.PrintMore
attribute [local go_sem] max2_int min2_int max_two min_two max_three min_three max_four min_four
set_option linter.unusedVariables false
set_option linter.unusedSimpArgs false
open Go.Proofs.YtkplgfhkebkaaaaDoor.F
open Go.Proofs.YtkplgfhkebkaaaaDoor.FG
open Go.Proofs.YtkplgfhkebkaaaaDoor.V
mutual
noncomputable def live_In.l0 : Nat → List Int → Int → List ByteArray → ByteArray → ByteArray → List (S47) → Option (List Int)
  | 0, _, _, _, _, _, _ => none
  | k + 1, x3, x4, x102000, x102001, x102002, x102003 => if x4 ≥ 0 then ((flow_Next.f x102000 x102001 x102002 x102003 x4).bind fun t105 => (live_In.l1 k x3 x4 0 t105 (t105.length : Int) 0 x102000 x102001 x102002 x102003)) else (some x3)
noncomputable def live_In.l1 : Nat → List Int → Int → Int → List Int → Int → Int → List ByteArray → ByteArray → ByteArray → List (S47) → Option (List Int)
  | 0, _, _, _, _, _, _, _, _, _, _ => none
  | k + 1, x3, x4, x5, x23, x24, x25, x102000, x102001, x102002, x102003 => if x25 < x24 then (if 0 ≤ x25 then (if x25 < (x23.length : Int) then (if (rd x23 x25) ≥ 0 then (if (rd x23 x25) < (x3.length : Int) then (if 0 ≤ (rd x23 x25) then (live_In.l1 k x3 x4 (Go.bits .or .u8 x5 (rd x3 (rd x23 x25))) x23 x24 (wrap64 (x25 + 1)) x102000 x102001 x102002 x102003) else (none)) else (live_In.l1 k x3 x4 x5 x23 x24 (wrap64 (x25 + 1)) x102000 x102001 x102002 x102003)) else (live_In.l1 k x3 x4 x5 x23 x24 (wrap64 (x25 + 1)) x102000 x102001 x102002 x102003)) else (none)) else (none)) else (if 0 ≤ x4 then (if x4 < (x102003.length : Int) then ((live_Sets.f k ((rd_T47 x102003 x4).f0) ((rd_T47 x102003 x4).f1) ((rd_T47 x102003 x4).f2) ((rd_T47 x102003 x4).f3) ((rd_T47 x102003 x4).f4)).bind fun t111 => ((live_Uses.f k ((rd_T47 x102003 x4).f0) ((rd_T47 x102003 x4).f1) ((rd_T47 x102003 x4).f2) ((rd_T47 x102003 x4).f3) ((rd_T47 x102003 x4).f4)).bind fun t113 => (if x4 < (x3.length : Int) then (if (Go.bits .or .u8 (Go.bits .andNot .u8 x5 t111) t113) = (rd x3 x4) then (live_In.l0 k x3 (wrap64 (x4 - 1)) x102000 x102001 x102002 x102003) else (live_In.l0 k (x3.set (x4 : Int).toNat (Go.bits .or .u8 (Go.bits .andNot .u8 x5 t111) t113)) (wrap64 ((x102003.length : Int) - 1)) x102000 x102001 x102002 x102003)) else (none)))) else (none)) else (none))
end
noncomputable def live_In.f (k : Nat) (l0_0 : List ByteArray) (a0_1 : ByteArray) (a0_2 : ByteArray) (l0_3 : List (S47)) : Option (List Int) := if 0 ≤ (wrap64 ((l0_3.length : Int) + 1)) then (if (wrap64 ((l0_3.length : Int) + 1) : Int).toNat ≤ 281474976710656 then (live_In.l0 k (List.replicate (wrap64 ((l0_3.length : Int) + 1) : Int).toNat 0) (wrap64 ((l0_3.length : Int) - 1)) l0_0 a0_1 a0_2 l0_3) else (none)) else (none)
noncomputable def live_In.T12 : Bool × List (List Nat × List Nat) := (true, [([], []), ([], []), ([1], [1]), ([], []), ([2, 3], [2, 3]), ([4], [4]), ([5], [5]), ([0, 6], [0, 6]), ([], []), ([8], [8]), ([], []), ([9, 10], [9, 10]), ([11], [11]), ([12, 6], [12]), ([7, 13], [7, 13]), ([14, 13, 0, 1, 2, 3, 4, 5, 6, 7, 8, 9, 10, 11, 12, 13, 14], [0, 14])])
noncomputable def live_In.B12 : List Nat := [0, 0, 2, 0, 14, 30, 62, 127, 0, 256, 0, 1792, 3840, 8062, 16383, 32767]
end Go.Proofs.YtkplgfhkebkaaaaDoor.XD

namespace Go.Proofs.YtkplgfhkebkaaaaDoor.LB
open Go.RowKit Go.Proofs.YtkplgfhkebkaaaaDoorW.PrintWords Go.Proofs.YtkplgfhkebkaaaaDoor.Scan Go.Proofs.YtkplgfhkebkaaaaDoor.F Go.Proofs.YtkplgfhkebkaaaaDoor.TT Go.Proofs.YtkplgfhkebkaaaaDoor.NX Go.Proofs.YtkplgfhkebkaaaaDoor.FP Go.Proofs.YtkplgfhkebkaaaaDoor.FL Go.Proofs.YtkplgfhkebkaaaaDoor.FG Go.Proofs.YtkplgfhkebkaaaaDoor.B8 Go.Proofs.YtkplgfhkebkaaaaDoor.V Go.Proofs.YtkplgfhkebkaaaaDoor.XD
set_option linter.unusedVariables false
set_option linter.unusedSectionVars false
section
variable {ts : List ByteArray} {la gl : ByteArray} {code : List S47} (hI : InR (nxt code) (code.length + 1)) (hsm : code.length ≤ 1000000) (hw : WfC code)
include hI hsm hw
end
end Go.Proofs.YtkplgfhkebkaaaaDoor.LB

namespace Go.Proofs.YtkplgfhkebkaaaaDoor.LG
open Go.RowKit Go.Proofs.YtkplgfhkebkaaaaDoorW.PrintWords Go.Proofs.YtkplgfhkebkaaaaDoorW.PrintLast Go.Proofs.YtkplgfhkebkaaaaDoorW.PrintMore Go.Proofs.YtkplgfhkebkaaaaDoor.F Go.Proofs.YtkplgfhkebkaaaaDoor.TT Go.Proofs.YtkplgfhkebkaaaaDoor.Srt Go.Proofs.YtkplgfhkebkaaaaDoor.NX Go.Proofs.YtkplgfhkebkaaaaDoor.FP Go.Proofs.YtkplgfhkebkaaaaDoor.B8 Go.Proofs.YtkplgfhkebkaaaaDoor.Scan Go.Proofs.YtkplgfhkebkaaaaDoor.LB
set_option linter.unusedVariables false
open Classical in
noncomputable def live_In.f (l0_0 : List ByteArray) (a0_1 : ByteArray) (a0_2 : ByteArray) (l0_3 : List S47) : Option (List Int) := if InR (nxt l0_3) (l0_3.length + 1) ∧ l0_3.length ≤ 1000000 ∧ WfC l0_3 then some (lvI l0_3) else none
end Go.Proofs.YtkplgfhkebkaaaaDoor.LG

/- Texts of this claim, pruned to what it needs and laid together by prune.py. -/
import Derived.Test.YtkplgfhkebkaaaaDoorMD33
import Derived.Test.YtkplgfhkebkaaaaDoorMD34
namespace Go.Proofs.YtkplgfhkebkaaaaDoor.ZB
open Go.RowKit Go.Proofs.YtkplgfhkebkaaaaDoorW.PrintWords Go.Proofs.YtkplgfhkebkaaaaDoor.Scan Go.Proofs.YtkplgfhkebkaaaaDoor.F Go.Proofs.YtkplgfhkebkaaaaDoor.TT Go.Proofs.YtkplgfhkebkaaaaDoor.NX Go.Proofs.YtkplgfhkebkaaaaDoor.FP Go.Proofs.YtkplgfhkebkaaaaDoor.FL Go.Proofs.YtkplgfhkebkaaaaDoor.FG Go.Proofs.YtkplgfhkebkaaaaDoor.B8 Go.Proofs.YtkplgfhkebkaaaaDoor.V Go.Proofs.YtkplgfhkebkaaaaDoor.LB Go.Proofs.YtkplgfhkebkaaaaDoor.Z Go.Proofs.YtkplgfhkebkaaaaDoor.ZD
set_option linter.unusedVariables false
set_option linter.unusedSectionVars false
section
variable {ts : List ByteArray} {la gl : ByteArray} {code : List S47} (hI : InR (nxt code) (code.length + 1)) (hsm : code.length ≤ 1000000) (hw : WfC code)
include hI hsm hw
end
end Go.Proofs.YtkplgfhkebkaaaaDoor.ZB

namespace Go.Proofs.YtkplgfhkebkaaaaDoor.ZG
open Go.RowKit Go.Proofs.YtkplgfhkebkaaaaDoorW.PrintWords Go.Proofs.YtkplgfhkebkaaaaDoorW.PrintLast Go.Proofs.YtkplgfhkebkaaaaDoorW.PrintMore Go.Proofs.YtkplgfhkebkaaaaDoor.F Go.Proofs.YtkplgfhkebkaaaaDoor.TT Go.Proofs.YtkplgfhkebkaaaaDoor.NX Go.Proofs.YtkplgfhkebkaaaaDoor.FP Go.Proofs.YtkplgfhkebkaaaaDoor.B8 Go.Proofs.YtkplgfhkebkaaaaDoor.Scan Go.Proofs.YtkplgfhkebkaaaaDoor.ZB
set_option linter.unusedVariables false
open Classical in
noncomputable def fresh_In.f (l0_0 : List ByteArray) (a0_1 : ByteArray) (a0_2 : ByteArray) (l0_3 : List S47) : Option (List Int) := if InR (nxt l0_3) (l0_3.length + 1) ∧ l0_3.length ≤ 1000000 ∧ WfC l0_3 then some (frI l0_3) else none
end Go.Proofs.YtkplgfhkebkaaaaDoor.ZG

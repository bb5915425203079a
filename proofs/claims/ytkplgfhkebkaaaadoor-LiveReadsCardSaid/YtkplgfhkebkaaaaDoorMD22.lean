/- Texts of this claim, pruned to what it needs and laid together by prune.py. -/
import Derived.Test.YtkplgfhkebkaaaaDoorMD21
import Derived.Test.YtkplgfhkebkaaaaDoorMD17
namespace Go.Proofs.YtkplgfhkebkaaaaDoorW.PrintWords
open Go.RowKit
end Go.Proofs.YtkplgfhkebkaaaaDoorW.PrintWords
namespace Go.Proofs.YtkplgfhkebkaaaaDoorW.PrintLast
section
variable {ops : Array Oper} {a : Act} {o og : Oper} {g : Nat} {t : Tmp} {u : Bool}
end
end Go.Proofs.YtkplgfhkebkaaaaDoorW.PrintLast

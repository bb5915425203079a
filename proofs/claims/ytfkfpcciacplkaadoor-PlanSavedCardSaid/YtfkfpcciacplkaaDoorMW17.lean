/- Texts of this claim, pruned to what it needs and laid together by prune.py. -/
import Derived.Test.YtfkfpcciacplkaaDoorMW16
import Derived.Test.YtfkfpcciacplkaaDoorMW12
namespace Go.Proofs.YtfkfpcciacplkaaDoorW.PrintWords
open Go.RowKit
end Go.Proofs.YtfkfpcciacplkaaDoorW.PrintWords
namespace Go.Proofs.YtfkfpcciacplkaaDoorW.PrintLast
section
variable {ops : Array Oper} {a : Act} {o og : Oper} {g : Nat} {t : Tmp} {u : Bool}
end
end Go.Proofs.YtfkfpcciacplkaaDoorW.PrintLast

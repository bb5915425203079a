/- Texts of this claim, pruned to what it needs and laid together by prune.py. -/
import Derived.Test.YtkmkfiidlbhcgaaDoorME18
import Derived.Test.YtkmkfiidlbhcgaaDoorME14
namespace Go.Proofs.YtkmkfiidlbhcgaaDoorW.PrintWords
open Go.RowKit
end Go.Proofs.YtkmkfiidlbhcgaaDoorW.PrintWords
namespace Go.Proofs.YtkmkfiidlbhcgaaDoorW.PrintLast
section
variable {ops : Array Oper} {a : Act} {o og : Oper} {g : Nat} {t : Tmp} {u : Bool}
end
end Go.Proofs.YtkmkfiidlbhcgaaDoorW.PrintLast

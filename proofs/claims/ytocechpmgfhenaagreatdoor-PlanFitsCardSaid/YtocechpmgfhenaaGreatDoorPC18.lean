/- Texts of this claim, pruned to what it needs and laid together by prune.py. -/
import Derived.Test.YtocechpmgfhenaaGreatDoorPC17
import Derived.Test.YtocechpmgfhenaaGreatDoorPC13
namespace Go.Proofs.YtocechpmgfhenaaGreatDoorW.PrintWords
open Go.RowKit
end Go.Proofs.YtocechpmgfhenaaGreatDoorW.PrintWords
namespace Go.Proofs.YtocechpmgfhenaaGreatDoorW.PrintLast
section
variable {ops : Array Oper} {a : Act} {o og : Oper} {g : Nat} {t : Tmp} {u : Bool}
end
end Go.Proofs.YtocechpmgfhenaaGreatDoorW.PrintLast

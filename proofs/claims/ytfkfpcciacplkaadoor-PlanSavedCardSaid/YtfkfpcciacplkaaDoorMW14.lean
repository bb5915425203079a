/- Texts of this claim, pruned to what it needs and laid together by prune.py. -/
import Derived.Test.YtfkfpcciacplkaaDoorMW0
import Derived.Laws.StructEq
namespace Go.Proofs.YtfkfpcciacplkaaDoorW.PrintWords
open Go.RowKit
section
variable {P : Program} {d : Nat} {xs ys : Array Value} {f : Field} {fs : List Field} {a b : Value} {r s : Bool} {w : World}
end
end Go.Proofs.YtfkfpcciacplkaaDoorW.PrintWords

/- Texts of this claim, pruned to what it needs and laid together by prune.py. -/
import Derived.Test.YtfkfpcciacplkaaDoorMW0
namespace Go.Proofs.YtfkfpcciacplkaaDoorW.PrintWords
end Go.Proofs.YtfkfpcciacplkaaDoorW.PrintWords

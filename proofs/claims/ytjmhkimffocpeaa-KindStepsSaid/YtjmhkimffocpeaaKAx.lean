-- printed over print.py by myprint.py (a program of this session's) for the claims of this seat
import Derived.Test.YtjmhkimffocpeaaKAx0
import Derived.Test.YtjmhkimffocpeaaKAx1
namespace Go.Proofs.Ytjmhkimffocpeaa.KA
open Go.RowKit Go.Proofs.YtjmhkimffocpeaaW.PrintWords Go.Proofs.YtjmhkimffocpeaaW.PrintLast Go.Proofs.YtjmhkimffocpeaaW.PrintMore
attribute [local go_sem] max2_int min2_int max_two min_two max_three min_three max_four min_four   -- for this text's walks alone
set_option linter.unusedVariables false
set_option linter.unusedSimpArgs false

open Go.Proofs.Ytjmhkimffocpeaa.K
open Go.Proofs.Ytjmhkimffocpeaa.KG
end Go.Proofs.Ytjmhkimffocpeaa.KA

-- printed over print.py by myprint.py (a program of this session's) for the claims of this seat
import Derived.Test.YtjmhkimffocpeaaKx0
import Derived.Test.YtjmhkimffocpeaaKx1
import Derived.Test.YtjmhkimffocpeaaKx2
import Derived.Test.YtjmhkimffocpeaaKx3
namespace Go.Proofs.Ytjmhkimffocpeaa.K
open Go.RowKit Go.Proofs.YtjmhkimffocpeaaW.PrintWords Go.Proofs.YtjmhkimffocpeaaW.PrintLast Go.Proofs.YtjmhkimffocpeaaW.PrintMore
attribute [local go_sem] max2_int min2_int max_two min_two max_three min_three max_four min_four   -- for this text's walks alone
set_option linter.unusedVariables false
set_option linter.unusedSimpArgs false

end Go.Proofs.Ytjmhkimffocpeaa.K

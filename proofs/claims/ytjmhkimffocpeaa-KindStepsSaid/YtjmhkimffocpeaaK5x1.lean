-- printed over print.py by myprint.py (a program of this session's) for the claims of this seat
import Derived.Test.YtjmhkimffocpeaaK5x0
namespace Go.Proofs.Ytjmhkimffocpeaa.K5
open Go.RowKit Go.Proofs.YtjmhkimffocpeaaW.PrintWords Go.Proofs.YtjmhkimffocpeaaW.PrintLast Go.Proofs.YtjmhkimffocpeaaW.PrintMore
attribute [local go_sem] max2_int min2_int max_two min_two max_three min_three max_four min_four   -- for this text's walks alone
set_option linter.unusedVariables false
set_option linter.unusedSimpArgs false

open Go.Proofs.Ytjmhkimffocpeaa.K
open Go.Proofs.Ytjmhkimffocpeaa.KG
open Go.Proofs.Ytjmhkimffocpeaa.KA
-- given: function 10 (lockstitchlaw03_alive)

-- given: function 11 (lockstitchlaw03_few)

-- given: function 12 (kind_Right)

-- given: function 18 (kind_Mask)

end Go.Proofs.Ytjmhkimffocpeaa.K5

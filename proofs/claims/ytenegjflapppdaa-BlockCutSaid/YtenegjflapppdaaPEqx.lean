-- PRINTED by print.py (a twelfth state) out of the translation. Not trusted: Lean checks it.
import Derived.Test.YtenegjflapppdaaPEqx0
import Derived.Test.YtenegjflapppdaaPEqx1
namespace Go.Proofs.Ytenegjflapppdaa.PEq
open Go.RowKit Go.Proofs.YtenegjflapppdaaW.PrintWords Go.Proofs.YtenegjflapppdaaW.PrintLast Go.Proofs.YtenegjflapppdaaW.PrintMore
attribute [local go_sem] max2_int min2_int max_two min_two max_three min_three max_four min_four   -- for this text's walks alone
set_option linter.unusedVariables false
set_option linter.unusedSimpArgs false

end Go.Proofs.Ytenegjflapppdaa.PEq

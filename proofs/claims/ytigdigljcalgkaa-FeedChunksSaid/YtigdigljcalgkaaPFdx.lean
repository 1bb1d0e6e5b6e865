-- PRINTED by print.py (a twelfth state) out of the translation. Not trusted: Lean checks it.
import Derived.Test.YtigdigljcalgkaaPFdx0
import Derived.Test.YtigdigljcalgkaaPFdx1
import Derived.Test.YtigdigljcalgkaaPFdx2
namespace Go.Proofs.Ytigdigljcalgkaa.PFd
open Go.RowKit Go.Proofs.YtigdigljcalgkaaW.PrintWords Go.Proofs.YtigdigljcalgkaaW.PrintLast Go.Proofs.YtigdigljcalgkaaW.PrintMore
attribute [local go_sem] max2_int min2_int max_two min_two max_three min_three max_four min_four   -- for this text's walks alone
set_option linter.unusedVariables false
set_option linter.unusedSimpArgs false

end Go.Proofs.Ytigdigljcalgkaa.PFd

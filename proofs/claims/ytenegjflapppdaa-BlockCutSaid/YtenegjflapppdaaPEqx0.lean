-- PRINTED by print.py (a twelfth state) out of the translation. Not trusted: Lean checks it.
import Derived.Test.YtenegjflapppdaaProg
import Derived.Below
import Derived.Deep.Draws
import Derived.Deep.AppendLies
import Derived.Maps.AppendAt
import Derived.OwnWalk
import Derived.Laws.BytesArg
import Derived.Laws.MakeOwn
import Derived.Laws.OwnMore
import Derived.Deep.OwnRows
import Derived.Tactics
import Derived.Lib.ConvBytes
import Derived.Laws.Slices
import Derived.WalkKit
import Derived.KernelRfl
import Derived.RowKit3
import Derived.Deep.LoopGhost
import Derived.Deep.QuietTactic
import Derived.BigQuiet
import Derived.WideLaws
import Derived.Deep.DeepCutAuto
import Derived.Deep.CutBlock
import Derived.Deep.RegionHeld3
import Derived.Laws.Rows
import Derived.Lib.AppendStr
import Derived.ArgAppend
import Derived.Laws.IdiomCopy
import Derived.OrdersHeld
import Derived.Laws.BitsLemmas
import Derived.RowKit
import Derived.Test.YtenegjflapppdaaWWords
import Derived.Test.YtenegjflapppdaaWLast
import Derived.Test.YtenegjflapppdaaWTab
import Derived.Test.YtenegjflapppdaaWFour
import Derived.Test.YtenegjflapppdaaWQPut
import Derived.Test.YtenegjflapppdaaWApart
import Derived.Test.YtenegjflapppdaaWArr
import Derived.Test.YtenegjflapppdaaWZeros
import Derived.Test.YtenegjflapppdaaWFoot
import Derived.Test.YtenegjflapppdaaWKept
import Derived.Test.YtenegjflapppdaaWShare
import Derived.Test.YtenegjflapppdaaWN
import Derived.Test.YtenegjflapppdaaWFootNe
import Derived.Test.YtenegjflapppdaaWAt
import Derived.Test.YtenegjflapppdaaWEqStruct
import Derived.Test.YtenegjflapppdaaWRepsOne
import Derived.Test.YtenegjflapppdaaWInv
import Derived.Test.YtenegjflapppdaaWInvWords
import Derived.Test.YtenegjflapppdaaWGuard
import Derived.Test.YtenegjflapppdaaWNEv
import Derived.Test.YtenegjflapppdaaWMore
namespace Go.Proofs.Ytenegjflapppdaa.PEq
open Go.RowKit Go.Proofs.YtenegjflapppdaaW.PrintWords Go.Proofs.YtenegjflapppdaaW.PrintLast Go.Proofs.YtenegjflapppdaaW.PrintMore
attribute [local go_sem] max2_int min2_int max_two min_two max_three min_three max_four min_four   -- for this text's walks alone
set_option linter.unusedVariables false
set_option linter.unusedSimpArgs false



def errW : Option Int → Value
  | none => .nilIface
  | some c => .iface 0 (.int .i64 c)
theorem errW_none : errW none = .nilIface := rfl
theorem errW_some (c : Int) : errW (some c) = .iface 0 (.int .i64 c) := rfl

-- the values' own types

end Go.Proofs.Ytenegjflapppdaa.PEq

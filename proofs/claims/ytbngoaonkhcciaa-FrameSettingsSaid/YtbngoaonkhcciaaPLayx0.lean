-- PRINTED by print.py (a twelfth state) out of the translation. Not trusted: Lean checks it.
import Derived.Test.YtbngoaonkhcciaaProg
import Derived.Below
import Derived.Deep.Draws
import Derived.Deep.AppendLies
import Derived.Maps.AppendAt
import Derived.OwnWalk
import Derived.Laws.BytesArg
import Derived.Laws.MakeOwn
import Derived.Laws.OwnMore
import Derived.Deep.OwnRows
import Derived.Tactics
import Derived.Lib.ConvBytes
import Derived.Laws.Slices
import Derived.WalkKit
import Derived.KernelRfl
import Derived.RowKit3
import Derived.Deep.LoopGhost
import Derived.Deep.QuietTactic
import Derived.BigQuiet
import Derived.WideLaws
import Derived.Deep.DeepCutAuto
import Derived.Deep.CutBlock
import Derived.Deep.RegionHeld3
import Derived.Laws.Rows
import Derived.Lib.AppendStr
import Derived.ArgAppend
import Derived.Laws.IdiomCopy
import Derived.OrdersHeld
import Derived.Laws.BitsLemmas
import Derived.RowKit
import Derived.Test.YtbngoaonkhcciaaWWords
import Derived.Test.YtbngoaonkhcciaaWLast
import Derived.Test.YtbngoaonkhcciaaWTab
import Derived.Test.YtbngoaonkhcciaaWFour
import Derived.Test.YtbngoaonkhcciaaWQPut
import Derived.Test.YtbngoaonkhcciaaWApart
import Derived.Test.YtbngoaonkhcciaaWArr
import Derived.Test.YtbngoaonkhcciaaWZeros
import Derived.Test.YtbngoaonkhcciaaWFoot
import Derived.Test.YtbngoaonkhcciaaWKept
import Derived.Test.YtbngoaonkhcciaaWShare
import Derived.Test.YtbngoaonkhcciaaWN
import Derived.Test.YtbngoaonkhcciaaWFootNe
import Derived.Test.YtbngoaonkhcciaaWAt
import Derived.Test.YtbngoaonkhcciaaWEqStruct
import Derived.Test.YtbngoaonkhcciaaWRepsOne
import Derived.Test.YtbngoaonkhcciaaWInv
import Derived.Test.YtbngoaonkhcciaaWInvWords
import Derived.Test.YtbngoaonkhcciaaWGuard
import Derived.Test.YtbngoaonkhcciaaWNEv
import Derived.Test.YtbngoaonkhcciaaWMore
namespace Go.Proofs.Ytbngoaonkhcciaa.PLay
open Go.RowKit Go.Proofs.YtbngoaonkhcciaaW.PrintWords Go.Proofs.YtbngoaonkhcciaaW.PrintLast Go.Proofs.YtbngoaonkhcciaaW.PrintMore
attribute [local go_sem] max2_int min2_int max_two min_two max_three min_three max_four min_four   -- for this text's walks alone
set_option linter.unusedVariables false
set_option linter.unusedSimpArgs false



def errW : Option Int → Value
  | none => .nilIface
  | some c => .iface 0 (.int .i64 c)
theorem errW_none : errW none = .nilIface := rfl
theorem errW_some (c : Int) : errW (some c) = .iface 0 (.int .i64 c) := rfl

theorem info5 : (Try.prog.info? 5).map (fun i => (i.zero, i.size, i.bytes)) = some (some (.int .u8 0), 1, 1) := by kernel_rfl
-- the values' own types

end Go.Proofs.Ytbngoaonkhcciaa.PLay

-- Own text of this session: made by program (wip/myprint.sh over a scratch copy of the kit's print.py). Not trusted: Lean checks it.
import Derived.Test.YtoopoecopahcbaaProg
import Derived.Below
import Derived.Deep.Draws
import Derived.Deep.AppendLies
import Derived.Maps.AppendAt
import Derived.OwnWalk
import Derived.Laws.BytesArg
import Derived.Laws.MakeOwn
import Derived.Laws.OwnMore
import Derived.Deep.OwnRows
import Derived.Tactics
import Derived.Lib.ConvBytes
import Derived.Laws.Slices
import Derived.WalkKit
import Derived.KernelRfl
import Derived.RowKit3
import Derived.Deep.LoopGhost
import Derived.Deep.QuietTactic
import Derived.BigQuiet
import Derived.WideLaws
import Derived.Deep.DeepCutAuto
import Derived.Deep.CutBlock
import Derived.Deep.RegionHeld3
import Derived.Laws.Rows
import Derived.Lib.AppendStr
import Derived.ArgAppend
import Derived.Laws.IdiomCopy
import Derived.OrdersHeld
import Derived.Laws.BitsLemmas
import Derived.RowKit
import Derived.Test.YtoopoecopahcbaaStr
import Derived.Test.YtoopoecopahcbaaWWords
import Derived.Test.YtoopoecopahcbaaWLast
import Derived.Test.YtoopoecopahcbaaWTab
import Derived.Test.YtoopoecopahcbaaWFour
import Derived.Test.YtoopoecopahcbaaWQPut
import Derived.Test.YtoopoecopahcbaaWApart
import Derived.Test.YtoopoecopahcbaaWArr
import Derived.Test.YtoopoecopahcbaaWZeros
import Derived.Test.YtoopoecopahcbaaWFoot
import Derived.Test.YtoopoecopahcbaaWKept
import Derived.Test.YtoopoecopahcbaaWShare
import Derived.Test.YtoopoecopahcbaaWN
import Derived.Test.YtoopoecopahcbaaWFootNe
import Derived.Test.YtoopoecopahcbaaWAt
import Derived.Test.YtoopoecopahcbaaWEqStruct
import Derived.Test.YtoopoecopahcbaaWRepsOne
import Derived.Test.YtoopoecopahcbaaWInv
import Derived.Test.YtoopoecopahcbaaWInvWords
import Derived.Test.YtoopoecopahcbaaWGuard
import Derived.Test.YtoopoecopahcbaaWNEv
import Derived.Test.YtoopoecopahcbaaWMore
namespace Go.Proofs.Ytoopoecopahcbaa.Qwithin
open Go.RowKit Go.Proofs.YtoopoecopahcbaaW.PrintWords Go.Proofs.YtoopoecopahcbaaW.PrintLast Go.Proofs.YtoopoecopahcbaaW.PrintMore
attribute [local go_sem] max2_int min2_int max_two min_two max_three min_three max_four min_four   -- for this text's walks alone
set_option linter.unusedVariables false
set_option linter.unusedSimpArgs false



def errW : Option Int → Value
  | none => .nilIface
  | some c => .iface 0 (.int .i64 c)
theorem errW_none : errW none = .nilIface := rfl
theorem errW_some (c : Int) : errW (some c) = .iface 0 (.int .i64 c) := rfl

-- the values' own types

end Go.Proofs.Ytoopoecopahcbaa.Qwithin

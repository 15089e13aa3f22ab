-- Printed by a turned copy of the kit's print (turnprint.py, pp.sh: this session's). Lean checks it.
import Derived.Test.YtffmdnckapalfaaDoorProg
import Derived.Below
import Derived.Deep.Draws
import Derived.Deep.AppendLies
import Derived.Maps.AppendAt
import Derived.OwnWalk
import Derived.Laws.BytesArg
import Derived.Laws.MakeOwn
import Derived.Laws.OwnMore
import Derived.Deep.OwnRows
import Derived.Tactics
import Derived.Lib.ConvBytes
import Derived.Laws.Slices
import Derived.WalkKit
import Derived.KernelRfl
import Derived.RowKit3
import Derived.Deep.LoopGhost
import Derived.Deep.QuietTactic
import Derived.BigQuiet
import Derived.WideLaws
import Derived.Deep.DeepCutAuto
import Derived.Deep.CutBlock
import Derived.Deep.RegionHeld3
import Derived.Laws.Rows
import Derived.Lib.AppendStr
import Derived.ArgAppend
import Derived.Laws.IdiomCopy
import Derived.OrdersHeld
import Derived.Laws.BitsLemmas
import Derived.RowKit
import Derived.Test.YtffmdnckapalfaaDoorWWords
import Derived.Test.YtffmdnckapalfaaDoorWLast
import Derived.Test.YtffmdnckapalfaaDoorWTab
import Derived.Test.YtffmdnckapalfaaDoorWFour
import Derived.Test.YtffmdnckapalfaaDoorWQPut
import Derived.Test.YtffmdnckapalfaaDoorWApart
import Derived.Test.YtffmdnckapalfaaDoorWArr
import Derived.Test.YtffmdnckapalfaaDoorWZeros
import Derived.Test.YtffmdnckapalfaaDoorWFoot
import Derived.Test.YtffmdnckapalfaaDoorWKept
import Derived.Test.YtffmdnckapalfaaDoorWShare
import Derived.Test.YtffmdnckapalfaaDoorWN
import Derived.Test.YtffmdnckapalfaaDoorWFootNe
import Derived.Test.YtffmdnckapalfaaDoorWAt
import Derived.Test.YtffmdnckapalfaaDoorWEqStruct
import Derived.Test.YtffmdnckapalfaaDoorWRepsOne
import Derived.Test.YtffmdnckapalfaaDoorWInv
import Derived.Test.YtffmdnckapalfaaDoorWInvWords
import Derived.Test.YtffmdnckapalfaaDoorWGuard
import Derived.Test.YtffmdnckapalfaaDoorWNEv
import Derived.Test.YtffmdnckapalfaaDoorWMore
namespace Go.Proofs.YtffmdnckapalfaaDoor.V
open Go.RowKit Go.Proofs.YtffmdnckapalfaaDoorW.PrintWords Go.Proofs.YtffmdnckapalfaaDoorW.PrintLast Go.Proofs.YtffmdnckapalfaaDoorW.PrintMore
attribute [local go_sem] max2_int min2_int max_two min_two max_three min_three max_four min_four   -- for this text's walks alone
set_option linter.unusedVariables false
set_option linter.unusedSimpArgs false



def errW : Option Int → Value
  | none => .nilIface
  | some c => .iface 0 (.int .i64 c)
theorem errW_none : errW none = .nilIface := rfl
theorem errW_some (c : Int) : errW (some c) = .iface 0 (.int .i64 c) := rfl

-- the values' own types

end Go.Proofs.YtffmdnckapalfaaDoor.V

/- Go functions as Lean functions, each with the proof that the Go code answers as it does (written by a program of this session: myprint.py, over the kit's printer). -/
import Derived.Test.YtemjgafocgnccaaDoorProg
import Derived.Below
import Derived.Deep.Draws
import Derived.Deep.AppendLies
import Derived.Maps.AppendAt
import Derived.OwnWalk
import Derived.Laws.BytesArg
import Derived.Laws.MakeOwn
import Derived.Laws.OwnMore
import Derived.Deep.OwnRows
import Derived.Tactics
import Derived.Lib.ConvBytes
import Derived.Laws.Slices
import Derived.WalkKit
import Derived.KernelRfl
import Derived.RowKit3
import Derived.Deep.LoopGhost
import Derived.Deep.QuietTactic
import Derived.BigQuiet
import Derived.WideLaws
import Derived.Deep.DeepCutAuto
import Derived.Deep.CutBlock
import Derived.Deep.RegionHeld3
import Derived.Laws.Rows
import Derived.Lib.AppendStr
import Derived.ArgAppend
import Derived.Laws.IdiomCopy
import Derived.OrdersHeld
import Derived.Laws.BitsLemmas
import Derived.RowKit
import Derived.Test.YtemjgafocgnccaaDoorWWords
import Derived.Test.YtemjgafocgnccaaDoorWLast
import Derived.Test.YtemjgafocgnccaaDoorWTab
import Derived.Test.YtemjgafocgnccaaDoorWFour
import Derived.Test.YtemjgafocgnccaaDoorWQPut
import Derived.Test.YtemjgafocgnccaaDoorWApart
import Derived.Test.YtemjgafocgnccaaDoorWArr
import Derived.Test.YtemjgafocgnccaaDoorWZeros
import Derived.Test.YtemjgafocgnccaaDoorWFoot
import Derived.Test.YtemjgafocgnccaaDoorWKept
import Derived.Test.YtemjgafocgnccaaDoorWShare
import Derived.Test.YtemjgafocgnccaaDoorWN
import Derived.Test.YtemjgafocgnccaaDoorWFootNe
import Derived.Test.YtemjgafocgnccaaDoorWAt
import Derived.Test.YtemjgafocgnccaaDoorWEqStruct
import Derived.Test.YtemjgafocgnccaaDoorWRepsOne
import Derived.Test.YtemjgafocgnccaaDoorWInv
import Derived.Test.YtemjgafocgnccaaDoorWInvWords
import Derived.Test.YtemjgafocgnccaaDoorWGuard
import Derived.Test.YtemjgafocgnccaaDoorWNEv
import Derived.Test.YtemjgafocgnccaaDoorWMore
namespace Go.Proofs.YtemjgafocgnccaaDoor.Py
open Go.RowKit Go.Proofs.YtemjgafocgnccaaDoorW.PrintWords Go.Proofs.YtemjgafocgnccaaDoorW.PrintLast Go.Proofs.YtemjgafocgnccaaDoorW.PrintMore
attribute [local go_sem] max2_int min2_int max_two min_two max_three min_three max_four min_four   -- for this text's walks alone
set_option linter.unusedVariables false
set_option linter.unusedSimpArgs false



def errW : Option Int → Value
  | none => .nilIface
  | some c => .iface 0 (.int .i64 c)
theorem errW_none : errW none = .nilIface := rfl
theorem errW_some (c : Int) : errW (some c) = .iface 0 (.int .i64 c) := rfl

-- the values' own types

end Go.Proofs.YtemjgafocgnccaaDoor.Py

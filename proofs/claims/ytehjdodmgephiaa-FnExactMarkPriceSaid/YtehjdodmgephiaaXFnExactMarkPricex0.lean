-- PRINTED by xprint.py (our own program, over the kit's print.py)
import Derived.Test.YtehjdodmgephiaaProg
import Derived.Below
import Derived.Deep.Draws
import Derived.Deep.AppendLies
import Derived.Maps.AppendAt
import Derived.OwnWalk
import Derived.Laws.BytesArg
import Derived.Laws.MakeOwn
import Derived.Laws.OwnMore
import Derived.Deep.OwnRows
import Derived.Tactics
import Derived.Lib.ConvBytes
import Derived.Laws.Slices
import Derived.WalkKit
import Derived.KernelRfl
import Derived.RowKit3
import Derived.Deep.LoopGhost
import Derived.Deep.QuietTactic
import Derived.BigQuiet
import Derived.WideLaws
import Derived.Deep.DeepCutAuto
import Derived.Deep.CutBlock
import Derived.Deep.RegionHeld3
import Derived.Laws.Rows
import Derived.Lib.AppendStr
import Derived.ArgAppend
import Derived.Laws.IdiomCopy
import Derived.OrdersHeld
import Derived.Laws.BitsLemmas
import Derived.RowKit
import Derived.RegionTactic
import Derived.ChangeAlike
import Derived.Test.YtehjdodmgephiaaIdx
import Derived.Test.YtehjdodmgephiaaWWords
import Derived.Test.YtehjdodmgephiaaWLast
import Derived.Test.YtehjdodmgephiaaWTab
import Derived.Test.YtehjdodmgephiaaWFour
import Derived.Test.YtehjdodmgephiaaWQPut
import Derived.Test.YtehjdodmgephiaaWApart
import Derived.Test.YtehjdodmgephiaaWArr
import Derived.Test.YtehjdodmgephiaaWZeros
import Derived.Test.YtehjdodmgephiaaWFoot
import Derived.Test.YtehjdodmgephiaaWKept
import Derived.Test.YtehjdodmgephiaaWShare
import Derived.Test.YtehjdodmgephiaaWN
import Derived.Test.YtehjdodmgephiaaWFootNe
import Derived.Test.YtehjdodmgephiaaWAt
import Derived.Test.YtehjdodmgephiaaWEqStruct
import Derived.Test.YtehjdodmgephiaaWRepsOne
import Derived.Test.YtehjdodmgephiaaWInv
import Derived.Test.YtehjdodmgephiaaWInvWords
import Derived.Test.YtehjdodmgephiaaWGuard
import Derived.Test.YtehjdodmgephiaaWNEv
import Derived.Test.YtehjdodmgephiaaWMore
namespace Go.Proofs.Ytehjdodmgephiaa.XFnExactMarkPrice
open Go.RowKit Go.Proofs.YtehjdodmgephiaaW.PrintWords Go.Proofs.YtehjdodmgephiaaW.PrintLast Go.Proofs.YtehjdodmgephiaaW.PrintMore Go.Proofs.YtehjdodmgephiaaW.Idx
attribute [local go_sem] max2_int min2_int max_two min_two max_three min_three max_four min_four   -- for this text's walks alone
set_option linter.unusedVariables false
set_option linter.unusedSimpArgs false



def errW : Option Int → Value
  | none => .nilIface
  | some c => .iface 0 (.int .i64 c)
theorem errW_none : errW none = .nilIface := rfl
theorem errW_some (c : Int) : errW (some c) = .iface 0 (.int .i64 c) := rfl

-- the values' own types

end Go.Proofs.Ytehjdodmgephiaa.XFnExactMarkPrice

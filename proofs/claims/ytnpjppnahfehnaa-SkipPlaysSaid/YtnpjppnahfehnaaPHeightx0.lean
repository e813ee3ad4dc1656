-- PRINTED BY print.sh 35421559b90ae4d0a3588c463048766b98c2df88dd9212a6774a882060cdf62d: not written by this session
import Derived.Test.YtnpjppnahfehnaaProg
import Derived.Below
import Derived.Deep.Draws
import Derived.Deep.AppendLies
import Derived.Maps.AppendAt
import Derived.OwnWalk
import Derived.Laws.BytesArg
import Derived.Laws.MakeOwn
import Derived.Laws.OwnMore
import Derived.Deep.OwnRows
import Derived.Tactics
import Derived.Lib.ConvBytes
import Derived.Laws.Slices
import Derived.WalkKit
import Derived.KernelRfl
import Derived.RowKit3
import Derived.Deep.LoopGhost
import Derived.Deep.QuietTactic
import Derived.BigQuiet
import Derived.WideLaws
import Derived.Deep.DeepCutAuto
import Derived.Deep.CutBlock
import Derived.Deep.RegionHeld3
import Derived.Laws.Rows
import Derived.Lib.AppendStr
import Derived.ArgAppend
import Derived.Laws.IdiomCopy
import Derived.OrdersHeld
import Derived.Laws.BitsLemmas
import Derived.RowKit
import Derived.Test.YtnpjppnahfehnaaWWords
import Derived.Test.YtnpjppnahfehnaaWLast
import Derived.Test.YtnpjppnahfehnaaWTab
import Derived.Test.YtnpjppnahfehnaaWFour
import Derived.Test.YtnpjppnahfehnaaWQPut
import Derived.Test.YtnpjppnahfehnaaWApart
import Derived.Test.YtnpjppnahfehnaaWArr
import Derived.Test.YtnpjppnahfehnaaWZeros
import Derived.Test.YtnpjppnahfehnaaWFoot
import Derived.Test.YtnpjppnahfehnaaWKept
import Derived.Test.YtnpjppnahfehnaaWShare
import Derived.Test.YtnpjppnahfehnaaWN
import Derived.Test.YtnpjppnahfehnaaWFootNe
import Derived.Test.YtnpjppnahfehnaaWAt
import Derived.Test.YtnpjppnahfehnaaWEqStruct
import Derived.Test.YtnpjppnahfehnaaWRepsOne
import Derived.Test.YtnpjppnahfehnaaWInv
import Derived.Test.YtnpjppnahfehnaaWInvWords
import Derived.Test.YtnpjppnahfehnaaWGuard
import Derived.Test.YtnpjppnahfehnaaWNEv
import Derived.Test.YtnpjppnahfehnaaWMore
namespace Go.Proofs.Ytnpjppnahfehnaa.PHeight
open Go.RowKit Go.Proofs.YtnpjppnahfehnaaW.PrintWords Go.Proofs.YtnpjppnahfehnaaW.PrintLast Go.Proofs.YtnpjppnahfehnaaW.PrintMore
attribute [local go_sem] max2_int min2_int max_two min_two max_three min_three max_four min_four   -- for this text's walks alone
set_option linter.unusedVariables false
set_option linter.unusedSimpArgs false



def errW : Option Int → Value
  | none => .nilIface
  | some c => .iface 0 (.int .i64 c)
theorem errW_none : errW none = .nilIface := rfl
theorem errW_some (c : Int) : errW (some c) = .iface 0 (.int .i64 c) := rfl

-- the values' own types

end Go.Proofs.Ytnpjppnahfehnaa.PHeight

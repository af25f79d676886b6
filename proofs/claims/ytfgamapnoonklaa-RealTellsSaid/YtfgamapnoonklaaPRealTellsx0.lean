-- PRINTED BY print.sh 35421559b90ae4d0a3588c463048766b98c2df88dd9212a6774a882060cdf62d: not written by this session
import Derived.Test.YtfgamapnoonklaaProg
import Derived.Below
import Derived.Deep.Draws
import Derived.Deep.AppendLies
import Derived.Maps.AppendAt
import Derived.OwnWalk
import Derived.Laws.BytesArg
import Derived.Laws.MakeOwn
import Derived.Laws.OwnMore
import Derived.Deep.OwnRows
import Derived.Tactics
import Derived.Lib.ConvBytes
import Derived.Laws.Slices
import Derived.WalkKit
import Derived.KernelRfl
import Derived.RowKit3
import Derived.Deep.LoopGhost
import Derived.Deep.QuietTactic
import Derived.BigQuiet
import Derived.WideLaws
import Derived.Deep.DeepCutAuto
import Derived.Deep.CutBlock
import Derived.Deep.RegionHeld3
import Derived.Laws.Rows
import Derived.Lib.AppendStr
import Derived.ArgAppend
import Derived.Laws.IdiomCopy
import Derived.OrdersHeld
import Derived.Laws.BitsLemmas
import Derived.RowKit
import Derived.Test.YtfgamapnoonklaaWWords
import Derived.Test.YtfgamapnoonklaaWLast
import Derived.Test.YtfgamapnoonklaaWTab
import Derived.Test.YtfgamapnoonklaaWFour
import Derived.Test.YtfgamapnoonklaaWQPut
import Derived.Test.YtfgamapnoonklaaWApart
import Derived.Test.YtfgamapnoonklaaWArr
import Derived.Test.YtfgamapnoonklaaWZeros
import Derived.Test.YtfgamapnoonklaaWFoot
import Derived.Test.YtfgamapnoonklaaWKept
import Derived.Test.YtfgamapnoonklaaWShare
import Derived.Test.YtfgamapnoonklaaWN
import Derived.Test.YtfgamapnoonklaaWFootNe
import Derived.Test.YtfgamapnoonklaaWAt
import Derived.Test.YtfgamapnoonklaaWEqStruct
import Derived.Test.YtfgamapnoonklaaWRepsOne
import Derived.Test.YtfgamapnoonklaaWInv
import Derived.Test.YtfgamapnoonklaaWInvWords
import Derived.Test.YtfgamapnoonklaaWGuard
import Derived.Test.YtfgamapnoonklaaWNEv
import Derived.Test.YtfgamapnoonklaaWMore
namespace Go.Proofs.Ytfgamapnoonklaa.PRealTells
open Go.RowKit Go.Proofs.YtfgamapnoonklaaW.PrintWords Go.Proofs.YtfgamapnoonklaaW.PrintLast Go.Proofs.YtfgamapnoonklaaW.PrintMore
attribute [local go_sem] max2_int min2_int max_two min_two max_three min_three max_four min_four   -- for this text's walks alone
set_option linter.unusedVariables false
set_option linter.unusedSimpArgs false



def errW : Option Int → Value
  | none => .nilIface
  | some c => .iface 0 (.int .i64 c)
theorem errW_none : errW none = .nilIface := rfl
theorem errW_some (c : Int) : errW (some c) = .iface 0 (.int .i64 c) := rfl

-- the values' own types

end Go.Proofs.Ytfgamapnoonklaa.PRealTells

/- Functions that a law calls, and the walk of the law itself, told by a program of this session (pp.py) over the kit printer; no condition beyond the statement itself; not trusted: Lean checks it. -/
import Derived.Test.YtkhghgmonjebnaaProg
import Derived.Below
import Derived.Deep.Draws
import Derived.Deep.AppendLies
import Derived.Maps.AppendAt
import Derived.OwnWalk
import Derived.Laws.BytesArg
import Derived.Laws.MakeOwn
import Derived.Laws.OwnMore
import Derived.Deep.OwnRows
import Derived.Tactics
import Derived.Lib.ConvBytes
import Derived.Laws.Slices
import Derived.WalkKit
import Derived.KernelRfl
import Derived.RowKit3
import Derived.Deep.LoopGhost
import Derived.Deep.QuietTactic
import Derived.BigQuiet
import Derived.WideLaws
import Derived.Deep.DeepCutAuto
import Derived.Deep.CutBlock
import Derived.Deep.RegionHeld3
import Derived.Laws.Rows
import Derived.Lib.AppendStr
import Derived.ArgAppend
import Derived.Laws.IdiomCopy
import Derived.OrdersHeld
import Derived.Laws.BitsLemmas
import Derived.RowKit
import Derived.Test.YtkhghgmonjebnaaWWords
import Derived.Test.YtkhghgmonjebnaaWLast
import Derived.Test.YtkhghgmonjebnaaWTab
import Derived.Test.YtkhghgmonjebnaaWFour
import Derived.Test.YtkhghgmonjebnaaWQPut
import Derived.Test.YtkhghgmonjebnaaWApart
import Derived.Test.YtkhghgmonjebnaaWArr
import Derived.Test.YtkhghgmonjebnaaWZeros
import Derived.Test.YtkhghgmonjebnaaWFoot
import Derived.Test.YtkhghgmonjebnaaWKept
import Derived.Test.YtkhghgmonjebnaaWShare
import Derived.Test.YtkhghgmonjebnaaWN
import Derived.Test.YtkhghgmonjebnaaWFootNe
import Derived.Test.YtkhghgmonjebnaaWAt
import Derived.Test.YtkhghgmonjebnaaWEqStruct
import Derived.Test.YtkhghgmonjebnaaWRepsOne
import Derived.Test.YtkhghgmonjebnaaWInv
import Derived.Test.YtkhghgmonjebnaaWInvWords
import Derived.Test.YtkhghgmonjebnaaWGuard
import Derived.Test.YtkhghgmonjebnaaWNEv
import Derived.Test.YtkhghgmonjebnaaWMore
namespace Go.Proofs.Ytkhghgmonjebnaa.PBer
open Go.RowKit Go.Proofs.YtkhghgmonjebnaaW.PrintWords Go.Proofs.YtkhghgmonjebnaaW.PrintLast Go.Proofs.YtkhghgmonjebnaaW.PrintMore
attribute [local go_sem] max2_int min2_int max_two min_two max_three min_three max_four min_four   -- for this text's walks alone
set_option linter.unusedVariables false
set_option linter.unusedSimpArgs false



def errW : Option Int → Value
  | none => .nilIface
  | some c => .iface 0 (.int .i64 c)
theorem errW_none : errW none = .nilIface := rfl
theorem errW_some (c : Int) : errW (some c) = .iface 0 (.int .i64 c) := rfl

theorem info5 : (Try.prog.info? 5).map (fun i => (i.zero, i.size, i.bytes)) = some (some (.int .u8 0), 1, 1) := by kernel_rfl
-- the values' own types

end Go.Proofs.Ytkhghgmonjebnaa.PBer

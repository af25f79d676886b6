/- Functions that a law calls, and the walk of the law itself, told by a program of this session (pp.py) over the kit printer; no condition beyond the statement itself; not trusted: Lean checks it. -/
import Derived.Test.YtmhjplbloeamiaaProg
import Derived.Below
import Derived.Deep.Draws
import Derived.Deep.AppendLies
import Derived.Maps.AppendAt
import Derived.OwnWalk
import Derived.Laws.BytesArg
import Derived.Laws.MakeOwn
import Derived.Laws.OwnMore
import Derived.Deep.OwnRows
import Derived.Tactics
import Derived.Lib.ConvBytes
import Derived.Laws.Slices
import Derived.WalkKit
import Derived.KernelRfl
import Derived.RowKit3
import Derived.Deep.LoopGhost
import Derived.Deep.QuietTactic
import Derived.BigQuiet
import Derived.WideLaws
import Derived.Deep.DeepCutAuto
import Derived.Deep.CutBlock
import Derived.Deep.RegionHeld3
import Derived.Laws.Rows
import Derived.Lib.AppendStr
import Derived.ArgAppend
import Derived.Laws.IdiomCopy
import Derived.OrdersHeld
import Derived.Laws.BitsLemmas
import Derived.RowKit
import Derived.Test.YtmhjplbloeamiaaTwo
import Derived.Test.YtmhjplbloeamiaaPEscx2
import Derived.Test.YtmhjplbloeamiaaWWords
import Derived.Test.YtmhjplbloeamiaaWLast
import Derived.Test.YtmhjplbloeamiaaWTab
import Derived.Test.YtmhjplbloeamiaaWFour
import Derived.Test.YtmhjplbloeamiaaWQPut
import Derived.Test.YtmhjplbloeamiaaWApart
import Derived.Test.YtmhjplbloeamiaaWArr
import Derived.Test.YtmhjplbloeamiaaWZeros
import Derived.Test.YtmhjplbloeamiaaWFoot
import Derived.Test.YtmhjplbloeamiaaWKept
import Derived.Test.YtmhjplbloeamiaaWShare
import Derived.Test.YtmhjplbloeamiaaWN
import Derived.Test.YtmhjplbloeamiaaWFootNe
import Derived.Test.YtmhjplbloeamiaaWAt
import Derived.Test.YtmhjplbloeamiaaWEqStruct
import Derived.Test.YtmhjplbloeamiaaWRepsOne
import Derived.Test.YtmhjplbloeamiaaWInv
import Derived.Test.YtmhjplbloeamiaaWInvWords
import Derived.Test.YtmhjplbloeamiaaWGuard
import Derived.Test.YtmhjplbloeamiaaWNEv
import Derived.Test.YtmhjplbloeamiaaWMore
namespace Go.Proofs.Ytmhjplbloeamiaa.PRef
open Go.RowKit Go.Proofs.Ytmhjplbloeamiaa.H Go.Proofs.Ytmhjplbloeamiaa.PEsc Go.Proofs.YtmhjplbloeamiaaW.PrintWords Go.Proofs.YtmhjplbloeamiaaW.PrintLast Go.Proofs.YtmhjplbloeamiaaW.PrintMore
attribute [local go_sem] max2_int min2_int max_two min_two max_three min_three max_four min_four   -- for this text's walks alone
set_option linter.unusedVariables false
set_option linter.unusedSimpArgs false



def errW : Option Int → Value
  | none => .nilIface
  | some c => .iface 0 (.int .i64 c)
theorem errW_none : errW none = .nilIface := rfl
theorem errW_some (c : Int) : errW (some c) = .iface 0 (.int .i64 c) := rfl

-- the values' own types

end Go.Proofs.Ytmhjplbloeamiaa.PRef

/- Functions that a law calls, and the walk of the law itself, told by a program of this session (pp.py) over the kit printer; no condition beyond the statement itself; not trusted: Lean checks it. -/
import Derived.Test.YtmhjplbloeamiaaDoorProg
import Derived.Below
import Derived.Deep.Draws
import Derived.Deep.AppendLies
import Derived.Maps.AppendAt
import Derived.OwnWalk
import Derived.Laws.BytesArg
import Derived.Laws.MakeOwn
import Derived.Laws.OwnMore
import Derived.Deep.OwnRows
import Derived.Tactics
import Derived.Lib.ConvBytes
import Derived.Laws.Slices
import Derived.WalkKit
import Derived.KernelRfl
import Derived.RowKit3
import Derived.Deep.LoopGhost
import Derived.Deep.QuietTactic
import Derived.BigQuiet
import Derived.WideLaws
import Derived.Deep.DeepCutAuto
import Derived.Deep.CutBlock
import Derived.Deep.RegionHeld3
import Derived.Laws.Rows
import Derived.Lib.AppendStr
import Derived.ArgAppend
import Derived.Laws.IdiomCopy
import Derived.OrdersHeld
import Derived.Laws.BitsLemmas
import Derived.RowKit
import Derived.Test.YtmhjplbloeamiaaDoorHnd
import Derived.Test.YtmhjplbloeamiaaDoorPEscx3
import Derived.Test.YtmhjplbloeamiaaDoorWWords
import Derived.Test.YtmhjplbloeamiaaDoorWLast
import Derived.Test.YtmhjplbloeamiaaDoorWTab
import Derived.Test.YtmhjplbloeamiaaDoorWFour
import Derived.Test.YtmhjplbloeamiaaDoorWQPut
import Derived.Test.YtmhjplbloeamiaaDoorWApart
import Derived.Test.YtmhjplbloeamiaaDoorWArr
import Derived.Test.YtmhjplbloeamiaaDoorWZeros
import Derived.Test.YtmhjplbloeamiaaDoorWFoot
import Derived.Test.YtmhjplbloeamiaaDoorWKept
import Derived.Test.YtmhjplbloeamiaaDoorWShare
import Derived.Test.YtmhjplbloeamiaaDoorWN
import Derived.Test.YtmhjplbloeamiaaDoorWFootNe
import Derived.Test.YtmhjplbloeamiaaDoorWAt
import Derived.Test.YtmhjplbloeamiaaDoorWEqStruct
import Derived.Test.YtmhjplbloeamiaaDoorWRepsOne
import Derived.Test.YtmhjplbloeamiaaDoorWInv
import Derived.Test.YtmhjplbloeamiaaDoorWInvWords
import Derived.Test.YtmhjplbloeamiaaDoorWGuard
import Derived.Test.YtmhjplbloeamiaaDoorWNEv
import Derived.Test.YtmhjplbloeamiaaDoorWMore
namespace Go.Proofs.YtmhjplbloeamiaaDoor.LEscapeBack
open Go.RowKit Go.Proofs.YtmhjplbloeamiaaDoor.H Go.Proofs.YtmhjplbloeamiaaDoor.PEsc Go.Proofs.YtmhjplbloeamiaaDoorW.PrintWords Go.Proofs.YtmhjplbloeamiaaDoorW.PrintLast Go.Proofs.YtmhjplbloeamiaaDoorW.PrintMore
attribute [local go_sem] max2_int min2_int max_two min_two max_three min_three max_four min_four   -- for this text's walks alone
set_option linter.unusedVariables false
set_option linter.unusedSimpArgs false



def errW : Option Int → Value
  | none => .nilIface
  | some c => .iface 0 (.int .i64 c)
theorem errW_none : errW none = .nilIface := rfl
theorem errW_some (c : Int) : errW (some c) = .iface 0 (.int .i64 c) := rfl

theorem info5 : (Tryd.prog.info? 5).map (fun i => (i.zero, i.size, i.bytes)) = some (some (.int .u8 0), 1, 1) := by kernel_rfl
-- the values' own types

end Go.Proofs.YtmhjplbloeamiaaDoor.LEscapeBack

/- Functions that a law calls, and the walk of the law itself, told by a program of this session (pp.py) over the kit printer; no condition beyond the statement itself; not trusted: Lean checks it. -/
import Derived.Test.YtmlihcknkgfhaaaProg
import Derived.Below
import Derived.Deep.Draws
import Derived.Deep.AppendLies
import Derived.Maps.AppendAt
import Derived.OwnWalk
import Derived.Laws.BytesArg
import Derived.Laws.MakeOwn
import Derived.Laws.OwnMore
import Derived.Deep.OwnRows
import Derived.Tactics
import Derived.Lib.ConvBytes
import Derived.Laws.Slices
import Derived.WalkKit
import Derived.KernelRfl
import Derived.RowKit3
import Derived.Deep.LoopGhost
import Derived.Deep.QuietTactic
import Derived.BigQuiet
import Derived.WideLaws
import Derived.Deep.DeepCutAuto
import Derived.Deep.CutBlock
import Derived.Deep.RegionHeld3
import Derived.Laws.Rows
import Derived.Lib.AppendStr
import Derived.ArgAppend
import Derived.Laws.IdiomCopy
import Derived.OrdersHeld
import Derived.Laws.BitsLemmas
import Derived.RowKit
import Derived.Test.YtmlihcknkgfhaaaFnd
import Derived.Test.YtmlihcknkgfhaaaWWords
import Derived.Test.YtmlihcknkgfhaaaWLast
import Derived.Test.YtmlihcknkgfhaaaWTab
import Derived.Test.YtmlihcknkgfhaaaWFour
import Derived.Test.YtmlihcknkgfhaaaWQPut
import Derived.Test.YtmlihcknkgfhaaaWApart
import Derived.Test.YtmlihcknkgfhaaaWArr
import Derived.Test.YtmlihcknkgfhaaaWZeros
import Derived.Test.YtmlihcknkgfhaaaWFoot
import Derived.Test.YtmlihcknkgfhaaaWKept
import Derived.Test.YtmlihcknkgfhaaaWShare
import Derived.Test.YtmlihcknkgfhaaaWN
import Derived.Test.YtmlihcknkgfhaaaWFootNe
import Derived.Test.YtmlihcknkgfhaaaWAt
import Derived.Test.YtmlihcknkgfhaaaWEqStruct
import Derived.Test.YtmlihcknkgfhaaaWRepsOne
import Derived.Test.YtmlihcknkgfhaaaWInv
import Derived.Test.YtmlihcknkgfhaaaWInvWords
import Derived.Test.YtmlihcknkgfhaaaWGuard
import Derived.Test.YtmlihcknkgfhaaaWNEv
import Derived.Test.YtmlihcknkgfhaaaWMore
namespace Go.Proofs.Ytmlihcknkgfhaaa.LFoldFinds
open Go.RowKit Go.Proofs.Ytmlihcknkgfhaaa.H Go.Proofs.YtmlihcknkgfhaaaW.PrintWords Go.Proofs.YtmlihcknkgfhaaaW.PrintLast Go.Proofs.YtmlihcknkgfhaaaW.PrintMore
attribute [local go_sem] max2_int min2_int max_two min_two max_three min_three max_four min_four   -- for this text's walks alone
set_option linter.unusedVariables false
set_option linter.unusedSimpArgs false



def errW : Option Int → Value
  | none => .nilIface
  | some c => .iface 0 (.int .i64 c)
theorem errW_none : errW none = .nilIface := rfl
theorem errW_some (c : Int) : errW (some c) = .iface 0 (.int .i64 c) := rfl

-- the values' own types

end Go.Proofs.Ytmlihcknkgfhaaa.LFoldFinds

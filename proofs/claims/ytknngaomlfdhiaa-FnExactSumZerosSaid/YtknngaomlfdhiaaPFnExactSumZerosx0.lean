/- Lean functions with the same answers as the Go functions that one law reaches, and for each a proof that its call comes to just these answers. No condition. Written by pr.py, a program of this session. -/
import Derived.Test.YtknngaomlfdhiaaProg
import Derived.Below
import Derived.Deep.Draws
import Derived.Deep.AppendLies
import Derived.Maps.AppendAt
import Derived.OwnWalk
import Derived.Laws.BytesArg
import Derived.Laws.MakeOwn
import Derived.Laws.OwnMore
import Derived.Deep.OwnRows
import Derived.Tactics
import Derived.Lib.ConvBytes
import Derived.Laws.Slices
import Derived.WalkKit
import Derived.KernelRfl
import Derived.RowKit3
import Derived.Deep.LoopGhost
import Derived.Deep.QuietTactic
import Derived.BigQuiet
import Derived.WideLaws
import Derived.Deep.DeepCutAuto
import Derived.Deep.CutBlock
import Derived.Deep.RegionHeld3
import Derived.Laws.Rows
import Derived.Lib.AppendStr
import Derived.ArgAppend
import Derived.Laws.IdiomCopy
import Derived.OrdersHeld
import Derived.Laws.BitsLemmas
import Derived.RowKit
import Derived.Shelf.Abstract
import Derived.Test.YtknngaomlfdhiaaOpen
import Derived.Test.YtknngaomlfdhiaaAll
import Derived.Laws.CopyOwn
import Derived.Deep.RegionLaw
import Derived.Test.YtknngaomlfdhiaaWWords
import Derived.Test.YtknngaomlfdhiaaWLast
import Derived.Test.YtknngaomlfdhiaaWTab
import Derived.Test.YtknngaomlfdhiaaWFour
import Derived.Test.YtknngaomlfdhiaaWQPut
import Derived.Test.YtknngaomlfdhiaaWApart
import Derived.Test.YtknngaomlfdhiaaWArr
import Derived.Test.YtknngaomlfdhiaaWZeros
import Derived.Test.YtknngaomlfdhiaaWFoot
import Derived.Test.YtknngaomlfdhiaaWKept
import Derived.Test.YtknngaomlfdhiaaWShare
import Derived.Test.YtknngaomlfdhiaaWN
import Derived.Test.YtknngaomlfdhiaaWFootNe
import Derived.Test.YtknngaomlfdhiaaWAt
import Derived.Test.YtknngaomlfdhiaaWEqStruct
import Derived.Test.YtknngaomlfdhiaaWRepsOne
import Derived.Test.YtknngaomlfdhiaaWInv
import Derived.Test.YtknngaomlfdhiaaWInvWords
import Derived.Test.YtknngaomlfdhiaaWGuard
import Derived.Test.YtknngaomlfdhiaaWNEv
import Derived.Test.YtknngaomlfdhiaaWMore
namespace Go.Proofs.Ytknngaomlfdhiaa.PFnExactSumZeros
open Go.RowKit Go.Proofs.YtknngaomlfdhiaaW.PrintWords Go.Proofs.YtknngaomlfdhiaaW.PrintLast Go.Proofs.YtknngaomlfdhiaaW.PrintMore
attribute [local go_sem] max2_int min2_int max_two min_two max_three min_three max_four min_four   -- for this text's walks alone
set_option linter.unusedVariables false
set_option linter.unusedSimpArgs false



def errW : Option Int → Value
  | none => .nilIface
  | some c => .iface 0 (.int .i64 c)
theorem errW_none : errW none = .nilIface := rfl
theorem errW_some (c : Int) : errW (some c) = .iface 0 (.int .i64 c) := rfl

theorem info5 : (Try.prog.info? 5).map (fun i => (i.zero, i.size, i.bytes)) = some (some (.int .u8 0), 1, 1) := by kernel_rfl
-- the values' own types

end Go.Proofs.Ytknngaomlfdhiaa.PFnExactSumZeros

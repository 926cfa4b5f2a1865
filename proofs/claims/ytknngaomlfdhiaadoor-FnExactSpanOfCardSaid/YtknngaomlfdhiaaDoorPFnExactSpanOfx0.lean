/- Lean functions with the same answers as the Go functions that one law reaches, and for each a proof that its call comes to just these answers. No condition. Written by pr.py, a program of this session. -/
import Derived.Test.YtknngaomlfdhiaaDoorProg
import Derived.Below
import Derived.Deep.Draws
import Derived.Deep.AppendLies
import Derived.Maps.AppendAt
import Derived.OwnWalk
import Derived.Laws.BytesArg
import Derived.Laws.MakeOwn
import Derived.Laws.OwnMore
import Derived.Deep.OwnRows
import Derived.Tactics
import Derived.Lib.ConvBytes
import Derived.Laws.Slices
import Derived.WalkKit
import Derived.KernelRfl
import Derived.RowKit3
import Derived.Deep.LoopGhost
import Derived.Deep.QuietTactic
import Derived.BigQuiet
import Derived.WideLaws
import Derived.Deep.DeepCutAuto
import Derived.Deep.CutBlock
import Derived.Deep.RegionHeld3
import Derived.Laws.Rows
import Derived.Lib.AppendStr
import Derived.ArgAppend
import Derived.Laws.IdiomCopy
import Derived.OrdersHeld
import Derived.Laws.BitsLemmas
import Derived.RowKit
import Derived.Shelf.Abstract
import Derived.Test.YtknngaomlfdhiaaDoorOpen
import Derived.Test.YtknngaomlfdhiaaDoorAll
import Derived.Laws.CopyOwn
import Derived.Deep.RegionLaw
import Derived.Test.YtknngaomlfdhiaaDoorWWords
import Derived.Test.YtknngaomlfdhiaaDoorWLast
import Derived.Test.YtknngaomlfdhiaaDoorWTab
import Derived.Test.YtknngaomlfdhiaaDoorWFour
import Derived.Test.YtknngaomlfdhiaaDoorWQPut
import Derived.Test.YtknngaomlfdhiaaDoorWApart
import Derived.Test.YtknngaomlfdhiaaDoorWArr
import Derived.Test.YtknngaomlfdhiaaDoorWZeros
import Derived.Test.YtknngaomlfdhiaaDoorWFoot
import Derived.Test.YtknngaomlfdhiaaDoorWKept
import Derived.Test.YtknngaomlfdhiaaDoorWShare
import Derived.Test.YtknngaomlfdhiaaDoorWN
import Derived.Test.YtknngaomlfdhiaaDoorWFootNe
import Derived.Test.YtknngaomlfdhiaaDoorWAt
import Derived.Test.YtknngaomlfdhiaaDoorWEqStruct
import Derived.Test.YtknngaomlfdhiaaDoorWRepsOne
import Derived.Test.YtknngaomlfdhiaaDoorWInv
import Derived.Test.YtknngaomlfdhiaaDoorWInvWords
import Derived.Test.YtknngaomlfdhiaaDoorWGuard
import Derived.Test.YtknngaomlfdhiaaDoorWNEv
import Derived.Test.YtknngaomlfdhiaaDoorWMore
namespace Go.Proofs.YtknngaomlfdhiaaDoor.PFnExactSpanOf
open Go.RowKit Go.Proofs.YtknngaomlfdhiaaDoorW.PrintWords Go.Proofs.YtknngaomlfdhiaaDoorW.PrintLast Go.Proofs.YtknngaomlfdhiaaDoorW.PrintMore
attribute [local go_sem] max2_int min2_int max_two min_two max_three min_three max_four min_four   -- for this text's walks alone
set_option linter.unusedVariables false
set_option linter.unusedSimpArgs false



def errW : Option Int → Value
  | none => .nilIface
  | some c => .iface 0 (.int .i64 c)
theorem errW_none : errW none = .nilIface := rfl
theorem errW_some (c : Int) : errW (some c) = .iface 0 (.int .i64 c) := rfl

-- the values' own types

end Go.Proofs.YtknngaomlfdhiaaDoor.PFnExactSpanOf

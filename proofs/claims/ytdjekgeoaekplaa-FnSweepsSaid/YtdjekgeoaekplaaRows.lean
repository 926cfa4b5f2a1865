/-
  No cell of these rows narrows 'for every input' (looked for: loops, veiled, ifaces, maps, wideKeys, modest, calm, conditions, laid).
  DERIVED. THE GIVEN ROWS OF THIS SEAT. 10 by the template 'for every input the law returns true; each argument reads behind the call as it read before'; 0 by the template 'total and deterministic' (their statements: YtdjekgeoaekplaaTotals.lean).
  GIVEN WITH THE SEED: the statements are not yours to turn. If you find one false, say at which input.
  Laid BY PROGRAM, IN A SANDBOX (cutbox-rows.mjs): the forced cells as the released guide's own fill.sh prints them over the translation cf3b903fe790cb8a… (all of the seat's roots in one cut). By AI agents, Wed Nov 11 2026. No macro, syntax, notation, axiom, sorry.
-/
import Derived.Test.YtdjekgeoaekplaaChecked
import GoSem.Claim
import GoSem.ClaimJoined
import GoSem.ClaimMapViews
import Derived.JoinedTies
import Derived.KernelRfl
namespace Go.Proofs.Ytdjekgeoaekplaa
/- THE CELL 'sum', in the pinned program and in every row, IS THE sha256 OF THE DUMP (.gsa) THAT YtdjekgeoaekplaaProg.lean LOADS. Nothing in Lean hashes anything: it is a label: what it is worth is what the hold of that sum in a sandbox is worth. -/
noncomputable def Try.pinned : Pinned := { name := "ytdjekgeoaekplaa", sum := "cf3b903fe790cb8a2145af3fe624d2ba7238d8c4ca74e2cee72ef0c98cd0ae2a", checked := Try.checked }
namespace Rows
def none {H : Type} : Left H := { results := [], args := [] }

/-- 'laws.FnExactBestSweep': WHATEVER THE INPUT: true; the input reads as it did. -/
def fnExactBestSweepSpec : ChangeSpec := { name := "fnExactBestSweep", fn := fun _ => fun
  | [d1, d2] => { results := [.lit (.bool true)], args := [d1, d2] }
  | _ => none }
def fnExactBestSweepRow : OpenClaim := { program := "ytdjekgeoaekplaa", sum := "cf3b903fe790cb8a2145af3fe624d2ba7238d8c4ca74e2cee72ef0c98cd0ae2a", func := "loop.example/g00541/laws.FnExactBestSweep", spec := "fnExactBestSweep", unfollowed := true, recurses := true, apart := false }
def FnExactBestSweepSaid : Prop := fnExactBestSweepRow.holds Try.pinned (OpenSpec.ofChange fnExactBestSweepSpec)

/-- ITS FALSE NEIGHBOUR: 'it returns false'. Refute it at one input. -/
def fnExactBestSweepWrong : ChangeSpec := { name := "fnExactBestSweep", fn := fun _ => fun
  | [d1, d2] => { results := [.lit (.bool false)], args := [d1, d2] }
  | _ => none }
def FnExactBestSweepWrongFalsely : Prop := fnExactBestSweepRow.holds Try.pinned (OpenSpec.ofChange fnExactBestSweepWrong)

/-- 'laws.FnExactGoodAsks': WHATEVER THE INPUT: true; the input reads as it did. -/
def fnExactGoodAsksSpec : ChangeSpec := { name := "fnExactGoodAsks", fn := fun _ => fun
  | [d] => { results := [.lit (.bool true)], args := [d] }
  | _ => none }
def fnExactGoodAsksRow : OpenClaim := { program := "ytdjekgeoaekplaa", sum := "cf3b903fe790cb8a2145af3fe624d2ba7238d8c4ca74e2cee72ef0c98cd0ae2a", func := "loop.example/g00541/laws.FnExactGoodAsks", spec := "fnExactGoodAsks", unfollowed := true, recurses := true, apart := false }
def FnExactGoodAsksSaid : Prop := fnExactGoodAsksRow.holds Try.pinned (OpenSpec.ofChange fnExactGoodAsksSpec)

/-- ITS FALSE NEIGHBOUR: 'it returns false'. Refute it at one input. -/
def fnExactGoodAsksWrong : ChangeSpec := { name := "fnExactGoodAsks", fn := fun _ => fun
  | [d] => { results := [.lit (.bool false)], args := [d] }
  | _ => none }
def FnExactGoodAsksWrongFalsely : Prop := fnExactGoodAsksRow.holds Try.pinned (OpenSpec.ofChange fnExactGoodAsksWrong)

/-- 'laws.FnWaits': WHATEVER THE INPUT: true; the input reads as it did. -/
def fnWaitsSpec : ChangeSpec := { name := "fnWaits", fn := fun _ => fun
  | [d1, d2] => { results := [.lit (.bool true)], args := [d1, d2] }
  | _ => none }
def fnWaitsRow : OpenClaim := { program := "ytdjekgeoaekplaa", sum := "cf3b903fe790cb8a2145af3fe624d2ba7238d8c4ca74e2cee72ef0c98cd0ae2a", func := "loop.example/g00541/laws.FnWaits", spec := "fnWaits", unfollowed := true, recurses := true, apart := false }
def FnWaitsSaid : Prop := fnWaitsRow.holds Try.pinned (OpenSpec.ofChange fnWaitsSpec)

/-- ITS FALSE NEIGHBOUR: 'it returns false'. Refute it at one input. -/
def fnWaitsWrong : ChangeSpec := { name := "fnWaits", fn := fun _ => fun
  | [d1, d2] => { results := [.lit (.bool false)], args := [d1, d2] }
  | _ => none }
def FnWaitsWrongFalsely : Prop := fnWaitsRow.holds Try.pinned (OpenSpec.ofChange fnWaitsWrong)

/-- 'laws.FnExactTravelOf': WHATEVER THE INPUT: true; the input reads as it did. -/
def fnExactTravelOfSpec : ChangeSpec := { name := "fnExactTravelOf", fn := fun _ => fun
  | [d1, d2] => { results := [.lit (.bool true)], args := [d1, d2] }
  | _ => none }
def fnExactTravelOfRow : OpenClaim := { program := "ytdjekgeoaekplaa", sum := "cf3b903fe790cb8a2145af3fe624d2ba7238d8c4ca74e2cee72ef0c98cd0ae2a", func := "loop.example/g00541/laws.FnExactTravelOf", spec := "fnExactTravelOf", unfollowed := true, recurses := true, apart := false }
def FnExactTravelOfSaid : Prop := fnExactTravelOfRow.holds Try.pinned (OpenSpec.ofChange fnExactTravelOfSpec)

/-- ITS FALSE NEIGHBOUR: 'it returns false'. Refute it at one input. -/
def fnExactTravelOfWrong : ChangeSpec := { name := "fnExactTravelOf", fn := fun _ => fun
  | [d1, d2] => { results := [.lit (.bool false)], args := [d1, d2] }
  | _ => none }
def FnExactTravelOfWrongFalsely : Prop := fnExactTravelOfRow.holds Try.pinned (OpenSpec.ofChange fnExactTravelOfWrong)

/-- 'laws.FnExactWaitsOf': WHATEVER THE INPUT: true; the input reads as it did. -/
def fnExactWaitsOfSpec : ChangeSpec := { name := "fnExactWaitsOf", fn := fun _ => fun
  | [d1, d2] => { results := [.lit (.bool true)], args := [d1, d2] }
  | _ => none }
def fnExactWaitsOfRow : OpenClaim := { program := "ytdjekgeoaekplaa", sum := "cf3b903fe790cb8a2145af3fe624d2ba7238d8c4ca74e2cee72ef0c98cd0ae2a", func := "loop.example/g00541/laws.FnExactWaitsOf", spec := "fnExactWaitsOf", unfollowed := true, recurses := true, apart := false }
def FnExactWaitsOfSaid : Prop := fnExactWaitsOfRow.holds Try.pinned (OpenSpec.ofChange fnExactWaitsOfSpec)

/-- ITS FALSE NEIGHBOUR: 'it returns false'. Refute it at one input. -/
def fnExactWaitsOfWrong : ChangeSpec := { name := "fnExactWaitsOf", fn := fun _ => fun
  | [d1, d2] => { results := [.lit (.bool false)], args := [d1, d2] }
  | _ => none }
def FnExactWaitsOfWrongFalsely : Prop := fnExactWaitsOfRow.holds Try.pinned (OpenSpec.ofChange fnExactWaitsOfWrong)

/-- 'laws.FnSweeps': WHATEVER THE INPUT: true; the input reads as it did. -/
def fnSweepsSpec : ChangeSpec := { name := "fnSweeps", fn := fun _ => fun
  | [d1, d2] => { results := [.lit (.bool true)], args := [d1, d2] }
  | _ => none }
def fnSweepsRow : OpenClaim := { program := "ytdjekgeoaekplaa", sum := "cf3b903fe790cb8a2145af3fe624d2ba7238d8c4ca74e2cee72ef0c98cd0ae2a", func := "loop.example/g00541/laws.FnSweeps", spec := "fnSweeps", unfollowed := true, recurses := true, apart := false }
def FnSweepsSaid : Prop := fnSweepsRow.holds Try.pinned (OpenSpec.ofChange fnSweepsSpec)

/-- ITS FALSE NEIGHBOUR: 'it returns false'. Refute it at one input. -/
def fnSweepsWrong : ChangeSpec := { name := "fnSweeps", fn := fun _ => fun
  | [d1, d2] => { results := [.lit (.bool false)], args := [d1, d2] }
  | _ => none }
def FnSweepsWrongFalsely : Prop := fnSweepsRow.holds Try.pinned (OpenSpec.ofChange fnSweepsWrong)

/-- 'laws.FnExactLeastTravel': WHATEVER THE INPUT: true; the input reads as it did. -/
def fnExactLeastTravelSpec : ChangeSpec := { name := "fnExactLeastTravel", fn := fun _ => fun
  | [d1, d2] => { results := [.lit (.bool true)], args := [d1, d2] }
  | _ => none }
def fnExactLeastTravelRow : OpenClaim := { program := "ytdjekgeoaekplaa", sum := "cf3b903fe790cb8a2145af3fe624d2ba7238d8c4ca74e2cee72ef0c98cd0ae2a", func := "loop.example/g00541/laws.FnExactLeastTravel", spec := "fnExactLeastTravel", unfollowed := true, recurses := true, apart := false }
def FnExactLeastTravelSaid : Prop := fnExactLeastTravelRow.holds Try.pinned (OpenSpec.ofChange fnExactLeastTravelSpec)

/-- ITS FALSE NEIGHBOUR: 'it returns false'. Refute it at one input. -/
def fnExactLeastTravelWrong : ChangeSpec := { name := "fnExactLeastTravel", fn := fun _ => fun
  | [d1, d2] => { results := [.lit (.bool false)], args := [d1, d2] }
  | _ => none }
def FnExactLeastTravelWrongFalsely : Prop := fnExactLeastTravelRow.holds Try.pinned (OpenSpec.ofChange fnExactLeastTravelWrong)

/-- 'laws.FnExactRoundOrder': WHATEVER THE INPUT: true; the input reads as it did. -/
def fnExactRoundOrderSpec : ChangeSpec := { name := "fnExactRoundOrder", fn := fun _ => fun
  | [d1, d2] => { results := [.lit (.bool true)], args := [d1, d2] }
  | _ => none }
def fnExactRoundOrderRow : OpenClaim := { program := "ytdjekgeoaekplaa", sum := "cf3b903fe790cb8a2145af3fe624d2ba7238d8c4ca74e2cee72ef0c98cd0ae2a", func := "loop.example/g00541/laws.FnExactRoundOrder", spec := "fnExactRoundOrder", unfollowed := true, recurses := true, apart := false }
def FnExactRoundOrderSaid : Prop := fnExactRoundOrderRow.holds Try.pinned (OpenSpec.ofChange fnExactRoundOrderSpec)

/-- ITS FALSE NEIGHBOUR: 'it returns false'. Refute it at one input. -/
def fnExactRoundOrderWrong : ChangeSpec := { name := "fnExactRoundOrder", fn := fun _ => fun
  | [d1, d2] => { results := [.lit (.bool false)], args := [d1, d2] }
  | _ => none }
def FnExactRoundOrderWrongFalsely : Prop := fnExactRoundOrderRow.holds Try.pinned (OpenSpec.ofChange fnExactRoundOrderWrong)

/-- 'laws.FnExactNearestOrder': WHATEVER THE INPUT: true; the input reads as it did. -/
def fnExactNearestOrderSpec : ChangeSpec := { name := "fnExactNearestOrder", fn := fun _ => fun
  | [d1, d2] => { results := [.lit (.bool true)], args := [d1, d2] }
  | _ => none }
def fnExactNearestOrderRow : OpenClaim := { program := "ytdjekgeoaekplaa", sum := "cf3b903fe790cb8a2145af3fe624d2ba7238d8c4ca74e2cee72ef0c98cd0ae2a", func := "loop.example/g00541/laws.FnExactNearestOrder", spec := "fnExactNearestOrder", unfollowed := true, recurses := true, apart := false }
def FnExactNearestOrderSaid : Prop := fnExactNearestOrderRow.holds Try.pinned (OpenSpec.ofChange fnExactNearestOrderSpec)

/-- ITS FALSE NEIGHBOUR: 'it returns false'. Refute it at one input. -/
def fnExactNearestOrderWrong : ChangeSpec := { name := "fnExactNearestOrder", fn := fun _ => fun
  | [d1, d2] => { results := [.lit (.bool false)], args := [d1, d2] }
  | _ => none }
def FnExactNearestOrderWrongFalsely : Prop := fnExactNearestOrderRow.holds Try.pinned (OpenSpec.ofChange fnExactNearestOrderWrong)

/-- 'laws.FnExactSweepOrder': WHATEVER THE INPUT: true; the input reads as it did. -/
def fnExactSweepOrderSpec : ChangeSpec := { name := "fnExactSweepOrder", fn := fun _ => fun
  | [d1, d2, d3] => { results := [.lit (.bool true)], args := [d1, d2, d3] }
  | _ => none }
def fnExactSweepOrderRow : OpenClaim := { program := "ytdjekgeoaekplaa", sum := "cf3b903fe790cb8a2145af3fe624d2ba7238d8c4ca74e2cee72ef0c98cd0ae2a", func := "loop.example/g00541/laws.FnExactSweepOrder", spec := "fnExactSweepOrder", unfollowed := true, recurses := true, apart := false }
def FnExactSweepOrderSaid : Prop := fnExactSweepOrderRow.holds Try.pinned (OpenSpec.ofChange fnExactSweepOrderSpec)

/-- ITS FALSE NEIGHBOUR: 'it returns false'. Refute it at one input. -/
def fnExactSweepOrderWrong : ChangeSpec := { name := "fnExactSweepOrder", fn := fun _ => fun
  | [d1, d2, d3] => { results := [.lit (.bool false)], args := [d1, d2, d3] }
  | _ => none }
def FnExactSweepOrderWrongFalsely : Prop := fnExactSweepOrderRow.holds Try.pinned (OpenSpec.ofChange fnExactSweepOrderWrong)

/- THE SECOND FORM. 'bulk': how many values and letters a reading holds, each counted each time it is reached (what is shared counts as often as it is met; a slice's spare places count too). A statement '..UptoSaid' is the law's where the arguments, and the package variables that the reading takes, are together of bulk at most 1048576: NARROWER than '..Said'. Prove '..Said' where nothing that the law and all that it calls make is longer than what came in: it says more and counts as full. Else prove '..UptoSaid'. A law counts once. -/
mutual
def uptoBulk {H : Type} : DataW H → Nat
  | .lit (.string bytes) => bytes.length + 1
  | .lit _ => 1
  | .nil => 1
  | .ptr d => uptoBulk d + 1
  | .slice elems spare => uptoBulkAll elems + uptoBulkAll spare + 1
  | .agg parts => uptoBulkAll parts + 1
  | .iface _ d => uptoBulk d + 1
  | .map entries => uptoBulkEntries entries + 1
  | .held _ => 1
def uptoBulkAll {H : Type} : List (DataW H) → Nat
  | [] => 0
  | d :: r => uptoBulk d + uptoBulkAll r
def uptoBulkEntries {H : Type} : List (Lit × DataW H) → Nat
  | [] => 0
  | x :: r => uptoBulkEntry x + uptoBulkEntries r
def uptoBulkEntry {H : Type} : Lit × DataW H → Nat
  | (.string bytes, d) => bytes.length + uptoBulk d + 1
  | (_, d) => uptoBulk d + 1
 end
def uptoSmall : (H : Type) → List (DataW H) → Bool := fun _ ds => decide (uptoBulkAll ds ≤ 1048576)
def OpenSpec.upto (s : _root_.Go.ChangeSpec) : _root_.Go.OpenSpec := { _root_.Go.OpenSpec.ofChange s with cond := some uptoSmall }

/-- 'laws.FnExactBestSweep', WHERE WHAT IT READS IS OF BULK AT MOST 1048576: true; the input reads as it did. -/
def fnExactBestSweepUptoRow : OpenClaim := { program := "ytdjekgeoaekplaa", sum := "cf3b903fe790cb8a2145af3fe624d2ba7238d8c4ca74e2cee72ef0c98cd0ae2a", func := "loop.example/g00541/laws.FnExactBestSweep", spec := "fnExactBestSweep", unfollowed := true, recurses := true, apart := false, narrowed := true }
def FnExactBestSweepUptoSaid : Prop := fnExactBestSweepUptoRow.holds Try.pinned (OpenSpec.upto fnExactBestSweepSpec)

/-- 'laws.FnExactGoodAsks', WHERE WHAT IT READS IS OF BULK AT MOST 1048576: true; the input reads as it did. -/
def fnExactGoodAsksUptoRow : OpenClaim := { program := "ytdjekgeoaekplaa", sum := "cf3b903fe790cb8a2145af3fe624d2ba7238d8c4ca74e2cee72ef0c98cd0ae2a", func := "loop.example/g00541/laws.FnExactGoodAsks", spec := "fnExactGoodAsks", unfollowed := true, recurses := true, apart := false, narrowed := true }
def FnExactGoodAsksUptoSaid : Prop := fnExactGoodAsksUptoRow.holds Try.pinned (OpenSpec.upto fnExactGoodAsksSpec)

/-- 'laws.FnWaits', WHERE WHAT IT READS IS OF BULK AT MOST 1048576: true; the input reads as it did. -/
def fnWaitsUptoRow : OpenClaim := { program := "ytdjekgeoaekplaa", sum := "cf3b903fe790cb8a2145af3fe624d2ba7238d8c4ca74e2cee72ef0c98cd0ae2a", func := "loop.example/g00541/laws.FnWaits", spec := "fnWaits", unfollowed := true, recurses := true, apart := false, narrowed := true }
def FnWaitsUptoSaid : Prop := fnWaitsUptoRow.holds Try.pinned (OpenSpec.upto fnWaitsSpec)

/-- 'laws.FnExactTravelOf', WHERE WHAT IT READS IS OF BULK AT MOST 1048576: true; the input reads as it did. -/
def fnExactTravelOfUptoRow : OpenClaim := { program := "ytdjekgeoaekplaa", sum := "cf3b903fe790cb8a2145af3fe624d2ba7238d8c4ca74e2cee72ef0c98cd0ae2a", func := "loop.example/g00541/laws.FnExactTravelOf", spec := "fnExactTravelOf", unfollowed := true, recurses := true, apart := false, narrowed := true }
def FnExactTravelOfUptoSaid : Prop := fnExactTravelOfUptoRow.holds Try.pinned (OpenSpec.upto fnExactTravelOfSpec)

/-- 'laws.FnExactWaitsOf', WHERE WHAT IT READS IS OF BULK AT MOST 1048576: true; the input reads as it did. -/
def fnExactWaitsOfUptoRow : OpenClaim := { program := "ytdjekgeoaekplaa", sum := "cf3b903fe790cb8a2145af3fe624d2ba7238d8c4ca74e2cee72ef0c98cd0ae2a", func := "loop.example/g00541/laws.FnExactWaitsOf", spec := "fnExactWaitsOf", unfollowed := true, recurses := true, apart := false, narrowed := true }
def FnExactWaitsOfUptoSaid : Prop := fnExactWaitsOfUptoRow.holds Try.pinned (OpenSpec.upto fnExactWaitsOfSpec)

/-- 'laws.FnSweeps', WHERE WHAT IT READS IS OF BULK AT MOST 1048576: true; the input reads as it did. -/
def fnSweepsUptoRow : OpenClaim := { program := "ytdjekgeoaekplaa", sum := "cf3b903fe790cb8a2145af3fe624d2ba7238d8c4ca74e2cee72ef0c98cd0ae2a", func := "loop.example/g00541/laws.FnSweeps", spec := "fnSweeps", unfollowed := true, recurses := true, apart := false, narrowed := true }
def FnSweepsUptoSaid : Prop := fnSweepsUptoRow.holds Try.pinned (OpenSpec.upto fnSweepsSpec)

/-- 'laws.FnExactLeastTravel', WHERE WHAT IT READS IS OF BULK AT MOST 1048576: true; the input reads as it did. -/
def fnExactLeastTravelUptoRow : OpenClaim := { program := "ytdjekgeoaekplaa", sum := "cf3b903fe790cb8a2145af3fe624d2ba7238d8c4ca74e2cee72ef0c98cd0ae2a", func := "loop.example/g00541/laws.FnExactLeastTravel", spec := "fnExactLeastTravel", unfollowed := true, recurses := true, apart := false, narrowed := true }
def FnExactLeastTravelUptoSaid : Prop := fnExactLeastTravelUptoRow.holds Try.pinned (OpenSpec.upto fnExactLeastTravelSpec)

/-- 'laws.FnExactRoundOrder', WHERE WHAT IT READS IS OF BULK AT MOST 1048576: true; the input reads as it did. -/
def fnExactRoundOrderUptoRow : OpenClaim := { program := "ytdjekgeoaekplaa", sum := "cf3b903fe790cb8a2145af3fe624d2ba7238d8c4ca74e2cee72ef0c98cd0ae2a", func := "loop.example/g00541/laws.FnExactRoundOrder", spec := "fnExactRoundOrder", unfollowed := true, recurses := true, apart := false, narrowed := true }
def FnExactRoundOrderUptoSaid : Prop := fnExactRoundOrderUptoRow.holds Try.pinned (OpenSpec.upto fnExactRoundOrderSpec)

/-- 'laws.FnExactNearestOrder', WHERE WHAT IT READS IS OF BULK AT MOST 1048576: true; the input reads as it did. -/
def fnExactNearestOrderUptoRow : OpenClaim := { program := "ytdjekgeoaekplaa", sum := "cf3b903fe790cb8a2145af3fe624d2ba7238d8c4ca74e2cee72ef0c98cd0ae2a", func := "loop.example/g00541/laws.FnExactNearestOrder", spec := "fnExactNearestOrder", unfollowed := true, recurses := true, apart := false, narrowed := true }
def FnExactNearestOrderUptoSaid : Prop := fnExactNearestOrderUptoRow.holds Try.pinned (OpenSpec.upto fnExactNearestOrderSpec)

/-- 'laws.FnExactSweepOrder', WHERE WHAT IT READS IS OF BULK AT MOST 1048576: true; the input reads as it did. -/
def fnExactSweepOrderUptoRow : OpenClaim := { program := "ytdjekgeoaekplaa", sum := "cf3b903fe790cb8a2145af3fe624d2ba7238d8c4ca74e2cee72ef0c98cd0ae2a", func := "loop.example/g00541/laws.FnExactSweepOrder", spec := "fnExactSweepOrder", unfollowed := true, recurses := true, apart := false, narrowed := true }
def FnExactSweepOrderUptoSaid : Prop := fnExactSweepOrderUptoRow.holds Try.pinned (OpenSpec.upto fnExactSweepOrderSpec)

end Rows
end Go.Proofs.Ytdjekgeoaekplaa

/-
  No cell of these rows narrows 'for every input' (looked for: loops, veiled, ifaces, maps, wideKeys, modest, calm, conditions, laid).
  DERIVED. THE GIVEN ROWS OF THIS SEAT. 11 by the template 'for every input the law returns true; each argument reads behind the call as it read before'; 0 by the template 'total and deterministic' (their statements: YtknngaomlfdhiaaTotals.lean).
  GIVEN WITH THE SEED: the statements are not yours to turn. If you find one false, say at which input.
  Laid BY PROGRAM, IN A SANDBOX (cutbox-rows.mjs): the forced cells as the released guide's own fill.sh prints them over the translation a733f6d8a136a605… (all of the seat's roots in one cut). By AI agents, Wed Nov 11 2026. No macro, syntax, notation, axiom, sorry.
-/
import Derived.Test.YtknngaomlfdhiaaChecked
import GoSem.Claim
import GoSem.ClaimJoined
import GoSem.ClaimMapViews
import Derived.JoinedTies
import Derived.KernelRfl
namespace Go.Proofs.Ytknngaomlfdhiaa
/- THE CELL 'sum', in the pinned program and in every row, IS THE sha256 OF THE DUMP (.gsa) THAT YtknngaomlfdhiaaProg.lean LOADS. Nothing in Lean hashes anything: it is a label: what it is worth is what the hold of that sum in a sandbox is worth. -/
noncomputable def Try.pinned : Pinned := { name := "ytknngaomlfdhiaa", sum := "a733f6d8a136a6053175d8e5b96f0fa7c68e27a447f42ea244a49157e47f1ed2", checked := Try.checked }
namespace Rows
def none {H : Type} : Left H := { results := [], args := [] }

/-- 'laws.FnExactConstants': WHATEVER THE INPUT: true; the input reads as it did. -/
def fnExactConstantsSpec : ChangeSpec := { name := "fnExactConstants", fn := fun _ => fun
  | [] => { results := [.lit (.bool true)], args := [] }
  | _ => none }
def fnExactConstantsRow : OpenClaim := { program := "ytknngaomlfdhiaa", sum := "a733f6d8a136a6053175d8e5b96f0fa7c68e27a447f42ea244a49157e47f1ed2", func := "loop.example/g00541/laws.FnExactConstants", spec := "fnExactConstants", apart := false }
def FnExactConstantsSaid : Prop := fnExactConstantsRow.holds Try.pinned (OpenSpec.ofChange fnExactConstantsSpec)

/-- ITS FALSE NEIGHBOUR: 'it returns false'. Refute it at one input. -/
def fnExactConstantsWrong : ChangeSpec := { name := "fnExactConstants", fn := fun _ => fun
  | [] => { results := [.lit (.bool false)], args := [] }
  | _ => none }
def FnExactConstantsWrongFalsely : Prop := fnExactConstantsRow.holds Try.pinned (OpenSpec.ofChange fnExactConstantsWrong)

/-- 'laws.FnExactUnlikeBits': WHATEVER THE INPUT: true; the input reads as it did. -/
def fnExactUnlikeBitsSpec : ChangeSpec := { name := "fnExactUnlikeBits", fn := fun _ => fun
  | [d1, d2] => { results := [.lit (.bool true)], args := [d1, d2] }
  | _ => none }
def fnExactUnlikeBitsRow : OpenClaim := { program := "ytknngaomlfdhiaa", sum := "a733f6d8a136a6053175d8e5b96f0fa7c68e27a447f42ea244a49157e47f1ed2", func := "loop.example/g00541/laws.FnExactUnlikeBits", spec := "fnExactUnlikeBits", apart := false }
def FnExactUnlikeBitsSaid : Prop := fnExactUnlikeBitsRow.holds Try.pinned (OpenSpec.ofChange fnExactUnlikeBitsSpec)

/-- ITS FALSE NEIGHBOUR: 'it returns false'. Refute it at one input. -/
def fnExactUnlikeBitsWrong : ChangeSpec := { name := "fnExactUnlikeBits", fn := fun _ => fun
  | [d1, d2] => { results := [.lit (.bool false)], args := [d1, d2] }
  | _ => none }
def FnExactUnlikeBitsWrongFalsely : Prop := fnExactUnlikeBitsRow.holds Try.pinned (OpenSpec.ofChange fnExactUnlikeBitsWrong)

/-- 'laws.FnExactSumOn': WHATEVER THE INPUT: true; the input reads as it did. -/
def fnExactSumOnSpec : ChangeSpec := { name := "fnExactSumOn", fn := fun _ => fun
  | [d1, d2] => { results := [.lit (.bool true)], args := [d1, d2] }
  | _ => none }
def fnExactSumOnRow : OpenClaim := { program := "ytknngaomlfdhiaa", sum := "a733f6d8a136a6053175d8e5b96f0fa7c68e27a447f42ea244a49157e47f1ed2", func := "loop.example/g00541/laws.FnExactSumOn", spec := "fnExactSumOn", apart := false }
def FnExactSumOnSaid : Prop := fnExactSumOnRow.holds Try.pinned (OpenSpec.ofChange fnExactSumOnSpec)

/-- ITS FALSE NEIGHBOUR: 'it returns false'. Refute it at one input. -/
def fnExactSumOnWrong : ChangeSpec := { name := "fnExactSumOn", fn := fun _ => fun
  | [d1, d2] => { results := [.lit (.bool false)], args := [d1, d2] }
  | _ => none }
def FnExactSumOnWrongFalsely : Prop := fnExactSumOnRow.holds Try.pinned (OpenSpec.ofChange fnExactSumOnWrong)

/-- 'laws.FnExactSumOf': WHATEVER THE INPUT: true; the input reads as it did. -/
def fnExactSumOfSpec : ChangeSpec := { name := "fnExactSumOf", fn := fun _ => fun
  | [d] => { results := [.lit (.bool true)], args := [d] }
  | _ => none }
def fnExactSumOfRow : OpenClaim := { program := "ytknngaomlfdhiaa", sum := "a733f6d8a136a6053175d8e5b96f0fa7c68e27a447f42ea244a49157e47f1ed2", func := "loop.example/g00541/laws.FnExactSumOf", spec := "fnExactSumOf", apart := false }
def FnExactSumOfSaid : Prop := fnExactSumOfRow.holds Try.pinned (OpenSpec.ofChange fnExactSumOfSpec)

/-- ITS FALSE NEIGHBOUR: 'it returns false'. Refute it at one input. -/
def fnExactSumOfWrong : ChangeSpec := { name := "fnExactSumOf", fn := fun _ => fun
  | [d] => { results := [.lit (.bool false)], args := [d] }
  | _ => none }
def FnExactSumOfWrongFalsely : Prop := fnExactSumOfRow.holds Try.pinned (OpenSpec.ofChange fnExactSumOfWrong)

/-- 'laws.FnExactWithSum': WHATEVER THE INPUT: true; the input reads as it did. -/
def fnExactWithSumSpec : ChangeSpec := { name := "fnExactWithSum", fn := fun _ => fun
  | [d] => { results := [.lit (.bool true)], args := [d] }
  | _ => none }
def fnExactWithSumRow : OpenClaim := { program := "ytknngaomlfdhiaa", sum := "a733f6d8a136a6053175d8e5b96f0fa7c68e27a447f42ea244a49157e47f1ed2", func := "loop.example/g00541/laws.FnExactWithSum", spec := "fnExactWithSum", apart := false }
def FnExactWithSumSaid : Prop := fnExactWithSumRow.holds Try.pinned (OpenSpec.ofChange fnExactWithSumSpec)

/-- ITS FALSE NEIGHBOUR: 'it returns false'. Refute it at one input. -/
def fnExactWithSumWrong : ChangeSpec := { name := "fnExactWithSum", fn := fun _ => fun
  | [d] => { results := [.lit (.bool false)], args := [d] }
  | _ => none }
def FnExactWithSumWrongFalsely : Prop := fnExactWithSumRow.holds Try.pinned (OpenSpec.ofChange fnExactWithSumWrong)

/-- 'laws.FnExactCheckSum': WHATEVER THE INPUT: true; the input reads as it did. -/
def fnExactCheckSumSpec : ChangeSpec := { name := "fnExactCheckSum", fn := fun _ => fun
  | [d] => { results := [.lit (.bool true)], args := [d] }
  | _ => none }
def fnExactCheckSumRow : OpenClaim := { program := "ytknngaomlfdhiaa", sum := "a733f6d8a136a6053175d8e5b96f0fa7c68e27a447f42ea244a49157e47f1ed2", func := "loop.example/g00541/laws.FnExactCheckSum", spec := "fnExactCheckSum", apart := false }
def FnExactCheckSumSaid : Prop := fnExactCheckSumRow.holds Try.pinned (OpenSpec.ofChange fnExactCheckSumSpec)

/-- ITS FALSE NEIGHBOUR: 'it returns false'. Refute it at one input. -/
def fnExactCheckSumWrong : ChangeSpec := { name := "fnExactCheckSum", fn := fun _ => fun
  | [d] => { results := [.lit (.bool false)], args := [d] }
  | _ => none }
def FnExactCheckSumWrongFalsely : Prop := fnExactCheckSumRow.holds Try.pinned (OpenSpec.ofChange fnExactCheckSumWrong)

/-- 'laws.FnExactGoodRecord': WHATEVER THE INPUT: true; the input reads as it did. -/
def fnExactGoodRecordSpec : ChangeSpec := { name := "fnExactGoodRecord", fn := fun _ => fun
  | [d] => { results := [.lit (.bool true)], args := [d] }
  | _ => none }
def fnExactGoodRecordRow : OpenClaim := { program := "ytknngaomlfdhiaa", sum := "a733f6d8a136a6053175d8e5b96f0fa7c68e27a447f42ea244a49157e47f1ed2", func := "loop.example/g00541/laws.FnExactGoodRecord", spec := "fnExactGoodRecord", apart := false }
def FnExactGoodRecordSaid : Prop := fnExactGoodRecordRow.holds Try.pinned (OpenSpec.ofChange fnExactGoodRecordSpec)

/-- ITS FALSE NEIGHBOUR: 'it returns false'. Refute it at one input. -/
def fnExactGoodRecordWrong : ChangeSpec := { name := "fnExactGoodRecord", fn := fun _ => fun
  | [d] => { results := [.lit (.bool false)], args := [d] }
  | _ => none }
def FnExactGoodRecordWrongFalsely : Prop := fnExactGoodRecordRow.holds Try.pinned (OpenSpec.ofChange fnExactGoodRecordWrong)

/-- 'laws.FnExactTurnBits': WHATEVER THE INPUT: true; the input reads as it did. -/
def fnExactTurnBitsSpec : ChangeSpec := { name := "fnExactTurnBits", fn := fun _ => fun
  | [d1, d2, d3] => { results := [.lit (.bool true)], args := [d1, d2, d3] }
  | _ => none }
def fnExactTurnBitsRow : OpenClaim := { program := "ytknngaomlfdhiaa", sum := "a733f6d8a136a6053175d8e5b96f0fa7c68e27a447f42ea244a49157e47f1ed2", func := "loop.example/g00541/laws.FnExactTurnBits", spec := "fnExactTurnBits", apart := false }
def FnExactTurnBitsSaid : Prop := fnExactTurnBitsRow.holds Try.pinned (OpenSpec.ofChange fnExactTurnBitsSpec)

/-- ITS FALSE NEIGHBOUR: 'it returns false'. Refute it at one input. -/
def fnExactTurnBitsWrong : ChangeSpec := { name := "fnExactTurnBits", fn := fun _ => fun
  | [d1, d2, d3] => { results := [.lit (.bool false)], args := [d1, d2, d3] }
  | _ => none }
def FnExactTurnBitsWrongFalsely : Prop := fnExactTurnBitsRow.holds Try.pinned (OpenSpec.ofChange fnExactTurnBitsWrong)

/-- 'laws.FnExactBlocksOf': WHATEVER THE INPUT: true; the input reads as it did. -/
def fnExactBlocksOfSpec : ChangeSpec := { name := "fnExactBlocksOf", fn := fun _ => fun
  | [d] => { results := [.lit (.bool true)], args := [d] }
  | _ => none }
def fnExactBlocksOfRow : OpenClaim := { program := "ytknngaomlfdhiaa", sum := "a733f6d8a136a6053175d8e5b96f0fa7c68e27a447f42ea244a49157e47f1ed2", func := "loop.example/g00541/laws.FnExactBlocksOf", spec := "fnExactBlocksOf", apart := false }
def FnExactBlocksOfSaid : Prop := fnExactBlocksOfRow.holds Try.pinned (OpenSpec.ofChange fnExactBlocksOfSpec)

/-- ITS FALSE NEIGHBOUR: 'it returns false'. Refute it at one input. -/
def fnExactBlocksOfWrong : ChangeSpec := { name := "fnExactBlocksOf", fn := fun _ => fun
  | [d] => { results := [.lit (.bool false)], args := [d] }
  | _ => none }
def FnExactBlocksOfWrongFalsely : Prop := fnExactBlocksOfRow.holds Try.pinned (OpenSpec.ofChange fnExactBlocksOfWrong)

/-- 'laws.FnExactRecordFor': WHATEVER THE INPUT: true; the input reads as it did. -/
def fnExactRecordForSpec : ChangeSpec := { name := "fnExactRecordFor", fn := fun _ => fun
  | [d] => { results := [.lit (.bool true)], args := [d] }
  | _ => none }
def fnExactRecordForRow : OpenClaim := { program := "ytknngaomlfdhiaa", sum := "a733f6d8a136a6053175d8e5b96f0fa7c68e27a447f42ea244a49157e47f1ed2", func := "loop.example/g00541/laws.FnExactRecordFor", spec := "fnExactRecordFor", apart := false }
def FnExactRecordForSaid : Prop := fnExactRecordForRow.holds Try.pinned (OpenSpec.ofChange fnExactRecordForSpec)

/-- ITS FALSE NEIGHBOUR: 'it returns false'. Refute it at one input. -/
def fnExactRecordForWrong : ChangeSpec := { name := "fnExactRecordFor", fn := fun _ => fun
  | [d] => { results := [.lit (.bool false)], args := [d] }
  | _ => none }
def FnExactRecordForWrongFalsely : Prop := fnExactRecordForRow.holds Try.pinned (OpenSpec.ofChange fnExactRecordForWrong)

/-- 'laws.FnExactSumZeros': WHATEVER THE INPUT: true; the input reads as it did. -/
def fnExactSumZerosSpec : ChangeSpec := { name := "fnExactSumZeros", fn := fun _ => fun
  | [d1, d2] => { results := [.lit (.bool true)], args := [d1, d2] }
  | _ => none }
def fnExactSumZerosRow : OpenClaim := { program := "ytknngaomlfdhiaa", sum := "a733f6d8a136a6053175d8e5b96f0fa7c68e27a447f42ea244a49157e47f1ed2", func := "loop.example/g00541/laws.FnExactSumZeros", spec := "fnExactSumZeros", inPlace := ["internal/abi.NoEscape", "internal/bytealg.MakeNoZero"], apart := false }
def FnExactSumZerosSaid : Prop := fnExactSumZerosRow.holds Try.pinned (OpenSpec.ofChange fnExactSumZerosSpec)

/-- ITS FALSE NEIGHBOUR: 'it returns false'. Refute it at one input. -/
def fnExactSumZerosWrong : ChangeSpec := { name := "fnExactSumZeros", fn := fun _ => fun
  | [d1, d2] => { results := [.lit (.bool false)], args := [d1, d2] }
  | _ => none }
def FnExactSumZerosWrongFalsely : Prop := fnExactSumZerosRow.holds Try.pinned (OpenSpec.ofChange fnExactSumZerosWrong)

/- THE SECOND FORM. 'bulk': how many values and letters a reading holds, each counted each time it is reached (what is shared counts as often as it is met; a slice's spare places count too). A statement '..UptoSaid' is the law's where the arguments, and the package variables that the reading takes, are together of bulk at most 1048576: NARROWER than '..Said'. Prove '..Said' where nothing that the law and all that it calls make is longer than what came in: it says more and counts as full. Else prove '..UptoSaid'. A law counts once. -/
mutual
def uptoBulk {H : Type} : DataW H → Nat
  | .lit (.string bytes) => bytes.length + 1
  | .lit _ => 1
  | .nil => 1
  | .ptr d => uptoBulk d + 1
  | .slice elems spare => uptoBulkAll elems + uptoBulkAll spare + 1
  | .agg parts => uptoBulkAll parts + 1
  | .iface _ d => uptoBulk d + 1
  | .map entries => uptoBulkEntries entries + 1
  | .held _ => 1
def uptoBulkAll {H : Type} : List (DataW H) → Nat
  | [] => 0
  | d :: r => uptoBulk d + uptoBulkAll r
def uptoBulkEntries {H : Type} : List (Lit × DataW H) → Nat
  | [] => 0
  | x :: r => uptoBulkEntry x + uptoBulkEntries r
def uptoBulkEntry {H : Type} : Lit × DataW H → Nat
  | (.string bytes, d) => bytes.length + uptoBulk d + 1
  | (_, d) => uptoBulk d + 1
 end
def uptoSmall : (H : Type) → List (DataW H) → Bool := fun _ ds => decide (uptoBulkAll ds ≤ 1048576)
def OpenSpec.upto (s : _root_.Go.ChangeSpec) : _root_.Go.OpenSpec := { _root_.Go.OpenSpec.ofChange s with cond := some uptoSmall }

/-- 'laws.FnExactConstants', WHERE WHAT IT READS IS OF BULK AT MOST 1048576: true; the input reads as it did. -/
def fnExactConstantsUptoRow : OpenClaim := { program := "ytknngaomlfdhiaa", sum := "a733f6d8a136a6053175d8e5b96f0fa7c68e27a447f42ea244a49157e47f1ed2", func := "loop.example/g00541/laws.FnExactConstants", spec := "fnExactConstants", apart := false, narrowed := true }
def FnExactConstantsUptoSaid : Prop := fnExactConstantsUptoRow.holds Try.pinned (OpenSpec.upto fnExactConstantsSpec)

/-- 'laws.FnExactUnlikeBits', WHERE WHAT IT READS IS OF BULK AT MOST 1048576: true; the input reads as it did. -/
def fnExactUnlikeBitsUptoRow : OpenClaim := { program := "ytknngaomlfdhiaa", sum := "a733f6d8a136a6053175d8e5b96f0fa7c68e27a447f42ea244a49157e47f1ed2", func := "loop.example/g00541/laws.FnExactUnlikeBits", spec := "fnExactUnlikeBits", apart := false, narrowed := true }
def FnExactUnlikeBitsUptoSaid : Prop := fnExactUnlikeBitsUptoRow.holds Try.pinned (OpenSpec.upto fnExactUnlikeBitsSpec)

/-- 'laws.FnExactSumOn', WHERE WHAT IT READS IS OF BULK AT MOST 1048576: true; the input reads as it did. -/
def fnExactSumOnUptoRow : OpenClaim := { program := "ytknngaomlfdhiaa", sum := "a733f6d8a136a6053175d8e5b96f0fa7c68e27a447f42ea244a49157e47f1ed2", func := "loop.example/g00541/laws.FnExactSumOn", spec := "fnExactSumOn", apart := false, narrowed := true }
def FnExactSumOnUptoSaid : Prop := fnExactSumOnUptoRow.holds Try.pinned (OpenSpec.upto fnExactSumOnSpec)

/-- 'laws.FnExactSumOf', WHERE WHAT IT READS IS OF BULK AT MOST 1048576: true; the input reads as it did. -/
def fnExactSumOfUptoRow : OpenClaim := { program := "ytknngaomlfdhiaa", sum := "a733f6d8a136a6053175d8e5b96f0fa7c68e27a447f42ea244a49157e47f1ed2", func := "loop.example/g00541/laws.FnExactSumOf", spec := "fnExactSumOf", apart := false, narrowed := true }
def FnExactSumOfUptoSaid : Prop := fnExactSumOfUptoRow.holds Try.pinned (OpenSpec.upto fnExactSumOfSpec)

/-- 'laws.FnExactWithSum', WHERE WHAT IT READS IS OF BULK AT MOST 1048576: true; the input reads as it did. -/
def fnExactWithSumUptoRow : OpenClaim := { program := "ytknngaomlfdhiaa", sum := "a733f6d8a136a6053175d8e5b96f0fa7c68e27a447f42ea244a49157e47f1ed2", func := "loop.example/g00541/laws.FnExactWithSum", spec := "fnExactWithSum", apart := false, narrowed := true }
def FnExactWithSumUptoSaid : Prop := fnExactWithSumUptoRow.holds Try.pinned (OpenSpec.upto fnExactWithSumSpec)

/-- 'laws.FnExactCheckSum', WHERE WHAT IT READS IS OF BULK AT MOST 1048576: true; the input reads as it did. -/
def fnExactCheckSumUptoRow : OpenClaim := { program := "ytknngaomlfdhiaa", sum := "a733f6d8a136a6053175d8e5b96f0fa7c68e27a447f42ea244a49157e47f1ed2", func := "loop.example/g00541/laws.FnExactCheckSum", spec := "fnExactCheckSum", apart := false, narrowed := true }
def FnExactCheckSumUptoSaid : Prop := fnExactCheckSumUptoRow.holds Try.pinned (OpenSpec.upto fnExactCheckSumSpec)

/-- 'laws.FnExactGoodRecord', WHERE WHAT IT READS IS OF BULK AT MOST 1048576: true; the input reads as it did. -/
def fnExactGoodRecordUptoRow : OpenClaim := { program := "ytknngaomlfdhiaa", sum := "a733f6d8a136a6053175d8e5b96f0fa7c68e27a447f42ea244a49157e47f1ed2", func := "loop.example/g00541/laws.FnExactGoodRecord", spec := "fnExactGoodRecord", apart := false, narrowed := true }
def FnExactGoodRecordUptoSaid : Prop := fnExactGoodRecordUptoRow.holds Try.pinned (OpenSpec.upto fnExactGoodRecordSpec)

/-- 'laws.FnExactTurnBits', WHERE WHAT IT READS IS OF BULK AT MOST 1048576: true; the input reads as it did. -/
def fnExactTurnBitsUptoRow : OpenClaim := { program := "ytknngaomlfdhiaa", sum := "a733f6d8a136a6053175d8e5b96f0fa7c68e27a447f42ea244a49157e47f1ed2", func := "loop.example/g00541/laws.FnExactTurnBits", spec := "fnExactTurnBits", apart := false, narrowed := true }
def FnExactTurnBitsUptoSaid : Prop := fnExactTurnBitsUptoRow.holds Try.pinned (OpenSpec.upto fnExactTurnBitsSpec)

/-- 'laws.FnExactBlocksOf', WHERE WHAT IT READS IS OF BULK AT MOST 1048576: true; the input reads as it did. -/
def fnExactBlocksOfUptoRow : OpenClaim := { program := "ytknngaomlfdhiaa", sum := "a733f6d8a136a6053175d8e5b96f0fa7c68e27a447f42ea244a49157e47f1ed2", func := "loop.example/g00541/laws.FnExactBlocksOf", spec := "fnExactBlocksOf", apart := false, narrowed := true }
def FnExactBlocksOfUptoSaid : Prop := fnExactBlocksOfUptoRow.holds Try.pinned (OpenSpec.upto fnExactBlocksOfSpec)

/-- 'laws.FnExactRecordFor', WHERE WHAT IT READS IS OF BULK AT MOST 1048576: true; the input reads as it did. -/
def fnExactRecordForUptoRow : OpenClaim := { program := "ytknngaomlfdhiaa", sum := "a733f6d8a136a6053175d8e5b96f0fa7c68e27a447f42ea244a49157e47f1ed2", func := "loop.example/g00541/laws.FnExactRecordFor", spec := "fnExactRecordFor", apart := false, narrowed := true }
def FnExactRecordForUptoSaid : Prop := fnExactRecordForUptoRow.holds Try.pinned (OpenSpec.upto fnExactRecordForSpec)

/-- 'laws.FnExactSumZeros', WHERE WHAT IT READS IS OF BULK AT MOST 1048576: true; the input reads as it did. -/
def fnExactSumZerosUptoRow : OpenClaim := { program := "ytknngaomlfdhiaa", sum := "a733f6d8a136a6053175d8e5b96f0fa7c68e27a447f42ea244a49157e47f1ed2", func := "loop.example/g00541/laws.FnExactSumZeros", spec := "fnExactSumZeros", inPlace := ["internal/abi.NoEscape", "internal/bytealg.MakeNoZero"], apart := false, narrowed := true }
def FnExactSumZerosUptoSaid : Prop := fnExactSumZerosUptoRow.holds Try.pinned (OpenSpec.upto fnExactSumZerosSpec)

end Rows
end Go.Proofs.Ytknngaomlfdhiaa

/-
  No cell of these rows narrows 'for every input' (looked for: loops, veiled, ifaces, maps, wideKeys, modest, calm, conditions, laid).
  DERIVED. THE GIVEN ROWS OF THIS SEAT. 9 by the template 'for every input the law returns true; each argument reads behind the call as it read before'; 0 by the template 'total and deterministic' (their statements: YtcoceoplnehmcaaTotals.lean).
  GIVEN WITH THE SEED: the statements are not yours to turn. If you find one false, say at which input.
  Laid BY PROGRAM, IN A SANDBOX (cutbox-rows.mjs): the forced cells as the released guide's own fill.sh prints them over the translation 95a3fd8db8c053ea… (all of the seat's roots in one cut). By AI agents, Wed Nov 11 2026. No macro, syntax, notation, axiom, sorry.
-/
import Derived.Test.YtcoceoplnehmcaaChecked
import GoSem.Claim
import GoSem.ClaimJoined
import GoSem.ClaimMapViews
import Derived.JoinedTies
import Derived.KernelRfl
namespace Go.Proofs.Ytcoceoplnehmcaa
/- THE CELL 'sum', in the pinned program and in every row, IS THE sha256 OF THE DUMP (.gsa) THAT YtcoceoplnehmcaaProg.lean LOADS. Nothing in Lean hashes anything: it is a label: what it is worth is what the hold of that sum in a sandbox is worth. -/
noncomputable def Try.pinned : Pinned := { name := "ytcoceoplnehmcaa", sum := "95a3fd8db8c053ea07068ef1ad44385256e371177e02d260f0042a28669e5008", checked := Try.checked }
namespace Rows
def none {H : Type} : Left H := { results := [], args := [] }

/-- 'laws.FnExactGoodMap': WHATEVER THE INPUT: true; the input reads as it did. -/
def fnExactGoodMapSpec : ChangeSpec := { name := "fnExactGoodMap", fn := fun _ => fun
  | [d] => { results := [.lit (.bool true)], args := [d] }
  | _ => none }
def fnExactGoodMapRow : OpenClaim := { program := "ytcoceoplnehmcaa", sum := "95a3fd8db8c053ea07068ef1ad44385256e371177e02d260f0042a28669e5008", func := "loop.example/g00541/laws.FnExactGoodMap", spec := "fnExactGoodMap", apart := false }
def FnExactGoodMapSaid : Prop := fnExactGoodMapRow.holds Try.pinned (OpenSpec.ofChange fnExactGoodMapSpec)

/-- ITS FALSE NEIGHBOUR: 'it returns false'. Refute it at one input. -/
def fnExactGoodMapWrong : ChangeSpec := { name := "fnExactGoodMap", fn := fun _ => fun
  | [d] => { results := [.lit (.bool false)], args := [d] }
  | _ => none }
def FnExactGoodMapWrongFalsely : Prop := fnExactGoodMapRow.holds Try.pinned (OpenSpec.ofChange fnExactGoodMapWrong)

/-- 'laws.FnExactMapOf': WHATEVER THE INPUT: true; the input reads as it did. -/
def fnExactMapOfSpec : ChangeSpec := { name := "fnExactMapOf", fn := fun _ => fun
  | [d] => { results := [.lit (.bool true)], args := [d] }
  | _ => none }
def fnExactMapOfRow : OpenClaim := { program := "ytcoceoplnehmcaa", sum := "95a3fd8db8c053ea07068ef1ad44385256e371177e02d260f0042a28669e5008", func := "loop.example/g00541/laws.FnExactMapOf", spec := "fnExactMapOf", unfollowed := true, recurses := true, apart := false }
def FnExactMapOfSaid : Prop := fnExactMapOfRow.holds Try.pinned (OpenSpec.ofChange fnExactMapOfSpec)

/-- ITS FALSE NEIGHBOUR: 'it returns false'. Refute it at one input. -/
def fnExactMapOfWrong : ChangeSpec := { name := "fnExactMapOf", fn := fun _ => fun
  | [d] => { results := [.lit (.bool false)], args := [d] }
  | _ => none }
def FnExactMapOfWrongFalsely : Prop := fnExactMapOfRow.holds Try.pinned (OpenSpec.ofChange fnExactMapOfWrong)

/-- 'laws.FnExactPlaceOf': WHATEVER THE INPUT: true; the input reads as it did. -/
def fnExactPlaceOfSpec : ChangeSpec := { name := "fnExactPlaceOf", fn := fun _ => fun
  | [d1, d2] => { results := [.lit (.bool true)], args := [d1, d2] }
  | _ => none }
def fnExactPlaceOfRow : OpenClaim := { program := "ytcoceoplnehmcaa", sum := "95a3fd8db8c053ea07068ef1ad44385256e371177e02d260f0042a28669e5008", func := "loop.example/g00541/laws.FnExactPlaceOf", spec := "fnExactPlaceOf", apart := false }
def FnExactPlaceOfSaid : Prop := fnExactPlaceOfRow.holds Try.pinned (OpenSpec.ofChange fnExactPlaceOfSpec)

/-- ITS FALSE NEIGHBOUR: 'it returns false'. Refute it at one input. -/
def fnExactPlaceOfWrong : ChangeSpec := { name := "fnExactPlaceOf", fn := fun _ => fun
  | [d1, d2] => { results := [.lit (.bool false)], args := [d1, d2] }
  | _ => none }
def FnExactPlaceOfWrongFalsely : Prop := fnExactPlaceOfRow.holds Try.pinned (OpenSpec.ofChange fnExactPlaceOfWrong)

/-- 'laws.FnExactPlacesOf': WHATEVER THE INPUT: true; the input reads as it did. -/
def fnExactPlacesOfSpec : ChangeSpec := { name := "fnExactPlacesOf", fn := fun _ => fun
  | [d] => { results := [.lit (.bool true)], args := [d] }
  | _ => none }
def fnExactPlacesOfRow : OpenClaim := { program := "ytcoceoplnehmcaa", sum := "95a3fd8db8c053ea07068ef1ad44385256e371177e02d260f0042a28669e5008", func := "loop.example/g00541/laws.FnExactPlacesOf", spec := "fnExactPlacesOf", apart := false }
def FnExactPlacesOfSaid : Prop := fnExactPlacesOfRow.holds Try.pinned (OpenSpec.ofChange fnExactPlacesOfSpec)

/-- ITS FALSE NEIGHBOUR: 'it returns false'. Refute it at one input. -/
def fnExactPlacesOfWrong : ChangeSpec := { name := "fnExactPlacesOf", fn := fun _ => fun
  | [d] => { results := [.lit (.bool false)], args := [d] }
  | _ => none }
def FnExactPlacesOfWrongFalsely : Prop := fnExactPlacesOfRow.holds Try.pinned (OpenSpec.ofChange fnExactPlacesOfWrong)

/-- 'laws.FnExactUnlikeMaps': WHATEVER THE INPUT: true; the input reads as it did. -/
def fnExactUnlikeMapsSpec : ChangeSpec := { name := "fnExactUnlikeMaps", fn := fun _ => fun
  | [d1, d2] => { results := [.lit (.bool true)], args := [d1, d2] }
  | _ => none }
def fnExactUnlikeMapsRow : OpenClaim := { program := "ytcoceoplnehmcaa", sum := "95a3fd8db8c053ea07068ef1ad44385256e371177e02d260f0042a28669e5008", func := "loop.example/g00541/laws.FnExactUnlikeMaps", spec := "fnExactUnlikeMaps", apart := false }
def FnExactUnlikeMapsSaid : Prop := fnExactUnlikeMapsRow.holds Try.pinned (OpenSpec.ofChange fnExactUnlikeMapsSpec)

/-- ITS FALSE NEIGHBOUR: 'it returns false'. Refute it at one input. -/
def fnExactUnlikeMapsWrong : ChangeSpec := { name := "fnExactUnlikeMaps", fn := fun _ => fun
  | [d1, d2] => { results := [.lit (.bool false)], args := [d1, d2] }
  | _ => none }
def FnExactUnlikeMapsWrongFalsely : Prop := fnExactUnlikeMapsRow.holds Try.pinned (OpenSpec.ofChange fnExactUnlikeMapsWrong)

/-- 'laws.FnExactPutStretch': WHATEVER THE INPUT: true; the input reads as it did. -/
def fnExactPutStretchSpec : ChangeSpec := { name := "fnExactPutStretch", fn := fun _ => fun
  | [d1, d2] => { results := [.lit (.bool true)], args := [d1, d2] }
  | _ => none }
def fnExactPutStretchRow : OpenClaim := { program := "ytcoceoplnehmcaa", sum := "95a3fd8db8c053ea07068ef1ad44385256e371177e02d260f0042a28669e5008", func := "loop.example/g00541/laws.FnExactPutStretch", spec := "fnExactPutStretch", apart := false }
def FnExactPutStretchSaid : Prop := fnExactPutStretchRow.holds Try.pinned (OpenSpec.ofChange fnExactPutStretchSpec)

/-- ITS FALSE NEIGHBOUR: 'it returns false'. Refute it at one input. -/
def fnExactPutStretchWrong : ChangeSpec := { name := "fnExactPutStretch", fn := fun _ => fun
  | [d1, d2] => { results := [.lit (.bool false)], args := [d1, d2] }
  | _ => none }
def FnExactPutStretchWrongFalsely : Prop := fnExactPutStretchRow.holds Try.pinned (OpenSpec.ofChange fnExactPutStretchWrong)

/-- 'laws.FnExactTrimMap': WHATEVER THE INPUT: true; the input reads as it did. -/
def fnExactTrimMapSpec : ChangeSpec := { name := "fnExactTrimMap", fn := fun _ => fun
  | [d1, d2, d3] => { results := [.lit (.bool true)], args := [d1, d2, d3] }
  | _ => none }
def fnExactTrimMapRow : OpenClaim := { program := "ytcoceoplnehmcaa", sum := "95a3fd8db8c053ea07068ef1ad44385256e371177e02d260f0042a28669e5008", func := "loop.example/g00541/laws.FnExactTrimMap", spec := "fnExactTrimMap", apart := false }
def FnExactTrimMapSaid : Prop := fnExactTrimMapRow.holds Try.pinned (OpenSpec.ofChange fnExactTrimMapSpec)

/-- ITS FALSE NEIGHBOUR: 'it returns false'. Refute it at one input. -/
def fnExactTrimMapWrong : ChangeSpec := { name := "fnExactTrimMap", fn := fun _ => fun
  | [d1, d2, d3] => { results := [.lit (.bool false)], args := [d1, d2, d3] }
  | _ => none }
def FnExactTrimMapWrongFalsely : Prop := fnExactTrimMapRow.holds Try.pinned (OpenSpec.ofChange fnExactTrimMapWrong)

/-- 'laws.FnExactShiftMap': WHATEVER THE INPUT: true; the input reads as it did. -/
def fnExactShiftMapSpec : ChangeSpec := { name := "fnExactShiftMap", fn := fun _ => fun
  | [d1, d2, d3, d4] => { results := [.lit (.bool true)], args := [d1, d2, d3, d4] }
  | _ => none }
def fnExactShiftMapRow : OpenClaim := { program := "ytcoceoplnehmcaa", sum := "95a3fd8db8c053ea07068ef1ad44385256e371177e02d260f0042a28669e5008", func := "loop.example/g00541/laws.FnExactShiftMap", spec := "fnExactShiftMap", apart := false }
def FnExactShiftMapSaid : Prop := fnExactShiftMapRow.holds Try.pinned (OpenSpec.ofChange fnExactShiftMapSpec)

/-- ITS FALSE NEIGHBOUR: 'it returns false'. Refute it at one input. -/
def fnExactShiftMapWrong : ChangeSpec := { name := "fnExactShiftMap", fn := fun _ => fun
  | [d1, d2, d3, d4] => { results := [.lit (.bool false)], args := [d1, d2, d3, d4] }
  | _ => none }
def FnExactShiftMapWrongFalsely : Prop := fnExactShiftMapRow.holds Try.pinned (OpenSpec.ofChange fnExactShiftMapWrong)

/-- 'laws.FnStretches': WHATEVER THE INPUT: true; the input reads as it did. -/
def fnStretchesSpec : ChangeSpec := { name := "fnStretches", fn := fun _ => fun
  | [d1, d2] => { results := [.lit (.bool true)], args := [d1, d2] }
  | _ => none }
def fnStretchesRow : OpenClaim := { program := "ytcoceoplnehmcaa", sum := "95a3fd8db8c053ea07068ef1ad44385256e371177e02d260f0042a28669e5008", func := "loop.example/g00541/laws.FnStretches", spec := "fnStretches", unfollowed := true, recurses := true, apart := false }
def FnStretchesSaid : Prop := fnStretchesRow.holds Try.pinned (OpenSpec.ofChange fnStretchesSpec)

/-- ITS FALSE NEIGHBOUR: 'it returns false'. Refute it at one input. -/
def fnStretchesWrong : ChangeSpec := { name := "fnStretches", fn := fun _ => fun
  | [d1, d2] => { results := [.lit (.bool false)], args := [d1, d2] }
  | _ => none }
def FnStretchesWrongFalsely : Prop := fnStretchesRow.holds Try.pinned (OpenSpec.ofChange fnStretchesWrong)

/- THE SECOND FORM. 'bulk': how many values and letters a reading holds, each counted each time it is reached (what is shared counts as often as it is met; a slice's spare places count too). A statement '..UptoSaid' is the law's where the arguments, and the package variables that the reading takes, are together of bulk at most 1048576: NARROWER than '..Said'. Prove '..Said' where nothing that the law and all that it calls make is longer than what came in: it says more and counts as full. Else prove '..UptoSaid'. A law counts once. -/
mutual
def uptoBulk {H : Type} : DataW H → Nat
  | .lit (.string bytes) => bytes.length + 1
  | .lit _ => 1
  | .nil => 1
  | .ptr d => uptoBulk d + 1
  | .slice elems spare => uptoBulkAll elems + uptoBulkAll spare + 1
  | .agg parts => uptoBulkAll parts + 1
  | .iface _ d => uptoBulk d + 1
  | .map entries => uptoBulkEntries entries + 1
  | .held _ => 1
def uptoBulkAll {H : Type} : List (DataW H) → Nat
  | [] => 0
  | d :: r => uptoBulk d + uptoBulkAll r
def uptoBulkEntries {H : Type} : List (Lit × DataW H) → Nat
  | [] => 0
  | x :: r => uptoBulkEntry x + uptoBulkEntries r
def uptoBulkEntry {H : Type} : Lit × DataW H → Nat
  | (.string bytes, d) => bytes.length + uptoBulk d + 1
  | (_, d) => uptoBulk d + 1
 end
def uptoSmall : (H : Type) → List (DataW H) → Bool := fun _ ds => decide (uptoBulkAll ds ≤ 1048576)
def OpenSpec.upto (s : _root_.Go.ChangeSpec) : _root_.Go.OpenSpec := { _root_.Go.OpenSpec.ofChange s with cond := some uptoSmall }

/-- 'laws.FnExactGoodMap', WHERE WHAT IT READS IS OF BULK AT MOST 1048576: true; the input reads as it did. -/
def fnExactGoodMapUptoRow : OpenClaim := { program := "ytcoceoplnehmcaa", sum := "95a3fd8db8c053ea07068ef1ad44385256e371177e02d260f0042a28669e5008", func := "loop.example/g00541/laws.FnExactGoodMap", spec := "fnExactGoodMap", apart := false, narrowed := true }
def FnExactGoodMapUptoSaid : Prop := fnExactGoodMapUptoRow.holds Try.pinned (OpenSpec.upto fnExactGoodMapSpec)

/-- 'laws.FnExactMapOf', WHERE WHAT IT READS IS OF BULK AT MOST 1048576: true; the input reads as it did. -/
def fnExactMapOfUptoRow : OpenClaim := { program := "ytcoceoplnehmcaa", sum := "95a3fd8db8c053ea07068ef1ad44385256e371177e02d260f0042a28669e5008", func := "loop.example/g00541/laws.FnExactMapOf", spec := "fnExactMapOf", unfollowed := true, recurses := true, apart := false, narrowed := true }
def FnExactMapOfUptoSaid : Prop := fnExactMapOfUptoRow.holds Try.pinned (OpenSpec.upto fnExactMapOfSpec)

/-- 'laws.FnExactPlaceOf', WHERE WHAT IT READS IS OF BULK AT MOST 1048576: true; the input reads as it did. -/
def fnExactPlaceOfUptoRow : OpenClaim := { program := "ytcoceoplnehmcaa", sum := "95a3fd8db8c053ea07068ef1ad44385256e371177e02d260f0042a28669e5008", func := "loop.example/g00541/laws.FnExactPlaceOf", spec := "fnExactPlaceOf", apart := false, narrowed := true }
def FnExactPlaceOfUptoSaid : Prop := fnExactPlaceOfUptoRow.holds Try.pinned (OpenSpec.upto fnExactPlaceOfSpec)

/-- 'laws.FnExactPlacesOf', WHERE WHAT IT READS IS OF BULK AT MOST 1048576: true; the input reads as it did. -/
def fnExactPlacesOfUptoRow : OpenClaim := { program := "ytcoceoplnehmcaa", sum := "95a3fd8db8c053ea07068ef1ad44385256e371177e02d260f0042a28669e5008", func := "loop.example/g00541/laws.FnExactPlacesOf", spec := "fnExactPlacesOf", apart := false, narrowed := true }
def FnExactPlacesOfUptoSaid : Prop := fnExactPlacesOfUptoRow.holds Try.pinned (OpenSpec.upto fnExactPlacesOfSpec)

/-- 'laws.FnExactUnlikeMaps', WHERE WHAT IT READS IS OF BULK AT MOST 1048576: true; the input reads as it did. -/
def fnExactUnlikeMapsUptoRow : OpenClaim := { program := "ytcoceoplnehmcaa", sum := "95a3fd8db8c053ea07068ef1ad44385256e371177e02d260f0042a28669e5008", func := "loop.example/g00541/laws.FnExactUnlikeMaps", spec := "fnExactUnlikeMaps", apart := false, narrowed := true }
def FnExactUnlikeMapsUptoSaid : Prop := fnExactUnlikeMapsUptoRow.holds Try.pinned (OpenSpec.upto fnExactUnlikeMapsSpec)

/-- 'laws.FnExactPutStretch', WHERE WHAT IT READS IS OF BULK AT MOST 1048576: true; the input reads as it did. -/
def fnExactPutStretchUptoRow : OpenClaim := { program := "ytcoceoplnehmcaa", sum := "95a3fd8db8c053ea07068ef1ad44385256e371177e02d260f0042a28669e5008", func := "loop.example/g00541/laws.FnExactPutStretch", spec := "fnExactPutStretch", apart := false, narrowed := true }
def FnExactPutStretchUptoSaid : Prop := fnExactPutStretchUptoRow.holds Try.pinned (OpenSpec.upto fnExactPutStretchSpec)

/-- 'laws.FnExactTrimMap', WHERE WHAT IT READS IS OF BULK AT MOST 1048576: true; the input reads as it did. -/
def fnExactTrimMapUptoRow : OpenClaim := { program := "ytcoceoplnehmcaa", sum := "95a3fd8db8c053ea07068ef1ad44385256e371177e02d260f0042a28669e5008", func := "loop.example/g00541/laws.FnExactTrimMap", spec := "fnExactTrimMap", apart := false, narrowed := true }
def FnExactTrimMapUptoSaid : Prop := fnExactTrimMapUptoRow.holds Try.pinned (OpenSpec.upto fnExactTrimMapSpec)

/-- 'laws.FnExactShiftMap', WHERE WHAT IT READS IS OF BULK AT MOST 1048576: true; the input reads as it did. -/
def fnExactShiftMapUptoRow : OpenClaim := { program := "ytcoceoplnehmcaa", sum := "95a3fd8db8c053ea07068ef1ad44385256e371177e02d260f0042a28669e5008", func := "loop.example/g00541/laws.FnExactShiftMap", spec := "fnExactShiftMap", apart := false, narrowed := true }
def FnExactShiftMapUptoSaid : Prop := fnExactShiftMapUptoRow.holds Try.pinned (OpenSpec.upto fnExactShiftMapSpec)

/-- 'laws.FnStretches', WHERE WHAT IT READS IS OF BULK AT MOST 1048576: true; the input reads as it did. -/
def fnStretchesUptoRow : OpenClaim := { program := "ytcoceoplnehmcaa", sum := "95a3fd8db8c053ea07068ef1ad44385256e371177e02d260f0042a28669e5008", func := "loop.example/g00541/laws.FnStretches", spec := "fnStretches", unfollowed := true, recurses := true, apart := false, narrowed := true }
def FnStretchesUptoSaid : Prop := fnStretchesUptoRow.holds Try.pinned (OpenSpec.upto fnStretchesSpec)

end Rows
end Go.Proofs.Ytcoceoplnehmcaa

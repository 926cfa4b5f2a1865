/-
  No cell of these rows narrows 'for every input' (looked for: loops, veiled, ifaces, maps, wideKeys, modest, calm, conditions, laid).
  DERIVED. THE GIVEN ROWS OF THIS SEAT. 13 by the template 'for every input the law returns true; each argument reads behind the call as it read before'; 0 by the template 'total and deterministic' (their statements: YtafkbhkikdndnaaTotals.lean).
  GIVEN WITH THE SEED: the statements are not yours to turn. If you find one false, say at which input.
  Laid BY PROGRAM, IN A SANDBOX (cutbox-rows.mjs): the forced cells as the released guide's own fill.sh prints them over the translation cae0abd6a0eacf4e… (all of the seat's roots in one cut). By AI agents, Wed Nov 11 2026. No macro, syntax, notation, axiom, sorry.
-/
import Derived.Test.YtafkbhkikdndnaaChecked
import GoSem.Claim
import GoSem.ClaimJoined
import GoSem.ClaimMapViews
import Derived.JoinedTies
import Derived.KernelRfl
namespace Go.Proofs.Ytafkbhkikdndnaa
/- THE CELL 'sum', in the pinned program and in every row, IS THE sha256 OF THE DUMP (.gsa) THAT YtafkbhkikdndnaaProg.lean LOADS. Nothing in Lean hashes anything: it is a label: what it is worth is what the hold of that sum in a sandbox is worth. -/
noncomputable def Try.pinned : Pinned := { name := "ytafkbhkikdndnaa", sum := "cae0abd6a0eacf4eece12b0e96169a82d6f237d0c3d286eceb7ec43d05ae92b1", checked := Try.checked }
namespace Rows
def none {H : Type} : Left H := { results := [], args := [] }

/-- 'laws.FnExactGoodHeap': WHATEVER THE INPUT: true; the input reads as it did. -/
def fnExactGoodHeapSpec : ChangeSpec := { name := "fnExactGoodHeap", fn := fun _ => fun
  | [d] => { results := [.lit (.bool true)], args := [d] }
  | _ => none }
def fnExactGoodHeapRow : OpenClaim := { program := "ytafkbhkikdndnaa", sum := "cae0abd6a0eacf4eece12b0e96169a82d6f237d0c3d286eceb7ec43d05ae92b1", func := "loop.example/g00541/laws.FnExactGoodHeap", spec := "fnExactGoodHeap", unfollowed := true, recurses := true, apart := false }
def FnExactGoodHeapSaid : Prop := fnExactGoodHeapRow.holds Try.pinned (OpenSpec.ofChange fnExactGoodHeapSpec)

/-- ITS FALSE NEIGHBOUR: 'it returns false'. Refute it at one input. -/
def fnExactGoodHeapWrong : ChangeSpec := { name := "fnExactGoodHeap", fn := fun _ => fun
  | [d] => { results := [.lit (.bool false)], args := [d] }
  | _ => none }
def FnExactGoodHeapWrongFalsely : Prop := fnExactGoodHeapRow.holds Try.pinned (OpenSpec.ofChange fnExactGoodHeapWrong)

/-- 'laws.FnExactFreeSegs': WHATEVER THE INPUT: true; the input reads as it did. -/
def fnExactFreeSegsSpec : ChangeSpec := { name := "fnExactFreeSegs", fn := fun _ => fun
  | [d] => { results := [.lit (.bool true)], args := [d] }
  | _ => none }
def fnExactFreeSegsRow : OpenClaim := { program := "ytafkbhkikdndnaa", sum := "cae0abd6a0eacf4eece12b0e96169a82d6f237d0c3d286eceb7ec43d05ae92b1", func := "loop.example/g00541/laws.FnExactFreeSegs", spec := "fnExactFreeSegs", unfollowed := true, recurses := true, apart := false }
def FnExactFreeSegsSaid : Prop := fnExactFreeSegsRow.holds Try.pinned (OpenSpec.ofChange fnExactFreeSegsSpec)

/-- ITS FALSE NEIGHBOUR: 'it returns false'. Refute it at one input. -/
def fnExactFreeSegsWrong : ChangeSpec := { name := "fnExactFreeSegs", fn := fun _ => fun
  | [d] => { results := [.lit (.bool false)], args := [d] }
  | _ => none }
def FnExactFreeSegsWrongFalsely : Prop := fnExactFreeSegsRow.holds Try.pinned (OpenSpec.ofChange fnExactFreeSegsWrong)

/-- 'laws.FnExactLiveIn': WHATEVER THE INPUT: true; the input reads as it did. -/
def fnExactLiveInSpec : ChangeSpec := { name := "fnExactLiveIn", fn := fun _ => fun
  | [d1, d2] => { results := [.lit (.bool true)], args := [d1, d2] }
  | _ => none }
def fnExactLiveInRow : OpenClaim := { program := "ytafkbhkikdndnaa", sum := "cae0abd6a0eacf4eece12b0e96169a82d6f237d0c3d286eceb7ec43d05ae92b1", func := "loop.example/g00541/laws.FnExactLiveIn", spec := "fnExactLiveIn", unfollowed := true, recurses := true, apart := false }
def FnExactLiveInSaid : Prop := fnExactLiveInRow.holds Try.pinned (OpenSpec.ofChange fnExactLiveInSpec)

/-- ITS FALSE NEIGHBOUR: 'it returns false'. Refute it at one input. -/
def fnExactLiveInWrong : ChangeSpec := { name := "fnExactLiveIn", fn := fun _ => fun
  | [d1, d2] => { results := [.lit (.bool false)], args := [d1, d2] }
  | _ => none }
def FnExactLiveInWrongFalsely : Prop := fnExactLiveInRow.holds Try.pinned (OpenSpec.ofChange fnExactLiveInWrong)

/-- 'laws.FnExactWhereIs': WHATEVER THE INPUT: true; the input reads as it did. -/
def fnExactWhereIsSpec : ChangeSpec := { name := "fnExactWhereIs", fn := fun _ => fun
  | [d1, d2] => { results := [.lit (.bool true)], args := [d1, d2] }
  | _ => none }
def fnExactWhereIsRow : OpenClaim := { program := "ytafkbhkikdndnaa", sum := "cae0abd6a0eacf4eece12b0e96169a82d6f237d0c3d286eceb7ec43d05ae92b1", func := "loop.example/g00541/laws.FnExactWhereIs", spec := "fnExactWhereIs", unfollowed := true, recurses := true, apart := false }
def FnExactWhereIsSaid : Prop := fnExactWhereIsRow.holds Try.pinned (OpenSpec.ofChange fnExactWhereIsSpec)

/-- ITS FALSE NEIGHBOUR: 'it returns false'. Refute it at one input. -/
def fnExactWhereIsWrong : ChangeSpec := { name := "fnExactWhereIs", fn := fun _ => fun
  | [d1, d2] => { results := [.lit (.bool false)], args := [d1, d2] }
  | _ => none }
def FnExactWhereIsWrongFalsely : Prop := fnExactWhereIsRow.holds Try.pinned (OpenSpec.ofChange fnExactWhereIsWrong)

/-- 'laws.FnExactPickSeg': WHATEVER THE INPUT: true; the input reads as it did. -/
def fnExactPickSegSpec : ChangeSpec := { name := "fnExactPickSeg", fn := fun _ => fun
  | [d1, d2] => { results := [.lit (.bool true)], args := [d1, d2] }
  | _ => none }
def fnExactPickSegRow : OpenClaim := { program := "ytafkbhkikdndnaa", sum := "cae0abd6a0eacf4eece12b0e96169a82d6f237d0c3d286eceb7ec43d05ae92b1", func := "loop.example/g00541/laws.FnExactPickSeg", spec := "fnExactPickSeg", unfollowed := true, recurses := true, apart := false }
def FnExactPickSegSaid : Prop := fnExactPickSegRow.holds Try.pinned (OpenSpec.ofChange fnExactPickSegSpec)

/-- ITS FALSE NEIGHBOUR: 'it returns false'. Refute it at one input. -/
def fnExactPickSegWrong : ChangeSpec := { name := "fnExactPickSeg", fn := fun _ => fun
  | [d1, d2] => { results := [.lit (.bool false)], args := [d1, d2] }
  | _ => none }
def FnExactPickSegWrongFalsely : Prop := fnExactPickSegRow.holds Try.pinned (OpenSpec.ofChange fnExactPickSegWrong)

/-- 'laws.FnExactAllBlocks': WHATEVER THE INPUT: true; the input reads as it did. -/
def fnExactAllBlocksSpec : ChangeSpec := { name := "fnExactAllBlocks", fn := fun _ => fun
  | [d] => { results := [.lit (.bool true)], args := [d] }
  | _ => none }
def fnExactAllBlocksRow : OpenClaim := { program := "ytafkbhkikdndnaa", sum := "cae0abd6a0eacf4eece12b0e96169a82d6f237d0c3d286eceb7ec43d05ae92b1", func := "loop.example/g00541/laws.FnExactAllBlocks", spec := "fnExactAllBlocks", unfollowed := true, recurses := true, apart := false }
def FnExactAllBlocksSaid : Prop := fnExactAllBlocksRow.holds Try.pinned (OpenSpec.ofChange fnExactAllBlocksSpec)

/-- ITS FALSE NEIGHBOUR: 'it returns false'. Refute it at one input. -/
def fnExactAllBlocksWrong : ChangeSpec := { name := "fnExactAllBlocks", fn := fun _ => fun
  | [d] => { results := [.lit (.bool false)], args := [d] }
  | _ => none }
def FnExactAllBlocksWrongFalsely : Prop := fnExactAllBlocksRow.holds Try.pinned (OpenSpec.ofChange fnExactAllBlocksWrong)

/-- 'laws.FnExactNewVolume': WHATEVER THE INPUT: true; the input reads as it did. -/
def fnExactNewVolumeSpec : ChangeSpec := { name := "fnExactNewVolume", fn := fun _ => fun
  | [] => { results := [.lit (.bool true)], args := [] }
  | _ => none }
def fnExactNewVolumeRow : OpenClaim := { program := "ytafkbhkikdndnaa", sum := "cae0abd6a0eacf4eece12b0e96169a82d6f237d0c3d286eceb7ec43d05ae92b1", func := "loop.example/g00541/laws.FnExactNewVolume", spec := "fnExactNewVolume", apart := false }
def FnExactNewVolumeSaid : Prop := fnExactNewVolumeRow.holds Try.pinned (OpenSpec.ofChange fnExactNewVolumeSpec)

/-- ITS FALSE NEIGHBOUR: 'it returns false'. Refute it at one input. -/
def fnExactNewVolumeWrong : ChangeSpec := { name := "fnExactNewVolume", fn := fun _ => fun
  | [] => { results := [.lit (.bool false)], args := [] }
  | _ => none }
def FnExactNewVolumeWrongFalsely : Prop := fnExactNewVolumeRow.holds Try.pinned (OpenSpec.ofChange fnExactNewVolumeWrong)

/-- 'laws.FnExactGoodVolume': WHATEVER THE INPUT: true; the input reads as it did. -/
def fnExactGoodVolumeSpec : ChangeSpec := { name := "fnExactGoodVolume", fn := fun _ => fun
  | [d] => { results := [.lit (.bool true)], args := [d] }
  | _ => none }
def fnExactGoodVolumeRow : OpenClaim := { program := "ytafkbhkikdndnaa", sum := "cae0abd6a0eacf4eece12b0e96169a82d6f237d0c3d286eceb7ec43d05ae92b1", func := "loop.example/g00541/laws.FnExactGoodVolume", spec := "fnExactGoodVolume", unfollowed := true, recurses := true, apart := false }
def FnExactGoodVolumeSaid : Prop := fnExactGoodVolumeRow.holds Try.pinned (OpenSpec.ofChange fnExactGoodVolumeSpec)

/-- ITS FALSE NEIGHBOUR: 'it returns false'. Refute it at one input. -/
def fnExactGoodVolumeWrong : ChangeSpec := { name := "fnExactGoodVolume", fn := fun _ => fun
  | [d] => { results := [.lit (.bool false)], args := [d] }
  | _ => none }
def FnExactGoodVolumeWrongFalsely : Prop := fnExactGoodVolumeRow.holds Try.pinned (OpenSpec.ofChange fnExactGoodVolumeWrong)

/-- 'laws.FnExactMarkOf': WHATEVER THE INPUT: true; the input reads as it did. -/
def fnExactMarkOfSpec : ChangeSpec := { name := "fnExactMarkOf", fn := fun _ => fun
  | [d] => { results := [.lit (.bool true)], args := [d] }
  | _ => none }
def fnExactMarkOfRow : OpenClaim := { program := "ytafkbhkikdndnaa", sum := "cae0abd6a0eacf4eece12b0e96169a82d6f237d0c3d286eceb7ec43d05ae92b1", func := "loop.example/g00541/laws.FnExactMarkOf", spec := "fnExactMarkOf", unfollowed := true, recurses := true, apart := false }
def FnExactMarkOfSaid : Prop := fnExactMarkOfRow.holds Try.pinned (OpenSpec.ofChange fnExactMarkOfSpec)

/-- ITS FALSE NEIGHBOUR: 'it returns false'. Refute it at one input. -/
def fnExactMarkOfWrong : ChangeSpec := { name := "fnExactMarkOf", fn := fun _ => fun
  | [d] => { results := [.lit (.bool false)], args := [d] }
  | _ => none }
def FnExactMarkOfWrongFalsely : Prop := fnExactMarkOfRow.holds Try.pinned (OpenSpec.ofChange fnExactMarkOfWrong)

/-- 'laws.FnExactNewWindow': WHATEVER THE INPUT: true; the input reads as it did. -/
def fnExactNewWindowSpec : ChangeSpec := { name := "fnExactNewWindow", fn := fun _ => fun
  | [d1, d2] => { results := [.lit (.bool true)], args := [d1, d2] }
  | _ => none }
def fnExactNewWindowRow : OpenClaim := { program := "ytafkbhkikdndnaa", sum := "cae0abd6a0eacf4eece12b0e96169a82d6f237d0c3d286eceb7ec43d05ae92b1", func := "loop.example/g00541/laws.FnExactNewWindow", spec := "fnExactNewWindow", unfollowed := true, recurses := true, apart := false }
def FnExactNewWindowSaid : Prop := fnExactNewWindowRow.holds Try.pinned (OpenSpec.ofChange fnExactNewWindowSpec)

/-- ITS FALSE NEIGHBOUR: 'it returns false'. Refute it at one input. -/
def fnExactNewWindowWrong : ChangeSpec := { name := "fnExactNewWindow", fn := fun _ => fun
  | [d1, d2] => { results := [.lit (.bool false)], args := [d1, d2] }
  | _ => none }
def FnExactNewWindowWrongFalsely : Prop := fnExactNewWindowRow.holds Try.pinned (OpenSpec.ofChange fnExactNewWindowWrong)

/-- 'laws.FnExactGoodWindow': WHATEVER THE INPUT: true; the input reads as it did. -/
def fnExactGoodWindowSpec : ChangeSpec := { name := "fnExactGoodWindow", fn := fun _ => fun
  | [d] => { results := [.lit (.bool true)], args := [d] }
  | _ => none }
def fnExactGoodWindowRow : OpenClaim := { program := "ytafkbhkikdndnaa", sum := "cae0abd6a0eacf4eece12b0e96169a82d6f237d0c3d286eceb7ec43d05ae92b1", func := "loop.example/g00541/laws.FnExactGoodWindow", spec := "fnExactGoodWindow", unfollowed := true, recurses := true, apart := false }
def FnExactGoodWindowSaid : Prop := fnExactGoodWindowRow.holds Try.pinned (OpenSpec.ofChange fnExactGoodWindowSpec)

/-- ITS FALSE NEIGHBOUR: 'it returns false'. Refute it at one input. -/
def fnExactGoodWindowWrong : ChangeSpec := { name := "fnExactGoodWindow", fn := fun _ => fun
  | [d] => { results := [.lit (.bool false)], args := [d] }
  | _ => none }
def FnExactGoodWindowWrongFalsely : Prop := fnExactGoodWindowRow.holds Try.pinned (OpenSpec.ofChange fnExactGoodWindowWrong)

/-- 'laws.FnExactFirstOpen': WHATEVER THE INPUT: true; the input reads as it did. -/
def fnExactFirstOpenSpec : ChangeSpec := { name := "fnExactFirstOpen", fn := fun _ => fun
  | [d] => { results := [.lit (.bool true)], args := [d] }
  | _ => none }
def fnExactFirstOpenRow : OpenClaim := { program := "ytafkbhkikdndnaa", sum := "cae0abd6a0eacf4eece12b0e96169a82d6f237d0c3d286eceb7ec43d05ae92b1", func := "loop.example/g00541/laws.FnExactFirstOpen", spec := "fnExactFirstOpen", unfollowed := true, recurses := true, apart := false }
def FnExactFirstOpenSaid : Prop := fnExactFirstOpenRow.holds Try.pinned (OpenSpec.ofChange fnExactFirstOpenSpec)

/-- ITS FALSE NEIGHBOUR: 'it returns false'. Refute it at one input. -/
def fnExactFirstOpenWrong : ChangeSpec := { name := "fnExactFirstOpen", fn := fun _ => fun
  | [d] => { results := [.lit (.bool false)], args := [d] }
  | _ => none }
def FnExactFirstOpenWrongFalsely : Prop := fnExactFirstOpenRow.holds Try.pinned (OpenSpec.ofChange fnExactFirstOpenWrong)

/-- 'laws.FnExactToldOf': WHATEVER THE INPUT: true; the input reads as it did. -/
def fnExactToldOfSpec : ChangeSpec := { name := "fnExactToldOf", fn := fun _ => fun
  | [d] => { results := [.lit (.bool true)], args := [d] }
  | _ => none }
def fnExactToldOfRow : OpenClaim := { program := "ytafkbhkikdndnaa", sum := "cae0abd6a0eacf4eece12b0e96169a82d6f237d0c3d286eceb7ec43d05ae92b1", func := "loop.example/g00541/laws.FnExactToldOf", spec := "fnExactToldOf", unfollowed := true, recurses := true, apart := false }
def FnExactToldOfSaid : Prop := fnExactToldOfRow.holds Try.pinned (OpenSpec.ofChange fnExactToldOfSpec)

/-- ITS FALSE NEIGHBOUR: 'it returns false'. Refute it at one input. -/
def fnExactToldOfWrong : ChangeSpec := { name := "fnExactToldOf", fn := fun _ => fun
  | [d] => { results := [.lit (.bool false)], args := [d] }
  | _ => none }
def FnExactToldOfWrongFalsely : Prop := fnExactToldOfRow.holds Try.pinned (OpenSpec.ofChange fnExactToldOfWrong)

/- THE SECOND FORM. 'bulk': how many values and letters a reading holds, each counted each time it is reached (what is shared counts as often as it is met; a slice's spare places count too). A statement '..UptoSaid' is the law's where the arguments, and the package variables that the reading takes, are together of bulk at most 1048576: NARROWER than '..Said'. Prove '..Said' where nothing that the law and all that it calls make is longer than what came in: it says more and counts as full. Else prove '..UptoSaid'. A law counts once. -/
mutual
def uptoBulk {H : Type} : DataW H → Nat
  | .lit (.string bytes) => bytes.length + 1
  | .lit _ => 1
  | .nil => 1
  | .ptr d => uptoBulk d + 1
  | .slice elems spare => uptoBulkAll elems + uptoBulkAll spare + 1
  | .agg parts => uptoBulkAll parts + 1
  | .iface _ d => uptoBulk d + 1
  | .map entries => uptoBulkEntries entries + 1
  | .held _ => 1
def uptoBulkAll {H : Type} : List (DataW H) → Nat
  | [] => 0
  | d :: r => uptoBulk d + uptoBulkAll r
def uptoBulkEntries {H : Type} : List (Lit × DataW H) → Nat
  | [] => 0
  | x :: r => uptoBulkEntry x + uptoBulkEntries r
def uptoBulkEntry {H : Type} : Lit × DataW H → Nat
  | (.string bytes, d) => bytes.length + uptoBulk d + 1
  | (_, d) => uptoBulk d + 1
 end
def uptoSmall : (H : Type) → List (DataW H) → Bool := fun _ ds => decide (uptoBulkAll ds ≤ 1048576)
def OpenSpec.upto (s : _root_.Go.ChangeSpec) : _root_.Go.OpenSpec := { _root_.Go.OpenSpec.ofChange s with cond := some uptoSmall }

/-- 'laws.FnExactGoodHeap', WHERE WHAT IT READS IS OF BULK AT MOST 1048576: true; the input reads as it did. -/
def fnExactGoodHeapUptoRow : OpenClaim := { program := "ytafkbhkikdndnaa", sum := "cae0abd6a0eacf4eece12b0e96169a82d6f237d0c3d286eceb7ec43d05ae92b1", func := "loop.example/g00541/laws.FnExactGoodHeap", spec := "fnExactGoodHeap", unfollowed := true, recurses := true, apart := false, narrowed := true }
def FnExactGoodHeapUptoSaid : Prop := fnExactGoodHeapUptoRow.holds Try.pinned (OpenSpec.upto fnExactGoodHeapSpec)

/-- 'laws.FnExactFreeSegs', WHERE WHAT IT READS IS OF BULK AT MOST 1048576: true; the input reads as it did. -/
def fnExactFreeSegsUptoRow : OpenClaim := { program := "ytafkbhkikdndnaa", sum := "cae0abd6a0eacf4eece12b0e96169a82d6f237d0c3d286eceb7ec43d05ae92b1", func := "loop.example/g00541/laws.FnExactFreeSegs", spec := "fnExactFreeSegs", unfollowed := true, recurses := true, apart := false, narrowed := true }
def FnExactFreeSegsUptoSaid : Prop := fnExactFreeSegsUptoRow.holds Try.pinned (OpenSpec.upto fnExactFreeSegsSpec)

/-- 'laws.FnExactLiveIn', WHERE WHAT IT READS IS OF BULK AT MOST 1048576: true; the input reads as it did. -/
def fnExactLiveInUptoRow : OpenClaim := { program := "ytafkbhkikdndnaa", sum := "cae0abd6a0eacf4eece12b0e96169a82d6f237d0c3d286eceb7ec43d05ae92b1", func := "loop.example/g00541/laws.FnExactLiveIn", spec := "fnExactLiveIn", unfollowed := true, recurses := true, apart := false, narrowed := true }
def FnExactLiveInUptoSaid : Prop := fnExactLiveInUptoRow.holds Try.pinned (OpenSpec.upto fnExactLiveInSpec)

/-- 'laws.FnExactWhereIs', WHERE WHAT IT READS IS OF BULK AT MOST 1048576: true; the input reads as it did. -/
def fnExactWhereIsUptoRow : OpenClaim := { program := "ytafkbhkikdndnaa", sum := "cae0abd6a0eacf4eece12b0e96169a82d6f237d0c3d286eceb7ec43d05ae92b1", func := "loop.example/g00541/laws.FnExactWhereIs", spec := "fnExactWhereIs", unfollowed := true, recurses := true, apart := false, narrowed := true }
def FnExactWhereIsUptoSaid : Prop := fnExactWhereIsUptoRow.holds Try.pinned (OpenSpec.upto fnExactWhereIsSpec)

/-- 'laws.FnExactPickSeg', WHERE WHAT IT READS IS OF BULK AT MOST 1048576: true; the input reads as it did. -/
def fnExactPickSegUptoRow : OpenClaim := { program := "ytafkbhkikdndnaa", sum := "cae0abd6a0eacf4eece12b0e96169a82d6f237d0c3d286eceb7ec43d05ae92b1", func := "loop.example/g00541/laws.FnExactPickSeg", spec := "fnExactPickSeg", unfollowed := true, recurses := true, apart := false, narrowed := true }
def FnExactPickSegUptoSaid : Prop := fnExactPickSegUptoRow.holds Try.pinned (OpenSpec.upto fnExactPickSegSpec)

/-- 'laws.FnExactAllBlocks', WHERE WHAT IT READS IS OF BULK AT MOST 1048576: true; the input reads as it did. -/
def fnExactAllBlocksUptoRow : OpenClaim := { program := "ytafkbhkikdndnaa", sum := "cae0abd6a0eacf4eece12b0e96169a82d6f237d0c3d286eceb7ec43d05ae92b1", func := "loop.example/g00541/laws.FnExactAllBlocks", spec := "fnExactAllBlocks", unfollowed := true, recurses := true, apart := false, narrowed := true }
def FnExactAllBlocksUptoSaid : Prop := fnExactAllBlocksUptoRow.holds Try.pinned (OpenSpec.upto fnExactAllBlocksSpec)

/-- 'laws.FnExactNewVolume', WHERE WHAT IT READS IS OF BULK AT MOST 1048576: true; the input reads as it did. -/
def fnExactNewVolumeUptoRow : OpenClaim := { program := "ytafkbhkikdndnaa", sum := "cae0abd6a0eacf4eece12b0e96169a82d6f237d0c3d286eceb7ec43d05ae92b1", func := "loop.example/g00541/laws.FnExactNewVolume", spec := "fnExactNewVolume", apart := false, narrowed := true }
def FnExactNewVolumeUptoSaid : Prop := fnExactNewVolumeUptoRow.holds Try.pinned (OpenSpec.upto fnExactNewVolumeSpec)

/-- 'laws.FnExactGoodVolume', WHERE WHAT IT READS IS OF BULK AT MOST 1048576: true; the input reads as it did. -/
def fnExactGoodVolumeUptoRow : OpenClaim := { program := "ytafkbhkikdndnaa", sum := "cae0abd6a0eacf4eece12b0e96169a82d6f237d0c3d286eceb7ec43d05ae92b1", func := "loop.example/g00541/laws.FnExactGoodVolume", spec := "fnExactGoodVolume", unfollowed := true, recurses := true, apart := false, narrowed := true }
def FnExactGoodVolumeUptoSaid : Prop := fnExactGoodVolumeUptoRow.holds Try.pinned (OpenSpec.upto fnExactGoodVolumeSpec)

/-- 'laws.FnExactMarkOf', WHERE WHAT IT READS IS OF BULK AT MOST 1048576: true; the input reads as it did. -/
def fnExactMarkOfUptoRow : OpenClaim := { program := "ytafkbhkikdndnaa", sum := "cae0abd6a0eacf4eece12b0e96169a82d6f237d0c3d286eceb7ec43d05ae92b1", func := "loop.example/g00541/laws.FnExactMarkOf", spec := "fnExactMarkOf", unfollowed := true, recurses := true, apart := false, narrowed := true }
def FnExactMarkOfUptoSaid : Prop := fnExactMarkOfUptoRow.holds Try.pinned (OpenSpec.upto fnExactMarkOfSpec)

/-- 'laws.FnExactNewWindow', WHERE WHAT IT READS IS OF BULK AT MOST 1048576: true; the input reads as it did. -/
def fnExactNewWindowUptoRow : OpenClaim := { program := "ytafkbhkikdndnaa", sum := "cae0abd6a0eacf4eece12b0e96169a82d6f237d0c3d286eceb7ec43d05ae92b1", func := "loop.example/g00541/laws.FnExactNewWindow", spec := "fnExactNewWindow", unfollowed := true, recurses := true, apart := false, narrowed := true }
def FnExactNewWindowUptoSaid : Prop := fnExactNewWindowUptoRow.holds Try.pinned (OpenSpec.upto fnExactNewWindowSpec)

/-- 'laws.FnExactGoodWindow', WHERE WHAT IT READS IS OF BULK AT MOST 1048576: true; the input reads as it did. -/
def fnExactGoodWindowUptoRow : OpenClaim := { program := "ytafkbhkikdndnaa", sum := "cae0abd6a0eacf4eece12b0e96169a82d6f237d0c3d286eceb7ec43d05ae92b1", func := "loop.example/g00541/laws.FnExactGoodWindow", spec := "fnExactGoodWindow", unfollowed := true, recurses := true, apart := false, narrowed := true }
def FnExactGoodWindowUptoSaid : Prop := fnExactGoodWindowUptoRow.holds Try.pinned (OpenSpec.upto fnExactGoodWindowSpec)

/-- 'laws.FnExactFirstOpen', WHERE WHAT IT READS IS OF BULK AT MOST 1048576: true; the input reads as it did. -/
def fnExactFirstOpenUptoRow : OpenClaim := { program := "ytafkbhkikdndnaa", sum := "cae0abd6a0eacf4eece12b0e96169a82d6f237d0c3d286eceb7ec43d05ae92b1", func := "loop.example/g00541/laws.FnExactFirstOpen", spec := "fnExactFirstOpen", unfollowed := true, recurses := true, apart := false, narrowed := true }
def FnExactFirstOpenUptoSaid : Prop := fnExactFirstOpenUptoRow.holds Try.pinned (OpenSpec.upto fnExactFirstOpenSpec)

/-- 'laws.FnExactToldOf', WHERE WHAT IT READS IS OF BULK AT MOST 1048576: true; the input reads as it did. -/
def fnExactToldOfUptoRow : OpenClaim := { program := "ytafkbhkikdndnaa", sum := "cae0abd6a0eacf4eece12b0e96169a82d6f237d0c3d286eceb7ec43d05ae92b1", func := "loop.example/g00541/laws.FnExactToldOf", spec := "fnExactToldOf", unfollowed := true, recurses := true, apart := false, narrowed := true }
def FnExactToldOfUptoSaid : Prop := fnExactToldOfUptoRow.holds Try.pinned (OpenSpec.upto fnExactToldOfSpec)

end Rows
end Go.Proofs.Ytafkbhkikdndnaa

/-
  No cell of these rows narrows 'for every input' (looked for: loops, veiled, ifaces, maps, wideKeys, modest, calm, conditions, laid).
  DERIVED. THE GIVEN ROWS OF THIS SEAT. 12 by the template 'for every input the law returns true; each argument reads behind the call as it read before'; 0 by the template 'total and deterministic' (their statements: YtleklbmodelehaaTotals.lean).
  GIVEN WITH THE SEED: the statements are not yours to turn. If you find one false, say at which input.
  Laid BY PROGRAM, IN A SANDBOX (cutbox-rows.mjs): the forced cells as the released guide's own fill.sh prints them over the translation b45d937bd09cc44a… (all of the seat's roots in one cut). By AI agents, Wed Nov 11 2026. No macro, syntax, notation, axiom, sorry.
-/
import Derived.Test.YtleklbmodelehaaChecked
import GoSem.Claim
import GoSem.ClaimJoined
import GoSem.ClaimMapViews
import Derived.JoinedTies
import Derived.KernelRfl
namespace Go.Proofs.Ytleklbmodelehaa
/- THE CELL 'sum', in the pinned program and in every row, IS THE sha256 OF THE DUMP (.gsa) THAT YtleklbmodelehaaProg.lean LOADS. Nothing in Lean hashes anything: it is a label: what it is worth is what the hold of that sum in a sandbox is worth. -/
noncomputable def Try.pinned : Pinned := { name := "ytleklbmodelehaa", sum := "b45d937bd09cc44ae9782efd5d4961cfb5c186104c1e99fd81a279aebb922277", checked := Try.checked }
namespace Rows
def none {H : Type} : Left H := { results := [], args := [] }

/-- 'laws.FnExactNewDevice': WHATEVER THE INPUT: true; the input reads as it did. -/
def fnExactNewDeviceSpec : ChangeSpec := { name := "fnExactNewDevice", fn := fun _ => fun
  | [d] => { results := [.lit (.bool true)], args := [d] }
  | _ => none }
def fnExactNewDeviceRow : OpenClaim := { program := "ytleklbmodelehaa", sum := "b45d937bd09cc44ae9782efd5d4961cfb5c186104c1e99fd81a279aebb922277", func := "loop.example/g00541/laws.FnExactNewDevice", spec := "fnExactNewDevice", apart := false }
def FnExactNewDeviceSaid : Prop := fnExactNewDeviceRow.holds Try.pinned (OpenSpec.ofChange fnExactNewDeviceSpec)

/-- ITS FALSE NEIGHBOUR: 'it returns false'. Refute it at one input. -/
def fnExactNewDeviceWrong : ChangeSpec := { name := "fnExactNewDevice", fn := fun _ => fun
  | [d] => { results := [.lit (.bool false)], args := [d] }
  | _ => none }
def FnExactNewDeviceWrongFalsely : Prop := fnExactNewDeviceRow.holds Try.pinned (OpenSpec.ofChange fnExactNewDeviceWrong)

/-- 'laws.FnExactGoodDevice': WHATEVER THE INPUT: true; the input reads as it did. -/
def fnExactGoodDeviceSpec : ChangeSpec := { name := "fnExactGoodDevice", fn := fun _ => fun
  | [d] => { results := [.lit (.bool true)], args := [d] }
  | _ => none }
def fnExactGoodDeviceRow : OpenClaim := { program := "ytleklbmodelehaa", sum := "b45d937bd09cc44ae9782efd5d4961cfb5c186104c1e99fd81a279aebb922277", func := "loop.example/g00541/laws.FnExactGoodDevice", spec := "fnExactGoodDevice", unfollowed := true, recurses := true, apart := false }
def FnExactGoodDeviceSaid : Prop := fnExactGoodDeviceRow.holds Try.pinned (OpenSpec.ofChange fnExactGoodDeviceSpec)

/-- ITS FALSE NEIGHBOUR: 'it returns false'. Refute it at one input. -/
def fnExactGoodDeviceWrong : ChangeSpec := { name := "fnExactGoodDevice", fn := fun _ => fun
  | [d] => { results := [.lit (.bool false)], args := [d] }
  | _ => none }
def FnExactGoodDeviceWrongFalsely : Prop := fnExactGoodDeviceRow.holds Try.pinned (OpenSpec.ofChange fnExactGoodDeviceWrong)

/-- 'laws.FnExactReadZone': WHATEVER THE INPUT: true; the input reads as it did. -/
def fnExactReadZoneSpec : ChangeSpec := { name := "fnExactReadZone", fn := fun _ => fun
  | [d1, d2, d3, d4] => { results := [.lit (.bool true)], args := [d1, d2, d3, d4] }
  | _ => none }
def fnExactReadZoneRow : OpenClaim := { program := "ytleklbmodelehaa", sum := "b45d937bd09cc44ae9782efd5d4961cfb5c186104c1e99fd81a279aebb922277", func := "loop.example/g00541/laws.FnExactReadZone", spec := "fnExactReadZone", unfollowed := true, recurses := true, apart := false }
def FnExactReadZoneSaid : Prop := fnExactReadZoneRow.holds Try.pinned (OpenSpec.ofChange fnExactReadZoneSpec)

/-- ITS FALSE NEIGHBOUR: 'it returns false'. Refute it at one input. -/
def fnExactReadZoneWrong : ChangeSpec := { name := "fnExactReadZone", fn := fun _ => fun
  | [d1, d2, d3, d4] => { results := [.lit (.bool false)], args := [d1, d2, d3, d4] }
  | _ => none }
def FnExactReadZoneWrongFalsely : Prop := fnExactReadZoneRow.holds Try.pinned (OpenSpec.ofChange fnExactReadZoneWrong)

/-- 'laws.FnExactOpenZones': WHATEVER THE INPUT: true; the input reads as it did. -/
def fnExactOpenZonesSpec : ChangeSpec := { name := "fnExactOpenZones", fn := fun _ => fun
  | [d] => { results := [.lit (.bool true)], args := [d] }
  | _ => none }
def fnExactOpenZonesRow : OpenClaim := { program := "ytleklbmodelehaa", sum := "b45d937bd09cc44ae9782efd5d4961cfb5c186104c1e99fd81a279aebb922277", func := "loop.example/g00541/laws.FnExactOpenZones", spec := "fnExactOpenZones", unfollowed := true, recurses := true, apart := false }
def FnExactOpenZonesSaid : Prop := fnExactOpenZonesRow.holds Try.pinned (OpenSpec.ofChange fnExactOpenZonesSpec)

/-- ITS FALSE NEIGHBOUR: 'it returns false'. Refute it at one input. -/
def fnExactOpenZonesWrong : ChangeSpec := { name := "fnExactOpenZones", fn := fun _ => fun
  | [d] => { results := [.lit (.bool false)], args := [d] }
  | _ => none }
def FnExactOpenZonesWrongFalsely : Prop := fnExactOpenZonesRow.holds Try.pinned (OpenSpec.ofChange fnExactOpenZonesWrong)

/-- 'laws.FnExactNewMarks': WHATEVER THE INPUT: true; the input reads as it did. -/
def fnExactNewMarksSpec : ChangeSpec := { name := "fnExactNewMarks", fn := fun _ => fun
  | [d] => { results := [.lit (.bool true)], args := [d] }
  | _ => none }
def fnExactNewMarksRow : OpenClaim := { program := "ytleklbmodelehaa", sum := "b45d937bd09cc44ae9782efd5d4961cfb5c186104c1e99fd81a279aebb922277", func := "loop.example/g00541/laws.FnExactNewMarks", spec := "fnExactNewMarks", unfollowed := true, recurses := true, apart := false }
def FnExactNewMarksSaid : Prop := fnExactNewMarksRow.holds Try.pinned (OpenSpec.ofChange fnExactNewMarksSpec)

/-- ITS FALSE NEIGHBOUR: 'it returns false'. Refute it at one input. -/
def fnExactNewMarksWrong : ChangeSpec := { name := "fnExactNewMarks", fn := fun _ => fun
  | [d] => { results := [.lit (.bool false)], args := [d] }
  | _ => none }
def FnExactNewMarksWrongFalsely : Prop := fnExactNewMarksRow.holds Try.pinned (OpenSpec.ofChange fnExactNewMarksWrong)

/-- 'laws.FnExactGoodMarks': WHATEVER THE INPUT: true; the input reads as it did. -/
def fnExactGoodMarksSpec : ChangeSpec := { name := "fnExactGoodMarks", fn := fun _ => fun
  | [d] => { results := [.lit (.bool true)], args := [d] }
  | _ => none }
def fnExactGoodMarksRow : OpenClaim := { program := "ytleklbmodelehaa", sum := "b45d937bd09cc44ae9782efd5d4961cfb5c186104c1e99fd81a279aebb922277", func := "loop.example/g00541/laws.FnExactGoodMarks", spec := "fnExactGoodMarks", unfollowed := true, recurses := true, apart := false }
def FnExactGoodMarksSaid : Prop := fnExactGoodMarksRow.holds Try.pinned (OpenSpec.ofChange fnExactGoodMarksSpec)

/-- ITS FALSE NEIGHBOUR: 'it returns false'. Refute it at one input. -/
def fnExactGoodMarksWrong : ChangeSpec := { name := "fnExactGoodMarks", fn := fun _ => fun
  | [d] => { results := [.lit (.bool false)], args := [d] }
  | _ => none }
def FnExactGoodMarksWrongFalsely : Prop := fnExactGoodMarksRow.holds Try.pinned (OpenSpec.ofChange fnExactGoodMarksWrong)

/-- 'laws.FnExactReadAt': WHATEVER THE INPUT: true; the input reads as it did. -/
def fnExactReadAtSpec : ChangeSpec := { name := "fnExactReadAt", fn := fun _ => fun
  | [d1, d2, d3] => { results := [.lit (.bool true)], args := [d1, d2, d3] }
  | _ => none }
def fnExactReadAtRow : OpenClaim := { program := "ytleklbmodelehaa", sum := "b45d937bd09cc44ae9782efd5d4961cfb5c186104c1e99fd81a279aebb922277", func := "loop.example/g00541/laws.FnExactReadAt", spec := "fnExactReadAt", unfollowed := true, recurses := true, apart := false }
def FnExactReadAtSaid : Prop := fnExactReadAtRow.holds Try.pinned (OpenSpec.ofChange fnExactReadAtSpec)

/-- ITS FALSE NEIGHBOUR: 'it returns false'. Refute it at one input. -/
def fnExactReadAtWrong : ChangeSpec := { name := "fnExactReadAt", fn := fun _ => fun
  | [d1, d2, d3] => { results := [.lit (.bool false)], args := [d1, d2, d3] }
  | _ => none }
def FnExactReadAtWrongFalsely : Prop := fnExactReadAtRow.holds Try.pinned (OpenSpec.ofChange fnExactReadAtWrong)

/-- 'laws.FnExactChangedIn': WHATEVER THE INPUT: true; the input reads as it did. -/
def fnExactChangedInSpec : ChangeSpec := { name := "fnExactChangedIn", fn := fun _ => fun
  | [d1, d2, d3] => { results := [.lit (.bool true)], args := [d1, d2, d3] }
  | _ => none }
def fnExactChangedInRow : OpenClaim := { program := "ytleklbmodelehaa", sum := "b45d937bd09cc44ae9782efd5d4961cfb5c186104c1e99fd81a279aebb922277", func := "loop.example/g00541/laws.FnExactChangedIn", spec := "fnExactChangedIn", unfollowed := true, recurses := true, apart := false }
def FnExactChangedInSaid : Prop := fnExactChangedInRow.holds Try.pinned (OpenSpec.ofChange fnExactChangedInSpec)

/-- ITS FALSE NEIGHBOUR: 'it returns false'. Refute it at one input. -/
def fnExactChangedInWrong : ChangeSpec := { name := "fnExactChangedIn", fn := fun _ => fun
  | [d1, d2, d3] => { results := [.lit (.bool false)], args := [d1, d2, d3] }
  | _ => none }
def FnExactChangedInWrongFalsely : Prop := fnExactChangedInRow.holds Try.pinned (OpenSpec.ofChange fnExactChangedInWrong)

/-- 'laws.FnExactGoodSources': WHATEVER THE INPUT: true; the input reads as it did. -/
def fnExactGoodSourcesSpec : ChangeSpec := { name := "fnExactGoodSources", fn := fun _ => fun
  | [d] => { results := [.lit (.bool true)], args := [d] }
  | _ => none }
def fnExactGoodSourcesRow : OpenClaim := { program := "ytleklbmodelehaa", sum := "b45d937bd09cc44ae9782efd5d4961cfb5c186104c1e99fd81a279aebb922277", func := "loop.example/g00541/laws.FnExactGoodSources", spec := "fnExactGoodSources", unfollowed := true, recurses := true, apart := false }
def FnExactGoodSourcesSaid : Prop := fnExactGoodSourcesRow.holds Try.pinned (OpenSpec.ofChange fnExactGoodSourcesSpec)

/-- ITS FALSE NEIGHBOUR: 'it returns false'. Refute it at one input. -/
def fnExactGoodSourcesWrong : ChangeSpec := { name := "fnExactGoodSources", fn := fun _ => fun
  | [d] => { results := [.lit (.bool false)], args := [d] }
  | _ => none }
def FnExactGoodSourcesWrongFalsely : Prop := fnExactGoodSourcesRow.holds Try.pinned (OpenSpec.ofChange fnExactGoodSourcesWrong)

/-- 'laws.FnExactGoodPackets': WHATEVER THE INPUT: true; the input reads as it did. -/
def fnExactGoodPacketsSpec : ChangeSpec := { name := "fnExactGoodPackets", fn := fun _ => fun
  | [d1, d2] => { results := [.lit (.bool true)], args := [d1, d2] }
  | _ => none }
def fnExactGoodPacketsRow : OpenClaim := { program := "ytleklbmodelehaa", sum := "b45d937bd09cc44ae9782efd5d4961cfb5c186104c1e99fd81a279aebb922277", func := "loop.example/g00541/laws.FnExactGoodPackets", spec := "fnExactGoodPackets", unfollowed := true, recurses := true, apart := false }
def FnExactGoodPacketsSaid : Prop := fnExactGoodPacketsRow.holds Try.pinned (OpenSpec.ofChange fnExactGoodPacketsSpec)

/-- ITS FALSE NEIGHBOUR: 'it returns false'. Refute it at one input. -/
def fnExactGoodPacketsWrong : ChangeSpec := { name := "fnExactGoodPackets", fn := fun _ => fun
  | [d1, d2] => { results := [.lit (.bool false)], args := [d1, d2] }
  | _ => none }
def FnExactGoodPacketsWrongFalsely : Prop := fnExactGoodPacketsRow.holds Try.pinned (OpenSpec.ofChange fnExactGoodPacketsWrong)

/-- 'laws.FnExactRankOf': WHATEVER THE INPUT: true; the input reads as it did. -/
def fnExactRankOfSpec : ChangeSpec := { name := "fnExactRankOf", fn := fun _ => fun
  | [d1, d2] => { results := [.lit (.bool true)], args := [d1, d2] }
  | _ => none }
def fnExactRankOfRow : OpenClaim := { program := "ytleklbmodelehaa", sum := "b45d937bd09cc44ae9782efd5d4961cfb5c186104c1e99fd81a279aebb922277", func := "loop.example/g00541/laws.FnExactRankOf", spec := "fnExactRankOf", unfollowed := true, recurses := true, apart := false }
def FnExactRankOfSaid : Prop := fnExactRankOfRow.holds Try.pinned (OpenSpec.ofChange fnExactRankOfSpec)

/-- ITS FALSE NEIGHBOUR: 'it returns false'. Refute it at one input. -/
def fnExactRankOfWrong : ChangeSpec := { name := "fnExactRankOf", fn := fun _ => fun
  | [d1, d2] => { results := [.lit (.bool false)], args := [d1, d2] }
  | _ => none }
def FnExactRankOfWrongFalsely : Prop := fnExactRankOfRow.holds Try.pinned (OpenSpec.ofChange fnExactRankOfWrong)

/-- 'laws.FnExactInSpan': WHATEVER THE INPUT: true; the input reads as it did. -/
def fnExactInSpanSpec : ChangeSpec := { name := "fnExactInSpan", fn := fun _ => fun
  | [d1, d2, d3] => { results := [.lit (.bool true)], args := [d1, d2, d3] }
  | _ => none }
def fnExactInSpanRow : OpenClaim := { program := "ytleklbmodelehaa", sum := "b45d937bd09cc44ae9782efd5d4961cfb5c186104c1e99fd81a279aebb922277", func := "loop.example/g00541/laws.FnExactInSpan", spec := "fnExactInSpan", unfollowed := true, recurses := true, apart := false }
def FnExactInSpanSaid : Prop := fnExactInSpanRow.holds Try.pinned (OpenSpec.ofChange fnExactInSpanSpec)

/-- ITS FALSE NEIGHBOUR: 'it returns false'. Refute it at one input. -/
def fnExactInSpanWrong : ChangeSpec := { name := "fnExactInSpan", fn := fun _ => fun
  | [d1, d2, d3] => { results := [.lit (.bool false)], args := [d1, d2, d3] }
  | _ => none }
def FnExactInSpanWrongFalsely : Prop := fnExactInSpanRow.holds Try.pinned (OpenSpec.ofChange fnExactInSpanWrong)

/- THE SECOND FORM. 'bulk': how many values and letters a reading holds, each counted each time it is reached (what is shared counts as often as it is met; a slice's spare places count too). A statement '..UptoSaid' is the law's where the arguments, and the package variables that the reading takes, are together of bulk at most 1048576: NARROWER than '..Said'. Prove '..Said' where nothing that the law and all that it calls make is longer than what came in: it says more and counts as full. Else prove '..UptoSaid'. A law counts once. -/
mutual
def uptoBulk {H : Type} : DataW H → Nat
  | .lit (.string bytes) => bytes.length + 1
  | .lit _ => 1
  | .nil => 1
  | .ptr d => uptoBulk d + 1
  | .slice elems spare => uptoBulkAll elems + uptoBulkAll spare + 1
  | .agg parts => uptoBulkAll parts + 1
  | .iface _ d => uptoBulk d + 1
  | .map entries => uptoBulkEntries entries + 1
  | .held _ => 1
def uptoBulkAll {H : Type} : List (DataW H) → Nat
  | [] => 0
  | d :: r => uptoBulk d + uptoBulkAll r
def uptoBulkEntries {H : Type} : List (Lit × DataW H) → Nat
  | [] => 0
  | x :: r => uptoBulkEntry x + uptoBulkEntries r
def uptoBulkEntry {H : Type} : Lit × DataW H → Nat
  | (.string bytes, d) => bytes.length + uptoBulk d + 1
  | (_, d) => uptoBulk d + 1
 end
def uptoSmall : (H : Type) → List (DataW H) → Bool := fun _ ds => decide (uptoBulkAll ds ≤ 1048576)
def OpenSpec.upto (s : _root_.Go.ChangeSpec) : _root_.Go.OpenSpec := { _root_.Go.OpenSpec.ofChange s with cond := some uptoSmall }

/-- 'laws.FnExactNewDevice', WHERE WHAT IT READS IS OF BULK AT MOST 1048576: true; the input reads as it did. -/
def fnExactNewDeviceUptoRow : OpenClaim := { program := "ytleklbmodelehaa", sum := "b45d937bd09cc44ae9782efd5d4961cfb5c186104c1e99fd81a279aebb922277", func := "loop.example/g00541/laws.FnExactNewDevice", spec := "fnExactNewDevice", apart := false, narrowed := true }
def FnExactNewDeviceUptoSaid : Prop := fnExactNewDeviceUptoRow.holds Try.pinned (OpenSpec.upto fnExactNewDeviceSpec)

/-- 'laws.FnExactGoodDevice', WHERE WHAT IT READS IS OF BULK AT MOST 1048576: true; the input reads as it did. -/
def fnExactGoodDeviceUptoRow : OpenClaim := { program := "ytleklbmodelehaa", sum := "b45d937bd09cc44ae9782efd5d4961cfb5c186104c1e99fd81a279aebb922277", func := "loop.example/g00541/laws.FnExactGoodDevice", spec := "fnExactGoodDevice", unfollowed := true, recurses := true, apart := false, narrowed := true }
def FnExactGoodDeviceUptoSaid : Prop := fnExactGoodDeviceUptoRow.holds Try.pinned (OpenSpec.upto fnExactGoodDeviceSpec)

/-- 'laws.FnExactReadZone', WHERE WHAT IT READS IS OF BULK AT MOST 1048576: true; the input reads as it did. -/
def fnExactReadZoneUptoRow : OpenClaim := { program := "ytleklbmodelehaa", sum := "b45d937bd09cc44ae9782efd5d4961cfb5c186104c1e99fd81a279aebb922277", func := "loop.example/g00541/laws.FnExactReadZone", spec := "fnExactReadZone", unfollowed := true, recurses := true, apart := false, narrowed := true }
def FnExactReadZoneUptoSaid : Prop := fnExactReadZoneUptoRow.holds Try.pinned (OpenSpec.upto fnExactReadZoneSpec)

/-- 'laws.FnExactOpenZones', WHERE WHAT IT READS IS OF BULK AT MOST 1048576: true; the input reads as it did. -/
def fnExactOpenZonesUptoRow : OpenClaim := { program := "ytleklbmodelehaa", sum := "b45d937bd09cc44ae9782efd5d4961cfb5c186104c1e99fd81a279aebb922277", func := "loop.example/g00541/laws.FnExactOpenZones", spec := "fnExactOpenZones", unfollowed := true, recurses := true, apart := false, narrowed := true }
def FnExactOpenZonesUptoSaid : Prop := fnExactOpenZonesUptoRow.holds Try.pinned (OpenSpec.upto fnExactOpenZonesSpec)

/-- 'laws.FnExactNewMarks', WHERE WHAT IT READS IS OF BULK AT MOST 1048576: true; the input reads as it did. -/
def fnExactNewMarksUptoRow : OpenClaim := { program := "ytleklbmodelehaa", sum := "b45d937bd09cc44ae9782efd5d4961cfb5c186104c1e99fd81a279aebb922277", func := "loop.example/g00541/laws.FnExactNewMarks", spec := "fnExactNewMarks", unfollowed := true, recurses := true, apart := false, narrowed := true }
def FnExactNewMarksUptoSaid : Prop := fnExactNewMarksUptoRow.holds Try.pinned (OpenSpec.upto fnExactNewMarksSpec)

/-- 'laws.FnExactGoodMarks', WHERE WHAT IT READS IS OF BULK AT MOST 1048576: true; the input reads as it did. -/
def fnExactGoodMarksUptoRow : OpenClaim := { program := "ytleklbmodelehaa", sum := "b45d937bd09cc44ae9782efd5d4961cfb5c186104c1e99fd81a279aebb922277", func := "loop.example/g00541/laws.FnExactGoodMarks", spec := "fnExactGoodMarks", unfollowed := true, recurses := true, apart := false, narrowed := true }
def FnExactGoodMarksUptoSaid : Prop := fnExactGoodMarksUptoRow.holds Try.pinned (OpenSpec.upto fnExactGoodMarksSpec)

/-- 'laws.FnExactReadAt', WHERE WHAT IT READS IS OF BULK AT MOST 1048576: true; the input reads as it did. -/
def fnExactReadAtUptoRow : OpenClaim := { program := "ytleklbmodelehaa", sum := "b45d937bd09cc44ae9782efd5d4961cfb5c186104c1e99fd81a279aebb922277", func := "loop.example/g00541/laws.FnExactReadAt", spec := "fnExactReadAt", unfollowed := true, recurses := true, apart := false, narrowed := true }
def FnExactReadAtUptoSaid : Prop := fnExactReadAtUptoRow.holds Try.pinned (OpenSpec.upto fnExactReadAtSpec)

/-- 'laws.FnExactChangedIn', WHERE WHAT IT READS IS OF BULK AT MOST 1048576: true; the input reads as it did. -/
def fnExactChangedInUptoRow : OpenClaim := { program := "ytleklbmodelehaa", sum := "b45d937bd09cc44ae9782efd5d4961cfb5c186104c1e99fd81a279aebb922277", func := "loop.example/g00541/laws.FnExactChangedIn", spec := "fnExactChangedIn", unfollowed := true, recurses := true, apart := false, narrowed := true }
def FnExactChangedInUptoSaid : Prop := fnExactChangedInUptoRow.holds Try.pinned (OpenSpec.upto fnExactChangedInSpec)

/-- 'laws.FnExactGoodSources', WHERE WHAT IT READS IS OF BULK AT MOST 1048576: true; the input reads as it did. -/
def fnExactGoodSourcesUptoRow : OpenClaim := { program := "ytleklbmodelehaa", sum := "b45d937bd09cc44ae9782efd5d4961cfb5c186104c1e99fd81a279aebb922277", func := "loop.example/g00541/laws.FnExactGoodSources", spec := "fnExactGoodSources", unfollowed := true, recurses := true, apart := false, narrowed := true }
def FnExactGoodSourcesUptoSaid : Prop := fnExactGoodSourcesUptoRow.holds Try.pinned (OpenSpec.upto fnExactGoodSourcesSpec)

/-- 'laws.FnExactGoodPackets', WHERE WHAT IT READS IS OF BULK AT MOST 1048576: true; the input reads as it did. -/
def fnExactGoodPacketsUptoRow : OpenClaim := { program := "ytleklbmodelehaa", sum := "b45d937bd09cc44ae9782efd5d4961cfb5c186104c1e99fd81a279aebb922277", func := "loop.example/g00541/laws.FnExactGoodPackets", spec := "fnExactGoodPackets", unfollowed := true, recurses := true, apart := false, narrowed := true }
def FnExactGoodPacketsUptoSaid : Prop := fnExactGoodPacketsUptoRow.holds Try.pinned (OpenSpec.upto fnExactGoodPacketsSpec)

/-- 'laws.FnExactRankOf', WHERE WHAT IT READS IS OF BULK AT MOST 1048576: true; the input reads as it did. -/
def fnExactRankOfUptoRow : OpenClaim := { program := "ytleklbmodelehaa", sum := "b45d937bd09cc44ae9782efd5d4961cfb5c186104c1e99fd81a279aebb922277", func := "loop.example/g00541/laws.FnExactRankOf", spec := "fnExactRankOf", unfollowed := true, recurses := true, apart := false, narrowed := true }
def FnExactRankOfUptoSaid : Prop := fnExactRankOfUptoRow.holds Try.pinned (OpenSpec.upto fnExactRankOfSpec)

/-- 'laws.FnExactInSpan', WHERE WHAT IT READS IS OF BULK AT MOST 1048576: true; the input reads as it did. -/
def fnExactInSpanUptoRow : OpenClaim := { program := "ytleklbmodelehaa", sum := "b45d937bd09cc44ae9782efd5d4961cfb5c186104c1e99fd81a279aebb922277", func := "loop.example/g00541/laws.FnExactInSpan", spec := "fnExactInSpan", unfollowed := true, recurses := true, apart := false, narrowed := true }
def FnExactInSpanUptoSaid : Prop := fnExactInSpanUptoRow.holds Try.pinned (OpenSpec.upto fnExactInSpanSpec)

end Rows
end Go.Proofs.Ytleklbmodelehaa

/- The law FnExactAllBlocks: for every input the call returns true, and each argument reads afterwards as it read before. No condition. -/
import Derived.Test.YtafkbhkikdndnaaRows
import Derived.Test.YtafkbhkikdndnaaPFnExactAllBlocksx8
import Derived.Test.YtafkbhkikdndnaaPureFnExactAllBlocks
import Derived.Test.YtafkbhkikdndnaaOpen
import Derived.WalkKit
import Derived.ProofKit
import Derived.OpenShut
import Derived.ShutString
import Derived.ChangeOld
import Derived.Below
import Derived.SizedLaws
import Derived.Test.YtafkbhkikdndnaaWSized
namespace Go.Proofs.Ytafkbhkikdndnaa.fnExactAllBlocks
open Go.ChangeShapes Go.WideShapes Go.ChangeAt Go.RowKit Go.Proofs.Ytafkbhkikdndnaa.PFnExactAllBlocks Go.Proofs.YtafkbhkikdndnaaW.PrintWords Go.Proofs.Ytafkbhkikdndnaa.Open
open Go.ChangeMaps (open_string shut_string)
set_option linter.unusedVariables false
set_option linter.unusedSimpArgs false
theorem own : ownKnob Try.prog.godebug = none := by kernel_rfl
theorem laidOut : laidOutB Try.prog = true := by kernel_rfl
theorem opens3 : Opens Try.prog 3 (Kd.int .i64) (fun (x_ : Int) => (Lit.int .i64 x_).wf = true) := opens_int Try.underlying3
theorem opens40 : Opens Try.prog 40 (Kd.slice 3 (Kd.int .i64)) (fun (x_ : List Int) => (x_.length * 8 ≤ 140737488351232 ∧ ∀ y_ ∈ x_, (Lit.int .i64 y_).wf = true)) := opens_slice Try.underlying40 opens3 (by kernel_rfl) (by kernel_rfl)
theorem opens134 : Opens Try.prog 134 k134 ok134 := opens_struct Try.underlying134 (by kernel_rfl) (opensF_iso (opensF_cons opens40 (by kernel_rfl) rfl (opensF_one opens3 (by kernel_rfl) rfl)) (fun x => ⟨⟨x.1, x.2⟩, rfl⟩))
theorem opens22 : Opens Try.prog 22 (Kd.slice 134 k134) (fun (x_ : List (S134)) => (x_.length * 32 ≤ 140737488351232 ∧ ∀ y_ ∈ x_, ok134 y_)) := opens_slice Try.underlying22 opens134 (by kernel_rfl) (by kernel_rfl)
theorem opens4 : Opens Try.prog 4 Kd.bool (fun (x_ : Bool) => True) := opens_bool Try.underlying4
theorem opens63 : Opens Try.prog 63 (Kd.slice 4 Kd.bool) (fun (x_ : List Bool) => (x_.length * 1 ≤ 140737488351232 ∧ ∀ y_ ∈ x_, True)) := opens_slice Try.underlying63 opens4 (by kernel_rfl) (by kernel_rfl)
theorem opens23 : Opens Try.prog 23 (Kd.slice 63 (Kd.slice 4 Kd.bool)) (fun (x_ : List (List Bool)) => (x_.length * 24 ≤ 140737488351232 ∧ ∀ y_ ∈ x_, (y_.length * 1 ≤ 140737488351232 ∧ ∀ z_ ∈ y_, True))) := opens_slice Try.underlying23 opens63 (by kernel_rfl) (by kernel_rfl)
theorem opens25 : Opens Try.prog 25 k25 ok25 := opens_struct Try.underlying25 (by kernel_rfl) (opensF_iso (opensF_cons opens22 (by kernel_rfl) rfl (opensF_one opens23 (by kernel_rfl) rfl)) (fun x => ⟨⟨x.1, x.2⟩, rfl⟩))
set_option maxRecDepth 100000 in
theorem lifted (os : Os) (started : os.Started) (H : Type) (enc : TypeId × Value → H) :
    ReturnsInHanded {} Try.checked os 8 .any (Rows.fnExactAllBlocksSpec.pre6 enc Try.prog Try.f8 Rows.fnExactAllBlocksRow.domain false) (Rows.fnExactAllBlocksSpec.post enc Try.prog Try.f8 false true false false) := by
  refine returnsInHanded_of_change_sized (C := Try.checked) own started (by kernel_rfl) Try.func8
    (ChangeSpec.witness6 (enc := enc) (C := Try.checked) false ⟨#[], #[.agg #[.slice none 0 0, .slice none 0 0]], []⟩ 8 (by kernel_rfl) (by kernel_rfl) (by kernel_rfl) (by kernel_rfl)) ?_
  intro W base args ds gs before hval0 hW hcnd hsz0 _
  have hsz : (DataW.weightsEach Try.prog (Try.f8.params.toList ++ Rows.fnExactAllBlocksSpec.plain.varTypes Try.prog) (ds ++ gs)).all (· ≤ reachBytes) = true := hsz0
  have hval : ∀ (j : Nat) t v, Try.f8.params[j]? = some t → args[j]? = some v → Value.okWide Try.prog W .any base t v := hval0
  have hW' := hW
  obtain ⟨p, q, hA0, hV, rfl, hfz, hnd⟩ := hW
  have hA : DataW.TrodAll enc Try.prog W 0 (fun _ => true) true Try.f8.params.toList args.toList ds p := hA0
  rw [Try.params8] at hA hval hsz
  obtain ⟨v0, vs0, d0, ds0, p0, q0, hargs, rfl, rfl, h0, r0⟩ := trodAll_cons hA
  obtain ⟨rfl, rfl, rfl⟩ := trodAll_nil r0
  obtain rfl : args = #[v0] := by cases args; simp_all
  obtain ⟨rfl, rfl⟩ := trodVars_none hV
  have wt0 := weights_of hsz (j := 0) (t := 25) (d := d0) rfl rfl
  have kk0 := h0
  have lt0 : ∀ x ∈ p0, x.block < W.heap.size := by obtain ⟨m, hm⟩ := kk0; exact DataW.trod_lt m _ _ _ hm
  obtain ⟨cs0, rfl, hsz0⟩ := okWide_struct Try.underlying25 (hval 0 25 v0 rfl rfl)
  obtain ⟨x0, hk0, ok0⟩ := opens25.at_ h0 wt0
  obtain ⟨A0_0, c0_0, A0_1, c0_1, he0, hc0_0, hr0_0, hc0_1, hr0_1⟩ := k25_open hk0
  obtain rfl : cs0 = #[.slice A0_0 (x0.f0).length c0_0, .slice A0_1 (x0.f1).length c0_1] := arr_of he0
  obtain ⟨o0_0, o0_1⟩ := ok0
  obtain ⟨k, hP⟩ := Pure.FnExactAllBlocks x0.f0 x0.f1 o0_0 o0_1
  clear hA0 hval0 hsz0 hsz
  refine (laws_FnExactAllBlocks.calls k _ _ x0.f0 _ _ x0.f1 true W hr0_0 hc0_0 hr0_1 hc0_1 hP).mono ?_
  rintro e W' ⟨rfl, hd⟩
  have bel : Below W.heap.size W W' := hd
  exact ⟨_, rfl, _, _, _, [], _, [], hW', trodAll_mk1 (shut_bool Try.underlying4 _), (trodAll_cons_mk (Below.trod laidOut (by kernel_rfl) (of_decide_eq_true (by kernel_rfl)) kk0 bel lt0) trodAll_mk0), rfl, bel.frame _, fun h => by cases h⟩
theorem over : Rows.fnExactAllBlocksRow.holds Try.pinned (OpenSpec.ofChange Rows.fnExactAllBlocksSpec) :=
  OpenClaim.holds_of_wide 8 Try.f8 rfl rfl rfl rfl rfl rfl rfl ⟨rfl, rfl, rfl, rfl, rfl⟩ rfl rfl rfl rfl rfl (by kernel_rfl) Try.func8 (by kernel_rfl)
    (of_decide_eq_true (by kernel_rfl)) (by unfold Func.isWrapper; first | (rw [if_pos (by decide +kernel)]; kernel_rfl) | (rw [if_neg (by decide +kernel)]; exact ⟨rfl, rfl⟩))
    (fun os started H enc _ => lifted os started H enc)
theorem proved : Rows.FnExactAllBlocksSaid := over
#print axioms proved
end Go.Proofs.Ytafkbhkikdndnaa.fnExactAllBlocks
namespace Go.Proofs.Ytafkbhkikdndnaa
/-- The row, under a short name, for the claim. -/
theorem fnExactAllBlocks_holds : Rows.FnExactAllBlocksSaid := fnExactAllBlocks.proved
end Go.Proofs.Ytafkbhkikdndnaa

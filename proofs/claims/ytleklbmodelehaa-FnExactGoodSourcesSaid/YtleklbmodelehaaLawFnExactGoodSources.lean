/- The law FnExactGoodSources: for every input the call returns true, and each argument reads afterwards as it read before. No condition. -/
import Derived.Test.YtleklbmodelehaaRows
import Derived.Test.YtleklbmodelehaaPFnExactGoodSourcesx2
import Derived.Test.YtleklbmodelehaaPureFnExactGoodSources
import Derived.Test.YtleklbmodelehaaOpen
import Derived.WalkKit
import Derived.ProofKit
import Derived.OpenShut
import Derived.ShutString
import Derived.ChangeOld
import Derived.Below
import Derived.SizedLaws
import Derived.Test.YtleklbmodelehaaWSized
namespace Go.Proofs.Ytleklbmodelehaa.fnExactGoodSources
open Go.ChangeShapes Go.WideShapes Go.ChangeAt Go.RowKit Go.Proofs.Ytleklbmodelehaa.PFnExactGoodSources Go.Proofs.YtleklbmodelehaaW.PrintWords Go.Proofs.Ytleklbmodelehaa.Open
open Go.ChangeMaps (open_string shut_string)
set_option linter.unusedVariables false
set_option linter.unusedSimpArgs false
theorem own : ownKnob Try.prog.godebug = none := by kernel_rfl
theorem laidOut : laidOutB Try.prog = true := by kernel_rfl
theorem opens9 : Opens Try.prog 9 Kd.string (fun (x_ : ByteArray) => x_.size ≤ 140737488351232) := opens_string Try.underlying9
theorem opens62 : Opens Try.prog 62 (Kd.slice 9 Kd.string) (fun (x_ : List ByteArray) => (x_.length * 16 ≤ 140737488351232 ∧ ∀ y_ ∈ x_, y_.size ≤ 140737488351232)) := opens_slice Try.underlying62 opens9 (by kernel_rfl) (by kernel_rfl)
set_option maxRecDepth 100000 in
theorem lifted (os : Os) (started : os.Started) (H : Type) (enc : TypeId × Value → H) :
    ReturnsInHanded {} Try.checked os 11 .any (Rows.fnExactGoodSourcesSpec.pre6 enc Try.prog Try.f11 Rows.fnExactGoodSourcesRow.domain false) (Rows.fnExactGoodSourcesSpec.post enc Try.prog Try.f11 false true false false) := by
  refine returnsInHanded_of_change_sized (C := Try.checked) own started (by kernel_rfl) Try.func11
    (ChangeSpec.witness6 (enc := enc) (C := Try.checked) false ⟨#[], #[.slice none 0 0], []⟩ 8 (by kernel_rfl) (by kernel_rfl) (by kernel_rfl) (by kernel_rfl)) ?_
  intro W base args ds gs before hval0 hW hcnd hsz0 _
  have hsz : (DataW.weightsEach Try.prog (Try.f11.params.toList ++ Rows.fnExactGoodSourcesSpec.plain.varTypes Try.prog) (ds ++ gs)).all (· ≤ reachBytes) = true := hsz0
  have hval : ∀ (j : Nat) t v, Try.f11.params[j]? = some t → args[j]? = some v → Value.okWide Try.prog W .any base t v := hval0
  have hW' := hW
  obtain ⟨p, q, hA0, hV, rfl, hfz, hnd⟩ := hW
  have hA : DataW.TrodAll enc Try.prog W 0 (fun _ => true) true Try.f11.params.toList args.toList ds p := hA0
  rw [Try.params11] at hA hval hsz
  obtain ⟨v0, vs0, d0, ds0, p0, q0, hargs, rfl, rfl, h0, r0⟩ := trodAll_cons hA
  obtain ⟨rfl, rfl, rfl⟩ := trodAll_nil r0
  obtain rfl : args = #[v0] := by cases args; simp_all
  obtain ⟨rfl, rfl⟩ := trodVars_none hV
  have wt0 := weights_of hsz (j := 0) (t := 62) (d := d0) rfl rfl
  have kk0 := h0
  have lt0 : ∀ x ∈ p0, x.block < W.heap.size := by obtain ⟨m, hm⟩ := kk0; exact DataW.trod_lt m _ _ _ hm
  obtain ⟨ad0, len0, cap0, rfl⟩ := okWide_slice Try.underlying62 (hval 0 62 v0 rfl rfl)
  obtain ⟨l0, hk0, ok0⟩ := opens62.at_ h0 wt0
  obtain ⟨A0, c0, he0, hc0, hr0⟩ := hk0
  simp only [Value.cells, List.cons.injEq, Value.slice.injEq, and_true] at he0
  obtain ⟨rfl, rfl, rfl⟩ := he0
  obtain ⟨k, hP⟩ := Pure.FnExactGoodSources l0 ok0
  clear hA0 hval0 hsz0 hsz
  refine (laws_FnExactGoodSources.calls k _ _ l0 true W hr0 hc0 hP).mono ?_
  rintro e W' ⟨rfl, hd⟩
  have bel : Below W.heap.size W W' := hd
  exact ⟨_, rfl, _, _, _, [], _, [], hW', trodAll_mk1 (shut_bool Try.underlying4 _), (trodAll_cons_mk (Below.trod laidOut (by kernel_rfl) (of_decide_eq_true (by kernel_rfl)) kk0 bel lt0) trodAll_mk0), rfl, bel.frame _, fun h => by cases h⟩
theorem over : Rows.fnExactGoodSourcesRow.holds Try.pinned (OpenSpec.ofChange Rows.fnExactGoodSourcesSpec) :=
  OpenClaim.holds_of_wide 11 Try.f11 rfl rfl rfl rfl rfl rfl rfl ⟨rfl, rfl, rfl, rfl, rfl⟩ rfl rfl rfl rfl rfl (by kernel_rfl) Try.func11 (by kernel_rfl)
    (of_decide_eq_true (by kernel_rfl)) (by unfold Func.isWrapper; first | (rw [if_pos (by decide +kernel)]; kernel_rfl) | (rw [if_neg (by decide +kernel)]; exact ⟨rfl, rfl⟩))
    (fun os started H enc _ => lifted os started H enc)
theorem proved : Rows.FnExactGoodSourcesSaid := over
#print axioms proved
end Go.Proofs.Ytleklbmodelehaa.fnExactGoodSources
namespace Go.Proofs.Ytleklbmodelehaa
/-- The row, under a short name, for the claim. -/
theorem fnExactGoodSources_holds : Rows.FnExactGoodSourcesSaid := fnExactGoodSources.proved
end Go.Proofs.Ytleklbmodelehaa

/- The law FnExactChangedIn: for every input the call returns true, and each argument reads afterwards as it read before. No condition. -/
import Derived.Test.YtleklbmodelehaaRows
import Derived.Test.YtleklbmodelehaaPFnExactChangedInx11
import Derived.Test.YtleklbmodelehaaPureFnExactChangedIn
import Derived.Test.YtleklbmodelehaaCutFnExactChangedIn
import Derived.WalkKit
import Derived.ProofKit
import Derived.OpenShut
import Derived.ShutString
import Derived.ChangeOld
import Derived.Below
import Derived.SizedLaws
namespace Go.Proofs.Ytleklbmodelehaa.fnExactChangedIn
open Go.ChangeShapes Go.WideShapes Go.ChangeAt Go.RowKit Go.Proofs.Ytleklbmodelehaa.PFnExactChangedIn Go.Proofs.YtleklbmodelehaaW.PrintWords Go.Proofs.Ytleklbmodelehaa.Open
open Go.ChangeMaps (open_string shut_string)
set_option linter.unusedVariables false
set_option linter.unusedSimpArgs false
theorem own : ownKnob Try.prog.godebug = none := by kernel_rfl
theorem laidOut : laidOutB Try.prog = true := by kernel_rfl
theorem opens3 : Opens Try.prog 3 (Kd.int .i64) (fun (x_ : Int) => (Lit.int .i64 x_).wf = true) := opens_int Try.underlying3
theorem opens40 : Opens Try.prog 40 (Kd.slice 3 (Kd.int .i64)) (fun (x_ : List Int) => (x_.length * 8 ≤ 140737488351232 ∧ ∀ y_ ∈ x_, (Lit.int .i64 y_).wf = true)) := opens_slice Try.underlying40 opens3 (by kernel_rfl) (by kernel_rfl)
theorem opens9 : Opens Try.prog 9 Kd.string (fun (x_ : ByteArray) => x_.size ≤ 140737488351232) := opens_string Try.underlying9
theorem opens62 : Opens Try.prog 62 (Kd.slice 9 Kd.string) (fun (x_ : List ByteArray) => (x_.length * 16 ≤ 140737488351232 ∧ ∀ y_ ∈ x_, y_.size ≤ 140737488351232)) := opens_slice Try.underlying62 opens9 (by kernel_rfl) (by kernel_rfl)
theorem opens128 : Opens Try.prog 128 k128 ok128 := opens_struct Try.underlying128 (by kernel_rfl) (opensF_iso (opensF_cons opens3 (by kernel_rfl) rfl (opensF_cons opens40 (by kernel_rfl) rfl (opensF_one opens62 (by kernel_rfl) rfl))) (fun x => ⟨⟨x.1, x.2.1, x.2.2⟩, rfl⟩))
theorem opens52 : Opens Try.prog 52 (Kd.slice 128 k128) (fun (x_ : List (S128)) => (x_.length * 56 ≤ 140737488351232 ∧ ∀ y_ ∈ x_, ok128 y_)) := opens_slice Try.underlying52 opens128 (by kernel_rfl) (by kernel_rfl)
theorem opens54 : Opens Try.prog 54 k54 ok54 := opens_struct Try.underlying54 (by kernel_rfl) (opensF_iso (opensF_one opens52 (by kernel_rfl) rfl) (fun x => ⟨⟨x⟩, rfl⟩))
set_option maxRecDepth 100000 in
theorem lifted (os : Os) (started : os.Started) (H : Type) (enc : TypeId × Value → H) :
    ReturnsInHanded {} Try.checked os 10 .any (Rows.fnExactChangedInSpec.pre6 enc Try.prog Try.f10 Rows.fnExactChangedInRow.domain false) (Rows.fnExactChangedInSpec.post enc Try.prog Try.f10 false true false false) := by
  refine returnsInHanded_of_change_sized (C := Try.checked) own started (by kernel_rfl) Try.func10
    (ChangeSpec.witness6 (enc := enc) (C := Try.checked) false ⟨#[], #[.agg #[.slice none 0 0], .int .i64 0, .int .i64 0], []⟩ 8 (by kernel_rfl) (by kernel_rfl) (by kernel_rfl) (by kernel_rfl)) ?_
  intro W base args ds gs before hval0 hW hcnd hsz0 _
  have hsz : (DataW.weightsEach Try.prog (Try.f10.params.toList ++ Rows.fnExactChangedInSpec.plain.varTypes Try.prog) (ds ++ gs)).all (· ≤ reachBytes) = true := hsz0
  have hval : ∀ (j : Nat) t v, Try.f10.params[j]? = some t → args[j]? = some v → Value.okWide Try.prog W .any base t v := hval0
  have hW' := hW
  obtain ⟨p, q, hA0, hV, rfl, hfz, hnd⟩ := hW
  have hA : DataW.TrodAll enc Try.prog W 0 (fun _ => true) true Try.f10.params.toList args.toList ds p := hA0
  rw [Try.params10] at hA hval hsz
  obtain ⟨v0, vs0, d0, ds0, p0, q0, hargs, rfl, rfl, h0, r0⟩ := trodAll_cons hA
  obtain ⟨v1, vs1, d1, ds1, p1, q1, rfl, rfl, rfl, h1, r1⟩ := trodAll_cons r0
  obtain ⟨v2, vs2, d2, ds2, p2, q2, rfl, rfl, rfl, h2, r2⟩ := trodAll_cons r1
  obtain ⟨rfl, rfl, rfl⟩ := trodAll_nil r2
  obtain rfl : args = #[v0, v1, v2] := by cases args; simp_all
  obtain ⟨rfl, rfl⟩ := trodVars_none hV
  have wt0 := weights_of hsz (j := 0) (t := 54) (d := d0) rfl rfl
  have kk0 := h0
  have lt0 : ∀ x ∈ p0, x.block < W.heap.size := by obtain ⟨m, hm⟩ := kk0; exact DataW.trod_lt m _ _ _ hm
  obtain ⟨cs0, rfl, hsz0⟩ := okWide_struct Try.underlying54 (hval 0 54 v0 rfl rfl)
  obtain ⟨x0, hk0, ok0⟩ := opens54.at_ h0 wt0
  obtain ⟨A0_0, c0_0, he0, hc0_0, hr0_0⟩ := k54_open hk0
  obtain rfl : cs0 = #[.slice A0_0 (x0.f0).length c0_0] := arr_of he0
  have o0_0 := ok0
  have wt1 := weights_of hsz (j := 1) (t := 3) (d := d1) rfl rfl
  obtain ⟨a1, rfl, rfl, rfl, w1⟩ := open_int Try.underlying3 (hval 1 3 v1 rfl rfl) h1
  have wt2 := weights_of hsz (j := 2) (t := 3) (d := d2) rfl rfl
  obtain ⟨a2, rfl, rfl, rfl, w2⟩ := open_int Try.underlying3 (hval 2 3 v2 rfl rfl) h2
  obtain ⟨k, hP⟩ := Pure.FnExactChangedIn x0.f0 a1 a2 o0_0 w1 w2
  clear hA0 hval0 hsz0 hsz
  refine (laws_FnExactChangedIn.calls k _ _ x0.f0 a1 a2 true W hr0_0 hc0_0 hP).mono ?_
  rintro e W' ⟨rfl, hd⟩
  have bel : Below W.heap.size W W' := hd
  exact ⟨_, rfl, _, _, _, [], _, [], hW', trodAll_mk1 (shut_bool Try.underlying4 _), (trodAll_cons_mk (Below.trod laidOut (by kernel_rfl) (of_decide_eq_true (by kernel_rfl)) kk0 bel lt0) (trodAll_cons_mk (shut_int Try.underlying3 w1) (trodAll_cons_mk (shut_int Try.underlying3 w2) trodAll_mk0))), rfl, bel.frame _, fun h => by cases h⟩
theorem over : Rows.fnExactChangedInRow.holds Try.pinned (OpenSpec.ofChange Rows.fnExactChangedInSpec) :=
  OpenClaim.holds_of_wide 10 Try.f10 rfl rfl rfl rfl rfl rfl rfl ⟨rfl, rfl, rfl, rfl, rfl⟩ rfl rfl rfl rfl rfl (by kernel_rfl) Try.func10 (by kernel_rfl)
    (of_decide_eq_true (by kernel_rfl)) (by unfold Func.isWrapper; first | (rw [if_pos (by decide +kernel)]; kernel_rfl) | (rw [if_neg (by decide +kernel)]; exact ⟨rfl, rfl⟩))
    (fun os started H enc _ => lifted os started H enc)
theorem proved : Rows.FnExactChangedInSaid := over
#print axioms proved
end Go.Proofs.Ytleklbmodelehaa.fnExactChangedIn
namespace Go.Proofs.Ytleklbmodelehaa
/-- The row, under a short name, for the claim. -/
theorem fnExactChangedIn_holds : Rows.FnExactChangedInSaid := fnExactChangedIn.proved
end Go.Proofs.Ytleklbmodelehaa

/- The law FnExactPutStretch: for every input the call returns true, and each argument reads afterwards as it read before. No condition. -/
import Derived.Test.YtcoceoplnehmcaaRows
import Derived.Test.YtcoceoplnehmcaaPFnExactPutStretchx6
import Derived.Test.YtcoceoplnehmcaaPureFnExactPutStretch
import Derived.Test.YtcoceoplnehmcaaOpen
import Derived.WalkKit
import Derived.ProofKit
import Derived.OpenShut
import Derived.ShutString
import Derived.ChangeOld
import Derived.Below
import Derived.SizedLaws
import Derived.Test.YtcoceoplnehmcaaWSized
namespace Go.Proofs.Ytcoceoplnehmcaa.fnExactPutStretch
open Go.ChangeShapes Go.WideShapes Go.ChangeAt Go.RowKit Go.Proofs.Ytcoceoplnehmcaa.PFnExactPutStretch Go.Proofs.YtcoceoplnehmcaaW.PrintWords Go.Proofs.Ytcoceoplnehmcaa.Open
open Go.ChangeMaps (open_string shut_string)
set_option linter.unusedVariables false
set_option linter.unusedSimpArgs false
theorem own : ownKnob Try.prog.godebug = none := by kernel_rfl
theorem laidOut : laidOutB Try.prog = true := by kernel_rfl
theorem opens3 : Opens Try.prog 3 (Kd.int .i64) (fun (x_ : Int) => (Lit.int .i64 x_).wf = true) := opens_int Try.underlying3
theorem opens45 : Opens Try.prog 45 k45 ok45 := opens_struct Try.underlying45 (by kernel_rfl) (opensF_iso (opensF_cons opens3 (by kernel_rfl) rfl (opensF_cons opens3 (by kernel_rfl) rfl (opensF_one opens3 (by kernel_rfl) rfl))) (fun x => ⟨⟨x.1, x.2.1, x.2.2⟩, rfl⟩))
theorem opens22 : Opens Try.prog 22 (Kd.slice 45 k45) (fun (x_ : List (S45)) => (x_.length * 24 ≤ 140737488351232 ∧ ∀ y_ ∈ x_, ok45 y_)) := opens_slice Try.underlying22 opens45 (by kernel_rfl) (by kernel_rfl)
set_option maxRecDepth 100000 in
theorem lifted (os : Os) (started : os.Started) (H : Type) (enc : TypeId × Value → H) :
    ReturnsInHanded {} Try.checked os 8 .any (Rows.fnExactPutStretchSpec.pre6 enc Try.prog Try.f8 Rows.fnExactPutStretchRow.domain false) (Rows.fnExactPutStretchSpec.post enc Try.prog Try.f8 false true false false) := by
  refine returnsInHanded_of_change_sized (C := Try.checked) own started (by kernel_rfl) Try.func8
    (ChangeSpec.witness6 (enc := enc) (C := Try.checked) false ⟨#[], #[.slice none 0 0, .agg #[.int .i64 0, .int .i64 0, .int .i64 0]], []⟩ 8 (by kernel_rfl) (by kernel_rfl) (by kernel_rfl) (by kernel_rfl)) ?_
  intro W base args ds gs before hval0 hW hcnd hsz0 _
  have hsz : (DataW.weightsEach Try.prog (Try.f8.params.toList ++ Rows.fnExactPutStretchSpec.plain.varTypes Try.prog) (ds ++ gs)).all (· ≤ reachBytes) = true := hsz0
  have hval : ∀ (j : Nat) t v, Try.f8.params[j]? = some t → args[j]? = some v → Value.okWide Try.prog W .any base t v := hval0
  have hW' := hW
  obtain ⟨p, q, hA0, hV, rfl, hfz, hnd⟩ := hW
  have hA : DataW.TrodAll enc Try.prog W 0 (fun _ => true) true Try.f8.params.toList args.toList ds p := hA0
  rw [Try.params8] at hA hval hsz
  obtain ⟨v0, vs0, d0, ds0, p0, q0, hargs, rfl, rfl, h0, r0⟩ := trodAll_cons hA
  obtain ⟨v1, vs1, d1, ds1, p1, q1, rfl, rfl, rfl, h1, r1⟩ := trodAll_cons r0
  obtain ⟨rfl, rfl, rfl⟩ := trodAll_nil r1
  obtain rfl : args = #[v0, v1] := by cases args; simp_all
  obtain ⟨rfl, rfl⟩ := trodVars_none hV
  have wt0 := weights_of hsz (j := 0) (t := 22) (d := d0) rfl rfl
  have kk0 := h0
  have lt0 : ∀ x ∈ p0, x.block < W.heap.size := by obtain ⟨m, hm⟩ := kk0; exact DataW.trod_lt m _ _ _ hm
  obtain ⟨ad0, len0, cap0, rfl⟩ := okWide_slice Try.underlying22 (hval 0 22 v0 rfl rfl)
  obtain ⟨l0, hk0, ok0⟩ := opens22.at_ h0 wt0
  obtain ⟨A0, c0, he0, hc0, hr0⟩ := hk0
  simp only [Value.cells, List.cons.injEq, Value.slice.injEq, and_true] at he0
  obtain ⟨rfl, rfl, rfl⟩ := he0
  have wt1 := weights_of hsz (j := 1) (t := 45) (d := d1) rfl rfl
  have kk1 := h1
  have lt1 : ∀ x ∈ p1, x.block < W.heap.size := by obtain ⟨m, hm⟩ := kk1; exact DataW.trod_lt m _ _ _ hm
  obtain ⟨cs1, rfl, hsz1⟩ := okWide_struct Try.underlying45 (hval 1 45 v1 rfl rfl)
  obtain ⟨x1, hk1, ok1⟩ := opens45.at_ h1 wt1
  have he1 := k45_open hk1
  obtain rfl : cs1 = #[.int .i64 (x1.f0), .int .i64 (x1.f1), .int .i64 (x1.f2)] := arr_of he1
  obtain ⟨o1_0, o1_1, o1_2⟩ := ok1
  obtain ⟨k, hP⟩ := Pure.FnExactPutStretch l0 x1.f0 x1.f1 x1.f2 ok0 o1_0 o1_1 o1_2
  clear hA0 hval0 hsz0 hsz
  refine (laws_FnExactPutStretch.calls k _ _ l0 x1.f0 x1.f1 x1.f2 true W hr0 hc0 hP).mono ?_
  rintro e W' ⟨rfl, hd⟩
  have bel : Below W.heap.size W W' := hd
  exact ⟨_, rfl, _, _, _, [], _, [], hW', trodAll_mk1 (shut_bool Try.underlying4 _), (trodAll_cons_mk (Below.trod laidOut (by kernel_rfl) (of_decide_eq_true (by kernel_rfl)) kk0 bel lt0) (trodAll_cons_mk (Below.trod laidOut (by kernel_rfl) (of_decide_eq_true (by kernel_rfl)) kk1 bel lt1) trodAll_mk0)), rfl, bel.frame _, fun h => by cases h⟩
theorem over : Rows.fnExactPutStretchRow.holds Try.pinned (OpenSpec.ofChange Rows.fnExactPutStretchSpec) :=
  OpenClaim.holds_of_wide 8 Try.f8 rfl rfl rfl rfl rfl rfl rfl ⟨rfl, rfl, rfl, rfl, rfl⟩ rfl rfl rfl rfl rfl (by kernel_rfl) Try.func8 (by kernel_rfl)
    (of_decide_eq_true (by kernel_rfl)) (by unfold Func.isWrapper; first | (rw [if_pos (by decide +kernel)]; kernel_rfl) | (rw [if_neg (by decide +kernel)]; exact ⟨rfl, rfl⟩))
    (fun os started H enc _ => lifted os started H enc)
theorem proved : Rows.FnExactPutStretchSaid := over
#print axioms proved
end Go.Proofs.Ytcoceoplnehmcaa.fnExactPutStretch
namespace Go.Proofs.Ytcoceoplnehmcaa
/-- The row, under a short name, for the claim. -/
theorem fnExactPutStretch_holds : Rows.FnExactPutStretchSaid := fnExactPutStretch.proved
end Go.Proofs.Ytcoceoplnehmcaa

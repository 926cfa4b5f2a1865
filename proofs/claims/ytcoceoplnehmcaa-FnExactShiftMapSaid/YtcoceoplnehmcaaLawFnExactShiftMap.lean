/- The law FnExactShiftMap: for every input the call returns true, and each argument reads afterwards as it read before. No condition. -/
import Derived.Test.YtcoceoplnehmcaaRows
import Derived.Test.YtcoceoplnehmcaaPFnExactShiftMapx6
import Derived.Test.YtcoceoplnehmcaaPureFnExactShiftMap
import Derived.Test.YtcoceoplnehmcaaOpen
import Derived.WalkKit
import Derived.ProofKit
import Derived.OpenShut
import Derived.ShutString
import Derived.ChangeOld
import Derived.Below
import Derived.SizedLaws
import Derived.Test.YtcoceoplnehmcaaWSized
namespace Go.Proofs.Ytcoceoplnehmcaa.fnExactShiftMap
open Go.ChangeShapes Go.WideShapes Go.ChangeAt Go.RowKit Go.Proofs.Ytcoceoplnehmcaa.PFnExactShiftMap Go.Proofs.YtcoceoplnehmcaaW.PrintWords Go.Proofs.Ytcoceoplnehmcaa.Open
open Go.ChangeMaps (open_string shut_string)
set_option linter.unusedVariables false
set_option linter.unusedSimpArgs false
theorem own : ownKnob Try.prog.godebug = none := by kernel_rfl
theorem laidOut : laidOutB Try.prog = true := by kernel_rfl
theorem opens3 : Opens Try.prog 3 (Kd.int .i64) (fun (x_ : Int) => (Lit.int .i64 x_).wf = true) := opens_int Try.underlying3
theorem opens45 : Opens Try.prog 45 k45 ok45 := opens_struct Try.underlying45 (by kernel_rfl) (opensF_iso (opensF_cons opens3 (by kernel_rfl) rfl (opensF_cons opens3 (by kernel_rfl) rfl (opensF_one opens3 (by kernel_rfl) rfl))) (fun x => ⟨⟨x.1, x.2.1, x.2.2⟩, rfl⟩))
theorem opens22 : Opens Try.prog 22 (Kd.slice 45 k45) (fun (x_ : List (S45)) => (x_.length * 24 ≤ 140737488351232 ∧ ∀ y_ ∈ x_, ok45 y_)) := opens_slice Try.underlying22 opens45 (by kernel_rfl) (by kernel_rfl)
set_option maxRecDepth 100000 in
theorem lifted (os : Os) (started : os.Started) (H : Type) (enc : TypeId × Value → H) :
    ReturnsInHanded {} Try.checked os 10 .any (Rows.fnExactShiftMapSpec.pre6 enc Try.prog Try.f10 Rows.fnExactShiftMapRow.domain false) (Rows.fnExactShiftMapSpec.post enc Try.prog Try.f10 false true false false) := by
  refine returnsInHanded_of_change_sized (C := Try.checked) own started (by kernel_rfl) Try.func10
    (ChangeSpec.witness6 (enc := enc) (C := Try.checked) false ⟨#[], #[.slice none 0 0, .int .i64 0, .int .i64 0, .int .i64 0], []⟩ 8 (by kernel_rfl) (by kernel_rfl) (by kernel_rfl) (by kernel_rfl)) ?_
  intro W base args ds gs before hval0 hW hcnd hsz0 _
  have hsz : (DataW.weightsEach Try.prog (Try.f10.params.toList ++ Rows.fnExactShiftMapSpec.plain.varTypes Try.prog) (ds ++ gs)).all (· ≤ reachBytes) = true := hsz0
  have hval : ∀ (j : Nat) t v, Try.f10.params[j]? = some t → args[j]? = some v → Value.okWide Try.prog W .any base t v := hval0
  have hW' := hW
  obtain ⟨p, q, hA0, hV, rfl, hfz, hnd⟩ := hW
  have hA : DataW.TrodAll enc Try.prog W 0 (fun _ => true) true Try.f10.params.toList args.toList ds p := hA0
  rw [Try.params10] at hA hval hsz
  obtain ⟨v0, vs0, d0, ds0, p0, q0, hargs, rfl, rfl, h0, r0⟩ := trodAll_cons hA
  obtain ⟨v1, vs1, d1, ds1, p1, q1, rfl, rfl, rfl, h1, r1⟩ := trodAll_cons r0
  obtain ⟨v2, vs2, d2, ds2, p2, q2, rfl, rfl, rfl, h2, r2⟩ := trodAll_cons r1
  obtain ⟨v3, vs3, d3, ds3, p3, q3, rfl, rfl, rfl, h3, r3⟩ := trodAll_cons r2
  obtain ⟨rfl, rfl, rfl⟩ := trodAll_nil r3
  obtain rfl : args = #[v0, v1, v2, v3] := by cases args; simp_all
  obtain ⟨rfl, rfl⟩ := trodVars_none hV
  have wt0 := weights_of hsz (j := 0) (t := 22) (d := d0) rfl rfl
  have kk0 := h0
  have lt0 : ∀ x ∈ p0, x.block < W.heap.size := by obtain ⟨m, hm⟩ := kk0; exact DataW.trod_lt m _ _ _ hm
  obtain ⟨ad0, len0, cap0, rfl⟩ := okWide_slice Try.underlying22 (hval 0 22 v0 rfl rfl)
  obtain ⟨l0, hk0, ok0⟩ := opens22.at_ h0 wt0
  obtain ⟨A0, c0, he0, hc0, hr0⟩ := hk0
  simp only [Value.cells, List.cons.injEq, Value.slice.injEq, and_true] at he0
  obtain ⟨rfl, rfl, rfl⟩ := he0
  have wt1 := weights_of hsz (j := 1) (t := 3) (d := d1) rfl rfl
  obtain ⟨a1, rfl, rfl, rfl, w1⟩ := open_int Try.underlying3 (hval 1 3 v1 rfl rfl) h1
  have wt2 := weights_of hsz (j := 2) (t := 3) (d := d2) rfl rfl
  obtain ⟨a2, rfl, rfl, rfl, w2⟩ := open_int Try.underlying3 (hval 2 3 v2 rfl rfl) h2
  have wt3 := weights_of hsz (j := 3) (t := 3) (d := d3) rfl rfl
  obtain ⟨a3, rfl, rfl, rfl, w3⟩ := open_int Try.underlying3 (hval 3 3 v3 rfl rfl) h3
  obtain ⟨k, hP⟩ := Pure.FnExactShiftMap l0 a1 a2 a3 ok0 w1 w2 w3
  clear hA0 hval0 hsz0 hsz
  refine (laws_FnExactShiftMap.calls k _ _ l0 a1 a2 a3 true W hr0 hc0 hP).mono ?_
  rintro e W' ⟨rfl, hd⟩
  have bel : Below W.heap.size W W' := hd
  exact ⟨_, rfl, _, _, _, [], _, [], hW', trodAll_mk1 (shut_bool Try.underlying4 _), (trodAll_cons_mk (Below.trod laidOut (by kernel_rfl) (of_decide_eq_true (by kernel_rfl)) kk0 bel lt0) (trodAll_cons_mk (shut_int Try.underlying3 w1) (trodAll_cons_mk (shut_int Try.underlying3 w2) (trodAll_cons_mk (shut_int Try.underlying3 w3) trodAll_mk0)))), rfl, bel.frame _, fun h => by cases h⟩
theorem over : Rows.fnExactShiftMapRow.holds Try.pinned (OpenSpec.ofChange Rows.fnExactShiftMapSpec) :=
  OpenClaim.holds_of_wide 10 Try.f10 rfl rfl rfl rfl rfl rfl rfl ⟨rfl, rfl, rfl, rfl, rfl⟩ rfl rfl rfl rfl rfl (by kernel_rfl) Try.func10 (by kernel_rfl)
    (of_decide_eq_true (by kernel_rfl)) (by unfold Func.isWrapper; first | (rw [if_pos (by decide +kernel)]; kernel_rfl) | (rw [if_neg (by decide +kernel)]; exact ⟨rfl, rfl⟩))
    (fun os started H enc _ => lifted os started H enc)
theorem proved : Rows.FnExactShiftMapSaid := over
#print axioms proved
end Go.Proofs.Ytcoceoplnehmcaa.fnExactShiftMap
namespace Go.Proofs.Ytcoceoplnehmcaa
/-- The row, under a short name, for the claim. -/
theorem fnExactShiftMap_holds : Rows.FnExactShiftMapSaid := fnExactShiftMap.proved
end Go.Proofs.Ytcoceoplnehmcaa

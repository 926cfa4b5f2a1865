/- The law FnExactRecordFor: for every input the call returns true, and each argument reads afterwards as it read before. No condition. -/
import Derived.Test.YtknngaomlfdhiaaRows
import Derived.Test.YtknngaomlfdhiaaPFnExactRecordForx2
import Derived.Test.YtknngaomlfdhiaaPureFnExactRecordFor
import Derived.Test.YtknngaomlfdhiaaOpen
import Derived.WalkKit
import Derived.ProofKit
import Derived.OpenShut
import Derived.ShutString
import Derived.ChangeOld
import Derived.Below
import Derived.SizedLaws
import Derived.Test.YtknngaomlfdhiaaWSized
namespace Go.Proofs.Ytknngaomlfdhiaa.fnExactRecordFor
open Go.ChangeShapes Go.WideShapes Go.ChangeAt Go.RowKit Go.Proofs.Ytknngaomlfdhiaa.PFnExactRecordFor Go.Proofs.YtknngaomlfdhiaaW.PrintWords Go.Proofs.Ytknngaomlfdhiaa.Open
open Go.ChangeMaps (open_string shut_string)
set_option linter.unusedVariables false
set_option linter.unusedSimpArgs false
theorem own : ownKnob Try.prog.godebug = none := by kernel_rfl
theorem laidOut : laidOutB Try.prog = true := by kernel_rfl
theorem opens3 : Opens Try.prog 3 (Kd.int .i64) (fun (x_ : Int) => (Lit.int .i64 x_).wf = true) := opens_int Try.underlying3
theorem opens9 : Opens Try.prog 9 Kd.string (fun (x_ : ByteArray) => x_.size ≤ 140737488351232) := opens_string Try.underlying9
theorem opens47 : Opens Try.prog 47 k47 ok47 := opens_struct Try.underlying47 (by kernel_rfl) (opensF_iso (opensF_cons opens3 (by kernel_rfl) rfl (opensF_cons opens3 (by kernel_rfl) rfl (opensF_cons opens3 (by kernel_rfl) rfl (opensF_cons opens9 (by kernel_rfl) rfl (opensF_one opens3 (by kernel_rfl) rfl))))) (fun x => ⟨⟨x.1, x.2.1, x.2.2.1, x.2.2.2.1, x.2.2.2.2⟩, rfl⟩))
set_option maxRecDepth 100000 in
theorem lifted (os : Os) (started : os.Started) (H : Type) (enc : TypeId × Value → H) :
    ReturnsInHanded {} Try.checked os 12 .any (Rows.fnExactRecordForSpec.pre6 enc Try.prog Try.f12 Rows.fnExactRecordForRow.domain false) (Rows.fnExactRecordForSpec.post enc Try.prog Try.f12 false true false false) := by
  refine returnsInHanded_of_change_sized (C := Try.checked) own started (by kernel_rfl) Try.func12
    (ChangeSpec.witness6 (enc := enc) (C := Try.checked) false ⟨#[], #[.agg #[.int .i64 0, .int .i64 0, .int .i64 0, .string ByteArray.empty, .int .i64 0]], []⟩ 8 (by kernel_rfl) (by kernel_rfl) (by kernel_rfl) (by kernel_rfl)) ?_
  intro W base args ds gs before hval0 hW hcnd hsz0 _
  have hsz : (DataW.weightsEach Try.prog (Try.f12.params.toList ++ Rows.fnExactRecordForSpec.plain.varTypes Try.prog) (ds ++ gs)).all (· ≤ reachBytes) = true := hsz0
  have hval : ∀ (j : Nat) t v, Try.f12.params[j]? = some t → args[j]? = some v → Value.okWide Try.prog W .any base t v := hval0
  have hW' := hW
  obtain ⟨p, q, hA0, hV, rfl, hfz, hnd⟩ := hW
  have hA : DataW.TrodAll enc Try.prog W 0 (fun _ => true) true Try.f12.params.toList args.toList ds p := hA0
  rw [Try.params12] at hA hval hsz
  obtain ⟨v0, vs0, d0, ds0, p0, q0, hargs, rfl, rfl, h0, r0⟩ := trodAll_cons hA
  obtain ⟨rfl, rfl, rfl⟩ := trodAll_nil r0
  obtain rfl : args = #[v0] := by cases args; simp_all
  obtain ⟨rfl, rfl⟩ := trodVars_none hV
  have wt0 := weights_of hsz (j := 0) (t := 47) (d := d0) rfl rfl
  have kk0 := h0
  have lt0 : ∀ x ∈ p0, x.block < W.heap.size := by obtain ⟨m, hm⟩ := kk0; exact DataW.trod_lt m _ _ _ hm
  obtain ⟨cs0, rfl, hsz0⟩ := okWide_struct Try.underlying47 (hval 0 47 v0 rfl rfl)
  obtain ⟨x0, hk0, ok0⟩ := opens47.at_ h0 wt0
  have he0 := k47_open hk0
  obtain rfl : cs0 = #[.int .i64 (x0.f0), .int .i64 (x0.f1), .int .i64 (x0.f2), .string (x0.f3), .int .i64 (x0.f4)] := arr_of he0
  obtain ⟨o0_0, o0_1, o0_2, o0_3, o0_4⟩ := ok0
  obtain ⟨k, hP⟩ := Pure.FnExactRecordFor x0.f0 x0.f1 x0.f2 x0.f3 x0.f4 o0_0 o0_1 o0_2 o0_3 o0_4
  clear hA0 hval0 hsz0 hsz
  refine (laws_FnExactRecordFor.calls k x0.f0 x0.f1 x0.f2 x0.f3 x0.f4 true W  hP).mono ?_
  rintro e W' ⟨rfl, hd⟩
  have bel : Below W.heap.size W W' := hd
  exact ⟨_, rfl, _, _, _, [], _, [], hW', trodAll_mk1 (shut_bool Try.underlying4 _), (trodAll_cons_mk (Below.trod laidOut (by kernel_rfl) (of_decide_eq_true (by kernel_rfl)) kk0 bel lt0) trodAll_mk0), rfl, bel.frame _, fun h => by cases h⟩
theorem over : Rows.fnExactRecordForRow.holds Try.pinned (OpenSpec.ofChange Rows.fnExactRecordForSpec) :=
  OpenClaim.holds_of_wide 12 Try.f12 rfl rfl rfl rfl rfl rfl rfl ⟨rfl, rfl, rfl, rfl, rfl⟩ rfl rfl rfl rfl rfl (by kernel_rfl) Try.func12 (by kernel_rfl)
    (of_decide_eq_true (by kernel_rfl)) (by unfold Func.isWrapper; first | (rw [if_pos (by decide +kernel)]; kernel_rfl) | (rw [if_neg (by decide +kernel)]; exact ⟨rfl, rfl⟩))
    (fun os started H enc _ => lifted os started H enc)
theorem proved : Rows.FnExactRecordForSaid := over
#print axioms proved
end Go.Proofs.Ytknngaomlfdhiaa.fnExactRecordFor
namespace Go.Proofs.Ytknngaomlfdhiaa
/-- The row, under a short name, for the claim. -/
theorem fnExactRecordFor_holds : Rows.FnExactRecordForSaid := fnExactRecordFor.proved
end Go.Proofs.Ytknngaomlfdhiaa

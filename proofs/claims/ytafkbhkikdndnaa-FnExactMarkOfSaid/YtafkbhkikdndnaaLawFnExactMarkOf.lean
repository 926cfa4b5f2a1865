/- The law FnExactMarkOf: for every input the call returns true, and each argument reads afterwards as it read before. No condition. -/
import Derived.Test.YtafkbhkikdndnaaRows
import Derived.Test.YtafkbhkikdndnaaPFnExactMarkOfx6
import Derived.Test.YtafkbhkikdndnaaPureFnExactMarkOf
import Derived.Test.YtafkbhkikdndnaaOpen
import Derived.WalkKit
import Derived.ProofKit
import Derived.OpenShut
import Derived.ShutString
import Derived.ChangeOld
import Derived.Below
import Derived.SizedLaws
import Derived.Test.YtafkbhkikdndnaaWSized
namespace Go.Proofs.Ytafkbhkikdndnaa.fnExactMarkOf
open Go.ChangeShapes Go.WideShapes Go.ChangeAt Go.RowKit Go.Proofs.Ytafkbhkikdndnaa.PFnExactMarkOf Go.Proofs.YtafkbhkikdndnaaW.PrintWords Go.Proofs.Ytafkbhkikdndnaa.Open
open Go.ChangeMaps (open_string shut_string)
set_option linter.unusedVariables false
set_option linter.unusedSimpArgs false
theorem own : ownKnob Try.prog.godebug = none := by kernel_rfl
theorem laidOut : laidOutB Try.prog = true := by kernel_rfl
theorem opens9 : Opens Try.prog 9 Kd.string (fun (x_ : ByteArray) => x_.size ≤ 140737488351232) := opens_string Try.underlying9
theorem opens46 : Opens Try.prog 46 (Kd.slice 9 Kd.string) (fun (x_ : List ByteArray) => (x_.length * 16 ≤ 140737488351232 ∧ ∀ y_ ∈ x_, y_.size ≤ 140737488351232)) := opens_slice Try.underlying46 opens9 (by kernel_rfl) (by kernel_rfl)
theorem opens3 : Opens Try.prog 3 (Kd.int .i64) (fun (x_ : Int) => (Lit.int .i64 x_).wf = true) := opens_int Try.underlying3
theorem opens141 : Opens Try.prog 141 k141 ok141 := opens_struct Try.underlying141 (by kernel_rfl) (opensF_iso (opensF_cons opens3 (by kernel_rfl) rfl (opensF_cons opens3 (by kernel_rfl) rfl (opensF_cons opens3 (by kernel_rfl) rfl (opensF_one opens9 (by kernel_rfl) rfl)))) (fun x => ⟨⟨x.1, x.2.1, x.2.2.1, x.2.2.2⟩, rfl⟩))
theorem opens54 : Opens Try.prog 54 (Kd.slice 141 k141) (fun (x_ : List (S141)) => (x_.length * 40 ≤ 140737488351232 ∧ ∀ y_ ∈ x_, ok141 y_)) := opens_slice Try.underlying54 opens141 (by kernel_rfl) (by kernel_rfl)
theorem opens56 : Opens Try.prog 56 k56 ok56 := opens_struct Try.underlying56 (by kernel_rfl) (opensF_iso (opensF_cons opens46 (by kernel_rfl) rfl (opensF_cons opens3 (by kernel_rfl) rfl (opensF_cons opens54 (by kernel_rfl) rfl (opensF_one opens3 (by kernel_rfl) rfl)))) (fun x => ⟨⟨x.1, x.2.1, x.2.2.1, x.2.2.2⟩, rfl⟩))
set_option maxRecDepth 100000 in
theorem lifted (os : Os) (started : os.Started) (H : Type) (enc : TypeId × Value → H) :
    ReturnsInHanded {} Try.checked os 11 .any (Rows.fnExactMarkOfSpec.pre6 enc Try.prog Try.f11 Rows.fnExactMarkOfRow.domain false) (Rows.fnExactMarkOfSpec.post enc Try.prog Try.f11 false true false false) := by
  refine returnsInHanded_of_change_sized (C := Try.checked) own started (by kernel_rfl) Try.func11
    (ChangeSpec.witness6 (enc := enc) (C := Try.checked) false ⟨#[], #[.agg #[.slice none 0 0, .int .i64 0, .slice none 0 0, .int .i64 0]], []⟩ 8 (by kernel_rfl) (by kernel_rfl) (by kernel_rfl) (by kernel_rfl)) ?_
  intro W base args ds gs before hval0 hW hcnd hsz0 _
  have hsz : (DataW.weightsEach Try.prog (Try.f11.params.toList ++ Rows.fnExactMarkOfSpec.plain.varTypes Try.prog) (ds ++ gs)).all (· ≤ reachBytes) = true := hsz0
  have hval : ∀ (j : Nat) t v, Try.f11.params[j]? = some t → args[j]? = some v → Value.okWide Try.prog W .any base t v := hval0
  have hW' := hW
  obtain ⟨p, q, hA0, hV, rfl, hfz, hnd⟩ := hW
  have hA : DataW.TrodAll enc Try.prog W 0 (fun _ => true) true Try.f11.params.toList args.toList ds p := hA0
  rw [Try.params11] at hA hval hsz
  obtain ⟨v0, vs0, d0, ds0, p0, q0, hargs, rfl, rfl, h0, r0⟩ := trodAll_cons hA
  obtain ⟨rfl, rfl, rfl⟩ := trodAll_nil r0
  obtain rfl : args = #[v0] := by cases args; simp_all
  obtain ⟨rfl, rfl⟩ := trodVars_none hV
  have wt0 := weights_of hsz (j := 0) (t := 56) (d := d0) rfl rfl
  have kk0 := h0
  have lt0 : ∀ x ∈ p0, x.block < W.heap.size := by obtain ⟨m, hm⟩ := kk0; exact DataW.trod_lt m _ _ _ hm
  obtain ⟨cs0, rfl, hsz0⟩ := okWide_struct Try.underlying56 (hval 0 56 v0 rfl rfl)
  obtain ⟨x0, hk0, ok0⟩ := opens56.at_ h0 wt0
  obtain ⟨A0_0, c0_0, A0_2, c0_2, he0, hc0_0, hr0_0, hc0_2, hr0_2⟩ := k56_open hk0
  obtain rfl : cs0 = #[.slice A0_0 (x0.f0).length c0_0, .int .i64 (x0.f1), .slice A0_2 (x0.f2).length c0_2, .int .i64 (x0.f3)] := arr_of he0
  obtain ⟨o0_0, o0_1, o0_2, o0_3⟩ := ok0
  obtain ⟨k, hP⟩ := Pure.FnExactMarkOf x0.f0 x0.f1 x0.f2 x0.f3 o0_0 o0_1 o0_2 o0_3
  clear hA0 hval0 hsz0 hsz
  refine (laws_FnExactMarkOf.calls k _ _ x0.f0 x0.f1 _ _ x0.f2 x0.f3 true W hr0_0 hc0_0 hr0_2 hc0_2 hP).mono ?_
  rintro e W' ⟨rfl, hd⟩
  have bel : Below W.heap.size W W' := hd
  exact ⟨_, rfl, _, _, _, [], _, [], hW', trodAll_mk1 (shut_bool Try.underlying4 _), (trodAll_cons_mk (Below.trod laidOut (by kernel_rfl) (of_decide_eq_true (by kernel_rfl)) kk0 bel lt0) trodAll_mk0), rfl, bel.frame _, fun h => by cases h⟩
theorem over : Rows.fnExactMarkOfRow.holds Try.pinned (OpenSpec.ofChange Rows.fnExactMarkOfSpec) :=
  OpenClaim.holds_of_wide 11 Try.f11 rfl rfl rfl rfl rfl rfl rfl ⟨rfl, rfl, rfl, rfl, rfl⟩ rfl rfl rfl rfl rfl (by kernel_rfl) Try.func11 (by kernel_rfl)
    (of_decide_eq_true (by kernel_rfl)) (by unfold Func.isWrapper; first | (rw [if_pos (by decide +kernel)]; kernel_rfl) | (rw [if_neg (by decide +kernel)]; exact ⟨rfl, rfl⟩))
    (fun os started H enc _ => lifted os started H enc)
theorem proved : Rows.FnExactMarkOfSaid := over
#print axioms proved
end Go.Proofs.Ytafkbhkikdndnaa.fnExactMarkOf
namespace Go.Proofs.Ytafkbhkikdndnaa
/-- The row, under a short name, for the claim. -/
theorem fnExactMarkOf_holds : Rows.FnExactMarkOfSaid := fnExactMarkOf.proved
end Go.Proofs.Ytafkbhkikdndnaa

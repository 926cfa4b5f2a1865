/- The law FnExactFirstOpen: for every input the call returns true, and each argument reads afterwards as it read before. No condition. -/
import Derived.Test.YtafkbhkikdndnaaRows
import Derived.Test.YtafkbhkikdndnaaPFnExactFirstOpenx7
import Derived.Test.YtafkbhkikdndnaaPureFnExactFirstOpen
import Derived.Test.YtafkbhkikdndnaaCutFnExactFirstOpen
import Derived.WalkKit
import Derived.ProofKit
import Derived.OpenShut
import Derived.ShutString
import Derived.ChangeOld
import Derived.Below
import Derived.SizedLaws
namespace Go.Proofs.Ytafkbhkikdndnaa.fnExactFirstOpen
open Go.ChangeShapes Go.WideShapes Go.ChangeAt Go.RowKit Go.Proofs.Ytafkbhkikdndnaa.PFnExactFirstOpen Go.Proofs.YtafkbhkikdndnaaW.PrintWords Go.Proofs.Ytafkbhkikdndnaa.Open
open Go.ChangeMaps (open_string shut_string)
set_option linter.unusedVariables false
set_option linter.unusedSimpArgs false
theorem own : ownKnob Try.prog.godebug = none := by kernel_rfl
theorem laidOut : laidOutB Try.prog = true := by kernel_rfl
theorem opens9 : Opens Try.prog 9 Kd.string (fun (x_ : ByteArray) => x_.size ≤ 140737488351232) := opens_string Try.underlying9
theorem opens46 : Opens Try.prog 46 (Kd.slice 9 Kd.string) (fun (x_ : List ByteArray) => (x_.length * 16 ≤ 140737488351232 ∧ ∀ y_ ∈ x_, y_.size ≤ 140737488351232)) := opens_slice Try.underlying46 opens9 (by kernel_rfl) (by kernel_rfl)
theorem opens3 : Opens Try.prog 3 (Kd.int .i64) (fun (x_ : Int) => (Lit.int .i64 x_).wf = true) := opens_int Try.underlying3
theorem opens4 : Opens Try.prog 4 Kd.bool (fun (x_ : Bool) => True) := opens_bool Try.underlying4
theorem opens63 : Opens Try.prog 63 (Kd.slice 4 Kd.bool) (fun (x_ : List Bool) => (x_.length * 1 ≤ 140737488351232 ∧ ∀ y_ ∈ x_, True)) := opens_slice Try.underlying63 opens4 (by kernel_rfl) (by kernel_rfl)
theorem opens150 : Opens Try.prog 150 k150 ok150 := opens_struct Try.underlying150 (by kernel_rfl) (opensF_iso (opensF_cons opens4 (by kernel_rfl) rfl (opensF_cons opens3 (by kernel_rfl) rfl (opensF_one opens9 (by kernel_rfl) rfl))) (fun x => ⟨⟨x.1, x.2.1, x.2.2⟩, rfl⟩))
theorem opens74 : Opens Try.prog 74 (Kd.slice 150 k150) (fun (x_ : List (S150)) => (x_.length * 32 ≤ 140737488351232 ∧ ∀ y_ ∈ x_, ok150 y_)) := opens_slice Try.underlying74 opens150 (by kernel_rfl) (by kernel_rfl)
theorem opens76 : Opens Try.prog 76 k76 ok76 := opens_struct Try.underlying76 (by kernel_rfl) (opensF_iso (opensF_cons opens46 (by kernel_rfl) rfl (opensF_cons opens3 (by kernel_rfl) rfl (opensF_cons opens63 (by kernel_rfl) rfl (opensF_cons opens74 (by kernel_rfl) rfl (opensF_cons opens46 (by kernel_rfl) rfl (opensF_cons opens63 (by kernel_rfl) rfl (opensF_one opens3 (by kernel_rfl) rfl))))))) (fun x => ⟨⟨x.1, x.2.1, x.2.2.1, x.2.2.2.1, x.2.2.2.2.1, x.2.2.2.2.2.1, x.2.2.2.2.2.2⟩, rfl⟩))
set_option maxRecDepth 100000 in
theorem lifted (os : Os) (started : os.Started) (H : Type) (enc : TypeId × Value → H) :
    ReturnsInHanded {} Try.checked os 14 .any (Rows.fnExactFirstOpenSpec.pre6 enc Try.prog Try.f14 Rows.fnExactFirstOpenRow.domain false) (Rows.fnExactFirstOpenSpec.post enc Try.prog Try.f14 false true false false) := by
  refine returnsInHanded_of_change_sized (C := Try.checked) own started (by kernel_rfl) Try.func14
    (ChangeSpec.witness6 (enc := enc) (C := Try.checked) false ⟨#[], #[.agg #[.slice none 0 0, .int .i64 0, .slice none 0 0, .slice none 0 0, .slice none 0 0, .slice none 0 0, .int .i64 0]], []⟩ 8 (by kernel_rfl) (by kernel_rfl) (by kernel_rfl) (by kernel_rfl)) ?_
  intro W base args ds gs before hval0 hW hcnd hsz0 _
  have hsz : (DataW.weightsEach Try.prog (Try.f14.params.toList ++ Rows.fnExactFirstOpenSpec.plain.varTypes Try.prog) (ds ++ gs)).all (· ≤ reachBytes) = true := hsz0
  have hval : ∀ (j : Nat) t v, Try.f14.params[j]? = some t → args[j]? = some v → Value.okWide Try.prog W .any base t v := hval0
  have hW' := hW
  obtain ⟨p, q, hA0, hV, rfl, hfz, hnd⟩ := hW
  have hA : DataW.TrodAll enc Try.prog W 0 (fun _ => true) true Try.f14.params.toList args.toList ds p := hA0
  rw [Try.params14] at hA hval hsz
  obtain ⟨v0, vs0, d0, ds0, p0, q0, hargs, rfl, rfl, h0, r0⟩ := trodAll_cons hA
  obtain ⟨rfl, rfl, rfl⟩ := trodAll_nil r0
  obtain rfl : args = #[v0] := by cases args; simp_all
  obtain ⟨rfl, rfl⟩ := trodVars_none hV
  have wt0 := weights_of hsz (j := 0) (t := 76) (d := d0) rfl rfl
  have kk0 := h0
  have lt0 : ∀ x ∈ p0, x.block < W.heap.size := by obtain ⟨m, hm⟩ := kk0; exact DataW.trod_lt m _ _ _ hm
  obtain ⟨cs0, rfl, hsz0⟩ := okWide_struct Try.underlying76 (hval 0 76 v0 rfl rfl)
  obtain ⟨x0, hk0, ok0⟩ := opens76.at_ h0 wt0
  obtain ⟨A0_0, c0_0, A0_2, c0_2, A0_3, c0_3, A0_4, c0_4, A0_5, c0_5, he0, hc0_0, hr0_0, hc0_2, hr0_2, hc0_3, hr0_3, hc0_4, hr0_4, hc0_5, hr0_5⟩ := k76_open hk0
  obtain rfl : cs0 = #[.slice A0_0 (x0.f0).length c0_0, .int .i64 (x0.f1), .slice A0_2 (x0.f2).length c0_2, .slice A0_3 (x0.f3).length c0_3, .slice A0_4 (x0.f4).length c0_4, .slice A0_5 (x0.f5).length c0_5, .int .i64 (x0.f6)] := arr_of he0
  obtain ⟨o0_0, o0_1, o0_2, o0_3, o0_4, o0_5, o0_6⟩ := ok0
  obtain ⟨k, hP⟩ := Pure.FnExactFirstOpen x0.f0 x0.f1 x0.f2 x0.f3 x0.f4 x0.f5 x0.f6 o0_0 o0_1 o0_2 o0_3 o0_4 o0_5 o0_6
  clear hA0 hval0 hsz0 hsz
  refine (laws_FnExactFirstOpen.calls k _ _ x0.f0 x0.f1 _ _ x0.f2 _ _ x0.f3 _ _ x0.f4 _ _ x0.f5 x0.f6 true W hr0_0 hc0_0 hr0_2 hc0_2 hr0_3 hc0_3 hr0_4 hc0_4 hr0_5 hc0_5 hP).mono ?_
  rintro e W' ⟨rfl, hd⟩
  have bel : Below W.heap.size W W' := hd
  exact ⟨_, rfl, _, _, _, [], _, [], hW', trodAll_mk1 (shut_bool Try.underlying4 _), (trodAll_cons_mk (Below.trod laidOut (by kernel_rfl) (of_decide_eq_true (by kernel_rfl)) kk0 bel lt0) trodAll_mk0), rfl, bel.frame _, fun h => by cases h⟩
theorem over : Rows.fnExactFirstOpenRow.holds Try.pinned (OpenSpec.ofChange Rows.fnExactFirstOpenSpec) :=
  OpenClaim.holds_of_wide 14 Try.f14 rfl rfl rfl rfl rfl rfl rfl ⟨rfl, rfl, rfl, rfl, rfl⟩ rfl rfl rfl rfl rfl (by kernel_rfl) Try.func14 (by kernel_rfl)
    (of_decide_eq_true (by kernel_rfl)) (by unfold Func.isWrapper; first | (rw [if_pos (by decide +kernel)]; kernel_rfl) | (rw [if_neg (by decide +kernel)]; exact ⟨rfl, rfl⟩))
    (fun os started H enc _ => lifted os started H enc)
theorem proved : Rows.FnExactFirstOpenSaid := over
#print axioms proved
end Go.Proofs.Ytafkbhkikdndnaa.fnExactFirstOpen
namespace Go.Proofs.Ytafkbhkikdndnaa
/-- The row, under a short name, for the claim. -/
theorem fnExactFirstOpen_holds : Rows.FnExactFirstOpenSaid := fnExactFirstOpen.proved
end Go.Proofs.Ytafkbhkikdndnaa

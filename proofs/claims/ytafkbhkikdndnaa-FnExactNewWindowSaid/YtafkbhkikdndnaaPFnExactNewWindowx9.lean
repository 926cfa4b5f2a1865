/- Lean functions with the same answers as the Go functions that one law reaches, and for each a proof that its call comes to just these answers. No condition. Written by pr.py, a program of this session. -/
import Derived.Test.YtafkbhkikdndnaaPFnExactNewWindowx0
import Derived.Test.YtafkbhkikdndnaaPFnExactNewWindowx1
import Derived.Test.YtafkbhkikdndnaaPFnExactNewWindowx2
import Derived.Test.YtafkbhkikdndnaaPFnExactNewWindowx3
import Derived.Test.YtafkbhkikdndnaaPFnExactNewWindowx5
import Derived.Test.YtafkbhkikdndnaaPFnExactNewWindowx6
import Derived.Test.YtafkbhkikdndnaaPFnExactNewWindowx8
namespace Go.Proofs.Ytafkbhkikdndnaa.PFnExactNewWindow
open Go.RowKit Go.Proofs.YtafkbhkikdndnaaW.PrintWords Go.Proofs.YtafkbhkikdndnaaW.PrintLast Go.Proofs.YtafkbhkikdndnaaW.PrintMore Go.Proofs.YtafkbhkikdndnaaW.PrintWords.Kd
attribute [local go_sem] max2_int min2_int max_two min_two max_three min_three max_four min_four   -- for this text's walks alone
set_option linter.unusedVariables false
set_option linter.unusedSimpArgs false

/-! ### laws_FnExactNewWindow: function 12 -/
mutual
def laws_FnExactNewWindow.j0 : Nat → List ByteArray → Int → Bool → List ByteArray → Bool → Bool → List ByteArray → Int → List Bool → List (S128) → List ByteArray → List Bool → Int → List ByteArray → Int → List Bool → List (S128) → List ByteArray → List Bool → Int → Option (Bool)
  | 0, _, _, _, _, _, _, _, _, _, _, _, _, _, _, _, _, _, _, _, _ => none
  | k + 1, x0, x1, x7, x8, x10, x44, x239000, x239001, x239002, x239003, x239004, x239005, x239006, x261000, x261001, x261002, x261003, x261004, x261005, x261006 => if x44 = true then (some false) else ((laws_toStringS.f k x0).bind fun t262 => ((laws_eqStringS.f k x8 t262).bind fun t265 => (if t265 = true then ((laws_markStringS.f k x8 1).bind fun bt266 => (if bt266.1 < 0 then (laws_FnExactNewWindow.j1 k x0 x1 x7 true x239000 x239001 x239002 x239003 x239004 x239005 x239006 x261000 x261001 x261002 x261003 x261004 x261005 x261006) else ((laws_eqWindow.f k x261000 x261001 x261002 x261003 x261004 x261005 x261006 x239000 x239001 x239002 x239003 x239004 x239005 x239006).bind fun t268 => (if t268 = true then (laws_FnExactNewWindow.j1 k x0 x1 x7 (x10 != x7) x239000 x239001 x239002 x239003 x239004 x239005 x239006 x261000 x261001 x261002 x261003 x261004 x261005 x261006) else (laws_FnExactNewWindow.j1 k x0 x1 x7 true x239000 x239001 x239002 x239003 x239004 x239005 x239006 x261000 x261001 x261002 x261003 x261004 x261005 x261006))))) else (some false))))
def laws_FnExactNewWindow.j1 : Nat → List ByteArray → Int → Bool → Bool → List ByteArray → Int → List Bool → List (S128) → List ByteArray → List Bool → Int → List ByteArray → Int → List Bool → List (S128) → List ByteArray → List Bool → Int → Option (Bool)
  | 0, _, _, _, _, _, _, _, _, _, _, _, _, _, _, _, _, _, _ => none
  | k + 1, x0, x1, x7, x65, x239000, x239001, x239002, x239003, x239004, x239005, x239006, x261000, x261001, x261002, x261003, x261004, x261005, x261006 => if x65 = true then (some false) else ((laws_markWindow.f k x261000 x261001 x261002 x261003 x261004 x261005 x261006 1).bind fun bt269 => ((laws_heldWindow.f k bt269.2.1 x261001 bt269.2.2.1 bt269.2.2.2.1 bt269.2.2.2.2.1 bt269.2.2.2.2.2 x261006 1).bind fun t275 => (if t275 < 0 then (some false) else (if t275 = bt269.1 then ((laws_toStringS.f k x0).bind fun t276 => ((impl_NewWindow.f t276 x1).bind fun bt279 => ((laws_eqWindow.f k bt279.1 bt279.2.1 bt279.2.2.1 bt279.2.2.2.1 bt279.2.2.2.2.1 bt279.2.2.2.2.2.1 bt279.2.2.2.2.2.2.1 x239000 x239001 x239002 x239003 x239004 x239005 x239006).bind fun t298 => (if t298 = true then (laws_FnExactNewWindow.j2 k bt269.1 (bt279.2.2.2.2.2.2.2 != x7) bt269.2.1 x261001 bt269.2.2.1 bt269.2.2.2.1 bt269.2.2.2.2.1 bt269.2.2.2.2.2 x261006) else (laws_FnExactNewWindow.j2 k bt269.1 true bt269.2.1 x261001 bt269.2.2.1 bt269.2.2.2.1 bt269.2.2.2.2.1 bt269.2.2.2.2.2 x261006))))) else (some false)))))
def laws_FnExactNewWindow.j2 : Nat → Int → Bool → List ByteArray → Int → List Bool → List (S128) → List ByteArray → List Bool → Int → Option (Bool)
  | 0, _, _, _, _, _, _, _, _, _ => none
  | k + 1, x12, x92, x261000, x261001, x261002, x261003, x261004, x261005, x261006 => if x92 = true then (some false) else ((laws_heldWindow.f k x261000 x261001 x261002 x261003 x261004 x261005 x261006 1).bind fun t299 => (if t299 < 0 then (some false) else (if t299 = x12 then (some true) else (some false))))
end
def laws_FnExactNewWindow.f (k : Nat) (l0 : List ByteArray) (a1 : Int) : Option (Bool) := (laws_szStringS.f k l0 1048576).bind fun t216 => (if t216 < 0 then (some true) else ((laws_toStringS.f k l0).bind fun t217 => ((spec_NewWindow.f k t217 a1).bind fun bt220 => ((laws_toStringS.f k l0).bind fun t239 => ((impl_NewWindow.f t239 a1).bind fun bt242 => ((laws_eqWindow.f k bt242.1 bt242.2.1 bt242.2.2.1 bt242.2.2.2.1 bt242.2.2.2.2.1 bt242.2.2.2.2.2.1 bt242.2.2.2.2.2.2.1 bt220.1 bt220.2.1 bt220.2.2.1 bt220.2.2.2.1 bt220.2.2.2.2.1 bt220.2.2.2.2.2.1 bt220.2.2.2.2.2.2.1).bind fun t261 => (if t261 = true then (laws_FnExactNewWindow.j0 k l0 a1 bt220.2.2.2.2.2.2.2 t239 bt242.2.2.2.2.2.2.2 (bt242.2.2.2.2.2.2.2 != bt220.2.2.2.2.2.2.2) bt220.1 bt220.2.1 bt220.2.2.1 bt220.2.2.2.1 bt220.2.2.2.2.1 bt220.2.2.2.2.2.1 bt220.2.2.2.2.2.2.1 bt242.1 bt242.2.1 bt242.2.2.1 bt242.2.2.2.1 bt242.2.2.2.2.1 bt242.2.2.2.2.2.1 bt242.2.2.2.2.2.2.1) else (laws_FnExactNewWindow.j0 k l0 a1 bt220.2.2.2.2.2.2.2 t239 bt242.2.2.2.2.2.2.2 true bt220.1 bt220.2.1 bt220.2.2.1 bt220.2.2.2.1 bt220.2.2.2.2.1 bt220.2.2.2.2.2.1 bt220.2.2.2.2.2.2.1 bt242.1 bt242.2.1 bt242.2.2.1 bt242.2.2.2.1 bt242.2.2.2.2.1 bt242.2.2.2.2.2.1 bt242.2.2.2.2.2.2.1))))))))
theorem laws_FnExactNewWindow.mono_l : ∀ k, (∀ y0 y1 y2 y3 y4 y5 y6 y7 y8 y9 y10 y11 y12 y13 y14 y15 y16 y17 y18 y19, LeO (laws_FnExactNewWindow.j0 k y0 y1 y2 y3 y4 y5 y6 y7 y8 y9 y10 y11 y12 y13 y14 y15 y16 y17 y18 y19) (laws_FnExactNewWindow.j0 (k + 1) y0 y1 y2 y3 y4 y5 y6 y7 y8 y9 y10 y11 y12 y13 y14 y15 y16 y17 y18 y19)) ∧ (∀ y0 y1 y2 y3 y4 y5 y6 y7 y8 y9 y10 y11 y12 y13 y14 y15 y16 y17, LeO (laws_FnExactNewWindow.j1 k y0 y1 y2 y3 y4 y5 y6 y7 y8 y9 y10 y11 y12 y13 y14 y15 y16 y17) (laws_FnExactNewWindow.j1 (k + 1) y0 y1 y2 y3 y4 y5 y6 y7 y8 y9 y10 y11 y12 y13 y14 y15 y16 y17)) ∧ (∀ y0 y1 y2 y3 y4 y5 y6 y7 y8, LeO (laws_FnExactNewWindow.j2 k y0 y1 y2 y3 y4 y5 y6 y7 y8) (laws_FnExactNewWindow.j2 (k + 1) y0 y1 y2 y3 y4 y5 y6 y7 y8))
  | 0 => ⟨fun _ _ _ _ _ _ _ _ _ _ _ _ _ _ _ _ _ _ _ _ r h => by simp [laws_FnExactNewWindow.j0] at h, fun _ _ _ _ _ _ _ _ _ _ _ _ _ _ _ _ _ _ r h => by simp [laws_FnExactNewWindow.j1] at h, fun _ _ _ _ _ _ _ _ _ r h => by simp [laws_FnExactNewWindow.j2] at h⟩
  | k + 1 => by
    obtain ⟨ih0, ih1, ih2⟩ := laws_FnExactNewWindow.mono_l k
    refine ⟨?_, ?_, ?_⟩
    · intro y0 y1 y2 y3 y4 y5 y6 y7 y8 y9 y10 y11 y12 y13 y14 y15 y16 y17 y18 y19
      unfold laws_FnExactNewWindow.j0
      repeat' first
      | (with_reducible exact ih0 _ _ _ _ _ _ _ _ _ _ _ _ _ _ _ _ _ _ _ _)
      | (with_reducible exact ih1 _ _ _ _ _ _ _ _ _ _ _ _ _ _ _ _ _ _)
      | (with_reducible exact ih2 _ _ _ _ _ _ _ _ _)
      | (with_reducible exact laws_eqStringS.mono _ _ _)
      | (with_reducible exact laws_eqWindow.mono _ _ _ _ _ _ _ _ _ _ _ _ _ _ _)
      | (with_reducible exact laws_heldWindow.mono _ _ _ _ _ _ _ _ _)
      | (with_reducible exact laws_markStringS.mono _ _ _)
      | (with_reducible exact laws_markWindow.mono _ _ _ _ _ _ _ _ _)
      | (with_reducible exact laws_szStringS.mono _ _ _)
      | (with_reducible exact laws_toStringS.mono _ _)
      | (with_reducible exact spec_NewWindow.mono _ _ _)
      | (with_reducible exact LeO.refl _)
      | (with_reducible exact LeO.none _)
      | (with_reducible refine LeO.ite ?_ ?_)
      | (with_reducible refine LeO.bind ?_ (fun _ => ?_))
      | exact ih0 _ _ _ _ _ _ _ _ _ _ _ _ _ _ _ _ _ _ _ _
      | exact ih1 _ _ _ _ _ _ _ _ _ _ _ _ _ _ _ _ _ _
      | exact ih2 _ _ _ _ _ _ _ _ _
      | exact laws_eqStringS.mono _ _ _
      | exact laws_eqWindow.mono _ _ _ _ _ _ _ _ _ _ _ _ _ _ _
      | exact laws_heldWindow.mono _ _ _ _ _ _ _ _ _
      | exact laws_markStringS.mono _ _ _
      | exact laws_markWindow.mono _ _ _ _ _ _ _ _ _
      | exact laws_szStringS.mono _ _ _
      | exact laws_toStringS.mono _ _
      | exact spec_NewWindow.mono _ _ _
      | exact LeO.none _
      | refine LeO.ite ?_ ?_
      | refine LeO.bind ?_ (fun _ => ?_)
    · intro y0 y1 y2 y3 y4 y5 y6 y7 y8 y9 y10 y11 y12 y13 y14 y15 y16 y17
      unfold laws_FnExactNewWindow.j1
      repeat' first
      | (with_reducible exact ih0 _ _ _ _ _ _ _ _ _ _ _ _ _ _ _ _ _ _ _ _)
      | (with_reducible exact ih1 _ _ _ _ _ _ _ _ _ _ _ _ _ _ _ _ _ _)
      | (with_reducible exact ih2 _ _ _ _ _ _ _ _ _)
      | (with_reducible exact laws_eqStringS.mono _ _ _)
      | (with_reducible exact laws_eqWindow.mono _ _ _ _ _ _ _ _ _ _ _ _ _ _ _)
      | (with_reducible exact laws_heldWindow.mono _ _ _ _ _ _ _ _ _)
      | (with_reducible exact laws_markStringS.mono _ _ _)
      | (with_reducible exact laws_markWindow.mono _ _ _ _ _ _ _ _ _)
      | (with_reducible exact laws_szStringS.mono _ _ _)
      | (with_reducible exact laws_toStringS.mono _ _)
      | (with_reducible exact spec_NewWindow.mono _ _ _)
      | (with_reducible exact LeO.refl _)
      | (with_reducible exact LeO.none _)
      | (with_reducible refine LeO.ite ?_ ?_)
      | (with_reducible refine LeO.bind ?_ (fun _ => ?_))
      | exact ih0 _ _ _ _ _ _ _ _ _ _ _ _ _ _ _ _ _ _ _ _
      | exact ih1 _ _ _ _ _ _ _ _ _ _ _ _ _ _ _ _ _ _
      | exact ih2 _ _ _ _ _ _ _ _ _
      | exact laws_eqStringS.mono _ _ _
      | exact laws_eqWindow.mono _ _ _ _ _ _ _ _ _ _ _ _ _ _ _
      | exact laws_heldWindow.mono _ _ _ _ _ _ _ _ _
      | exact laws_markStringS.mono _ _ _
      | exact laws_markWindow.mono _ _ _ _ _ _ _ _ _
      | exact laws_szStringS.mono _ _ _
      | exact laws_toStringS.mono _ _
      | exact spec_NewWindow.mono _ _ _
      | exact LeO.none _
      | refine LeO.ite ?_ ?_
      | refine LeO.bind ?_ (fun _ => ?_)
    · intro y0 y1 y2 y3 y4 y5 y6 y7 y8
      unfold laws_FnExactNewWindow.j2
      repeat' first
      | (with_reducible exact ih0 _ _ _ _ _ _ _ _ _ _ _ _ _ _ _ _ _ _ _ _)
      | (with_reducible exact ih1 _ _ _ _ _ _ _ _ _ _ _ _ _ _ _ _ _ _)
      | (with_reducible exact ih2 _ _ _ _ _ _ _ _ _)
      | (with_reducible exact laws_eqStringS.mono _ _ _)
      | (with_reducible exact laws_eqWindow.mono _ _ _ _ _ _ _ _ _ _ _ _ _ _ _)
      | (with_reducible exact laws_heldWindow.mono _ _ _ _ _ _ _ _ _)
      | (with_reducible exact laws_markStringS.mono _ _ _)
      | (with_reducible exact laws_markWindow.mono _ _ _ _ _ _ _ _ _)
      | (with_reducible exact laws_szStringS.mono _ _ _)
      | (with_reducible exact laws_toStringS.mono _ _)
      | (with_reducible exact spec_NewWindow.mono _ _ _)
      | (with_reducible exact LeO.refl _)
      | (with_reducible exact LeO.none _)
      | (with_reducible refine LeO.ite ?_ ?_)
      | (with_reducible refine LeO.bind ?_ (fun _ => ?_))
      | exact ih0 _ _ _ _ _ _ _ _ _ _ _ _ _ _ _ _ _ _ _ _
      | exact ih1 _ _ _ _ _ _ _ _ _ _ _ _ _ _ _ _ _ _
      | exact ih2 _ _ _ _ _ _ _ _ _
      | exact laws_eqStringS.mono _ _ _
      | exact laws_eqWindow.mono _ _ _ _ _ _ _ _ _ _ _ _ _ _ _
      | exact laws_heldWindow.mono _ _ _ _ _ _ _ _ _
      | exact laws_markStringS.mono _ _ _
      | exact laws_markWindow.mono _ _ _ _ _ _ _ _ _
      | exact laws_szStringS.mono _ _ _
      | exact laws_toStringS.mono _ _
      | exact spec_NewWindow.mono _ _ _
      | exact LeO.none _
      | refine LeO.ite ?_ ?_
      | refine LeO.bind ?_ (fun _ => ?_)
theorem laws_FnExactNewWindow.mono : ∀ a0 a1 k, LeO (laws_FnExactNewWindow.f k a0 a1) (laws_FnExactNewWindow.f (k + 1) a0 a1) := by
  intro a0 a1 k
  obtain ⟨ih0, ih1, ih2⟩ := laws_FnExactNewWindow.mono_l k
  unfold laws_FnExactNewWindow.f
  repeat' first
      | (with_reducible exact ih0 _ _ _ _ _ _ _ _ _ _ _ _ _ _ _ _ _ _ _ _)
      | (with_reducible exact ih1 _ _ _ _ _ _ _ _ _ _ _ _ _ _ _ _ _ _)
      | (with_reducible exact ih2 _ _ _ _ _ _ _ _ _)
      | (with_reducible exact laws_eqStringS.mono _ _ _)
      | (with_reducible exact laws_eqWindow.mono _ _ _ _ _ _ _ _ _ _ _ _ _ _ _)
      | (with_reducible exact laws_heldWindow.mono _ _ _ _ _ _ _ _ _)
      | (with_reducible exact laws_markStringS.mono _ _ _)
      | (with_reducible exact laws_markWindow.mono _ _ _ _ _ _ _ _ _)
      | (with_reducible exact laws_szStringS.mono _ _ _)
      | (with_reducible exact laws_toStringS.mono _ _)
      | (with_reducible exact spec_NewWindow.mono _ _ _)
      | (with_reducible exact LeO.refl _)
      | (with_reducible exact LeO.none _)
      | (with_reducible refine LeO.ite ?_ ?_)
      | (with_reducible refine LeO.bind ?_ (fun _ => ?_))
      | exact ih0 _ _ _ _ _ _ _ _ _ _ _ _ _ _ _ _ _ _ _ _
      | exact ih1 _ _ _ _ _ _ _ _ _ _ _ _ _ _ _ _ _ _
      | exact ih2 _ _ _ _ _ _ _ _ _
      | exact laws_eqStringS.mono _ _ _
      | exact laws_eqWindow.mono _ _ _ _ _ _ _ _ _ _ _ _ _ _ _
      | exact laws_heldWindow.mono _ _ _ _ _ _ _ _ _
      | exact laws_markStringS.mono _ _ _
      | exact laws_markWindow.mono _ _ _ _ _ _ _ _ _
      | exact laws_szStringS.mono _ _ _
      | exact laws_toStringS.mono _ _
      | exact spec_NewWindow.mono _ _ _
      | exact LeO.none _
      | refine LeO.ite ?_ ?_
      | refine LeO.bind ?_ (fun _ => ?_)
set_option maxHeartbeats 8000000 in
set_option maxRecDepth 100000 in
theorem laws_FnExactNewWindow.calls (k : Nat) (A0 : Option Addr) (c0 : Nat) (l0 : List ByteArray) (a1 : Int) (r : Bool) (w : World) (hr0 : Kd.C Kd.string w A0 l0.length l0) (hc0 : l0.length ≤ c0) (h : laws_FnExactNewWindow.f k l0 a1 = some r) :
    Calls Try.prog 12 #[.slice A0 l0.length c0, .int .i64 a1] w fun e w' => e = .returned (.bool r) ∧ Below w.heap.size w w' := by
 have hu66:=Try.underlying66
 have HR0:=Aside0.mk hr0
 have HC0:=Aside0.mk hc0
 clear hr0 hc0
 have HB:=Aside0.mk (Below.refl w.heap.size w)
 have H : ((laws_szStringS.f k l0 1048576).bind fun t216=>(if t216 < 0 then (some true) else ((laws_toStringS.f k l0).bind fun t217=>((spec_NewWindow.f k t217 a1).bind fun bt220=>((laws_toStringS.f k l0).bind fun t239=>((impl_NewWindow.f t239 a1).bind fun bt242=>((laws_eqWindow.f k bt242.1 bt242.2.1 bt242.2.2.1 bt242.2.2.2.1 bt242.2.2.2.2.1 bt242.2.2.2.2.2.1 bt242.2.2.2.2.2.2.1 bt220.1 bt220.2.1 bt220.2.2.1 bt220.2.2.2.1 bt220.2.2.2.2.1 bt220.2.2.2.2.2.1 bt220.2.2.2.2.2.2.1).bind fun t261=>(if t261 = true then (laws_FnExactNewWindow.j0 k l0 a1 bt220.2.2.2.2.2.2.2 t239 bt242.2.2.2.2.2.2.2 (bt242.2.2.2.2.2.2.2 != bt220.2.2.2.2.2.2.2) bt220.1 bt220.2.1 bt220.2.2.1 bt220.2.2.2.1 bt220.2.2.2.2.1 bt220.2.2.2.2.2.1 bt220.2.2.2.2.2.2.1 bt242.1 bt242.2.1 bt242.2.2.1 bt242.2.2.2.1 bt242.2.2.2.2.1 bt242.2.2.2.2.2.1 bt242.2.2.2.2.2.2.1) else (laws_FnExactNewWindow.j0 k l0 a1 bt220.2.2.2.2.2.2.2 t239 bt242.2.2.2.2.2.2.2 true bt220.1 bt220.2.1 bt220.2.2.1 bt220.2.2.2.1 bt220.2.2.2.2.1 bt220.2.2.2.2.2.1 bt220.2.2.2.2.2.2.1 bt242.1 bt242.2.1 bt242.2.2.1 bt242.2.2.2.1 bt242.2.2.2.2.1 bt242.2.2.2.2.2.1 bt242.2.2.2.2.2.2.1))))))))) = some r:=h
 clear h
 replace H:=Option.bind_eq_some_iff.mp H
 obtain ⟨t216,A30,H⟩:=H
 replace H : (if t216 < 0 then (some true) else ((laws_toStringS.f k l0).bind fun t217=>((spec_NewWindow.f k t217 a1).bind fun bt220=>((laws_toStringS.f k l0).bind fun t239=>((impl_NewWindow.f t239 a1).bind fun bt242=>((laws_eqWindow.f k bt242.1 bt242.2.1 bt242.2.2.1 bt242.2.2.2.1 bt242.2.2.2.2.1 bt242.2.2.2.2.2.1 bt242.2.2.2.2.2.2.1 bt220.1 bt220.2.1 bt220.2.2.1 bt220.2.2.2.1 bt220.2.2.2.2.1 bt220.2.2.2.2.2.1 bt220.2.2.2.2.2.2.1).bind fun t261=>(if t261 = true then (laws_FnExactNewWindow.j0 k l0 a1 bt220.2.2.2.2.2.2.2 t239 bt242.2.2.2.2.2.2.2 (bt242.2.2.2.2.2.2.2 != bt220.2.2.2.2.2.2.2) bt220.1 bt220.2.1 bt220.2.2.1 bt220.2.2.2.1 bt220.2.2.2.2.1 bt220.2.2.2.2.2.1 bt220.2.2.2.2.2.2.1 bt242.1 bt242.2.1 bt242.2.2.1 bt242.2.2.2.1 bt242.2.2.2.2.1 bt242.2.2.2.2.2.1 bt242.2.2.2.2.2.2.1) else (laws_FnExactNewWindow.j0 k l0 a1 bt220.2.2.2.2.2.2.2 t239 bt242.2.2.2.2.2.2.2 true bt220.1 bt220.2.1 bt220.2.2.1 bt220.2.2.2.1 bt220.2.2.2.2.1 bt220.2.2.2.2.2.1 bt220.2.2.2.2.2.2.1 bt242.1 bt242.2.1 bt242.2.2.1 bt242.2.2.2.1 bt242.2.2.2.2.1 bt242.2.2.2.2.2.1 bt242.2.2.2.2.2.2.1)))))))) = some r:=H
 have A3:=Aside0.mk A30
 clear A30
 by_cases c4 : t216 < 0
 ·rw [if_pos c4] at H
  have c4b0 : decide (t216 < 0) = true:=decide_eq_true c4
  clear c4
  obtain rfl:=Option.some.inj H
  go_enter Try.func12,Try.ntmps12
  go_wp2_with (first|((with_reducible refine gate_callee (f:=46) rfl ?_);refine goesL_ (some 18) rfl rfl Try.func46 (by kernel_rfl) rfl #[.slice A0 l0.length c0,.int .i64 1048576] rfl (by (try simp only [List.map_toArray,List.map_cons,List.map_nil]);first|done|rfl|(simp only [List.length_drop,List.length_take];rfl)) ?_;(with_reducible refine (laws_szStringS.calls k _ _ l0 1048576 t216 _ ?side1 ?side2 A3.out).mono ?_);(case side1=>repeat (first|exact HR0.out|(with_reducible refine C_alloc ?_ _)|(with_reducible refine C_drewN ?_ _)|(with_reducible refine C_drew ?_)));(case side2=>exact HC0.out);rintro e w' ⟨rfl,⟨nd,rfl⟩⟩;refine ⟨_,rfl,?_⟩))
  go_ret
  exact ⟨by first|rfl|(simp [errW_none,errW_some] <;> rfl)|(simp [*,errW_none,errW_some] <;> rfl),by repeat (first|(with_reducible first|exact HB.out|apply below_alloc|apply pw_below_drewN|apply below_drew1)|exact HB.out)⟩
 ·rw [if_neg c4] at H
  have c4b0 : decide (t216 < 0) = false:=decide_eq_false c4
  clear c4
  replace H:=Option.bind_eq_some_iff.mp H
  obtain ⟨t217,A50,H⟩:=H
  replace H : ((spec_NewWindow.f k t217 a1).bind fun bt220=>((laws_toStringS.f k l0).bind fun t239=>((impl_NewWindow.f t239 a1).bind fun bt242=>((laws_eqWindow.f k bt242.1 bt242.2.1 bt242.2.2.1 bt242.2.2.2.1 bt242.2.2.2.2.1 bt242.2.2.2.2.2.1 bt242.2.2.2.2.2.2.1 bt220.1 bt220.2.1 bt220.2.2.1 bt220.2.2.2.1 bt220.2.2.2.2.1 bt220.2.2.2.2.2.1 bt220.2.2.2.2.2.2.1).bind fun t261=>(if t261 = true then (laws_FnExactNewWindow.j0 k l0 a1 bt220.2.2.2.2.2.2.2 t239 bt242.2.2.2.2.2.2.2 (bt242.2.2.2.2.2.2.2 != bt220.2.2.2.2.2.2.2) bt220.1 bt220.2.1 bt220.2.2.1 bt220.2.2.2.1 bt220.2.2.2.2.1 bt220.2.2.2.2.2.1 bt220.2.2.2.2.2.2.1 bt242.1 bt242.2.1 bt242.2.2.1 bt242.2.2.2.1 bt242.2.2.2.2.1 bt242.2.2.2.2.2.1 bt242.2.2.2.2.2.2.1) else (laws_FnExactNewWindow.j0 k l0 a1 bt220.2.2.2.2.2.2.2 t239 bt242.2.2.2.2.2.2.2 true bt220.1 bt220.2.1 bt220.2.2.1 bt220.2.2.2.1 bt220.2.2.2.2.1 bt220.2.2.2.2.2.1 bt220.2.2.2.2.2.2.1 bt242.1 bt242.2.1 bt242.2.2.1 bt242.2.2.2.1 bt242.2.2.2.2.1 bt242.2.2.2.2.2.1 bt242.2.2.2.2.2.2.1)))))) = some r:=H
  have A5:=Aside0.mk A50
  clear A50
  replace H:=Option.bind_eq_some_iff.mp H
  obtain ⟨⟨t220,t223,t224,t227,t230,t233,t236,t237⟩,A60,H⟩:=H
  replace H : ((laws_toStringS.f k l0).bind fun t239=>((impl_NewWindow.f t239 a1).bind fun bt242=>((laws_eqWindow.f k bt242.1 bt242.2.1 bt242.2.2.1 bt242.2.2.2.1 bt242.2.2.2.2.1 bt242.2.2.2.2.2.1 bt242.2.2.2.2.2.2.1 t220 t223 t224 t227 t230 t233 t236).bind fun t261=>(if t261 = true then (laws_FnExactNewWindow.j0 k l0 a1 t237 t239 bt242.2.2.2.2.2.2.2 (bt242.2.2.2.2.2.2.2 != t237) t220 t223 t224 t227 t230 t233 t236 bt242.1 bt242.2.1 bt242.2.2.1 bt242.2.2.2.1 bt242.2.2.2.2.1 bt242.2.2.2.2.2.1 bt242.2.2.2.2.2.2.1) else (laws_FnExactNewWindow.j0 k l0 a1 t237 t239 bt242.2.2.2.2.2.2.2 true t220 t223 t224 t227 t230 t233 t236 bt242.1 bt242.2.1 bt242.2.2.1 bt242.2.2.2.1 bt242.2.2.2.2.1 bt242.2.2.2.2.2.1 bt242.2.2.2.2.2.2.1))))) = some r:=H
  have A6:=Aside0.mk A60
  clear A60
  replace H:=Option.bind_eq_some_iff.mp H
  obtain ⟨t239,A70,H⟩:=H
  replace H : ((impl_NewWindow.f t239 a1).bind fun bt242=>((laws_eqWindow.f k bt242.1 bt242.2.1 bt242.2.2.1 bt242.2.2.2.1 bt242.2.2.2.2.1 bt242.2.2.2.2.2.1 bt242.2.2.2.2.2.2.1 t220 t223 t224 t227 t230 t233 t236).bind fun t261=>(if t261 = true then (laws_FnExactNewWindow.j0 k l0 a1 t237 t239 bt242.2.2.2.2.2.2.2 (bt242.2.2.2.2.2.2.2 != t237) t220 t223 t224 t227 t230 t233 t236 bt242.1 bt242.2.1 bt242.2.2.1 bt242.2.2.2.1 bt242.2.2.2.2.1 bt242.2.2.2.2.2.1 bt242.2.2.2.2.2.2.1) else (laws_FnExactNewWindow.j0 k l0 a1 t237 t239 bt242.2.2.2.2.2.2.2 true t220 t223 t224 t227 t230 t233 t236 bt242.1 bt242.2.1 bt242.2.2.1 bt242.2.2.2.1 bt242.2.2.2.2.1 bt242.2.2.2.2.2.1 bt242.2.2.2.2.2.2.1)))) = some r:=H
  have A7:=Aside0.mk A70
  clear A70
  replace H:=Option.bind_eq_some_iff.mp H
  obtain ⟨⟨t242,t245,t246,t249,t252,t255,t258,t259⟩,A80,H⟩:=H
  replace H : ((laws_eqWindow.f k t242 t245 t246 t249 t252 t255 t258 t220 t223 t224 t227 t230 t233 t236).bind fun t261=>(if t261 = true then (laws_FnExactNewWindow.j0 k l0 a1 t237 t239 t259 (t259 != t237) t220 t223 t224 t227 t230 t233 t236 t242 t245 t246 t249 t252 t255 t258) else (laws_FnExactNewWindow.j0 k l0 a1 t237 t239 t259 true t220 t223 t224 t227 t230 t233 t236 t242 t245 t246 t249 t252 t255 t258))) = some r:=H
  have A8:=Aside0.mk A80
  clear A80
  have HC9:=Aside0.mk H
  clear H
  go_enter Try.func12,Try.ntmps12
  go_upto_region 8 with (first|((with_reducible refine gate_callee (f:=46) rfl ?_);refine goesL_ (some 18) rfl rfl Try.func46 (by kernel_rfl) rfl #[.slice A0 l0.length c0,.int .i64 1048576] rfl (by (try simp only [List.map_toArray,List.map_cons,List.map_nil]);first|done|rfl|(simp only [List.length_drop,List.length_take];rfl)) ?_;(with_reducible refine (laws_szStringS.calls k _ _ l0 1048576 t216 _ ?side1 ?side2 A3.out).mono ?_);(case side1=>repeat (first|exact HR0.out|(with_reducible refine C_alloc ?_ _)|(with_reducible refine C_drewN ?_ _)|(with_reducible refine C_drew ?_)));(case side2=>exact HC0.out);rintro e w' ⟨rfl,⟨nd,rfl⟩⟩;refine ⟨_,rfl,?_⟩)|((with_reducible refine gate_callee (f:=48) rfl ?_);refine goesL_ (some 23) rfl rfl Try.func48 (by kernel_rfl) rfl #[.slice A0 l0.length c0] rfl (by (try simp only [List.map_toArray,List.map_cons,List.map_nil]);first|done|rfl|(simp only [List.length_drop,List.length_take];rfl)) ?_;(with_reducible refine (laws_toStringS.calls k _ _ l0 t217 _ ?side1 ?side2 A5.out).mono ?_);(case side1=>repeat (first|exact HR0.out|(with_reducible refine C_alloc ?_ _)|(with_reducible refine C_drewN ?_ _)|(with_reducible refine C_drew ?_)));(case side2=>exact HC0.out);rintro e w10 ⟨v218,rfl,ho0,hb⟩;refine ⟨_,rfl,?_⟩;have n0_:=Aside0.mk (Kd.R_lower ho0 (below_size (by repeat (first|(with_reducible first|exact HB.out|apply below_alloc|apply pw_below_drewN|apply below_drew1)|exact HB.out))));have n1_:=Aside0.mk (below_step (by repeat (first|(with_reducible first|exact HB.out|apply below_alloc|apply pw_below_drewN|apply below_drew1)|exact HB.out)) hb);clear HB;have HO219:=n0_;have HB:=n1_;clear n0_ n1_;(try clear hb);(try clear hb2);(try clear hk);(try clear hi);(try clear ho0);obtain ⟨Ao11,co11,eo11⟩:=Kd.R_slice HO219.out;subst eo11)|((with_reducible refine gate_callee (f:=47) rfl ?_);refine goesL_ (some 25) rfl rfl Try.func47 (by kernel_rfl) rfl #[.slice Ao11 t217.length co11,.int .i64 a1] rfl (by (try simp only [List.map_toArray,List.map_cons,List.map_nil]);first|done|rfl|(simp only [List.length_drop,List.length_take];rfl)) ?_;(with_reducible refine (spec_NewWindow.calls k _ _ t217 a1 t220 t223 t224 t227 t230 t233 t236 t237 _ ?side1 ?side2 A6.out).mono ?_);(case side1=>repeat (first|exact (Kd.R_reads' HO219.out).2.2|(with_reducible refine C_alloc ?_ _)|(with_reducible refine C_drewN ?_ _)|(with_reducible refine C_drew ?_)));(case side2=>exact (Kd.R_reads' HO219.out).2.1);rintro e w12 ⟨v221,v225,v228,v231,v234,rfl,ho0,ho1,ho2,ho3,ho4,hb⟩;refine ⟨_,rfl,?_⟩;have n0_:=Aside0.mk (Kd.R_mono (Kd.R_told (Kd.R_told (Kd.R_old (by (with_reducible repeat (first|apply R_alloc|apply R_drewN|apply R_drew));exact HO219.out) hb) (Kd.R_base ho0)) (Kd.R_base ho3)) (fun _ h_=>h_.1));have n1_:=Aside0.mk (Kd.R_lower (Kd.R_new' ho0 (Kd.R_lt (by (with_reducible repeat (first|apply R_alloc|apply R_drewN|apply R_drew));exact HO219.out))) (below_size (by repeat (first|(with_reducible first|exact HB.out|apply below_alloc|apply pw_below_drewN|apply below_drew1)|exact HB.out))));have n2_:=Aside0.mk (Kd.R_lower ho1 (below_size (by repeat (first|(with_reducible first|exact HB.out|apply below_alloc|apply pw_below_drewN|apply below_drew1)|exact HB.out))));have n3_:=Aside0.mk (Kd.R_lower ho2 (below_size (by repeat (first|(with_reducible first|exact HB.out|apply below_alloc|apply pw_below_drewN|apply below_drew1)|exact HB.out))));have n4_:=Aside0.mk (Kd.R_lower (Kd.R_new' ho3 (Kd.R_lt (by (with_reducible repeat (first|apply R_alloc|apply R_drewN|apply R_drew));exact HO219.out))) (below_size (by repeat (first|(with_reducible first|exact HB.out|apply below_alloc|apply pw_below_drewN|apply below_drew1)|exact HB.out))));have n5_:=Aside0.mk (Kd.R_lower ho4 (below_size (by repeat (first|(with_reducible first|exact HB.out|apply below_alloc|apply pw_below_drewN|apply below_drew1)|exact HB.out))));have n6_:=Aside0.mk (below_step (by repeat (first|(with_reducible first|exact HB.out|apply below_alloc|apply pw_below_drewN|apply below_drew1)|exact HB.out)) hb);clear HO219;clear HB;have HO219:=n0_;have HO222:=n1_;have HO226:=n2_;have HO229:=n3_;have HO232:=n4_;have HO235:=n5_;have HB:=n6_;clear n0_ n1_ n2_ n3_ n4_ n5_ n6_;(try clear hb);(try clear hb2);(try clear hk);(try clear hi);(try clear ho0);(try clear ho1);(try clear ho2);(try clear ho3);(try clear ho4))|((with_reducible refine gate_dst (N:=6) rfl ?_);refine box_event ?hg (N:=6) ?hd (cs:=#[.slice none 0 0,.int .i64 0,.slice none 0 0,.slice none 0 0,.slice none 0 0,.slice none 0 0,.int .i64 0]) (t:=66) ?hr ?_;(case hd=>rfl);(case hg=>rfl);(case hr=>first|(go_simp;done)|(go_simp;rfl));intro gb238 hg w13 hbox hb;have n0_:=Aside0.mk (Kd.R_below (by (with_reducible repeat (first|apply R_alloc|apply R_drewN|apply R_drew));exact HO219.out) hb);have n1_:=Aside0.mk (Kd.R_below (by (with_reducible repeat (first|apply R_alloc|apply R_drewN|apply R_drew));exact HO222.out) hb);have n2_:=Aside0.mk (Kd.R_below (by (with_reducible repeat (first|apply R_alloc|apply R_drewN|apply R_drew));exact HO226.out) hb);have n3_:=Aside0.mk (Kd.R_below (by (with_reducible repeat (first|apply R_alloc|apply R_drewN|apply R_drew));exact HO229.out) hb);have n4_:=Aside0.mk (Kd.R_below (by (with_reducible repeat (first|apply R_alloc|apply R_drewN|apply R_drew));exact HO232.out) hb);have n5_:=Aside0.mk (Kd.R_below (by (with_reducible repeat (first|apply R_alloc|apply R_drewN|apply R_drew));exact HO235.out) hb);have n6_:=Aside0.mk (below_step (by repeat (first|(with_reducible first|exact HB.out|apply below_alloc|apply pw_below_drewN|apply below_drew1)|exact HB.out)) hb);have n7_:=Aside0.mk (hbox);have n8_:=Aside0.mk ((by rw [hg];exact (below_size (by repeat (first|(with_reducible first|exact HB.out|apply below_alloc|apply pw_below_drewN|apply below_drew1)|exact HB.out))) : w.heap.size ≤ gb238));have n9_:=Aside0.mk ((by rw [hg];exact (below_size (by repeat (first|(with_reducible first|exact HB.out|apply below_alloc|apply pw_below_drewN|apply below_drew1)|exact HB.out))) : w.heap.size ≤ gb238));clear HO219;clear HO222;clear HO226;clear HO229;clear HO232;clear HO235;clear HB;have HO219:=n0_;have HO222:=n1_;have HO226:=n2_;have HO229:=n3_;have HO232:=n4_;have HO235:=n5_;have HB:=n6_;have BK238:=n7_;have GW238:=n8_;have GE238:=n9_;clear n0_ n1_ n2_ n3_ n4_ n5_ n6_ n7_ n8_ n9_;clear hb hbox hg;obtain ⟨Ao14,co14,eo14⟩:=Kd.R_slice HO222.out;subst eo14;have hcz15_0 : w13.cell? ⟨gb238,0,none⟩ = some (.slice none 0 0):=(blk_cell BK238.out 0).trans rfl;have hcz15_1 : w13.cell? ⟨gb238,1,none⟩ = some (.int .i64 0):=(blk_cell BK238.out 1).trans rfl;have hcz15_2 : w13.cell? ⟨gb238,2,none⟩ = some (.slice none 0 0):=(blk_cell BK238.out 2).trans rfl;have hcz15_3 : w13.cell? ⟨gb238,3,none⟩ = some (.slice none 0 0):=(blk_cell BK238.out 3).trans rfl;have hcz15_4 : w13.cell? ⟨gb238,4,none⟩ = some (.slice none 0 0):=(blk_cell BK238.out 4).trans rfl;have hcz15_5 : w13.cell? ⟨gb238,5,none⟩ = some (.slice none 0 0):=(blk_cell BK238.out 5).trans rfl;have hcz15_6 : w13.cell? ⟨gb238,6,none⟩ = some (.int .i64 0):=(blk_cell BK238.out 6).trans rfl;have hfz15_0:=blk_frozen BK238.out 0;have hfz15_1:=blk_frozen BK238.out 1;have hfz15_2:=blk_frozen BK238.out 2;have hfz15_3:=blk_frozen BK238.out 3;have hfz15_4:=blk_frozen BK238.out 4;have hfz15_5:=blk_frozen BK238.out 5;have hfz15_6:=blk_frozen BK238.out 6;obtain ⟨Ao16,co16,eo16⟩:=Kd.R_slice HO226.out;subst eo16;obtain ⟨Ao17,co17,eo17⟩:=Kd.R_slice HO229.out;subst eo17;obtain ⟨Ao18,co18,eo18⟩:=Kd.R_slice HO232.out;subst eo18;obtain ⟨Ao19,co19,eo19⟩:=Kd.R_slice HO235.out;subst eo19)|((with_reducible refine gate_callee (f:=48) rfl ?_);refine goesL_ (some 29) rfl rfl Try.func48 (by kernel_rfl) rfl #[.slice A0 l0.length c0] rfl (by (try simp only [List.map_toArray,List.map_cons,List.map_nil]);first|done|rfl|(simp only [List.length_drop,List.length_take];rfl)) ?_;(with_reducible refine (laws_toStringS.calls k _ _ l0 t239 _ ?side1 ?side2 A7.out).mono ?_);(case side1=>exact Kd.C_below HR0.out (by repeat (first|(with_reducible first|exact HB.out|apply below_alloc|apply pw_below_drewN|apply below_drew1|refine below_set ?_ GE238.out)|exact HB.out)));(case side2=>exact HC0.out);rintro e w20 ⟨v240,rfl,ho0,hb⟩;refine ⟨_,rfl,?_⟩;have n0_:=Aside0.mk (Kd.R_elder' (by (with_reducible repeat (first|apply R_alloc|apply R_drewN|apply R_drew));exact (Kd.R_mono (Kd.R_far (p:=⟨gb238,6,none⟩) (Kd.R_far (p:=⟨gb238,5,none⟩) (Kd.R_far (p:=⟨gb238,4,none⟩) (Kd.R_far (p:=⟨gb238,3,none⟩) (Kd.R_far (p:=⟨gb238,2,none⟩) (Kd.R_far (p:=⟨gb238,1,none⟩) (Kd.R_far (p:=⟨gb238,0,none⟩) (Kd.R_types HO219.out BK238.out (by decide)) (fun _ hk=>hk.2) (.slice Ao14 t220.length co14)) (fun _ hk=>hk.2) (.int .i64 t223)) (fun _ hk=>hk.2) (.slice Ao16 t224.length co16)) (fun _ hk=>hk.2) (.slice Ao17 t227.length co17)) (fun _ hk=>hk.2) (.slice Ao18 t230.length co18)) (fun _ hk=>hk.2) (.slice Ao19 t233.length co19)) (fun _ hk=>hk.2) (.int .i64 t236)) (fun _ h_=>h_.1))) (Kd.R_base ho0) hb);have n1_:=Aside0.mk (Kd.R_elder' (by (with_reducible repeat (first|apply R_alloc|apply R_drewN|apply R_drew));exact (Kd.R_mono (Kd.R_far (p:=⟨gb238,6,none⟩) (Kd.R_far (p:=⟨gb238,5,none⟩) (Kd.R_far (p:=⟨gb238,4,none⟩) (Kd.R_far (p:=⟨gb238,3,none⟩) (Kd.R_far (p:=⟨gb238,2,none⟩) (Kd.R_far (p:=⟨gb238,1,none⟩) (Kd.R_far (p:=⟨gb238,0,none⟩) (Kd.R_types HO222.out BK238.out (by decide)) (fun _ hk=>hk.2) (.slice Ao14 t220.length co14)) (fun _ hk=>hk.2) (.int .i64 t223)) (fun _ hk=>hk.2) (.slice Ao16 t224.length co16)) (fun _ hk=>hk.2) (.slice Ao17 t227.length co17)) (fun _ hk=>hk.2) (.slice Ao18 t230.length co18)) (fun _ hk=>hk.2) (.slice Ao19 t233.length co19)) (fun _ hk=>hk.2) (.int .i64 t236)) (fun _ h_=>h_.1))) (Kd.R_base ho0) hb);have n2_:=Aside0.mk (Kd.R_below (by (with_reducible repeat (first|apply R_alloc|apply R_drewN|apply R_drew));exact (Kd.R_mono (Kd.R_far (p:=⟨gb238,6,none⟩) (Kd.R_far (p:=⟨gb238,5,none⟩) (Kd.R_far (p:=⟨gb238,4,none⟩) (Kd.R_far (p:=⟨gb238,3,none⟩) (Kd.R_far (p:=⟨gb238,2,none⟩) (Kd.R_far (p:=⟨gb238,1,none⟩) (Kd.R_far (p:=⟨gb238,0,none⟩) (Kd.R_types HO226.out BK238.out (by decide)) (fun _ hk=>hk.2) (.slice Ao14 t220.length co14)) (fun _ hk=>hk.2) (.int .i64 t223)) (fun _ hk=>hk.2) (.slice Ao16 t224.length co16)) (fun _ hk=>hk.2) (.slice Ao17 t227.length co17)) (fun _ hk=>hk.2) (.slice Ao18 t230.length co18)) (fun _ hk=>hk.2) (.slice Ao19 t233.length co19)) (fun _ hk=>hk.2) (.int .i64 t236)) (fun _ h_=>h_.1))) hb);have n3_:=Aside0.mk (Kd.R_below (by (with_reducible repeat (first|apply R_alloc|apply R_drewN|apply R_drew));exact (Kd.R_mono (Kd.R_far (p:=⟨gb238,6,none⟩) (Kd.R_far (p:=⟨gb238,5,none⟩) (Kd.R_far (p:=⟨gb238,4,none⟩) (Kd.R_far (p:=⟨gb238,3,none⟩) (Kd.R_far (p:=⟨gb238,2,none⟩) (Kd.R_far (p:=⟨gb238,1,none⟩) (Kd.R_far (p:=⟨gb238,0,none⟩) (Kd.R_types HO229.out BK238.out (by decide)) (fun _ hk=>hk.2) (.slice Ao14 t220.length co14)) (fun _ hk=>hk.2) (.int .i64 t223)) (fun _ hk=>hk.2) (.slice Ao16 t224.length co16)) (fun _ hk=>hk.2) (.slice Ao17 t227.length co17)) (fun _ hk=>hk.2) (.slice Ao18 t230.length co18)) (fun _ hk=>hk.2) (.slice Ao19 t233.length co19)) (fun _ hk=>hk.2) (.int .i64 t236)) (fun _ h_=>h_.1))) hb);have n4_:=Aside0.mk (Kd.R_elder' (by (with_reducible repeat (first|apply R_alloc|apply R_drewN|apply R_drew));exact (Kd.R_mono (Kd.R_far (p:=⟨gb238,6,none⟩) (Kd.R_far (p:=⟨gb238,5,none⟩) (Kd.R_far (p:=⟨gb238,4,none⟩) (Kd.R_far (p:=⟨gb238,3,none⟩) (Kd.R_far (p:=⟨gb238,2,none⟩) (Kd.R_far (p:=⟨gb238,1,none⟩) (Kd.R_far (p:=⟨gb238,0,none⟩) (Kd.R_types HO232.out BK238.out (by decide)) (fun _ hk=>hk.2) (.slice Ao14 t220.length co14)) (fun _ hk=>hk.2) (.int .i64 t223)) (fun _ hk=>hk.2) (.slice Ao16 t224.length co16)) (fun _ hk=>hk.2) (.slice Ao17 t227.length co17)) (fun _ hk=>hk.2) (.slice Ao18 t230.length co18)) (fun _ hk=>hk.2) (.slice Ao19 t233.length co19)) (fun _ hk=>hk.2) (.int .i64 t236)) (fun _ h_=>h_.1))) (Kd.R_base ho0) hb);have n5_:=Aside0.mk (Kd.R_below (by (with_reducible repeat (first|apply R_alloc|apply R_drewN|apply R_drew));exact (Kd.R_mono (Kd.R_far (p:=⟨gb238,6,none⟩) (Kd.R_far (p:=⟨gb238,5,none⟩) (Kd.R_far (p:=⟨gb238,4,none⟩) (Kd.R_far (p:=⟨gb238,3,none⟩) (Kd.R_far (p:=⟨gb238,2,none⟩) (Kd.R_far (p:=⟨gb238,1,none⟩) (Kd.R_far (p:=⟨gb238,0,none⟩) (Kd.R_types HO235.out BK238.out (by decide)) (fun _ hk=>hk.2) (.slice Ao14 t220.length co14)) (fun _ hk=>hk.2) (.int .i64 t223)) (fun _ hk=>hk.2) (.slice Ao16 t224.length co16)) (fun _ hk=>hk.2) (.slice Ao17 t227.length co17)) (fun _ hk=>hk.2) (.slice Ao18 t230.length co18)) (fun _ hk=>hk.2) (.slice Ao19 t233.length co19)) (fun _ hk=>hk.2) (.int .i64 t236)) (fun _ h_=>h_.1))) hb);have n6_:=Aside0.mk (Kd.R_lower (Kd.R_new' (Kd.R_new' (Kd.R_new' ho0 (Kd.R_lt (by (with_reducible repeat (first|apply R_alloc|apply R_drewN|apply R_drew));exact (Kd.R_mono (Kd.R_far (p:=⟨gb238,6,none⟩) (Kd.R_far (p:=⟨gb238,5,none⟩) (Kd.R_far (p:=⟨gb238,4,none⟩) (Kd.R_far (p:=⟨gb238,3,none⟩) (Kd.R_far (p:=⟨gb238,2,none⟩) (Kd.R_far (p:=⟨gb238,1,none⟩) (Kd.R_far (p:=⟨gb238,0,none⟩) (Kd.R_types HO219.out BK238.out (by decide)) (fun _ hk=>hk.2) (.slice Ao14 t220.length co14)) (fun _ hk=>hk.2) (.int .i64 t223)) (fun _ hk=>hk.2) (.slice Ao16 t224.length co16)) (fun _ hk=>hk.2) (.slice Ao17 t227.length co17)) (fun _ hk=>hk.2) (.slice Ao18 t230.length co18)) (fun _ hk=>hk.2) (.slice Ao19 t233.length co19)) (fun _ hk=>hk.2) (.int .i64 t236)) (fun _ h_=>h_.1))))) (Kd.R_lt (by (with_reducible repeat (first|apply R_alloc|apply R_drewN|apply R_drew));exact (Kd.R_mono (Kd.R_far (p:=⟨gb238,6,none⟩) (Kd.R_far (p:=⟨gb238,5,none⟩) (Kd.R_far (p:=⟨gb238,4,none⟩) (Kd.R_far (p:=⟨gb238,3,none⟩) (Kd.R_far (p:=⟨gb238,2,none⟩) (Kd.R_far (p:=⟨gb238,1,none⟩) (Kd.R_far (p:=⟨gb238,0,none⟩) (Kd.R_types HO222.out BK238.out (by decide)) (fun _ hk=>hk.2) (.slice Ao14 t220.length co14)) (fun _ hk=>hk.2) (.int .i64 t223)) (fun _ hk=>hk.2) (.slice Ao16 t224.length co16)) (fun _ hk=>hk.2) (.slice Ao17 t227.length co17)) (fun _ hk=>hk.2) (.slice Ao18 t230.length co18)) (fun _ hk=>hk.2) (.slice Ao19 t233.length co19)) (fun _ hk=>hk.2) (.int .i64 t236)) (fun _ h_=>h_.1))))) (Kd.R_lt (by (with_reducible repeat (first|apply R_alloc|apply R_drewN|apply R_drew));exact (Kd.R_mono (Kd.R_far (p:=⟨gb238,6,none⟩) (Kd.R_far (p:=⟨gb238,5,none⟩) (Kd.R_far (p:=⟨gb238,4,none⟩) (Kd.R_far (p:=⟨gb238,3,none⟩) (Kd.R_far (p:=⟨gb238,2,none⟩) (Kd.R_far (p:=⟨gb238,1,none⟩) (Kd.R_far (p:=⟨gb238,0,none⟩) (Kd.R_types HO232.out BK238.out (by decide)) (fun _ hk=>hk.2) (.slice Ao14 t220.length co14)) (fun _ hk=>hk.2) (.int .i64 t223)) (fun _ hk=>hk.2) (.slice Ao16 t224.length co16)) (fun _ hk=>hk.2) (.slice Ao17 t227.length co17)) (fun _ hk=>hk.2) (.slice Ao18 t230.length co18)) (fun _ hk=>hk.2) (.slice Ao19 t233.length co19)) (fun _ hk=>hk.2) (.int .i64 t236)) (fun _ h_=>h_.1))))) (below_size (by repeat (first|(with_reducible first|exact HB.out|apply below_alloc|apply pw_below_drewN|apply below_drew1|refine below_set ?_ GE238.out)|exact HB.out))));have n7_:=Aside0.mk (blk_below (g:=gb238) (o:=.cells #[.slice Ao14 t220.length co14,.int .i64 t223,.slice Ao16 t224.length co16,.slice Ao17 t227.length co17,.slice Ao18 t230.length co18,.slice Ao19 t233.length co19,.int .i64 t236] 66 (0,0)) (by (with_reducible repeat (first|refine blk_drewN ?_ _|refine blk_drew ?_|refine blk_alloc ?_ _));refine blk_put (cs:=#[.slice Ao14 t220.length co14,.int .i64 t223,.slice Ao16 t224.length co16,.slice Ao17 t227.length co17,.slice Ao18 t230.length co18,.slice Ao19 t233.length co19,.int .i64 0]) ?_ 6 _ rfl;(with_reducible repeat (first|refine blk_drewN ?_ _|refine blk_drew ?_|refine blk_alloc ?_ _));refine blk_put (cs:=#[.slice Ao14 t220.length co14,.int .i64 t223,.slice Ao16 t224.length co16,.slice Ao17 t227.length co17,.slice Ao18 t230.length co18,.slice none 0 0,.int .i64 0]) ?_ 5 _ rfl;(with_reducible repeat (first|refine blk_drewN ?_ _|refine blk_drew ?_|refine blk_alloc ?_ _));refine blk_put (cs:=#[.slice Ao14 t220.length co14,.int .i64 t223,.slice Ao16 t224.length co16,.slice Ao17 t227.length co17,.slice none 0 0,.slice none 0 0,.int .i64 0]) ?_ 4 _ rfl;(with_reducible repeat (first|refine blk_drewN ?_ _|refine blk_drew ?_|refine blk_alloc ?_ _));refine blk_put (cs:=#[.slice Ao14 t220.length co14,.int .i64 t223,.slice Ao16 t224.length co16,.slice none 0 0,.slice none 0 0,.slice none 0 0,.int .i64 0]) ?_ 3 _ rfl;(with_reducible repeat (first|refine blk_drewN ?_ _|refine blk_drew ?_|refine blk_alloc ?_ _));refine blk_put (cs:=#[.slice Ao14 t220.length co14,.int .i64 t223,.slice none 0 0,.slice none 0 0,.slice none 0 0,.slice none 0 0,.int .i64 0]) ?_ 2 _ rfl;(with_reducible repeat (first|refine blk_drewN ?_ _|refine blk_drew ?_|refine blk_alloc ?_ _));refine blk_put (cs:=#[.slice Ao14 t220.length co14,.int .i64 0,.slice none 0 0,.slice none 0 0,.slice none 0 0,.slice none 0 0,.int .i64 0]) ?_ 1 _ rfl;(with_reducible repeat (first|refine blk_drewN ?_ _|refine blk_drew ?_|refine blk_alloc ?_ _));refine blk_put (cs:=#[.slice none 0 0,.int .i64 0,.slice none 0 0,.slice none 0 0,.slice none 0 0,.slice none 0 0,.int .i64 0]) ?_ 0 _ rfl;(with_reducible repeat (first|refine blk_drewN ?_ _|refine blk_drew ?_|refine blk_alloc ?_ _));exact BK238.out) hb);have n8_:=Aside0.mk (below_step (by repeat (first|(with_reducible first|exact HB.out|apply below_alloc|apply pw_below_drewN|apply below_drew1|refine below_set ?_ GE238.out)|exact HB.out)) hb);clear HO219;clear HO222;clear HO226;clear HO229;clear HO232;clear HO235;clear BK238;clear HB;have HO219:=n0_;have HO222:=n1_;have HO226:=n2_;have HO229:=n3_;have HO232:=n4_;have HO235:=n5_;have HO241:=n6_;have BK238:=n7_;have HB:=n8_;clear n0_ n1_ n2_ n3_ n4_ n5_ n6_ n7_ n8_;(try clear hb);(try clear hb2);(try clear hk);(try clear hi);(try clear ho0);obtain ⟨Ao21,co21,eo21⟩:=Kd.R_slice HO241.out;subst eo21)|((with_reducible refine gate_callee (f:=49) rfl ?_);refine goesL_ (some 33) rfl rfl Try.func49 (by kernel_rfl) rfl #[.slice Ao21 t239.length co21,.int .i64 a1] rfl (by (try simp only [List.map_toArray,List.map_cons,List.map_nil]);first|done|rfl|(simp only [List.length_drop,List.length_take];rfl)) ?_;(with_reducible refine (impl_NewWindow.calls _ _ t239 a1 t242 t245 t246 t249 t252 t255 t258 t259 _ ?side1 ?side2 A8.out).mono ?_);(case side1=>repeat (first|exact (Kd.R_reads' HO241.out).2.2|(with_reducible refine C_alloc ?_ _)|(with_reducible refine C_drewN ?_ _)|(with_reducible refine C_drew ?_)));(case side2=>exact (Kd.R_reads' HO241.out).2.1);rintro e w22 ⟨v243,v247,v250,v253,v256,rfl,ho0,ho1,ho2,ho3,ho4,hb⟩;refine ⟨_,rfl,?_⟩;have n0_:=Aside0.mk (Kd.R_mono (Kd.R_told (Kd.R_told (Kd.R_old (by (with_reducible repeat (first|apply R_alloc|apply R_drewN|apply R_drew));exact HO219.out) hb) (Kd.R_base ho0)) (Kd.R_base ho3)) (fun _ h_=>h_.1));have n1_:=Aside0.mk (Kd.R_mono (Kd.R_told (Kd.R_told (Kd.R_old (by (with_reducible repeat (first|apply R_alloc|apply R_drewN|apply R_drew));exact HO222.out) hb) (Kd.R_base ho0)) (Kd.R_base ho3)) (fun _ h_=>h_.1));have n2_:=Aside0.mk (Kd.R_mono (Kd.R_told (Kd.R_told (Kd.R_old (by (with_reducible repeat (first|apply R_alloc|apply R_drewN|apply R_drew));exact HO226.out) hb) (Kd.R_base ho1)) (Kd.R_base ho4)) (fun _ h_=>h_.1));have n3_:=Aside0.mk (Kd.R_elder' (by (with_reducible repeat (first|apply R_alloc|apply R_drewN|apply R_drew));exact HO229.out) (Kd.R_base ho2) hb);have n4_:=Aside0.mk (Kd.R_mono (Kd.R_told (Kd.R_told (Kd.R_old (by (with_reducible repeat (first|apply R_alloc|apply R_drewN|apply R_drew));exact HO232.out) hb) (Kd.R_base ho0)) (Kd.R_base ho3)) (fun _ h_=>h_.1));have n5_:=Aside0.mk (Kd.R_mono (Kd.R_told (Kd.R_told (Kd.R_old (by (with_reducible repeat (first|apply R_alloc|apply R_drewN|apply R_drew));exact HO235.out) hb) (Kd.R_base ho1)) (Kd.R_base ho4)) (fun _ h_=>h_.1));have n6_:=Aside0.mk (Kd.R_mono (Kd.R_told (Kd.R_told (Kd.R_old (by (with_reducible repeat (first|apply R_alloc|apply R_drewN|apply R_drew));exact HO241.out) hb) (Kd.R_base ho0)) (Kd.R_base ho3)) (fun _ h_=>h_.1));have n7_:=Aside0.mk (Kd.R_lower (Kd.R_new' (Kd.R_new' (Kd.R_new' (Kd.R_new' ho0 (Kd.R_lt (by (with_reducible repeat (first|apply R_alloc|apply R_drewN|apply R_drew));exact HO219.out))) (Kd.R_lt (by (with_reducible repeat (first|apply R_alloc|apply R_drewN|apply R_drew));exact HO222.out))) (Kd.R_lt (by (with_reducible repeat (first|apply R_alloc|apply R_drewN|apply R_drew));exact HO232.out))) (Kd.R_lt (by (with_reducible repeat (first|apply R_alloc|apply R_drewN|apply R_drew));exact HO241.out))) (below_size (by repeat (first|(with_reducible first|exact HB.out|apply below_alloc|apply pw_below_drewN|apply below_drew1|refine below_set ?_ GE238.out)|exact HB.out))));have n8_:=Aside0.mk (Kd.R_lower (Kd.R_new' (Kd.R_new' ho1 (Kd.R_lt (by (with_reducible repeat (first|apply R_alloc|apply R_drewN|apply R_drew));exact HO226.out))) (Kd.R_lt (by (with_reducible repeat (first|apply R_alloc|apply R_drewN|apply R_drew));exact HO235.out))) (below_size (by repeat (first|(with_reducible first|exact HB.out|apply below_alloc|apply pw_below_drewN|apply below_drew1|refine below_set ?_ GE238.out)|exact HB.out))));have n9_:=Aside0.mk (Kd.R_lower (Kd.R_new' ho2 (Kd.R_lt (by (with_reducible repeat (first|apply R_alloc|apply R_drewN|apply R_drew));exact HO229.out))) (below_size (by repeat (first|(with_reducible first|exact HB.out|apply below_alloc|apply pw_below_drewN|apply below_drew1|refine below_set ?_ GE238.out)|exact HB.out))));have n10_:=Aside0.mk (Kd.R_lower (Kd.R_new' (Kd.R_new' (Kd.R_new' (Kd.R_new' ho3 (Kd.R_lt (by (with_reducible repeat (first|apply R_alloc|apply R_drewN|apply R_drew));exact HO219.out))) (Kd.R_lt (by (with_reducible repeat (first|apply R_alloc|apply R_drewN|apply R_drew));exact HO222.out))) (Kd.R_lt (by (with_reducible repeat (first|apply R_alloc|apply R_drewN|apply R_drew));exact HO232.out))) (Kd.R_lt (by (with_reducible repeat (first|apply R_alloc|apply R_drewN|apply R_drew));exact HO241.out))) (below_size (by repeat (first|(with_reducible first|exact HB.out|apply below_alloc|apply pw_below_drewN|apply below_drew1|refine below_set ?_ GE238.out)|exact HB.out))));have n11_:=Aside0.mk (Kd.R_lower (Kd.R_new' (Kd.R_new' ho4 (Kd.R_lt (by (with_reducible repeat (first|apply R_alloc|apply R_drewN|apply R_drew));exact HO226.out))) (Kd.R_lt (by (with_reducible repeat (first|apply R_alloc|apply R_drewN|apply R_drew));exact HO235.out))) (below_size (by repeat (first|(with_reducible first|exact HB.out|apply below_alloc|apply pw_below_drewN|apply below_drew1|refine below_set ?_ GE238.out)|exact HB.out))));have n12_:=Aside0.mk (blk_below (g:=gb238) (o:=.cells #[.slice Ao14 t220.length co14,.int .i64 t223,.slice Ao16 t224.length co16,.slice Ao17 t227.length co17,.slice Ao18 t230.length co18,.slice Ao19 t233.length co19,.int .i64 t236] 66 (0,0)) (by (with_reducible repeat (first|refine blk_drewN ?_ _|refine blk_drew ?_|refine blk_alloc ?_ _));exact BK238.out) hb);have n13_:=Aside0.mk (below_step (by repeat (first|(with_reducible first|exact HB.out|apply below_alloc|apply pw_below_drewN|apply below_drew1|refine below_set ?_ GE238.out)|exact HB.out)) hb);clear HO219;clear HO222;clear HO226;clear HO229;clear HO232;clear HO235;clear HO241;clear BK238;clear HB;have HO219:=n0_;have HO222:=n1_;have HO226:=n2_;have HO229:=n3_;have HO232:=n4_;have HO235:=n5_;have HO241:=n6_;have HO244:=n7_;have HO248:=n8_;have HO251:=n9_;have HO254:=n10_;have HO257:=n11_;have BK238:=n12_;have HB:=n13_;clear n0_ n1_ n2_ n3_ n4_ n5_ n6_ n7_ n8_ n9_ n10_ n11_ n12_ n13_;(try clear hb);(try clear hb2);(try clear hk);(try clear hi);(try clear ho0);(try clear ho1);(try clear ho2);(try clear ho3);(try clear ho4))|((with_reducible refine gate_dst (N:=9) rfl ?_);refine box_event ?hg (N:=9) ?hd (cs:=#[.slice none 0 0,.int .i64 0,.slice none 0 0,.slice none 0 0,.slice none 0 0,.slice none 0 0,.int .i64 0]) (t:=66) ?hr ?_;(case hd=>rfl);(case hg=>rfl);(case hr=>first|(go_simp;done)|(go_simp;rfl));intro gb260 hg w23 hbox hb;have n0_:=Aside0.mk (Kd.R_below (by (with_reducible repeat (first|apply R_alloc|apply R_drewN|apply R_drew));exact HO219.out) hb);have n1_:=Aside0.mk (Kd.R_below (by (with_reducible repeat (first|apply R_alloc|apply R_drewN|apply R_drew));exact HO222.out) hb);have n2_:=Aside0.mk (Kd.R_below (by (with_reducible repeat (first|apply R_alloc|apply R_drewN|apply R_drew));exact HO226.out) hb);have n3_:=Aside0.mk (Kd.R_below (by (with_reducible repeat (first|apply R_alloc|apply R_drewN|apply R_drew));exact HO229.out) hb);have n4_:=Aside0.mk (Kd.R_below (by (with_reducible repeat (first|apply R_alloc|apply R_drewN|apply R_drew));exact HO232.out) hb);have n5_:=Aside0.mk (Kd.R_below (by (with_reducible repeat (first|apply R_alloc|apply R_drewN|apply R_drew));exact HO235.out) hb);have n6_:=Aside0.mk (Kd.R_below (by (with_reducible repeat (first|apply R_alloc|apply R_drewN|apply R_drew));exact HO241.out) hb);have n7_:=Aside0.mk (Kd.R_below (by (with_reducible repeat (first|apply R_alloc|apply R_drewN|apply R_drew));exact HO244.out) hb);have n8_:=Aside0.mk (Kd.R_below (by (with_reducible repeat (first|apply R_alloc|apply R_drewN|apply R_drew));exact HO248.out) hb);have n9_:=Aside0.mk (Kd.R_below (by (with_reducible repeat (first|apply R_alloc|apply R_drewN|apply R_drew));exact HO251.out) hb);have n10_:=Aside0.mk (Kd.R_below (by (with_reducible repeat (first|apply R_alloc|apply R_drewN|apply R_drew));exact HO254.out) hb);have n11_:=Aside0.mk (Kd.R_below (by (with_reducible repeat (first|apply R_alloc|apply R_drewN|apply R_drew));exact HO257.out) hb);have n12_:=Aside0.mk (blk_below (g:=gb238) (o:=.cells #[.slice Ao14 t220.length co14,.int .i64 t223,.slice Ao16 t224.length co16,.slice Ao17 t227.length co17,.slice Ao18 t230.length co18,.slice Ao19 t233.length co19,.int .i64 t236] 66 (0,0)) (by (with_reducible repeat (first|refine blk_drewN ?_ _|refine blk_drew ?_|refine blk_alloc ?_ _));exact BK238.out) hb);have n13_:=Aside0.mk (below_step (by repeat (first|(with_reducible first|exact HB.out|apply below_alloc|apply pw_below_drewN|apply below_drew1|refine below_set ?_ GE238.out)|exact HB.out)) hb);have n14_:=Aside0.mk (hbox);have n15_:=Aside0.mk ((by rw [hg];exact (below_size (by repeat (first|(with_reducible first|exact HB.out|apply below_alloc|apply pw_below_drewN|apply below_drew1|refine below_set ?_ GE238.out)|exact HB.out))) : w.heap.size ≤ gb260));have n16_:=Aside0.mk ((by rw [hg];exact (below_size (by repeat (first|(with_reducible first|exact HB.out|apply below_alloc|apply pw_below_drewN|apply below_drew1|refine below_set ?_ GE238.out)|exact HB.out))) : w.heap.size ≤ gb260));have n17_:=Aside0.mk ((by rw [hg];exact Nat.ne_of_lt (blk_lt (g:=gb238) (o:=.cells #[.slice Ao14 t220.length co14,.int .i64 t223,.slice Ao16 t224.length co16,.slice Ao17 t227.length co17,.slice Ao18 t230.length co18,.slice Ao19 t233.length co19,.int .i64 t236] 66 (0,0)) (by (with_reducible repeat (first|refine blk_drewN ?_ _|refine blk_drew ?_|refine blk_alloc ?_ _));exact BK238.out)) : gb238 ≠ gb260));have n18_:=Aside0.mk ((by rw [hg];exact Nat.ne_of_gt (blk_lt (g:=gb238) (o:=.cells #[.slice Ao14 t220.length co14,.int .i64 t223,.slice Ao16 t224.length co16,.slice Ao17 t227.length co17,.slice Ao18 t230.length co18,.slice Ao19 t233.length co19,.int .i64 t236] 66 (0,0)) (by (with_reducible repeat (first|refine blk_drewN ?_ _|refine blk_drew ?_|refine blk_alloc ?_ _));exact BK238.out)) : gb260 ≠ gb238));clear HO219;clear HO222;clear HO226;clear HO229;clear HO232;clear HO235;clear HO241;clear HO244;clear HO248;clear HO251;clear HO254;clear HO257;clear BK238;clear HB;have HO219:=n0_;have HO222:=n1_;have HO226:=n2_;have HO229:=n3_;have HO232:=n4_;have HO235:=n5_;have HO241:=n6_;have HO244:=n7_;have HO248:=n8_;have HO251:=n9_;have HO254:=n10_;have HO257:=n11_;have BK238:=n12_;have HB:=n13_;have BK260:=n14_;have GW260:=n15_;have GE260:=n16_;have NB238_260:=n17_;have NB260_238:=n18_;clear n0_ n1_ n2_ n3_ n4_ n5_ n6_ n7_ n8_ n9_ n10_ n11_ n12_ n13_ n14_ n15_ n16_ n17_ n18_;clear hb hbox hg;obtain ⟨Ao24,co24,eo24⟩:=Kd.R_slice HO244.out;subst eo24;have hnb25:=NB260_238.out;have hnc25:=NB238_260.out;have hcz26_0 : w23.cell? ⟨gb260,0,none⟩ = some (.slice none 0 0):=(blk_cell BK260.out 0).trans rfl;have hcz26_1 : w23.cell? ⟨gb260,1,none⟩ = some (.int .i64 0):=(blk_cell BK260.out 1).trans rfl;have hcz26_2 : w23.cell? ⟨gb260,2,none⟩ = some (.slice none 0 0):=(blk_cell BK260.out 2).trans rfl;have hcz26_3 : w23.cell? ⟨gb260,3,none⟩ = some (.slice none 0 0):=(blk_cell BK260.out 3).trans rfl;have hcz26_4 : w23.cell? ⟨gb260,4,none⟩ = some (.slice none 0 0):=(blk_cell BK260.out 4).trans rfl;have hcz26_5 : w23.cell? ⟨gb260,5,none⟩ = some (.slice none 0 0):=(blk_cell BK260.out 5).trans rfl;have hcz26_6 : w23.cell? ⟨gb260,6,none⟩ = some (.int .i64 0):=(blk_cell BK260.out 6).trans rfl;have hfz26_0:=blk_frozen BK260.out 0;have hfz26_1:=blk_frozen BK260.out 1;have hfz26_2:=blk_frozen BK260.out 2;have hfz26_3:=blk_frozen BK260.out 3;have hfz26_4:=blk_frozen BK260.out 4;have hfz26_5:=blk_frozen BK260.out 5;have hfz26_6:=blk_frozen BK260.out 6;obtain ⟨Ao27,co27,eo27⟩:=Kd.R_slice HO248.out;subst eo27;obtain ⟨Ao28,co28,eo28⟩:=Kd.R_slice HO251.out;subst eo28;obtain ⟨Ao29,co29,eo29⟩:=Kd.R_slice HO254.out;subst eo29;obtain ⟨Ao30,co30,eo30⟩:=Kd.R_slice HO257.out;subst eo30))
  (try simp only [Act.put,List.setIfInBounds_toArray,List.set_cons_zero,List.set_cons_succ])
  go_cut [44] (fun v44 wc=>∃ (kq : Nat) (x44_8 : Bool),v44 = .bool x44_8∧Aside0 (laws_FnExactNewWindow.j0 kq l0 a1 t237 t239 t259 x44_8 t220 t223 t224 t227 t230 t233 t236 t242 t245 t246 t249 t252 t255 t258 = some r)∧Aside0 (kq ≤ k)∧Aside0 (Kd.R Kd.string 9 wc w.heap.size (fun k_=>some k_ ≠ ((.slice Ao14 t220.length co14) : Value).ownBlock∧some k_ ≠ ((.slice Ao18 t230.length co18) : Value).ownBlock∧some k_ ≠ ((.slice Ao24 t242.length co24) : Value).ownBlock∧some k_ ≠ ((.slice Ao29 t252.length co29) : Value).ownBlock) (.slice Ao21 t239.length co21) t239)∧Aside0 (Kd.R Kd.string 9 wc w.heap.size (fun k_=>some k_ ≠ ((.slice Ao21 t239.length co21) : Value).ownBlock∧some k_ ≠ ((.slice Ao18 t230.length co18) : Value).ownBlock∧some k_ ≠ ((.slice Ao24 t242.length co24) : Value).ownBlock∧some k_ ≠ ((.slice Ao29 t252.length co29) : Value).ownBlock) (.slice Ao14 t220.length co14) t220)∧Aside0 (Kd.R Kd.bool 4 wc w.heap.size (fun k_=>some k_ ≠ ((.slice Ao19 t233.length co19) : Value).ownBlock∧some k_ ≠ ((.slice Ao27 t246.length co27) : Value).ownBlock∧some k_ ≠ ((.slice Ao30 t255.length co30) : Value).ownBlock) (.slice Ao16 t224.length co16) t224)∧Aside0 (Kd.R k128 128 wc w.heap.size (fun k_=>some k_ ≠ ((.slice Ao28 t249.length co28) : Value).ownBlock) (.slice Ao17 t227.length co17) t227)∧Aside0 (Kd.R Kd.string 9 wc w.heap.size (fun k_=>some k_ ≠ ((.slice Ao21 t239.length co21) : Value).ownBlock∧some k_ ≠ ((.slice Ao14 t220.length co14) : Value).ownBlock∧some k_ ≠ ((.slice Ao24 t242.length co24) : Value).ownBlock∧some k_ ≠ ((.slice Ao29 t252.length co29) : Value).ownBlock) (.slice Ao18 t230.length co18) t230)∧Aside0 (Kd.R Kd.bool 4 wc w.heap.size (fun k_=>some k_ ≠ ((.slice Ao16 t224.length co16) : Value).ownBlock∧some k_ ≠ ((.slice Ao27 t246.length co27) : Value).ownBlock∧some k_ ≠ ((.slice Ao30 t255.length co30) : Value).ownBlock) (.slice Ao19 t233.length co19) t233)∧Aside0 (Kd.R Kd.string 9 wc w.heap.size (fun k_=>some k_ ≠ ((.slice Ao21 t239.length co21) : Value).ownBlock∧some k_ ≠ ((.slice Ao14 t220.length co14) : Value).ownBlock∧some k_ ≠ ((.slice Ao18 t230.length co18) : Value).ownBlock∧some k_ ≠ ((.slice Ao29 t252.length co29) : Value).ownBlock) (.slice Ao24 t242.length co24) t242)∧Aside0 (Kd.R Kd.bool 4 wc w.heap.size (fun k_=>some k_ ≠ ((.slice Ao16 t224.length co16) : Value).ownBlock∧some k_ ≠ ((.slice Ao19 t233.length co19) : Value).ownBlock∧some k_ ≠ ((.slice Ao30 t255.length co30) : Value).ownBlock) (.slice Ao27 t246.length co27) t246)∧Aside0 (Kd.R k128 128 wc w.heap.size (fun k_=>some k_ ≠ ((.slice Ao17 t227.length co17) : Value).ownBlock) (.slice Ao28 t249.length co28) t249)∧Aside0 (Kd.R Kd.string 9 wc w.heap.size (fun k_=>some k_ ≠ ((.slice Ao21 t239.length co21) : Value).ownBlock∧some k_ ≠ ((.slice Ao14 t220.length co14) : Value).ownBlock∧some k_ ≠ ((.slice Ao18 t230.length co18) : Value).ownBlock∧some k_ ≠ ((.slice Ao24 t242.length co24) : Value).ownBlock) (.slice Ao29 t252.length co29) t252)∧Aside0 (Kd.R Kd.bool 4 wc w.heap.size (fun k_=>some k_ ≠ ((.slice Ao16 t224.length co16) : Value).ownBlock∧some k_ ≠ ((.slice Ao19 t233.length co19) : Value).ownBlock∧some k_ ≠ ((.slice Ao27 t246.length co27) : Value).ownBlock) (.slice Ao30 t255.length co30) t255)∧Aside0 (wc.heap[gb238]? = some (.cells #[(.slice Ao14 t220.length co14),.int .i64 t223,(.slice Ao16 t224.length co16),(.slice Ao17 t227.length co17),(.slice Ao18 t230.length co18),(.slice Ao19 t233.length co19),.int .i64 t236] 66 (0,0)))∧Aside0 (wc.heap[gb260]? = some (.cells #[(.slice Ao24 t242.length co24),.int .i64 t245,(.slice Ao27 t246.length co27),(.slice Ao28 t249.length co28),(.slice Ao29 t252.length co29),(.slice Ao30 t255.length co30),.int .i64 t258] 66 (0,0)))∧Aside0 (Below w.heap.size w wc))
  case first =>
   have H:=HC9.out
   clear HC9
   replace H:=Option.bind_eq_some_iff.mp H
   obtain ⟨t261,A310,H⟩:=H
   replace H : (if t261 = true then (laws_FnExactNewWindow.j0 k l0 a1 t237 t239 t259 (t259 != t237) t220 t223 t224 t227 t230 t233 t236 t242 t245 t246 t249 t252 t255 t258) else (laws_FnExactNewWindow.j0 k l0 a1 t237 t239 t259 true t220 t223 t224 t227 t230 t233 t236 t242 t245 t246 t249 t252 t255 t258)) = some r:=H
   have A31:=Aside0.mk A310
   clear A310
   by_cases c32 : t261 = true
   case' pos =>
    subst c32
    have H1 : (laws_FnExactNewWindow.j0 k l0 a1 t237 t239 t259 (t259 != t237) t220 t223 t224 t227 t230 t233 t236 t242 t245 t246 t249 t252 t255 t258) = some r:=by rw [if_pos rfl] at H;exact H
    clear H
    have H:=H1
    clear H1
    have H':=Aside0.mk H
    clear H
    have hnb33:=NB260_238.out
    have hnc33:=NB238_260.out
    have hcz34_0 : w23.cell? ⟨gb260,0,none⟩ = some (.slice none 0 0):=(blk_cell BK260.out 0).trans rfl
    have hcz34_1 : w23.cell? ⟨gb260,1,none⟩ = some (.int .i64 0):=(blk_cell BK260.out 1).trans rfl
    have hcz34_2 : w23.cell? ⟨gb260,2,none⟩ = some (.slice none 0 0):=(blk_cell BK260.out 2).trans rfl
    have hcz34_3 : w23.cell? ⟨gb260,3,none⟩ = some (.slice none 0 0):=(blk_cell BK260.out 3).trans rfl
    have hcz34_4 : w23.cell? ⟨gb260,4,none⟩ = some (.slice none 0 0):=(blk_cell BK260.out 4).trans rfl
    have hcz34_5 : w23.cell? ⟨gb260,5,none⟩ = some (.slice none 0 0):=(blk_cell BK260.out 5).trans rfl
    have hcz34_6 : w23.cell? ⟨gb260,6,none⟩ = some (.int .i64 0):=(blk_cell BK260.out 6).trans rfl
    have hfz34_0:=blk_frozen BK260.out 0
    have hfz34_1:=blk_frozen BK260.out 1
    have hfz34_2:=blk_frozen BK260.out 2
    have hfz34_3:=blk_frozen BK260.out 3
    have hfz34_4:=blk_frozen BK260.out 4
    have hfz34_5:=blk_frozen BK260.out 5
    have hfz34_6:=blk_frozen BK260.out 6
    have hcz35_0 : w23.cell? ⟨gb238,0,none⟩ = some (.slice Ao14 t220.length co14):=(blk_cell BK238.out 0).trans rfl
    have hcz35_1 : w23.cell? ⟨gb238,1,none⟩ = some (.int .i64 t223):=(blk_cell BK238.out 1).trans rfl
    have hcz35_2 : w23.cell? ⟨gb238,2,none⟩ = some (.slice Ao16 t224.length co16):=(blk_cell BK238.out 2).trans rfl
    have hcz35_3 : w23.cell? ⟨gb238,3,none⟩ = some (.slice Ao17 t227.length co17):=(blk_cell BK238.out 3).trans rfl
    have hcz35_4 : w23.cell? ⟨gb238,4,none⟩ = some (.slice Ao18 t230.length co18):=(blk_cell BK238.out 4).trans rfl
    have hcz35_5 : w23.cell? ⟨gb238,5,none⟩ = some (.slice Ao19 t233.length co19):=(blk_cell BK238.out 5).trans rfl
    have hcz35_6 : w23.cell? ⟨gb238,6,none⟩ = some (.int .i64 t236):=(blk_cell BK238.out 6).trans rfl
    have hfz35_0:=blk_frozen BK238.out 0
    have hfz35_1:=blk_frozen BK238.out 1
    have hfz35_2:=blk_frozen BK238.out 2
    have hfz35_3:=blk_frozen BK238.out 3
    have hfz35_4:=blk_frozen BK238.out 4
    have hfz35_5:=blk_frozen BK238.out 5
    have hfz35_6:=blk_frozen BK238.out 6
   case' neg =>
    replace c32:=Bool.eq_false_iff.mpr c32
    subst c32
    have H1 : (laws_FnExactNewWindow.j0 k l0 a1 t237 t239 t259 true t220 t223 t224 t227 t230 t233 t236 t242 t245 t246 t249 t252 t255 t258) = some r:=by rw [if_neg (show ¬ (false = true) by decide)] at H;exact H
    clear H
    have H:=H1
    clear H1
    have H':=Aside0.mk H
    clear H
    have hnb37:=NB260_238.out
    have hnc37:=NB238_260.out
    have hcz38_0 : w23.cell? ⟨gb260,0,none⟩ = some (.slice none 0 0):=(blk_cell BK260.out 0).trans rfl
    have hcz38_1 : w23.cell? ⟨gb260,1,none⟩ = some (.int .i64 0):=(blk_cell BK260.out 1).trans rfl
    have hcz38_2 : w23.cell? ⟨gb260,2,none⟩ = some (.slice none 0 0):=(blk_cell BK260.out 2).trans rfl
    have hcz38_3 : w23.cell? ⟨gb260,3,none⟩ = some (.slice none 0 0):=(blk_cell BK260.out 3).trans rfl
    have hcz38_4 : w23.cell? ⟨gb260,4,none⟩ = some (.slice none 0 0):=(blk_cell BK260.out 4).trans rfl
    have hcz38_5 : w23.cell? ⟨gb260,5,none⟩ = some (.slice none 0 0):=(blk_cell BK260.out 5).trans rfl
    have hcz38_6 : w23.cell? ⟨gb260,6,none⟩ = some (.int .i64 0):=(blk_cell BK260.out 6).trans rfl
    have hfz38_0:=blk_frozen BK260.out 0
    have hfz38_1:=blk_frozen BK260.out 1
    have hfz38_2:=blk_frozen BK260.out 2
    have hfz38_3:=blk_frozen BK260.out 3
    have hfz38_4:=blk_frozen BK260.out 4
    have hfz38_5:=blk_frozen BK260.out 5
    have hfz38_6:=blk_frozen BK260.out 6
    have hcz39_0 : w23.cell? ⟨gb238,0,none⟩ = some (.slice Ao14 t220.length co14):=(blk_cell BK238.out 0).trans rfl
    have hcz39_1 : w23.cell? ⟨gb238,1,none⟩ = some (.int .i64 t223):=(blk_cell BK238.out 1).trans rfl
    have hcz39_2 : w23.cell? ⟨gb238,2,none⟩ = some (.slice Ao16 t224.length co16):=(blk_cell BK238.out 2).trans rfl
    have hcz39_3 : w23.cell? ⟨gb238,3,none⟩ = some (.slice Ao17 t227.length co17):=(blk_cell BK238.out 3).trans rfl
    have hcz39_4 : w23.cell? ⟨gb238,4,none⟩ = some (.slice Ao18 t230.length co18):=(blk_cell BK238.out 4).trans rfl
    have hcz39_5 : w23.cell? ⟨gb238,5,none⟩ = some (.slice Ao19 t233.length co19):=(blk_cell BK238.out 5).trans rfl
    have hcz39_6 : w23.cell? ⟨gb238,6,none⟩ = some (.int .i64 t236):=(blk_cell BK238.out 6).trans rfl
    have hfz39_0:=blk_frozen BK238.out 0
    have hfz39_1:=blk_frozen BK238.out 1
    have hfz39_2:=blk_frozen BK238.out 2
    have hfz39_3:=blk_frozen BK238.out 3
    have hfz39_4:=blk_frozen BK238.out 4
    have hfz39_5:=blk_frozen BK238.out 5
    have hfz39_6:=blk_frozen BK238.out 6
   all_goals
    go_wp2_with (first|((with_reducible refine gate_callee (f:=50) rfl ?_);refine goesL_ (some 38) rfl rfl Try.func50 (by kernel_rfl) rfl #[.agg #[.slice Ao24 t242.length co24,.int .i64 t245,.slice Ao27 t246.length co27,.slice Ao28 t249.length co28,.slice Ao29 t252.length co29,.slice Ao30 t255.length co30,.int .i64 t258],.agg #[.slice Ao14 t220.length co14,.int .i64 t223,.slice Ao16 t224.length co16,.slice Ao17 t227.length co17,.slice Ao18 t230.length co18,.slice Ao19 t233.length co19,.int .i64 t236]] rfl (by (try simp only [List.map_toArray,List.map_cons,List.map_nil]);first|done|rfl|(simp only [List.length_drop,List.length_take];rfl)) ?_;(with_reducible refine (laws_eqWindow.calls k _ _ t242 t245 _ _ t246 _ _ t249 _ _ t252 _ _ t255 t258 _ _ t220 t223 _ _ t224 _ _ t227 _ _ t230 _ _ t233 t236 _ _ ?side1 ?side2 ?side3 ?side4 ?side5 ?side6 ?side7 ?side8 ?side9 ?side10 ?side11 ?side12 ?side13 ?side14 ?side15 ?side16 ?side17 ?side18 ?side19 ?side20 A31.out).mono ?_);(case side1=>refine (Kd.R_reads' (e:=9) (base:=w.heap.size) (ok:=fun k_=>((((some k_ ≠ (.slice Ao29 t252.length co29 : Value).ownBlock∧some k_ ≠ (.slice Ao11 t217.length co11 : Value).ownBlock)∧some k_ ≠ (.slice Ao14 t220.length co14 : Value).ownBlock)∧some k_ ≠ (.slice Ao18 t230.length co18 : Value).ownBlock)∧some k_ ≠ (.slice Ao21 t239.length co21 : Value).ownBlock)) (n:=t242.length) (c:=co24) ?_).2.2;exact (by (with_reducible repeat (first|apply R_alloc|apply R_drewN|apply R_drew));exact (Kd.R_mono (Kd.R_far (p:=⟨gb260,6,none⟩) (Kd.R_far (p:=⟨gb260,5,none⟩) (Kd.R_far (p:=⟨gb260,4,none⟩) (Kd.R_far (p:=⟨gb260,3,none⟩) (Kd.R_far (p:=⟨gb260,2,none⟩) (Kd.R_far (p:=⟨gb260,1,none⟩) (Kd.R_far (p:=⟨gb260,0,none⟩) (Kd.R_types HO244.out BK260.out (by decide)) (fun _ hk=>hk.2) (.slice Ao24 t242.length co24)) (fun _ hk=>hk.2) (.int .i64 t245)) (fun _ hk=>hk.2) (.slice Ao27 t246.length co27)) (fun _ hk=>hk.2) (.slice Ao28 t249.length co28)) (fun _ hk=>hk.2) (.slice Ao29 t252.length co29)) (fun _ hk=>hk.2) (.slice Ao30 t255.length co30)) (fun _ hk=>hk.2) (.int .i64 t258)) (fun _ h_=>h_.1))));(case side2=>exact (Kd.R_reads' HO244.out).2.1);(case side3=>refine (Kd.R_reads' (e:=4) (base:=w.heap.size) (ok:=fun k_=>((some k_ ≠ (.slice Ao30 t255.length co30 : Value).ownBlock∧some k_ ≠ (.slice Ao16 t224.length co16 : Value).ownBlock)∧some k_ ≠ (.slice Ao19 t233.length co19 : Value).ownBlock)) (n:=t246.length) (c:=co27) ?_).2.2;exact (by (with_reducible repeat (first|apply R_alloc|apply R_drewN|apply R_drew));exact (Kd.R_mono (Kd.R_far (p:=⟨gb260,6,none⟩) (Kd.R_far (p:=⟨gb260,5,none⟩) (Kd.R_far (p:=⟨gb260,4,none⟩) (Kd.R_far (p:=⟨gb260,3,none⟩) (Kd.R_far (p:=⟨gb260,2,none⟩) (Kd.R_far (p:=⟨gb260,1,none⟩) (Kd.R_far (p:=⟨gb260,0,none⟩) (Kd.R_types HO248.out BK260.out (by decide)) (fun _ hk=>hk.2) (.slice Ao24 t242.length co24)) (fun _ hk=>hk.2) (.int .i64 t245)) (fun _ hk=>hk.2) (.slice Ao27 t246.length co27)) (fun _ hk=>hk.2) (.slice Ao28 t249.length co28)) (fun _ hk=>hk.2) (.slice Ao29 t252.length co29)) (fun _ hk=>hk.2) (.slice Ao30 t255.length co30)) (fun _ hk=>hk.2) (.int .i64 t258)) (fun _ h_=>h_.1))));(case side4=>exact (Kd.R_reads' HO248.out).2.1);(case side5=>refine (Kd.R_reads' (e:=128) (base:=w.heap.size) (ok:=fun k_=>(True∧some k_ ≠ (.slice Ao17 t227.length co17 : Value).ownBlock)) (n:=t249.length) (c:=co28) ?_).2.2;exact (by (with_reducible repeat (first|apply R_alloc|apply R_drewN|apply R_drew));exact (Kd.R_mono (Kd.R_far (p:=⟨gb260,6,none⟩) (Kd.R_far (p:=⟨gb260,5,none⟩) (Kd.R_far (p:=⟨gb260,4,none⟩) (Kd.R_far (p:=⟨gb260,3,none⟩) (Kd.R_far (p:=⟨gb260,2,none⟩) (Kd.R_far (p:=⟨gb260,1,none⟩) (Kd.R_far (p:=⟨gb260,0,none⟩) (Kd.R_types HO251.out BK260.out (by decide)) (fun _ hk=>hk.2) (.slice Ao24 t242.length co24)) (fun _ hk=>hk.2) (.int .i64 t245)) (fun _ hk=>hk.2) (.slice Ao27 t246.length co27)) (fun _ hk=>hk.2) (.slice Ao28 t249.length co28)) (fun _ hk=>hk.2) (.slice Ao29 t252.length co29)) (fun _ hk=>hk.2) (.slice Ao30 t255.length co30)) (fun _ hk=>hk.2) (.int .i64 t258)) (fun _ h_=>h_.1))));(case side6=>exact (Kd.R_reads' HO251.out).2.1);(case side7=>refine (Kd.R_reads' (e:=9) (base:=w.heap.size) (ok:=fun k_=>((((some k_ ≠ (.slice Ao24 t242.length co24 : Value).ownBlock∧some k_ ≠ (.slice Ao11 t217.length co11 : Value).ownBlock)∧some k_ ≠ (.slice Ao14 t220.length co14 : Value).ownBlock)∧some k_ ≠ (.slice Ao18 t230.length co18 : Value).ownBlock)∧some k_ ≠ (.slice Ao21 t239.length co21 : Value).ownBlock)) (n:=t252.length) (c:=co29) ?_).2.2;exact (by (with_reducible repeat (first|apply R_alloc|apply R_drewN|apply R_drew));exact (Kd.R_mono (Kd.R_far (p:=⟨gb260,6,none⟩) (Kd.R_far (p:=⟨gb260,5,none⟩) (Kd.R_far (p:=⟨gb260,4,none⟩) (Kd.R_far (p:=⟨gb260,3,none⟩) (Kd.R_far (p:=⟨gb260,2,none⟩) (Kd.R_far (p:=⟨gb260,1,none⟩) (Kd.R_far (p:=⟨gb260,0,none⟩) (Kd.R_types HO254.out BK260.out (by decide)) (fun _ hk=>hk.2) (.slice Ao24 t242.length co24)) (fun _ hk=>hk.2) (.int .i64 t245)) (fun _ hk=>hk.2) (.slice Ao27 t246.length co27)) (fun _ hk=>hk.2) (.slice Ao28 t249.length co28)) (fun _ hk=>hk.2) (.slice Ao29 t252.length co29)) (fun _ hk=>hk.2) (.slice Ao30 t255.length co30)) (fun _ hk=>hk.2) (.int .i64 t258)) (fun _ h_=>h_.1))));(case side8=>exact (Kd.R_reads' HO254.out).2.1);(case side9=>refine (Kd.R_reads' (e:=4) (base:=w.heap.size) (ok:=fun k_=>((some k_ ≠ (.slice Ao27 t246.length co27 : Value).ownBlock∧some k_ ≠ (.slice Ao16 t224.length co16 : Value).ownBlock)∧some k_ ≠ (.slice Ao19 t233.length co19 : Value).ownBlock)) (n:=t255.length) (c:=co30) ?_).2.2;exact (by (with_reducible repeat (first|apply R_alloc|apply R_drewN|apply R_drew));exact (Kd.R_mono (Kd.R_far (p:=⟨gb260,6,none⟩) (Kd.R_far (p:=⟨gb260,5,none⟩) (Kd.R_far (p:=⟨gb260,4,none⟩) (Kd.R_far (p:=⟨gb260,3,none⟩) (Kd.R_far (p:=⟨gb260,2,none⟩) (Kd.R_far (p:=⟨gb260,1,none⟩) (Kd.R_far (p:=⟨gb260,0,none⟩) (Kd.R_types HO257.out BK260.out (by decide)) (fun _ hk=>hk.2) (.slice Ao24 t242.length co24)) (fun _ hk=>hk.2) (.int .i64 t245)) (fun _ hk=>hk.2) (.slice Ao27 t246.length co27)) (fun _ hk=>hk.2) (.slice Ao28 t249.length co28)) (fun _ hk=>hk.2) (.slice Ao29 t252.length co29)) (fun _ hk=>hk.2) (.slice Ao30 t255.length co30)) (fun _ hk=>hk.2) (.int .i64 t258)) (fun _ h_=>h_.1))));(case side10=>exact (Kd.R_reads' HO257.out).2.1);(case side11=>refine (Kd.R_reads' (e:=9) (base:=w.heap.size) (ok:=fun k_=>((((some k_ ≠ (.slice Ao18 t230.length co18 : Value).ownBlock∧some k_ ≠ (.slice Ao11 t217.length co11 : Value).ownBlock)∧some k_ ≠ (.slice Ao21 t239.length co21 : Value).ownBlock)∧some k_ ≠ (.slice Ao24 t242.length co24 : Value).ownBlock)∧some k_ ≠ (.slice Ao29 t252.length co29 : Value).ownBlock)) (n:=t220.length) (c:=co14) ?_).2.2;exact (by (with_reducible repeat (first|apply R_alloc|apply R_drewN|apply R_drew));exact (Kd.R_mono (Kd.R_far (p:=⟨gb260,6,none⟩) (Kd.R_far (p:=⟨gb260,5,none⟩) (Kd.R_far (p:=⟨gb260,4,none⟩) (Kd.R_far (p:=⟨gb260,3,none⟩) (Kd.R_far (p:=⟨gb260,2,none⟩) (Kd.R_far (p:=⟨gb260,1,none⟩) (Kd.R_far (p:=⟨gb260,0,none⟩) (Kd.R_types HO222.out BK260.out (by decide)) (fun _ hk=>hk.2) (.slice Ao24 t242.length co24)) (fun _ hk=>hk.2) (.int .i64 t245)) (fun _ hk=>hk.2) (.slice Ao27 t246.length co27)) (fun _ hk=>hk.2) (.slice Ao28 t249.length co28)) (fun _ hk=>hk.2) (.slice Ao29 t252.length co29)) (fun _ hk=>hk.2) (.slice Ao30 t255.length co30)) (fun _ hk=>hk.2) (.int .i64 t258)) (fun _ h_=>h_.1))));(case side12=>exact (Kd.R_reads' HO222.out).2.1);(case side13=>refine (Kd.R_reads' (e:=4) (base:=w.heap.size) (ok:=fun k_=>((some k_ ≠ (.slice Ao19 t233.length co19 : Value).ownBlock∧some k_ ≠ (.slice Ao27 t246.length co27 : Value).ownBlock)∧some k_ ≠ (.slice Ao30 t255.length co30 : Value).ownBlock)) (n:=t224.length) (c:=co16) ?_).2.2;exact (by (with_reducible repeat (first|apply R_alloc|apply R_drewN|apply R_drew));exact (Kd.R_mono (Kd.R_far (p:=⟨gb260,6,none⟩) (Kd.R_far (p:=⟨gb260,5,none⟩) (Kd.R_far (p:=⟨gb260,4,none⟩) (Kd.R_far (p:=⟨gb260,3,none⟩) (Kd.R_far (p:=⟨gb260,2,none⟩) (Kd.R_far (p:=⟨gb260,1,none⟩) (Kd.R_far (p:=⟨gb260,0,none⟩) (Kd.R_types HO226.out BK260.out (by decide)) (fun _ hk=>hk.2) (.slice Ao24 t242.length co24)) (fun _ hk=>hk.2) (.int .i64 t245)) (fun _ hk=>hk.2) (.slice Ao27 t246.length co27)) (fun _ hk=>hk.2) (.slice Ao28 t249.length co28)) (fun _ hk=>hk.2) (.slice Ao29 t252.length co29)) (fun _ hk=>hk.2) (.slice Ao30 t255.length co30)) (fun _ hk=>hk.2) (.int .i64 t258)) (fun _ h_=>h_.1))));(case side14=>exact (Kd.R_reads' HO226.out).2.1);(case side15=>refine (Kd.R_reads' (e:=128) (base:=w.heap.size) (ok:=fun k_=>(True∧some k_ ≠ (.slice Ao28 t249.length co28 : Value).ownBlock)) (n:=t227.length) (c:=co17) ?_).2.2;exact (by (with_reducible repeat (first|apply R_alloc|apply R_drewN|apply R_drew));exact (Kd.R_mono (Kd.R_far (p:=⟨gb260,6,none⟩) (Kd.R_far (p:=⟨gb260,5,none⟩) (Kd.R_far (p:=⟨gb260,4,none⟩) (Kd.R_far (p:=⟨gb260,3,none⟩) (Kd.R_far (p:=⟨gb260,2,none⟩) (Kd.R_far (p:=⟨gb260,1,none⟩) (Kd.R_far (p:=⟨gb260,0,none⟩) (Kd.R_types HO229.out BK260.out (by decide)) (fun _ hk=>hk.2) (.slice Ao24 t242.length co24)) (fun _ hk=>hk.2) (.int .i64 t245)) (fun _ hk=>hk.2) (.slice Ao27 t246.length co27)) (fun _ hk=>hk.2) (.slice Ao28 t249.length co28)) (fun _ hk=>hk.2) (.slice Ao29 t252.length co29)) (fun _ hk=>hk.2) (.slice Ao30 t255.length co30)) (fun _ hk=>hk.2) (.int .i64 t258)) (fun _ h_=>h_.1))));(case side16=>exact (Kd.R_reads' HO229.out).2.1);(case side17=>refine (Kd.R_reads' (e:=9) (base:=w.heap.size) (ok:=fun k_=>((((some k_ ≠ (.slice Ao14 t220.length co14 : Value).ownBlock∧some k_ ≠ (.slice Ao11 t217.length co11 : Value).ownBlock)∧some k_ ≠ (.slice Ao21 t239.length co21 : Value).ownBlock)∧some k_ ≠ (.slice Ao24 t242.length co24 : Value).ownBlock)∧some k_ ≠ (.slice Ao29 t252.length co29 : Value).ownBlock)) (n:=t230.length) (c:=co18) ?_).2.2;exact (by (with_reducible repeat (first|apply R_alloc|apply R_drewN|apply R_drew));exact (Kd.R_mono (Kd.R_far (p:=⟨gb260,6,none⟩) (Kd.R_far (p:=⟨gb260,5,none⟩) (Kd.R_far (p:=⟨gb260,4,none⟩) (Kd.R_far (p:=⟨gb260,3,none⟩) (Kd.R_far (p:=⟨gb260,2,none⟩) (Kd.R_far (p:=⟨gb260,1,none⟩) (Kd.R_far (p:=⟨gb260,0,none⟩) (Kd.R_types HO232.out BK260.out (by decide)) (fun _ hk=>hk.2) (.slice Ao24 t242.length co24)) (fun _ hk=>hk.2) (.int .i64 t245)) (fun _ hk=>hk.2) (.slice Ao27 t246.length co27)) (fun _ hk=>hk.2) (.slice Ao28 t249.length co28)) (fun _ hk=>hk.2) (.slice Ao29 t252.length co29)) (fun _ hk=>hk.2) (.slice Ao30 t255.length co30)) (fun _ hk=>hk.2) (.int .i64 t258)) (fun _ h_=>h_.1))));(case side18=>exact (Kd.R_reads' HO232.out).2.1);(case side19=>refine (Kd.R_reads' (e:=4) (base:=w.heap.size) (ok:=fun k_=>((some k_ ≠ (.slice Ao16 t224.length co16 : Value).ownBlock∧some k_ ≠ (.slice Ao27 t246.length co27 : Value).ownBlock)∧some k_ ≠ (.slice Ao30 t255.length co30 : Value).ownBlock)) (n:=t233.length) (c:=co19) ?_).2.2;exact (by (with_reducible repeat (first|apply R_alloc|apply R_drewN|apply R_drew));exact (Kd.R_mono (Kd.R_far (p:=⟨gb260,6,none⟩) (Kd.R_far (p:=⟨gb260,5,none⟩) (Kd.R_far (p:=⟨gb260,4,none⟩) (Kd.R_far (p:=⟨gb260,3,none⟩) (Kd.R_far (p:=⟨gb260,2,none⟩) (Kd.R_far (p:=⟨gb260,1,none⟩) (Kd.R_far (p:=⟨gb260,0,none⟩) (Kd.R_types HO235.out BK260.out (by decide)) (fun _ hk=>hk.2) (.slice Ao24 t242.length co24)) (fun _ hk=>hk.2) (.int .i64 t245)) (fun _ hk=>hk.2) (.slice Ao27 t246.length co27)) (fun _ hk=>hk.2) (.slice Ao28 t249.length co28)) (fun _ hk=>hk.2) (.slice Ao29 t252.length co29)) (fun _ hk=>hk.2) (.slice Ao30 t255.length co30)) (fun _ hk=>hk.2) (.int .i64 t258)) (fun _ h_=>h_.1))));(case side20=>exact (Kd.R_reads' HO235.out).2.1);rintro e w36 ⟨rfl,hb⟩;refine ⟨_,rfl,?_⟩;have n0_:=Aside0.mk (Kd.R_below (by (with_reducible repeat (first|apply R_alloc|apply R_drewN|apply R_drew));exact (Kd.R_mono (Kd.R_far (p:=⟨gb260,6,none⟩) (Kd.R_far (p:=⟨gb260,5,none⟩) (Kd.R_far (p:=⟨gb260,4,none⟩) (Kd.R_far (p:=⟨gb260,3,none⟩) (Kd.R_far (p:=⟨gb260,2,none⟩) (Kd.R_far (p:=⟨gb260,1,none⟩) (Kd.R_far (p:=⟨gb260,0,none⟩) (Kd.R_types HO219.out BK260.out (by decide)) (fun _ hk=>hk.2) (.slice Ao24 t242.length co24)) (fun _ hk=>hk.2) (.int .i64 t245)) (fun _ hk=>hk.2) (.slice Ao27 t246.length co27)) (fun _ hk=>hk.2) (.slice Ao28 t249.length co28)) (fun _ hk=>hk.2) (.slice Ao29 t252.length co29)) (fun _ hk=>hk.2) (.slice Ao30 t255.length co30)) (fun _ hk=>hk.2) (.int .i64 t258)) (fun _ h_=>h_.1))) hb);have n1_:=Aside0.mk (Kd.R_below (by (with_reducible repeat (first|apply R_alloc|apply R_drewN|apply R_drew));exact (Kd.R_mono (Kd.R_far (p:=⟨gb260,6,none⟩) (Kd.R_far (p:=⟨gb260,5,none⟩) (Kd.R_far (p:=⟨gb260,4,none⟩) (Kd.R_far (p:=⟨gb260,3,none⟩) (Kd.R_far (p:=⟨gb260,2,none⟩) (Kd.R_far (p:=⟨gb260,1,none⟩) (Kd.R_far (p:=⟨gb260,0,none⟩) (Kd.R_types HO222.out BK260.out (by decide)) (fun _ hk=>hk.2) (.slice Ao24 t242.length co24)) (fun _ hk=>hk.2) (.int .i64 t245)) (fun _ hk=>hk.2) (.slice Ao27 t246.length co27)) (fun _ hk=>hk.2) (.slice Ao28 t249.length co28)) (fun _ hk=>hk.2) (.slice Ao29 t252.length co29)) (fun _ hk=>hk.2) (.slice Ao30 t255.length co30)) (fun _ hk=>hk.2) (.int .i64 t258)) (fun _ h_=>h_.1))) hb);have n2_:=Aside0.mk (Kd.R_below (by (with_reducible repeat (first|apply R_alloc|apply R_drewN|apply R_drew));exact (Kd.R_mono (Kd.R_far (p:=⟨gb260,6,none⟩) (Kd.R_far (p:=⟨gb260,5,none⟩) (Kd.R_far (p:=⟨gb260,4,none⟩) (Kd.R_far (p:=⟨gb260,3,none⟩) (Kd.R_far (p:=⟨gb260,2,none⟩) (Kd.R_far (p:=⟨gb260,1,none⟩) (Kd.R_far (p:=⟨gb260,0,none⟩) (Kd.R_types HO226.out BK260.out (by decide)) (fun _ hk=>hk.2) (.slice Ao24 t242.length co24)) (fun _ hk=>hk.2) (.int .i64 t245)) (fun _ hk=>hk.2) (.slice Ao27 t246.length co27)) (fun _ hk=>hk.2) (.slice Ao28 t249.length co28)) (fun _ hk=>hk.2) (.slice Ao29 t252.length co29)) (fun _ hk=>hk.2) (.slice Ao30 t255.length co30)) (fun _ hk=>hk.2) (.int .i64 t258)) (fun _ h_=>h_.1))) hb);have n3_:=Aside0.mk (Kd.R_below (by (with_reducible repeat (first|apply R_alloc|apply R_drewN|apply R_drew));exact (Kd.R_mono (Kd.R_far (p:=⟨gb260,6,none⟩) (Kd.R_far (p:=⟨gb260,5,none⟩) (Kd.R_far (p:=⟨gb260,4,none⟩) (Kd.R_far (p:=⟨gb260,3,none⟩) (Kd.R_far (p:=⟨gb260,2,none⟩) (Kd.R_far (p:=⟨gb260,1,none⟩) (Kd.R_far (p:=⟨gb260,0,none⟩) (Kd.R_types HO229.out BK260.out (by decide)) (fun _ hk=>hk.2) (.slice Ao24 t242.length co24)) (fun _ hk=>hk.2) (.int .i64 t245)) (fun _ hk=>hk.2) (.slice Ao27 t246.length co27)) (fun _ hk=>hk.2) (.slice Ao28 t249.length co28)) (fun _ hk=>hk.2) (.slice Ao29 t252.length co29)) (fun _ hk=>hk.2) (.slice Ao30 t255.length co30)) (fun _ hk=>hk.2) (.int .i64 t258)) (fun _ h_=>h_.1))) hb);have n4_:=Aside0.mk (Kd.R_below (by (with_reducible repeat (first|apply R_alloc|apply R_drewN|apply R_drew));exact (Kd.R_mono (Kd.R_far (p:=⟨gb260,6,none⟩) (Kd.R_far (p:=⟨gb260,5,none⟩) (Kd.R_far (p:=⟨gb260,4,none⟩) (Kd.R_far (p:=⟨gb260,3,none⟩) (Kd.R_far (p:=⟨gb260,2,none⟩) (Kd.R_far (p:=⟨gb260,1,none⟩) (Kd.R_far (p:=⟨gb260,0,none⟩) (Kd.R_types HO232.out BK260.out (by decide)) (fun _ hk=>hk.2) (.slice Ao24 t242.length co24)) (fun _ hk=>hk.2) (.int .i64 t245)) (fun _ hk=>hk.2) (.slice Ao27 t246.length co27)) (fun _ hk=>hk.2) (.slice Ao28 t249.length co28)) (fun _ hk=>hk.2) (.slice Ao29 t252.length co29)) (fun _ hk=>hk.2) (.slice Ao30 t255.length co30)) (fun _ hk=>hk.2) (.int .i64 t258)) (fun _ h_=>h_.1))) hb);have n5_:=Aside0.mk (Kd.R_below (by (with_reducible repeat (first|apply R_alloc|apply R_drewN|apply R_drew));exact (Kd.R_mono (Kd.R_far (p:=⟨gb260,6,none⟩) (Kd.R_far (p:=⟨gb260,5,none⟩) (Kd.R_far (p:=⟨gb260,4,none⟩) (Kd.R_far (p:=⟨gb260,3,none⟩) (Kd.R_far (p:=⟨gb260,2,none⟩) (Kd.R_far (p:=⟨gb260,1,none⟩) (Kd.R_far (p:=⟨gb260,0,none⟩) (Kd.R_types HO235.out BK260.out (by decide)) (fun _ hk=>hk.2) (.slice Ao24 t242.length co24)) (fun _ hk=>hk.2) (.int .i64 t245)) (fun _ hk=>hk.2) (.slice Ao27 t246.length co27)) (fun _ hk=>hk.2) (.slice Ao28 t249.length co28)) (fun _ hk=>hk.2) (.slice Ao29 t252.length co29)) (fun _ hk=>hk.2) (.slice Ao30 t255.length co30)) (fun _ hk=>hk.2) (.int .i64 t258)) (fun _ h_=>h_.1))) hb);have n6_:=Aside0.mk (Kd.R_below (by (with_reducible repeat (first|apply R_alloc|apply R_drewN|apply R_drew));exact (Kd.R_mono (Kd.R_far (p:=⟨gb260,6,none⟩) (Kd.R_far (p:=⟨gb260,5,none⟩) (Kd.R_far (p:=⟨gb260,4,none⟩) (Kd.R_far (p:=⟨gb260,3,none⟩) (Kd.R_far (p:=⟨gb260,2,none⟩) (Kd.R_far (p:=⟨gb260,1,none⟩) (Kd.R_far (p:=⟨gb260,0,none⟩) (Kd.R_types HO241.out BK260.out (by decide)) (fun _ hk=>hk.2) (.slice Ao24 t242.length co24)) (fun _ hk=>hk.2) (.int .i64 t245)) (fun _ hk=>hk.2) (.slice Ao27 t246.length co27)) (fun _ hk=>hk.2) (.slice Ao28 t249.length co28)) (fun _ hk=>hk.2) (.slice Ao29 t252.length co29)) (fun _ hk=>hk.2) (.slice Ao30 t255.length co30)) (fun _ hk=>hk.2) (.int .i64 t258)) (fun _ h_=>h_.1))) hb);have n7_:=Aside0.mk (Kd.R_below (by (with_reducible repeat (first|apply R_alloc|apply R_drewN|apply R_drew));exact (Kd.R_mono (Kd.R_far (p:=⟨gb260,6,none⟩) (Kd.R_far (p:=⟨gb260,5,none⟩) (Kd.R_far (p:=⟨gb260,4,none⟩) (Kd.R_far (p:=⟨gb260,3,none⟩) (Kd.R_far (p:=⟨gb260,2,none⟩) (Kd.R_far (p:=⟨gb260,1,none⟩) (Kd.R_far (p:=⟨gb260,0,none⟩) (Kd.R_types HO244.out BK260.out (by decide)) (fun _ hk=>hk.2) (.slice Ao24 t242.length co24)) (fun _ hk=>hk.2) (.int .i64 t245)) (fun _ hk=>hk.2) (.slice Ao27 t246.length co27)) (fun _ hk=>hk.2) (.slice Ao28 t249.length co28)) (fun _ hk=>hk.2) (.slice Ao29 t252.length co29)) (fun _ hk=>hk.2) (.slice Ao30 t255.length co30)) (fun _ hk=>hk.2) (.int .i64 t258)) (fun _ h_=>h_.1))) hb);have n8_:=Aside0.mk (Kd.R_below (by (with_reducible repeat (first|apply R_alloc|apply R_drewN|apply R_drew));exact (Kd.R_mono (Kd.R_far (p:=⟨gb260,6,none⟩) (Kd.R_far (p:=⟨gb260,5,none⟩) (Kd.R_far (p:=⟨gb260,4,none⟩) (Kd.R_far (p:=⟨gb260,3,none⟩) (Kd.R_far (p:=⟨gb260,2,none⟩) (Kd.R_far (p:=⟨gb260,1,none⟩) (Kd.R_far (p:=⟨gb260,0,none⟩) (Kd.R_types HO248.out BK260.out (by decide)) (fun _ hk=>hk.2) (.slice Ao24 t242.length co24)) (fun _ hk=>hk.2) (.int .i64 t245)) (fun _ hk=>hk.2) (.slice Ao27 t246.length co27)) (fun _ hk=>hk.2) (.slice Ao28 t249.length co28)) (fun _ hk=>hk.2) (.slice Ao29 t252.length co29)) (fun _ hk=>hk.2) (.slice Ao30 t255.length co30)) (fun _ hk=>hk.2) (.int .i64 t258)) (fun _ h_=>h_.1))) hb);have n9_:=Aside0.mk (Kd.R_below (by (with_reducible repeat (first|apply R_alloc|apply R_drewN|apply R_drew));exact (Kd.R_mono (Kd.R_far (p:=⟨gb260,6,none⟩) (Kd.R_far (p:=⟨gb260,5,none⟩) (Kd.R_far (p:=⟨gb260,4,none⟩) (Kd.R_far (p:=⟨gb260,3,none⟩) (Kd.R_far (p:=⟨gb260,2,none⟩) (Kd.R_far (p:=⟨gb260,1,none⟩) (Kd.R_far (p:=⟨gb260,0,none⟩) (Kd.R_types HO251.out BK260.out (by decide)) (fun _ hk=>hk.2) (.slice Ao24 t242.length co24)) (fun _ hk=>hk.2) (.int .i64 t245)) (fun _ hk=>hk.2) (.slice Ao27 t246.length co27)) (fun _ hk=>hk.2) (.slice Ao28 t249.length co28)) (fun _ hk=>hk.2) (.slice Ao29 t252.length co29)) (fun _ hk=>hk.2) (.slice Ao30 t255.length co30)) (fun _ hk=>hk.2) (.int .i64 t258)) (fun _ h_=>h_.1))) hb);have n10_:=Aside0.mk (Kd.R_below (by (with_reducible repeat (first|apply R_alloc|apply R_drewN|apply R_drew));exact (Kd.R_mono (Kd.R_far (p:=⟨gb260,6,none⟩) (Kd.R_far (p:=⟨gb260,5,none⟩) (Kd.R_far (p:=⟨gb260,4,none⟩) (Kd.R_far (p:=⟨gb260,3,none⟩) (Kd.R_far (p:=⟨gb260,2,none⟩) (Kd.R_far (p:=⟨gb260,1,none⟩) (Kd.R_far (p:=⟨gb260,0,none⟩) (Kd.R_types HO254.out BK260.out (by decide)) (fun _ hk=>hk.2) (.slice Ao24 t242.length co24)) (fun _ hk=>hk.2) (.int .i64 t245)) (fun _ hk=>hk.2) (.slice Ao27 t246.length co27)) (fun _ hk=>hk.2) (.slice Ao28 t249.length co28)) (fun _ hk=>hk.2) (.slice Ao29 t252.length co29)) (fun _ hk=>hk.2) (.slice Ao30 t255.length co30)) (fun _ hk=>hk.2) (.int .i64 t258)) (fun _ h_=>h_.1))) hb);have n11_:=Aside0.mk (Kd.R_below (by (with_reducible repeat (first|apply R_alloc|apply R_drewN|apply R_drew));exact (Kd.R_mono (Kd.R_far (p:=⟨gb260,6,none⟩) (Kd.R_far (p:=⟨gb260,5,none⟩) (Kd.R_far (p:=⟨gb260,4,none⟩) (Kd.R_far (p:=⟨gb260,3,none⟩) (Kd.R_far (p:=⟨gb260,2,none⟩) (Kd.R_far (p:=⟨gb260,1,none⟩) (Kd.R_far (p:=⟨gb260,0,none⟩) (Kd.R_types HO257.out BK260.out (by decide)) (fun _ hk=>hk.2) (.slice Ao24 t242.length co24)) (fun _ hk=>hk.2) (.int .i64 t245)) (fun _ hk=>hk.2) (.slice Ao27 t246.length co27)) (fun _ hk=>hk.2) (.slice Ao28 t249.length co28)) (fun _ hk=>hk.2) (.slice Ao29 t252.length co29)) (fun _ hk=>hk.2) (.slice Ao30 t255.length co30)) (fun _ hk=>hk.2) (.int .i64 t258)) (fun _ h_=>h_.1))) hb);have n12_:=Aside0.mk (blk_below (g:=gb238) (o:=.cells #[.slice Ao14 t220.length co14,.int .i64 t223,.slice Ao16 t224.length co16,.slice Ao17 t227.length co17,.slice Ao18 t230.length co18,.slice Ao19 t233.length co19,.int .i64 t236] 66 (0,0)) (by (with_reducible repeat (first|refine blk_drewN ?_ _|refine blk_drew ?_|refine blk_alloc ?_ _));refine blk_far ?_ NB238_260.out _;(with_reducible repeat (first|refine blk_drewN ?_ _|refine blk_drew ?_|refine blk_alloc ?_ _));refine blk_far ?_ NB238_260.out _;(with_reducible repeat (first|refine blk_drewN ?_ _|refine blk_drew ?_|refine blk_alloc ?_ _));refine blk_far ?_ NB238_260.out _;(with_reducible repeat (first|refine blk_drewN ?_ _|refine blk_drew ?_|refine blk_alloc ?_ _));refine blk_far ?_ NB238_260.out _;(with_reducible repeat (first|refine blk_drewN ?_ _|refine blk_drew ?_|refine blk_alloc ?_ _));refine blk_far ?_ NB238_260.out _;(with_reducible repeat (first|refine blk_drewN ?_ _|refine blk_drew ?_|refine blk_alloc ?_ _));refine blk_far ?_ NB238_260.out _;(with_reducible repeat (first|refine blk_drewN ?_ _|refine blk_drew ?_|refine blk_alloc ?_ _));refine blk_far ?_ NB238_260.out _;(with_reducible repeat (first|refine blk_drewN ?_ _|refine blk_drew ?_|refine blk_alloc ?_ _));exact BK238.out) hb);have n13_:=Aside0.mk (blk_below (g:=gb260) (o:=.cells #[.slice Ao24 t242.length co24,.int .i64 t245,.slice Ao27 t246.length co27,.slice Ao28 t249.length co28,.slice Ao29 t252.length co29,.slice Ao30 t255.length co30,.int .i64 t258] 66 (0,0)) (by (with_reducible repeat (first|refine blk_drewN ?_ _|refine blk_drew ?_|refine blk_alloc ?_ _));refine blk_put (cs:=#[.slice Ao24 t242.length co24,.int .i64 t245,.slice Ao27 t246.length co27,.slice Ao28 t249.length co28,.slice Ao29 t252.length co29,.slice Ao30 t255.length co30,.int .i64 0]) ?_ 6 _ rfl;(with_reducible repeat (first|refine blk_drewN ?_ _|refine blk_drew ?_|refine blk_alloc ?_ _));refine blk_put (cs:=#[.slice Ao24 t242.length co24,.int .i64 t245,.slice Ao27 t246.length co27,.slice Ao28 t249.length co28,.slice Ao29 t252.length co29,.slice none 0 0,.int .i64 0]) ?_ 5 _ rfl;(with_reducible repeat (first|refine blk_drewN ?_ _|refine blk_drew ?_|refine blk_alloc ?_ _));refine blk_put (cs:=#[.slice Ao24 t242.length co24,.int .i64 t245,.slice Ao27 t246.length co27,.slice Ao28 t249.length co28,.slice none 0 0,.slice none 0 0,.int .i64 0]) ?_ 4 _ rfl;(with_reducible repeat (first|refine blk_drewN ?_ _|refine blk_drew ?_|refine blk_alloc ?_ _));refine blk_put (cs:=#[.slice Ao24 t242.length co24,.int .i64 t245,.slice Ao27 t246.length co27,.slice none 0 0,.slice none 0 0,.slice none 0 0,.int .i64 0]) ?_ 3 _ rfl;(with_reducible repeat (first|refine blk_drewN ?_ _|refine blk_drew ?_|refine blk_alloc ?_ _));refine blk_put (cs:=#[.slice Ao24 t242.length co24,.int .i64 t245,.slice none 0 0,.slice none 0 0,.slice none 0 0,.slice none 0 0,.int .i64 0]) ?_ 2 _ rfl;(with_reducible repeat (first|refine blk_drewN ?_ _|refine blk_drew ?_|refine blk_alloc ?_ _));refine blk_put (cs:=#[.slice Ao24 t242.length co24,.int .i64 0,.slice none 0 0,.slice none 0 0,.slice none 0 0,.slice none 0 0,.int .i64 0]) ?_ 1 _ rfl;(with_reducible repeat (first|refine blk_drewN ?_ _|refine blk_drew ?_|refine blk_alloc ?_ _));refine blk_put (cs:=#[.slice none 0 0,.int .i64 0,.slice none 0 0,.slice none 0 0,.slice none 0 0,.slice none 0 0,.int .i64 0]) ?_ 0 _ rfl;(with_reducible repeat (first|refine blk_drewN ?_ _|refine blk_drew ?_|refine blk_alloc ?_ _));exact BK260.out) hb);have n14_:=Aside0.mk (below_step (by repeat (first|(with_reducible first|exact HB.out|apply below_alloc|apply pw_below_drewN|apply below_drew1|refine below_set ?_ GE238.out|refine below_set ?_ GE260.out)|exact HB.out)) hb);clear HO219;clear HO222;clear HO226;clear HO229;clear HO232;clear HO235;clear HO241;clear HO244;clear HO248;clear HO251;clear HO254;clear HO257;clear BK238;clear BK260;clear HB;have HO219:=n0_;have HO222:=n1_;have HO226:=n2_;have HO229:=n3_;have HO232:=n4_;have HO235:=n5_;have HO241:=n6_;have HO244:=n7_;have HO248:=n8_;have HO251:=n9_;have HO254:=n10_;have HO257:=n11_;have BK238:=n12_;have BK260:=n13_;have HB:=n14_;clear n0_ n1_ n2_ n3_ n4_ n5_ n6_ n7_ n8_ n9_ n10_ n11_ n12_ n13_ n14_;(try clear hb);(try clear hb2);(try clear hk);(try clear hi)))
   ·go_meet
    case rel=>exact ⟨_,(true),(by first|rfl|(simp;done)|(simp [*];done)),H',⟨by first|omega|exact Nat.le_refl _⟩,⟨by (with_reducible repeat (first|apply R_alloc|apply R_drewN|apply R_drew));exact Kd.R_mono HO241.out (fun _ hk=>⟨hk.1.1.1.2,⟨hk.1.1.2,⟨hk.1.2,hk.2⟩⟩⟩)⟩,⟨by (with_reducible repeat (first|apply R_alloc|apply R_drewN|apply R_drew));exact Kd.R_mono HO222.out (fun _ hk=>⟨hk.1.1.2,⟨hk.1.1.1.1,⟨hk.1.2,hk.2⟩⟩⟩)⟩,⟨by (with_reducible repeat (first|apply R_alloc|apply R_drewN|apply R_drew));exact Kd.R_mono HO226.out (fun _ hk=>⟨hk.1.1,⟨hk.1.2,hk.2⟩⟩)⟩,⟨by (with_reducible repeat (first|apply R_alloc|apply R_drewN|apply R_drew));exact Kd.R_mono HO229.out (fun _ hk=>hk.2)⟩,⟨by (with_reducible repeat (first|apply R_alloc|apply R_drewN|apply R_drew));exact Kd.R_mono HO232.out (fun _ hk=>⟨hk.1.1.2,⟨hk.1.1.1.1,⟨hk.1.2,hk.2⟩⟩⟩)⟩,⟨by (with_reducible repeat (first|apply R_alloc|apply R_drewN|apply R_drew));exact Kd.R_mono HO235.out (fun _ hk=>⟨hk.1.1,⟨hk.1.2,hk.2⟩⟩)⟩,⟨by (with_reducible repeat (first|apply R_alloc|apply R_drewN|apply R_drew));exact Kd.R_mono HO244.out (fun _ hk=>⟨hk.2,⟨hk.1.1.2,⟨hk.1.2,hk.1.1.1.1⟩⟩⟩)⟩,⟨by (with_reducible repeat (first|apply R_alloc|apply R_drewN|apply R_drew));exact Kd.R_mono HO248.out (fun _ hk=>⟨hk.1.2,⟨hk.2,hk.1.1⟩⟩)⟩,⟨by (with_reducible repeat (first|apply R_alloc|apply R_drewN|apply R_drew));exact Kd.R_mono HO251.out (fun _ hk=>hk.2)⟩,⟨by (with_reducible repeat (first|apply R_alloc|apply R_drewN|apply R_drew));exact Kd.R_mono HO254.out (fun _ hk=>⟨hk.2,⟨hk.1.1.2,⟨hk.1.2,hk.1.1.1.1⟩⟩⟩)⟩,⟨by (with_reducible repeat (first|apply R_alloc|apply R_drewN|apply R_drew));exact Kd.R_mono HO257.out (fun _ hk=>⟨hk.1.2,⟨hk.2,hk.1.1⟩⟩)⟩,⟨by (with_reducible repeat (first|refine blk_drewN ?_ _|refine blk_drew ?_|refine blk_alloc ?_ _));exact BK238.out⟩,⟨by (with_reducible repeat (first|refine blk_drewN ?_ _|refine blk_drew ?_|refine blk_alloc ?_ _));exact BK260.out⟩,⟨by repeat (first|(with_reducible first|exact HB.out|apply below_alloc|apply pw_below_drewN|apply below_drew1|refine below_set ?_ GE238.out|refine below_set ?_ GE260.out)|exact HB.out)⟩⟩
   ·go_meet
    case rel=>exact ⟨_,((t259 != t237)),(by first|rfl|(simp;done)|(simp [*];done)),H',⟨by first|omega|exact Nat.le_refl _⟩,⟨by (with_reducible repeat (first|apply R_alloc|apply R_drewN|apply R_drew));exact Kd.R_mono HO241.out (fun _ hk=>⟨hk.1.1.1.2,⟨hk.1.1.2,⟨hk.1.2,hk.2⟩⟩⟩)⟩,⟨by (with_reducible repeat (first|apply R_alloc|apply R_drewN|apply R_drew));exact Kd.R_mono HO222.out (fun _ hk=>⟨hk.1.1.2,⟨hk.1.1.1.1,⟨hk.1.2,hk.2⟩⟩⟩)⟩,⟨by (with_reducible repeat (first|apply R_alloc|apply R_drewN|apply R_drew));exact Kd.R_mono HO226.out (fun _ hk=>⟨hk.1.1,⟨hk.1.2,hk.2⟩⟩)⟩,⟨by (with_reducible repeat (first|apply R_alloc|apply R_drewN|apply R_drew));exact Kd.R_mono HO229.out (fun _ hk=>hk.2)⟩,⟨by (with_reducible repeat (first|apply R_alloc|apply R_drewN|apply R_drew));exact Kd.R_mono HO232.out (fun _ hk=>⟨hk.1.1.2,⟨hk.1.1.1.1,⟨hk.1.2,hk.2⟩⟩⟩)⟩,⟨by (with_reducible repeat (first|apply R_alloc|apply R_drewN|apply R_drew));exact Kd.R_mono HO235.out (fun _ hk=>⟨hk.1.1,⟨hk.1.2,hk.2⟩⟩)⟩,⟨by (with_reducible repeat (first|apply R_alloc|apply R_drewN|apply R_drew));exact Kd.R_mono HO244.out (fun _ hk=>⟨hk.2,⟨hk.1.1.2,⟨hk.1.2,hk.1.1.1.1⟩⟩⟩)⟩,⟨by (with_reducible repeat (first|apply R_alloc|apply R_drewN|apply R_drew));exact Kd.R_mono HO248.out (fun _ hk=>⟨hk.1.2,⟨hk.2,hk.1.1⟩⟩)⟩,⟨by (with_reducible repeat (first|apply R_alloc|apply R_drewN|apply R_drew));exact Kd.R_mono HO251.out (fun _ hk=>hk.2)⟩,⟨by (with_reducible repeat (first|apply R_alloc|apply R_drewN|apply R_drew));exact Kd.R_mono HO254.out (fun _ hk=>⟨hk.2,⟨hk.1.1.2,⟨hk.1.2,hk.1.1.1.1⟩⟩⟩)⟩,⟨by (with_reducible repeat (first|apply R_alloc|apply R_drewN|apply R_drew));exact Kd.R_mono HO257.out (fun _ hk=>⟨hk.1.2,⟨hk.2,hk.1.1⟩⟩)⟩,⟨by (with_reducible repeat (first|refine blk_drewN ?_ _|refine blk_drew ?_|refine blk_alloc ?_ _));exact BK238.out⟩,⟨by (with_reducible repeat (first|refine blk_drewN ?_ _|refine blk_drew ?_|refine blk_alloc ?_ _));exact BK260.out⟩,⟨by repeat (first|(with_reducible first|exact HB.out|apply below_alloc|apply pw_below_drewN|apply below_drew1|refine below_set ?_ GE238.out|refine below_set ?_ GE260.out)|exact HB.out)⟩⟩
  case rest =>
   clear HC9
   try clear c1
   try clear c2
   try clear p2
   try clear c3
   try clear c4
   try clear c4b0
   try clear c5
   try clear c12
   try clear c25
   try clear c32
   try clear c33
   try clear c37
   try clear hcz15_0
   try clear hcz15_1
   try clear hcz15_2
   try clear hcz15_3
   try clear hcz15_4
   try clear hcz15_5
   try clear hcz15_6
   try clear hcz26_0
   try clear hcz26_1
   try clear hcz26_2
   try clear hcz26_3
   try clear hcz26_4
   try clear hcz26_5
   try clear hcz26_6
   try clear hcz34_0
   try clear hcz34_1
   try clear hcz34_2
   try clear hcz34_3
   try clear hcz34_4
   try clear hcz34_5
   try clear hcz34_6
   try clear hcz35_0
   try clear hcz35_1
   try clear hcz35_2
   try clear hcz35_3
   try clear hcz35_4
   try clear hcz35_5
   try clear hcz35_6
   try clear hcz38_0
   try clear hcz38_1
   try clear hcz38_2
   try clear hcz38_3
   try clear hcz38_4
   try clear hcz38_5
   try clear hcz38_6
   try clear hcz39_0
   try clear hcz39_1
   try clear hcz39_2
   try clear hcz39_3
   try clear hcz39_4
   try clear hcz39_5
   try clear hcz39_6
   try clear hfz15_0
   try clear hfz15_1
   try clear hfz15_2
   try clear hfz15_3
   try clear hfz15_4
   try clear hfz15_5
   try clear hfz15_6
   try clear hfz26_0
   try clear hfz26_1
   try clear hfz26_2
   try clear hfz26_3
   try clear hfz26_4
   try clear hfz26_5
   try clear hfz26_6
   try clear hfz34_0
   try clear hfz34_1
   try clear hfz34_2
   try clear hfz34_3
   try clear hfz34_4
   try clear hfz34_5
   try clear hfz34_6
   try clear hfz35_0
   try clear hfz35_1
   try clear hfz35_2
   try clear hfz35_3
   try clear hfz35_4
   try clear hfz35_5
   try clear hfz35_6
   try clear hfz38_0
   try clear hfz38_1
   try clear hfz38_2
   try clear hfz38_3
   try clear hfz38_4
   try clear hfz38_5
   try clear hfz38_6
   try clear hfz39_0
   try clear hfz39_1
   try clear hfz39_2
   try clear hfz39_3
   try clear hfz39_4
   try clear hfz39_5
   try clear hfz39_6
   obtain ⟨kq,x44_8,rfl,HA,HJ8,HO_8,HO_239000,HO_239002,HO_239003,HO_239004,HO_239005,HO_261000,HO_261002,HO_261003,HO_261004,HO_261005,BK238,BK260,HB⟩:=hcut
   cases kq with
   | zero=>exact absurd HA.out (by simp [laws_FnExactNewWindow.j0])
   | succ kj8 =>
    have H:=HA.out
    clear HA
    simp only [laws_FnExactNewWindow.j0] at H
    by_cases c41 : x44_8 = true
    ·subst c41
     have H1 : (some false) = some r:=by rw [if_pos rfl] at H;exact H
     clear H
     have H:=H1
     clear H1
     obtain rfl:=Option.some.inj H
     go_wp2
     go_ret
     exact ⟨by first|rfl|(simp [errW_none,errW_some] <;> rfl)|(simp [*,errW_none,errW_some] <;> rfl),by repeat (first|(with_reducible first|exact HB.out|apply below_alloc|apply pw_below_drewN|apply below_drew1|refine below_set ?_ GE238.out|refine below_set ?_ GE260.out)|exact HB.out)⟩
    ·replace c41:=Bool.eq_false_iff.mpr c41
     subst c41
     have H1 : ((laws_toStringS.f kj8 l0).bind fun t262=>((laws_eqStringS.f kj8 t239 t262).bind fun t265=>(if t265 = true then ((laws_markStringS.f kj8 t239 1).bind fun bt266=>(if bt266.1 < 0 then (laws_FnExactNewWindow.j1 kj8 l0 a1 t237 true t220 t223 t224 t227 t230 t233 t236 t242 t245 t246 t249 t252 t255 t258) else ((laws_eqWindow.f kj8 t242 t245 t246 t249 t252 t255 t258 t220 t223 t224 t227 t230 t233 t236).bind fun t268=>(if t268 = true then (laws_FnExactNewWindow.j1 kj8 l0 a1 t237 (t259 != t237) t220 t223 t224 t227 t230 t233 t236 t242 t245 t246 t249 t252 t255 t258) else (laws_FnExactNewWindow.j1 kj8 l0 a1 t237 true t220 t223 t224 t227 t230 t233 t236 t242 t245 t246 t249 t252 t255 t258))))) else (some false)))) = some r:=by rw [if_neg (show ¬ (false = true) by decide)] at H;exact H
     clear H
     have H:=H1
     clear H1
     replace H:=Option.bind_eq_some_iff.mp H
     obtain ⟨t262,A420,H⟩:=H
     replace H : ((laws_eqStringS.f kj8 t239 t262).bind fun t265=>(if t265 = true then ((laws_markStringS.f kj8 t239 1).bind fun bt266=>(if bt266.1 < 0 then (laws_FnExactNewWindow.j1 kj8 l0 a1 t237 true t220 t223 t224 t227 t230 t233 t236 t242 t245 t246 t249 t252 t255 t258) else ((laws_eqWindow.f kj8 t242 t245 t246 t249 t252 t255 t258 t220 t223 t224 t227 t230 t233 t236).bind fun t268=>(if t268 = true then (laws_FnExactNewWindow.j1 kj8 l0 a1 t237 (t259 != t237) t220 t223 t224 t227 t230 t233 t236 t242 t245 t246 t249 t252 t255 t258) else (laws_FnExactNewWindow.j1 kj8 l0 a1 t237 true t220 t223 t224 t227 t230 t233 t236 t242 t245 t246 t249 t252 t255 t258))))) else (some false))) = some r:=H
     have A42:=Aside0.mk A420
     clear A420
     replace H:=Option.bind_eq_some_iff.mp H
     obtain ⟨t265,A430,H⟩:=H
     replace H : (if t265 = true then ((laws_markStringS.f kj8 t239 1).bind fun bt266=>(if bt266.1 < 0 then (laws_FnExactNewWindow.j1 kj8 l0 a1 t237 true t220 t223 t224 t227 t230 t233 t236 t242 t245 t246 t249 t252 t255 t258) else ((laws_eqWindow.f kj8 t242 t245 t246 t249 t252 t255 t258 t220 t223 t224 t227 t230 t233 t236).bind fun t268=>(if t268 = true then (laws_FnExactNewWindow.j1 kj8 l0 a1 t237 (t259 != t237) t220 t223 t224 t227 t230 t233 t236 t242 t245 t246 t249 t252 t255 t258) else (laws_FnExactNewWindow.j1 kj8 l0 a1 t237 true t220 t223 t224 t227 t230 t233 t236 t242 t245 t246 t249 t252 t255 t258))))) else (some false)) = some r:=H
     have A43:=Aside0.mk A430
     clear A430
     by_cases c44 : t265 = true
     ·subst c44
      have H1 : ((laws_markStringS.f kj8 t239 1).bind fun bt266=>(if bt266.1 < 0 then (laws_FnExactNewWindow.j1 kj8 l0 a1 t237 true t220 t223 t224 t227 t230 t233 t236 t242 t245 t246 t249 t252 t255 t258) else ((laws_eqWindow.f kj8 t242 t245 t246 t249 t252 t255 t258 t220 t223 t224 t227 t230 t233 t236).bind fun t268=>(if t268 = true then (laws_FnExactNewWindow.j1 kj8 l0 a1 t237 (t259 != t237) t220 t223 t224 t227 t230 t233 t236 t242 t245 t246 t249 t252 t255 t258) else (laws_FnExactNewWindow.j1 kj8 l0 a1 t237 true t220 t223 t224 t227 t230 t233 t236 t242 t245 t246 t249 t252 t255 t258))))) = some r:=by rw [if_pos rfl] at H;exact H
      clear H
      have H:=H1
      clear H1
      replace H:=Option.bind_eq_some_iff.mp H
      obtain ⟨⟨t266,t267⟩,A450,H⟩:=H
      replace H : (if t266 < 0 then (laws_FnExactNewWindow.j1 kj8 l0 a1 t237 true t220 t223 t224 t227 t230 t233 t236 t242 t245 t246 t249 t252 t255 t258) else ((laws_eqWindow.f kj8 t242 t245 t246 t249 t252 t255 t258 t220 t223 t224 t227 t230 t233 t236).bind fun t268=>(if t268 = true then (laws_FnExactNewWindow.j1 kj8 l0 a1 t237 (t259 != t237) t220 t223 t224 t227 t230 t233 t236 t242 t245 t246 t249 t252 t255 t258) else (laws_FnExactNewWindow.j1 kj8 l0 a1 t237 true t220 t223 t224 t227 t230 t233 t236 t242 t245 t246 t249 t252 t255 t258)))) = some r:=H
      have A45:=Aside0.mk A450
      clear A450
      have HC46:=Aside0.mk H
      clear H
      go_upto_region 14 with (first|((with_reducible refine gate_callee (f:=48) rfl ?_);refine goesL_ (some 47) rfl rfl Try.func48 (by kernel_rfl) rfl #[.slice A0 l0.length c0] rfl (by (try simp only [List.map_toArray,List.map_cons,List.map_nil]);first|done|rfl|(simp only [List.length_drop,List.length_take];rfl)) ?_;(with_reducible refine (laws_toStringS.calls kj8 _ _ l0 t262 _ ?side1 ?side2 A42.out).mono ?_);(case side1=>repeat (first|exact (Kd.C_below HR0.out HB.out)|(with_reducible refine C_alloc ?_ _)|(with_reducible refine C_drewN ?_ _)|(with_reducible refine C_drew ?_)));(case side2=>exact HC0.out);rintro e w47 ⟨v263,rfl,ho0,hb⟩;refine ⟨_,rfl,?_⟩;have n0_:=Aside0.mk (Kd.R_elder' (by (with_reducible repeat (first|apply R_alloc|apply R_drewN|apply R_drew));exact HO_8.out) (Kd.R_base ho0) hb);have n1_:=Aside0.mk (Kd.R_elder' (by (with_reducible repeat (first|apply R_alloc|apply R_drewN|apply R_drew));exact HO_239000.out) (Kd.R_base ho0) hb);have n2_:=Aside0.mk (Kd.R_below (by (with_reducible repeat (first|apply R_alloc|apply R_drewN|apply R_drew));exact HO_239002.out) hb);have n3_:=Aside0.mk (Kd.R_below (by (with_reducible repeat (first|apply R_alloc|apply R_drewN|apply R_drew));exact HO_239003.out) hb);have n4_:=Aside0.mk (Kd.R_elder' (by (with_reducible repeat (first|apply R_alloc|apply R_drewN|apply R_drew));exact HO_239004.out) (Kd.R_base ho0) hb);have n5_:=Aside0.mk (Kd.R_below (by (with_reducible repeat (first|apply R_alloc|apply R_drewN|apply R_drew));exact HO_239005.out) hb);have n6_:=Aside0.mk (Kd.R_elder' (by (with_reducible repeat (first|apply R_alloc|apply R_drewN|apply R_drew));exact HO_261000.out) (Kd.R_base ho0) hb);have n7_:=Aside0.mk (Kd.R_below (by (with_reducible repeat (first|apply R_alloc|apply R_drewN|apply R_drew));exact HO_261002.out) hb);have n8_:=Aside0.mk (Kd.R_below (by (with_reducible repeat (first|apply R_alloc|apply R_drewN|apply R_drew));exact HO_261003.out) hb);have n9_:=Aside0.mk (Kd.R_elder' (by (with_reducible repeat (first|apply R_alloc|apply R_drewN|apply R_drew));exact HO_261004.out) (Kd.R_base ho0) hb);have n10_:=Aside0.mk (Kd.R_below (by (with_reducible repeat (first|apply R_alloc|apply R_drewN|apply R_drew));exact HO_261005.out) hb);have n11_:=Aside0.mk (Kd.R_lower (Kd.R_new' (Kd.R_new' (Kd.R_new' (Kd.R_new' (Kd.R_new' ho0 (Kd.R_lt (by (with_reducible repeat (first|apply R_alloc|apply R_drewN|apply R_drew));exact HO_8.out))) (Kd.R_lt (by (with_reducible repeat (first|apply R_alloc|apply R_drewN|apply R_drew));exact HO_239000.out))) (Kd.R_lt (by (with_reducible repeat (first|apply R_alloc|apply R_drewN|apply R_drew));exact HO_239004.out))) (Kd.R_lt (by (with_reducible repeat (first|apply R_alloc|apply R_drewN|apply R_drew));exact HO_261000.out))) (Kd.R_lt (by (with_reducible repeat (first|apply R_alloc|apply R_drewN|apply R_drew));exact HO_261004.out))) (below_size (by repeat (first|(with_reducible first|exact HB.out|apply below_alloc|apply pw_below_drewN|apply below_drew1|refine below_set ?_ GE238.out|refine below_set ?_ GE260.out)|exact HB.out))));have n12_:=Aside0.mk (blk_below (g:=gb238) (o:=.cells #[.slice Ao14 t220.length co14,.int .i64 t223,.slice Ao16 t224.length co16,.slice Ao17 t227.length co17,.slice Ao18 t230.length co18,.slice Ao19 t233.length co19,.int .i64 t236] 66 (0,0)) (by (with_reducible repeat (first|refine blk_drewN ?_ _|refine blk_drew ?_|refine blk_alloc ?_ _));exact BK238.out) hb);have n13_:=Aside0.mk (blk_below (g:=gb260) (o:=.cells #[.slice Ao24 t242.length co24,.int .i64 t245,.slice Ao27 t246.length co27,.slice Ao28 t249.length co28,.slice Ao29 t252.length co29,.slice Ao30 t255.length co30,.int .i64 t258] 66 (0,0)) (by (with_reducible repeat (first|refine blk_drewN ?_ _|refine blk_drew ?_|refine blk_alloc ?_ _));exact BK260.out) hb);have n14_:=Aside0.mk (below_step (by repeat (first|(with_reducible first|exact HB.out|apply below_alloc|apply pw_below_drewN|apply below_drew1|refine below_set ?_ GE238.out|refine below_set ?_ GE260.out)|exact HB.out)) hb);clear HO_8;clear HO_239000;clear HO_239002;clear HO_239003;clear HO_239004;clear HO_239005;clear HO_261000;clear HO_261002;clear HO_261003;clear HO_261004;clear HO_261005;clear BK238;clear BK260;clear HB;have HO_8:=n0_;have HO_239000:=n1_;have HO_239002:=n2_;have HO_239003:=n3_;have HO_239004:=n4_;have HO_239005:=n5_;have HO_261000:=n6_;have HO_261002:=n7_;have HO_261003:=n8_;have HO_261004:=n9_;have HO_261005:=n10_;have HO264:=n11_;have BK238:=n12_;have BK260:=n13_;have HB:=n14_;clear n0_ n1_ n2_ n3_ n4_ n5_ n6_ n7_ n8_ n9_ n10_ n11_ n12_ n13_ n14_;(try clear hb);(try clear hb2);(try clear hk);(try clear hi);(try clear ho0);obtain ⟨Ao48,co48,eo48⟩:=Kd.R_slice HO264.out;subst eo48)|((with_reducible refine gate_callee (f:=51) rfl ?_);refine goesL_ (some 48) rfl rfl Try.func51 (by kernel_rfl) rfl #[.slice Ao21 t239.length co21,.slice Ao48 t262.length co48] rfl (by (try simp only [List.map_toArray,List.map_cons,List.map_nil]);first|done|rfl|(simp only [List.length_drop,List.length_take];rfl)) ?_;(with_reducible refine (laws_eqStringS.calls kj8 _ _ t239 _ _ t262 true _ ?side1 ?side2 ?side3 ?side4 A43.out).mono ?_);(case side1=>repeat (first|exact (Kd.R_reads' HO_8.out).2.2|(with_reducible refine C_alloc ?_ _)|(with_reducible refine C_drewN ?_ _)|(with_reducible refine C_drew ?_)));(case side2=>exact (Kd.R_reads' HO_8.out).2.1);(case side3=>repeat (first|exact (Kd.R_reads' HO264.out).2.2|(with_reducible refine C_alloc ?_ _)|(with_reducible refine C_drewN ?_ _)|(with_reducible refine C_drew ?_)));(case side4=>exact (Kd.R_reads' HO264.out).2.1);rintro e w' ⟨rfl,⟨nd,rfl⟩⟩;refine ⟨_,rfl,?_⟩)|((with_reducible refine gate_callee (f:=52) rfl ?_);refine goesL_ (some 52) rfl rfl Try.func52 (by kernel_rfl) rfl #[.slice Ao21 t239.length co21,.int .i64 1] rfl (by (try simp only [List.map_toArray,List.map_cons,List.map_nil]);first|done|rfl|(simp only [List.length_drop,List.length_take];rfl)) ?_;(with_reducible refine (laws_markStringS.calls kj8 (fun k_=>some k_ = (.slice Ao21 t239.length co21 : Value).ownBlock) (.slice Ao21 t239.length co21) t239 1 t266 t267 w _ ?side1 ?side2 A45.out).mono ?_);(case side1=>repeat (first|(with_reducible first|exact HB.out|apply below_alloc|apply pw_below_drewN|apply below_drew1|refine below_set ?_ GE238.out|refine below_set ?_ GE260.out)|exact HB.out));(case side2=>exact Kd.R_tight rfl HO_8.out);rintro e w49 ⟨rfl,hy0,hb,hkp⟩;refine ⟨_,rfl,?_⟩;have n0_:=Aside0.mk (Kd.R_reok rfl hy0 (fun k_ e_=>HO_8.out.1 k_ e_));have n1_:=Aside0.mk (Kd.R_mono (ok':=fun k_=>some k_ ≠ (.slice Ao21 t239.length co21 : Value).ownBlock∧some k_ ≠ (.slice Ao18 t230.length co18 : Value).ownBlock∧some k_ ≠ (.slice Ao24 t242.length co24 : Value).ownBlock∧some k_ ≠ (.slice Ao29 t252.length co29 : Value).ownBlock∧some k_ ≠ (.slice Ao48 t262.length co48 : Value).ownBlock) (Kd.R_keptB (HO_239000.out) hkp (fun k_ hk_ hs_=>(hk_.1.1) hs_)) (fun k_ hk_=>⟨hk_.1.1.1,hk_.1.1.2.1,hk_.1.1.2.2.1,hk_.1.1.2.2.2,hk_.1.2⟩));have n2_:=Aside0.mk (Kd.R_mono (ok':=fun k_=>some k_ ≠ (.slice Ao19 t233.length co19 : Value).ownBlock∧some k_ ≠ (.slice Ao27 t246.length co27 : Value).ownBlock∧some k_ ≠ (.slice Ao30 t255.length co30 : Value).ownBlock) (Kd.R_keptB ((Kd.R_apart' HO_239002.out (Kd.R_typed HO_8.out) (by decide))) hkp (fun k_ hk_ hs_=>(hk_.2) hs_)) (fun k_ hk_=>⟨hk_.1.1.1,hk_.1.1.2.1,hk_.1.1.2.2⟩));have n3_:=Aside0.mk (Kd.R_mono (ok':=fun k_=>some k_ ≠ (.slice Ao28 t249.length co28 : Value).ownBlock) (Kd.R_keptB ((Kd.R_apart' HO_239003.out (Kd.R_typed HO_8.out) (by decide))) hkp (fun k_ hk_ hs_=>(hk_.2) hs_)) (fun k_ hk_=>hk_.1.1));have n4_:=Aside0.mk (Kd.R_mono (ok':=fun k_=>some k_ ≠ (.slice Ao21 t239.length co21 : Value).ownBlock∧some k_ ≠ (.slice Ao14 t220.length co14 : Value).ownBlock∧some k_ ≠ (.slice Ao24 t242.length co24 : Value).ownBlock∧some k_ ≠ (.slice Ao29 t252.length co29 : Value).ownBlock∧some k_ ≠ (.slice Ao48 t262.length co48 : Value).ownBlock) (Kd.R_keptB (HO_239004.out) hkp (fun k_ hk_ hs_=>(hk_.1.1) hs_)) (fun k_ hk_=>⟨hk_.1.1.1,hk_.1.1.2.1,hk_.1.1.2.2.1,hk_.1.1.2.2.2,hk_.1.2⟩));have n5_:=Aside0.mk (Kd.R_mono (ok':=fun k_=>some k_ ≠ (.slice Ao16 t224.length co16 : Value).ownBlock∧some k_ ≠ (.slice Ao27 t246.length co27 : Value).ownBlock∧some k_ ≠ (.slice Ao30 t255.length co30 : Value).ownBlock) (Kd.R_keptB ((Kd.R_apart' HO_239005.out (Kd.R_typed HO_8.out) (by decide))) hkp (fun k_ hk_ hs_=>(hk_.2) hs_)) (fun k_ hk_=>⟨hk_.1.1.1,hk_.1.1.2.1,hk_.1.1.2.2⟩));have n6_:=Aside0.mk (Kd.R_mono (ok':=fun k_=>some k_ ≠ (.slice Ao21 t239.length co21 : Value).ownBlock∧some k_ ≠ (.slice Ao14 t220.length co14 : Value).ownBlock∧some k_ ≠ (.slice Ao18 t230.length co18 : Value).ownBlock∧some k_ ≠ (.slice Ao29 t252.length co29 : Value).ownBlock∧some k_ ≠ (.slice Ao48 t262.length co48 : Value).ownBlock) (Kd.R_keptB (HO_261000.out) hkp (fun k_ hk_ hs_=>(hk_.1.1) hs_)) (fun k_ hk_=>⟨hk_.1.1.1,hk_.1.1.2.1,hk_.1.1.2.2.1,hk_.1.1.2.2.2,hk_.1.2⟩));have n7_:=Aside0.mk (Kd.R_mono (ok':=fun k_=>some k_ ≠ (.slice Ao16 t224.length co16 : Value).ownBlock∧some k_ ≠ (.slice Ao19 t233.length co19 : Value).ownBlock∧some k_ ≠ (.slice Ao30 t255.length co30 : Value).ownBlock) (Kd.R_keptB ((Kd.R_apart' HO_261002.out (Kd.R_typed HO_8.out) (by decide))) hkp (fun k_ hk_ hs_=>(hk_.2) hs_)) (fun k_ hk_=>⟨hk_.1.1.1,hk_.1.1.2.1,hk_.1.1.2.2⟩));have n8_:=Aside0.mk (Kd.R_mono (ok':=fun k_=>some k_ ≠ (.slice Ao17 t227.length co17 : Value).ownBlock) (Kd.R_keptB ((Kd.R_apart' HO_261003.out (Kd.R_typed HO_8.out) (by decide))) hkp (fun k_ hk_ hs_=>(hk_.2) hs_)) (fun k_ hk_=>hk_.1.1));have n9_:=Aside0.mk (Kd.R_mono (ok':=fun k_=>some k_ ≠ (.slice Ao21 t239.length co21 : Value).ownBlock∧some k_ ≠ (.slice Ao14 t220.length co14 : Value).ownBlock∧some k_ ≠ (.slice Ao18 t230.length co18 : Value).ownBlock∧some k_ ≠ (.slice Ao24 t242.length co24 : Value).ownBlock∧some k_ ≠ (.slice Ao48 t262.length co48 : Value).ownBlock) (Kd.R_keptB (HO_261004.out) hkp (fun k_ hk_ hs_=>(hk_.1.1) hs_)) (fun k_ hk_=>⟨hk_.1.1.1,hk_.1.1.2.1,hk_.1.1.2.2.1,hk_.1.1.2.2.2,hk_.1.2⟩));have n10_:=Aside0.mk (Kd.R_mono (ok':=fun k_=>some k_ ≠ (.slice Ao16 t224.length co16 : Value).ownBlock∧some k_ ≠ (.slice Ao19 t233.length co19 : Value).ownBlock∧some k_ ≠ (.slice Ao27 t246.length co27 : Value).ownBlock) (Kd.R_keptB ((Kd.R_apart' HO_261005.out (Kd.R_typed HO_8.out) (by decide))) hkp (fun k_ hk_ hs_=>(hk_.2) hs_)) (fun k_ hk_=>⟨hk_.1.1.1,hk_.1.1.2.1,hk_.1.1.2.2⟩));have n11_:=Aside0.mk (blk_kept (by (with_reducible repeat (first|refine blk_drewN ?_ _|refine blk_drew ?_|refine blk_alloc ?_ _));exact BK238.out) hkp (fun hs_=>(fun e_=>(Kd.R_ne HO_8.out BK238.out (by decide)) e_) hs_));have n12_:=Aside0.mk (blk_kept (by (with_reducible repeat (first|refine blk_drewN ?_ _|refine blk_drew ?_|refine blk_alloc ?_ _));exact BK260.out) hkp (fun hs_=>(fun e_=>(Kd.R_ne HO_8.out BK260.out (by decide)) e_) hs_));have n13_:=Aside0.mk (Kd.R_mono (ok':=fun k_=>some k_ ≠ (.slice Ao21 t239.length co21 : Value).ownBlock∧some k_ ≠ (.slice Ao14 t220.length co14 : Value).ownBlock∧some k_ ≠ (.slice Ao18 t230.length co18 : Value).ownBlock∧some k_ ≠ (.slice Ao24 t242.length co24 : Value).ownBlock∧some k_ ≠ (.slice Ao29 t252.length co29 : Value).ownBlock) (Kd.R_keptB (HO264.out) hkp (fun k_ hk_ hs_=>(hk_.1.1.1.1.2) hs_)) (fun k_ hk_=>⟨hk_.1.1.1.1.1.2,hk_.1.1.1.1.2,hk_.1.1.1.2,hk_.1.1.2,hk_.1.2⟩));have n14_:=Aside0.mk (hb);clear HO_8;clear HO_239000;clear HO_239002;clear HO_239003;clear HO_239004;clear HO_239005;clear HO_261000;clear HO_261002;clear HO_261003;clear HO_261004;clear HO_261005;clear BK238;clear BK260;clear HO264;clear HB;have HO_8:=n0_;have HO_239000:=n1_;have HO_239002:=n2_;have HO_239003:=n3_;have HO_239004:=n4_;have HO_239005:=n5_;have HO_261000:=n6_;have HO_261002:=n7_;have HO_261003:=n8_;have HO_261004:=n9_;have HO_261005:=n10_;have BK238:=n11_;have BK260:=n12_;have HO264:=n13_;have HB:=n14_;clear n0_ n1_ n2_ n3_ n4_ n5_ n6_ n7_ n8_ n9_ n10_ n11_ n12_ n13_ n14_;(try clear hb);(try clear hkp);(try clear hy0)))
      (try simp only [Act.put,List.setIfInBounds_toArray,List.set_cons_zero,List.set_cons_succ])
      go_cut [65] (fun v65 wc=>∃ (kq : Nat) (x65_45 : Bool),v65 = .bool x65_45∧Aside0 (laws_FnExactNewWindow.j1 kq l0 a1 t237 x65_45 t220 t223 t224 t227 t230 t233 t236 t242 t245 t246 t249 t252 t255 t258 = some r)∧Aside0 (kq ≤ kj8)∧Aside0 (Kd.R Kd.string 9 wc w.heap.size (fun k_=>some k_ ≠ ((.slice Ao18 t230.length co18) : Value).ownBlock∧some k_ ≠ ((.slice Ao24 t242.length co24) : Value).ownBlock∧some k_ ≠ ((.slice Ao29 t252.length co29) : Value).ownBlock) (.slice Ao14 t220.length co14) t220)∧Aside0 (Kd.R Kd.bool 4 wc w.heap.size (fun k_=>some k_ ≠ ((.slice Ao19 t233.length co19) : Value).ownBlock∧some k_ ≠ ((.slice Ao27 t246.length co27) : Value).ownBlock∧some k_ ≠ ((.slice Ao30 t255.length co30) : Value).ownBlock) (.slice Ao16 t224.length co16) t224)∧Aside0 (Kd.R k128 128 wc w.heap.size (fun k_=>some k_ ≠ ((.slice Ao28 t249.length co28) : Value).ownBlock) (.slice Ao17 t227.length co17) t227)∧Aside0 (Kd.R Kd.string 9 wc w.heap.size (fun k_=>some k_ ≠ ((.slice Ao14 t220.length co14) : Value).ownBlock∧some k_ ≠ ((.slice Ao24 t242.length co24) : Value).ownBlock∧some k_ ≠ ((.slice Ao29 t252.length co29) : Value).ownBlock) (.slice Ao18 t230.length co18) t230)∧Aside0 (Kd.R Kd.bool 4 wc w.heap.size (fun k_=>some k_ ≠ ((.slice Ao16 t224.length co16) : Value).ownBlock∧some k_ ≠ ((.slice Ao27 t246.length co27) : Value).ownBlock∧some k_ ≠ ((.slice Ao30 t255.length co30) : Value).ownBlock) (.slice Ao19 t233.length co19) t233)∧Aside0 (Kd.R Kd.string 9 wc w.heap.size (fun k_=>some k_ ≠ ((.slice Ao14 t220.length co14) : Value).ownBlock∧some k_ ≠ ((.slice Ao18 t230.length co18) : Value).ownBlock∧some k_ ≠ ((.slice Ao29 t252.length co29) : Value).ownBlock) (.slice Ao24 t242.length co24) t242)∧Aside0 (Kd.R Kd.bool 4 wc w.heap.size (fun k_=>some k_ ≠ ((.slice Ao16 t224.length co16) : Value).ownBlock∧some k_ ≠ ((.slice Ao19 t233.length co19) : Value).ownBlock∧some k_ ≠ ((.slice Ao30 t255.length co30) : Value).ownBlock) (.slice Ao27 t246.length co27) t246)∧Aside0 (Kd.R k128 128 wc w.heap.size (fun k_=>some k_ ≠ ((.slice Ao17 t227.length co17) : Value).ownBlock) (.slice Ao28 t249.length co28) t249)∧Aside0 (Kd.R Kd.string 9 wc w.heap.size (fun k_=>some k_ ≠ ((.slice Ao14 t220.length co14) : Value).ownBlock∧some k_ ≠ ((.slice Ao18 t230.length co18) : Value).ownBlock∧some k_ ≠ ((.slice Ao24 t242.length co24) : Value).ownBlock) (.slice Ao29 t252.length co29) t252)∧Aside0 (Kd.R Kd.bool 4 wc w.heap.size (fun k_=>some k_ ≠ ((.slice Ao16 t224.length co16) : Value).ownBlock∧some k_ ≠ ((.slice Ao19 t233.length co19) : Value).ownBlock∧some k_ ≠ ((.slice Ao27 t246.length co27) : Value).ownBlock) (.slice Ao30 t255.length co30) t255)∧Aside0 (wc.heap[gb238]? = some (.cells #[(.slice Ao14 t220.length co14),.int .i64 t223,(.slice Ao16 t224.length co16),(.slice Ao17 t227.length co17),(.slice Ao18 t230.length co18),(.slice Ao19 t233.length co19),.int .i64 t236] 66 (0,0)))∧Aside0 (wc.heap[gb260]? = some (.cells #[(.slice Ao24 t242.length co24),.int .i64 t245,(.slice Ao27 t246.length co27),(.slice Ao28 t249.length co28),(.slice Ao29 t252.length co29),(.slice Ao30 t255.length co30),.int .i64 t258] 66 (0,0)))∧Aside0 (Below w.heap.size w wc))
      case first =>
       have H:=HC46.out
       clear HC46
       by_cases c50 : t266 < 0
       ·rw [if_pos c50] at H
        have c50b0 : decide (t266 < 0) = true:=decide_eq_true c50
        clear c50
        (first|rw [c50b0]|(simp only [i64_w,i32_w];rw [c50b0])|skip)
        have H':=Aside0.mk H
        clear H
        go_wp2
        go_meet
        case rel=>exact ⟨_,(true),(by first|rfl|(simp;done)|(simp [*];done)),H',⟨by have:=HJ8.out;first|omega|exact Nat.le_refl _⟩,⟨by (with_reducible repeat (first|apply R_alloc|apply R_drewN|apply R_drew));exact Kd.R_mono HO_239000.out (fun _ hk=>⟨hk.2.1,⟨hk.2.2.1,hk.2.2.2.1⟩⟩)⟩,⟨by (with_reducible repeat (first|apply R_alloc|apply R_drewN|apply R_drew));exact HO_239002.out⟩,⟨by (with_reducible repeat (first|apply R_alloc|apply R_drewN|apply R_drew));exact HO_239003.out⟩,⟨by (with_reducible repeat (first|apply R_alloc|apply R_drewN|apply R_drew));exact Kd.R_mono HO_239004.out (fun _ hk=>⟨hk.2.1,⟨hk.2.2.1,hk.2.2.2.1⟩⟩)⟩,⟨by (with_reducible repeat (first|apply R_alloc|apply R_drewN|apply R_drew));exact HO_239005.out⟩,⟨by (with_reducible repeat (first|apply R_alloc|apply R_drewN|apply R_drew));exact Kd.R_mono HO_261000.out (fun _ hk=>⟨hk.2.1,⟨hk.2.2.1,hk.2.2.2.1⟩⟩)⟩,⟨by (with_reducible repeat (first|apply R_alloc|apply R_drewN|apply R_drew));exact HO_261002.out⟩,⟨by (with_reducible repeat (first|apply R_alloc|apply R_drewN|apply R_drew));exact HO_261003.out⟩,⟨by (with_reducible repeat (first|apply R_alloc|apply R_drewN|apply R_drew));exact Kd.R_mono HO_261004.out (fun _ hk=>⟨hk.2.1,⟨hk.2.2.1,hk.2.2.2.1⟩⟩)⟩,⟨by (with_reducible repeat (first|apply R_alloc|apply R_drewN|apply R_drew));exact HO_261005.out⟩,⟨by (with_reducible repeat (first|refine blk_drewN ?_ _|refine blk_drew ?_|refine blk_alloc ?_ _));exact BK238.out⟩,⟨by (with_reducible repeat (first|refine blk_drewN ?_ _|refine blk_drew ?_|refine blk_alloc ?_ _));exact BK260.out⟩,⟨by repeat (first|(with_reducible first|exact HB.out|apply below_alloc|apply pw_below_drewN|apply below_drew1|refine below_set ?_ GE238.out|refine below_set ?_ GE260.out)|exact HB.out)⟩⟩
       ·rw [if_neg c50] at H
        have c50b0 : decide (t266 < 0) = false:=decide_eq_false c50
        clear c50
        (first|rw [c50b0]|(simp only [i64_w,i32_w];rw [c50b0])|skip)
        replace H:=Option.bind_eq_some_iff.mp H
        obtain ⟨t268,A510,H⟩:=H
        replace H : (if t268 = true then (laws_FnExactNewWindow.j1 kj8 l0 a1 t237 (t259 != t237) t220 t223 t224 t227 t230 t233 t236 t242 t245 t246 t249 t252 t255 t258) else (laws_FnExactNewWindow.j1 kj8 l0 a1 t237 true t220 t223 t224 t227 t230 t233 t236 t242 t245 t246 t249 t252 t255 t258)) = some r:=H
        have A51:=Aside0.mk A510
        clear A510
        by_cases c52 : t268 = true
        case' pos =>
         subst c52
         have H1 : (laws_FnExactNewWindow.j1 kj8 l0 a1 t237 (t259 != t237) t220 t223 t224 t227 t230 t233 t236 t242 t245 t246 t249 t252 t255 t258) = some r:=by rw [if_pos rfl] at H;exact H
         clear H
         have H:=H1
         clear H1
         have H':=Aside0.mk H
         clear H
         have hnb53:=NB260_238.out
         have hnc53:=NB238_260.out
         have hcz54_0 : w49.cell? ⟨gb260,0,none⟩ = some (.slice Ao24 t242.length co24):=(blk_cell BK260.out 0).trans rfl
         have hcz54_1 : w49.cell? ⟨gb260,1,none⟩ = some (.int .i64 t245):=(blk_cell BK260.out 1).trans rfl
         have hcz54_2 : w49.cell? ⟨gb260,2,none⟩ = some (.slice Ao27 t246.length co27):=(blk_cell BK260.out 2).trans rfl
         have hcz54_3 : w49.cell? ⟨gb260,3,none⟩ = some (.slice Ao28 t249.length co28):=(blk_cell BK260.out 3).trans rfl
         have hcz54_4 : w49.cell? ⟨gb260,4,none⟩ = some (.slice Ao29 t252.length co29):=(blk_cell BK260.out 4).trans rfl
         have hcz54_5 : w49.cell? ⟨gb260,5,none⟩ = some (.slice Ao30 t255.length co30):=(blk_cell BK260.out 5).trans rfl
         have hcz54_6 : w49.cell? ⟨gb260,6,none⟩ = some (.int .i64 t258):=(blk_cell BK260.out 6).trans rfl
         have hfz54_0:=blk_frozen BK260.out 0
         have hfz54_1:=blk_frozen BK260.out 1
         have hfz54_2:=blk_frozen BK260.out 2
         have hfz54_3:=blk_frozen BK260.out 3
         have hfz54_4:=blk_frozen BK260.out 4
         have hfz54_5:=blk_frozen BK260.out 5
         have hfz54_6:=blk_frozen BK260.out 6
         have hcz55_0 : w49.cell? ⟨gb238,0,none⟩ = some (.slice Ao14 t220.length co14):=(blk_cell BK238.out 0).trans rfl
         have hcz55_1 : w49.cell? ⟨gb238,1,none⟩ = some (.int .i64 t223):=(blk_cell BK238.out 1).trans rfl
         have hcz55_2 : w49.cell? ⟨gb238,2,none⟩ = some (.slice Ao16 t224.length co16):=(blk_cell BK238.out 2).trans rfl
         have hcz55_3 : w49.cell? ⟨gb238,3,none⟩ = some (.slice Ao17 t227.length co17):=(blk_cell BK238.out 3).trans rfl
         have hcz55_4 : w49.cell? ⟨gb238,4,none⟩ = some (.slice Ao18 t230.length co18):=(blk_cell BK238.out 4).trans rfl
         have hcz55_5 : w49.cell? ⟨gb238,5,none⟩ = some (.slice Ao19 t233.length co19):=(blk_cell BK238.out 5).trans rfl
         have hcz55_6 : w49.cell? ⟨gb238,6,none⟩ = some (.int .i64 t236):=(blk_cell BK238.out 6).trans rfl
         have hfz55_0:=blk_frozen BK238.out 0
         have hfz55_1:=blk_frozen BK238.out 1
         have hfz55_2:=blk_frozen BK238.out 2
         have hfz55_3:=blk_frozen BK238.out 3
         have hfz55_4:=blk_frozen BK238.out 4
         have hfz55_5:=blk_frozen BK238.out 5
         have hfz55_6:=blk_frozen BK238.out 6
        case' neg =>
         replace c52:=Bool.eq_false_iff.mpr c52
         subst c52
         have H1 : (laws_FnExactNewWindow.j1 kj8 l0 a1 t237 true t220 t223 t224 t227 t230 t233 t236 t242 t245 t246 t249 t252 t255 t258) = some r:=by rw [if_neg (show ¬ (false = true) by decide)] at H;exact H
         clear H
         have H:=H1
         clear H1
         have H':=Aside0.mk H
         clear H
         have hnb57:=NB260_238.out
         have hnc57:=NB238_260.out
         have hcz58_0 : w49.cell? ⟨gb260,0,none⟩ = some (.slice Ao24 t242.length co24):=(blk_cell BK260.out 0).trans rfl
         have hcz58_1 : w49.cell? ⟨gb260,1,none⟩ = some (.int .i64 t245):=(blk_cell BK260.out 1).trans rfl
         have hcz58_2 : w49.cell? ⟨gb260,2,none⟩ = some (.slice Ao27 t246.length co27):=(blk_cell BK260.out 2).trans rfl
         have hcz58_3 : w49.cell? ⟨gb260,3,none⟩ = some (.slice Ao28 t249.length co28):=(blk_cell BK260.out 3).trans rfl
         have hcz58_4 : w49.cell? ⟨gb260,4,none⟩ = some (.slice Ao29 t252.length co29):=(blk_cell BK260.out 4).trans rfl
         have hcz58_5 : w49.cell? ⟨gb260,5,none⟩ = some (.slice Ao30 t255.length co30):=(blk_cell BK260.out 5).trans rfl
         have hcz58_6 : w49.cell? ⟨gb260,6,none⟩ = some (.int .i64 t258):=(blk_cell BK260.out 6).trans rfl
         have hfz58_0:=blk_frozen BK260.out 0
         have hfz58_1:=blk_frozen BK260.out 1
         have hfz58_2:=blk_frozen BK260.out 2
         have hfz58_3:=blk_frozen BK260.out 3
         have hfz58_4:=blk_frozen BK260.out 4
         have hfz58_5:=blk_frozen BK260.out 5
         have hfz58_6:=blk_frozen BK260.out 6
         have hcz59_0 : w49.cell? ⟨gb238,0,none⟩ = some (.slice Ao14 t220.length co14):=(blk_cell BK238.out 0).trans rfl
         have hcz59_1 : w49.cell? ⟨gb238,1,none⟩ = some (.int .i64 t223):=(blk_cell BK238.out 1).trans rfl
         have hcz59_2 : w49.cell? ⟨gb238,2,none⟩ = some (.slice Ao16 t224.length co16):=(blk_cell BK238.out 2).trans rfl
         have hcz59_3 : w49.cell? ⟨gb238,3,none⟩ = some (.slice Ao17 t227.length co17):=(blk_cell BK238.out 3).trans rfl
         have hcz59_4 : w49.cell? ⟨gb238,4,none⟩ = some (.slice Ao18 t230.length co18):=(blk_cell BK238.out 4).trans rfl
         have hcz59_5 : w49.cell? ⟨gb238,5,none⟩ = some (.slice Ao19 t233.length co19):=(blk_cell BK238.out 5).trans rfl
         have hcz59_6 : w49.cell? ⟨gb238,6,none⟩ = some (.int .i64 t236):=(blk_cell BK238.out 6).trans rfl
         have hfz59_0:=blk_frozen BK238.out 0
         have hfz59_1:=blk_frozen BK238.out 1
         have hfz59_2:=blk_frozen BK238.out 2
         have hfz59_3:=blk_frozen BK238.out 3
         have hfz59_4:=blk_frozen BK238.out 4
         have hfz59_5:=blk_frozen BK238.out 5
         have hfz59_6:=blk_frozen BK238.out 6
        all_goals
         go_wp2_with (first|(go_at_call 50;(with_reducible refine (laws_eqWindow.calls kj8 _ _ t242 t245 _ _ t246 _ _ t249 _ _ t252 _ _ t255 t258 _ _ t220 t223 _ _ t224 _ _ t227 _ _ t230 _ _ t233 t236 _ _ ?side1 ?side2 ?side3 ?side4 ?side5 ?side6 ?side7 ?side8 ?side9 ?side10 ?side11 ?side12 ?side13 ?side14 ?side15 ?side16 ?side17 ?side18 ?side19 ?side20 A51.out).mono ?_);(case side1=>repeat (first|exact (Kd.R_reads' HO_261000.out).2.2|(with_reducible refine C_alloc ?_ _)|(with_reducible refine C_drewN ?_ _)|(with_reducible refine C_drew ?_)));(case side2=>exact (Kd.R_reads' HO_261000.out).2.1);(case side3=>repeat (first|exact (Kd.R_reads' HO_261002.out).2.2|(with_reducible refine C_alloc ?_ _)|(with_reducible refine C_drewN ?_ _)|(with_reducible refine C_drew ?_)));(case side4=>exact (Kd.R_reads' HO_261002.out).2.1);(case side5=>repeat (first|exact (Kd.R_reads' HO_261003.out).2.2|(with_reducible refine C_alloc ?_ _)|(with_reducible refine C_drewN ?_ _)|(with_reducible refine C_drew ?_)));(case side6=>exact (Kd.R_reads' HO_261003.out).2.1);(case side7=>repeat (first|exact (Kd.R_reads' HO_261004.out).2.2|(with_reducible refine C_alloc ?_ _)|(with_reducible refine C_drewN ?_ _)|(with_reducible refine C_drew ?_)));(case side8=>exact (Kd.R_reads' HO_261004.out).2.1);(case side9=>repeat (first|exact (Kd.R_reads' HO_261005.out).2.2|(with_reducible refine C_alloc ?_ _)|(with_reducible refine C_drewN ?_ _)|(with_reducible refine C_drew ?_)));(case side10=>exact (Kd.R_reads' HO_261005.out).2.1);(case side11=>repeat (first|exact (Kd.R_reads' HO_239000.out).2.2|(with_reducible refine C_alloc ?_ _)|(with_reducible refine C_drewN ?_ _)|(with_reducible refine C_drew ?_)));(case side12=>exact (Kd.R_reads' HO_239000.out).2.1);(case side13=>repeat (first|exact (Kd.R_reads' HO_239002.out).2.2|(with_reducible refine C_alloc ?_ _)|(with_reducible refine C_drewN ?_ _)|(with_reducible refine C_drew ?_)));(case side14=>exact (Kd.R_reads' HO_239002.out).2.1);(case side15=>repeat (first|exact (Kd.R_reads' HO_239003.out).2.2|(with_reducible refine C_alloc ?_ _)|(with_reducible refine C_drewN ?_ _)|(with_reducible refine C_drew ?_)));(case side16=>exact (Kd.R_reads' HO_239003.out).2.1);(case side17=>repeat (first|exact (Kd.R_reads' HO_239004.out).2.2|(with_reducible refine C_alloc ?_ _)|(with_reducible refine C_drewN ?_ _)|(with_reducible refine C_drew ?_)));(case side18=>exact (Kd.R_reads' HO_239004.out).2.1);(case side19=>repeat (first|exact (Kd.R_reads' HO_239005.out).2.2|(with_reducible refine C_alloc ?_ _)|(with_reducible refine C_drewN ?_ _)|(with_reducible refine C_drew ?_)));(case side20=>exact (Kd.R_reads' HO_239005.out).2.1);rintro e w56 ⟨rfl,hb⟩;have n0_:=Aside0.mk (Kd.R_below (by (with_reducible repeat (first|apply R_alloc|apply R_drewN|apply R_drew));exact HO_8.out) hb);have n1_:=Aside0.mk (Kd.R_below (by (with_reducible repeat (first|apply R_alloc|apply R_drewN|apply R_drew));exact HO_239000.out) hb);have n2_:=Aside0.mk (Kd.R_below (by (with_reducible repeat (first|apply R_alloc|apply R_drewN|apply R_drew));exact HO_239002.out) hb);have n3_:=Aside0.mk (Kd.R_below (by (with_reducible repeat (first|apply R_alloc|apply R_drewN|apply R_drew));exact HO_239003.out) hb);have n4_:=Aside0.mk (Kd.R_below (by (with_reducible repeat (first|apply R_alloc|apply R_drewN|apply R_drew));exact HO_239004.out) hb);have n5_:=Aside0.mk (Kd.R_below (by (with_reducible repeat (first|apply R_alloc|apply R_drewN|apply R_drew));exact HO_239005.out) hb);have n6_:=Aside0.mk (Kd.R_below (by (with_reducible repeat (first|apply R_alloc|apply R_drewN|apply R_drew));exact HO_261000.out) hb);have n7_:=Aside0.mk (Kd.R_below (by (with_reducible repeat (first|apply R_alloc|apply R_drewN|apply R_drew));exact HO_261002.out) hb);have n8_:=Aside0.mk (Kd.R_below (by (with_reducible repeat (first|apply R_alloc|apply R_drewN|apply R_drew));exact HO_261003.out) hb);have n9_:=Aside0.mk (Kd.R_below (by (with_reducible repeat (first|apply R_alloc|apply R_drewN|apply R_drew));exact HO_261004.out) hb);have n10_:=Aside0.mk (Kd.R_below (by (with_reducible repeat (first|apply R_alloc|apply R_drewN|apply R_drew));exact HO_261005.out) hb);have n11_:=Aside0.mk (Kd.R_below (by (with_reducible repeat (first|apply R_alloc|apply R_drewN|apply R_drew));exact HO264.out) hb);have n12_:=Aside0.mk (blk_below (g:=gb238) (o:=.cells #[.slice Ao14 t220.length co14,.int .i64 t223,.slice Ao16 t224.length co16,.slice Ao17 t227.length co17,.slice Ao18 t230.length co18,.slice Ao19 t233.length co19,.int .i64 t236] 66 (0,0)) (by (with_reducible repeat (first|refine blk_drewN ?_ _|refine blk_drew ?_|refine blk_alloc ?_ _));exact BK238.out) hb);have n13_:=Aside0.mk (blk_below (g:=gb260) (o:=.cells #[.slice Ao24 t242.length co24,.int .i64 t245,.slice Ao27 t246.length co27,.slice Ao28 t249.length co28,.slice Ao29 t252.length co29,.slice Ao30 t255.length co30,.int .i64 t258] 66 (0,0)) (by (with_reducible repeat (first|refine blk_drewN ?_ _|refine blk_drew ?_|refine blk_alloc ?_ _));exact BK260.out) hb);have n14_:=Aside0.mk (below_step (by repeat (first|(with_reducible first|exact HB.out|apply below_alloc|apply pw_below_drewN|apply below_drew1|refine below_set ?_ GE238.out|refine below_set ?_ GE260.out)|exact HB.out)) hb);clear HO_8;clear HO_239000;clear HO_239002;clear HO_239003;clear HO_239004;clear HO_239005;clear HO_261000;clear HO_261002;clear HO_261003;clear HO_261004;clear HO_261005;clear HO264;clear BK238;clear BK260;clear HB;have HO_8:=n0_;have HO_239000:=n1_;have HO_239002:=n2_;have HO_239003:=n3_;have HO_239004:=n4_;have HO_239005:=n5_;have HO_261000:=n6_;have HO_261002:=n7_;have HO_261003:=n8_;have HO_261004:=n9_;have HO_261005:=n10_;have HO264:=n11_;have BK238:=n12_;have BK260:=n13_;have HB:=n14_;clear n0_ n1_ n2_ n3_ n4_ n5_ n6_ n7_ n8_ n9_ n10_ n11_ n12_ n13_ n14_;(try clear hb);(try clear hb2);(try clear hk);(try clear hi)))
        ·go_meet
         case rel=>exact ⟨_,(true),(by first|rfl|(simp;done)|(simp [*];done)),H',⟨by have:=HJ8.out;first|omega|exact Nat.le_refl _⟩,⟨by (with_reducible repeat (first|apply R_alloc|apply R_drewN|apply R_drew));exact Kd.R_mono HO_239000.out (fun _ hk=>⟨hk.2.1,⟨hk.2.2.1,hk.2.2.2.1⟩⟩)⟩,⟨by (with_reducible repeat (first|apply R_alloc|apply R_drewN|apply R_drew));exact HO_239002.out⟩,⟨by (with_reducible repeat (first|apply R_alloc|apply R_drewN|apply R_drew));exact HO_239003.out⟩,⟨by (with_reducible repeat (first|apply R_alloc|apply R_drewN|apply R_drew));exact Kd.R_mono HO_239004.out (fun _ hk=>⟨hk.2.1,⟨hk.2.2.1,hk.2.2.2.1⟩⟩)⟩,⟨by (with_reducible repeat (first|apply R_alloc|apply R_drewN|apply R_drew));exact HO_239005.out⟩,⟨by (with_reducible repeat (first|apply R_alloc|apply R_drewN|apply R_drew));exact Kd.R_mono HO_261000.out (fun _ hk=>⟨hk.2.1,⟨hk.2.2.1,hk.2.2.2.1⟩⟩)⟩,⟨by (with_reducible repeat (first|apply R_alloc|apply R_drewN|apply R_drew));exact HO_261002.out⟩,⟨by (with_reducible repeat (first|apply R_alloc|apply R_drewN|apply R_drew));exact HO_261003.out⟩,⟨by (with_reducible repeat (first|apply R_alloc|apply R_drewN|apply R_drew));exact Kd.R_mono HO_261004.out (fun _ hk=>⟨hk.2.1,⟨hk.2.2.1,hk.2.2.2.1⟩⟩)⟩,⟨by (with_reducible repeat (first|apply R_alloc|apply R_drewN|apply R_drew));exact HO_261005.out⟩,⟨by (with_reducible repeat (first|refine blk_drewN ?_ _|refine blk_drew ?_|refine blk_alloc ?_ _));exact BK238.out⟩,⟨by (with_reducible repeat (first|refine blk_drewN ?_ _|refine blk_drew ?_|refine blk_alloc ?_ _));exact BK260.out⟩,⟨by repeat (first|(with_reducible first|exact HB.out|apply below_alloc|apply pw_below_drewN|apply below_drew1|refine below_set ?_ GE238.out|refine below_set ?_ GE260.out)|exact HB.out)⟩⟩
        ·go_meet
         case rel=>exact ⟨_,((t259 != t237)),(by first|rfl|(simp;done)|(simp [*];done)),H',⟨by have:=HJ8.out;first|omega|exact Nat.le_refl _⟩,⟨by (with_reducible repeat (first|apply R_alloc|apply R_drewN|apply R_drew));exact Kd.R_mono HO_239000.out (fun _ hk=>⟨hk.2.1,⟨hk.2.2.1,hk.2.2.2.1⟩⟩)⟩,⟨by (with_reducible repeat (first|apply R_alloc|apply R_drewN|apply R_drew));exact HO_239002.out⟩,⟨by (with_reducible repeat (first|apply R_alloc|apply R_drewN|apply R_drew));exact HO_239003.out⟩,⟨by (with_reducible repeat (first|apply R_alloc|apply R_drewN|apply R_drew));exact Kd.R_mono HO_239004.out (fun _ hk=>⟨hk.2.1,⟨hk.2.2.1,hk.2.2.2.1⟩⟩)⟩,⟨by (with_reducible repeat (first|apply R_alloc|apply R_drewN|apply R_drew));exact HO_239005.out⟩,⟨by (with_reducible repeat (first|apply R_alloc|apply R_drewN|apply R_drew));exact Kd.R_mono HO_261000.out (fun _ hk=>⟨hk.2.1,⟨hk.2.2.1,hk.2.2.2.1⟩⟩)⟩,⟨by (with_reducible repeat (first|apply R_alloc|apply R_drewN|apply R_drew));exact HO_261002.out⟩,⟨by (with_reducible repeat (first|apply R_alloc|apply R_drewN|apply R_drew));exact HO_261003.out⟩,⟨by (with_reducible repeat (first|apply R_alloc|apply R_drewN|apply R_drew));exact Kd.R_mono HO_261004.out (fun _ hk=>⟨hk.2.1,⟨hk.2.2.1,hk.2.2.2.1⟩⟩)⟩,⟨by (with_reducible repeat (first|apply R_alloc|apply R_drewN|apply R_drew));exact HO_261005.out⟩,⟨by (with_reducible repeat (first|refine blk_drewN ?_ _|refine blk_drew ?_|refine blk_alloc ?_ _));exact BK238.out⟩,⟨by (with_reducible repeat (first|refine blk_drewN ?_ _|refine blk_drew ?_|refine blk_alloc ?_ _));exact BK260.out⟩,⟨by repeat (first|(with_reducible first|exact HB.out|apply below_alloc|apply pw_below_drewN|apply below_drew1|refine below_set ?_ GE238.out|refine below_set ?_ GE260.out)|exact HB.out)⟩⟩
      case rest =>
       clear HC46
       try clear c1
       try clear c2
       try clear p2
       try clear c3
       try clear c4
       try clear c4b0
       try clear c5
       try clear c12
       try clear c25
       try clear c32
       try clear c33
       try clear c37
       try clear c41
       try clear c44
       try clear c46
       try clear c47
       try clear c48
       try clear c49
       try clear c50
       try clear c50b0
       try clear c51
       try clear c52
       try clear c53
       try clear c57
       try clear hcz15_0
       try clear hcz15_1
       try clear hcz15_2
       try clear hcz15_3
       try clear hcz15_4
       try clear hcz15_5
       try clear hcz15_6
       try clear hcz26_0
       try clear hcz26_1
       try clear hcz26_2
       try clear hcz26_3
       try clear hcz26_4
       try clear hcz26_5
       try clear hcz26_6
       try clear hcz34_0
       try clear hcz34_1
       try clear hcz34_2
       try clear hcz34_3
       try clear hcz34_4
       try clear hcz34_5
       try clear hcz34_6
       try clear hcz35_0
       try clear hcz35_1
       try clear hcz35_2
       try clear hcz35_3
       try clear hcz35_4
       try clear hcz35_5
       try clear hcz35_6
       try clear hcz38_0
       try clear hcz38_1
       try clear hcz38_2
       try clear hcz38_3
       try clear hcz38_4
       try clear hcz38_5
       try clear hcz38_6
       try clear hcz39_0
       try clear hcz39_1
       try clear hcz39_2
       try clear hcz39_3
       try clear hcz39_4
       try clear hcz39_5
       try clear hcz39_6
       try clear hcz54_0
       try clear hcz54_1
       try clear hcz54_2
       try clear hcz54_3
       try clear hcz54_4
       try clear hcz54_5
       try clear hcz54_6
       try clear hcz55_0
       try clear hcz55_1
       try clear hcz55_2
       try clear hcz55_3
       try clear hcz55_4
       try clear hcz55_5
       try clear hcz55_6
       try clear hcz58_0
       try clear hcz58_1
       try clear hcz58_2
       try clear hcz58_3
       try clear hcz58_4
       try clear hcz58_5
       try clear hcz58_6
       try clear hcz59_0
       try clear hcz59_1
       try clear hcz59_2
       try clear hcz59_3
       try clear hcz59_4
       try clear hcz59_5
       try clear hcz59_6
       try clear hfz15_0
       try clear hfz15_1
       try clear hfz15_2
       try clear hfz15_3
       try clear hfz15_4
       try clear hfz15_5
       try clear hfz15_6
       try clear hfz26_0
       try clear hfz26_1
       try clear hfz26_2
       try clear hfz26_3
       try clear hfz26_4
       try clear hfz26_5
       try clear hfz26_6
       try clear hfz34_0
       try clear hfz34_1
       try clear hfz34_2
       try clear hfz34_3
       try clear hfz34_4
       try clear hfz34_5
       try clear hfz34_6
       try clear hfz35_0
       try clear hfz35_1
       try clear hfz35_2
       try clear hfz35_3
       try clear hfz35_4
       try clear hfz35_5
       try clear hfz35_6
       try clear hfz38_0
       try clear hfz38_1
       try clear hfz38_2
       try clear hfz38_3
       try clear hfz38_4
       try clear hfz38_5
       try clear hfz38_6
       try clear hfz39_0
       try clear hfz39_1
       try clear hfz39_2
       try clear hfz39_3
       try clear hfz39_4
       try clear hfz39_5
       try clear hfz39_6
       try clear hfz54_0
       try clear hfz54_1
       try clear hfz54_2
       try clear hfz54_3
       try clear hfz54_4
       try clear hfz54_5
       try clear hfz54_6
       try clear hfz55_0
       try clear hfz55_1
       try clear hfz55_2
       try clear hfz55_3
       try clear hfz55_4
       try clear hfz55_5
       try clear hfz55_6
       try clear hfz58_0
       try clear hfz58_1
       try clear hfz58_2
       try clear hfz58_3
       try clear hfz58_4
       try clear hfz58_5
       try clear hfz58_6
       try clear hfz59_0
       try clear hfz59_1
       try clear hfz59_2
       try clear hfz59_3
       try clear hfz59_4
       try clear hfz59_5
       try clear hfz59_6
       try clear p2
       obtain ⟨kq,x65_45,rfl,HA,HJ45,HO_239000,HO_239002,HO_239003,HO_239004,HO_239005,HO_261000,HO_261002,HO_261003,HO_261004,HO_261005,BK238,BK260,HB⟩:=hcut
       cases kq with
       | zero=>exact absurd HA.out (by simp [laws_FnExactNewWindow.j1])
       | succ kj45 =>
        have H:=HA.out
        clear HA
        simp only [laws_FnExactNewWindow.j1] at H
        by_cases c61 : x65_45 = true
        ·subst c61
         have H1 : (some false) = some r:=by rw [if_pos rfl] at H;exact H
         clear H
         have H:=H1
         clear H1
         obtain rfl:=Option.some.inj H
         go_wp2
         go_ret
         exact ⟨by first|rfl|(simp [errW_none,errW_some] <;> rfl)|(simp [*,errW_none,errW_some] <;> rfl),by repeat (first|(with_reducible first|exact HB.out|apply below_alloc|apply pw_below_drewN|apply below_drew1|refine below_set ?_ GE238.out|refine below_set ?_ GE260.out)|exact HB.out)⟩
        ·replace c61:=Bool.eq_false_iff.mpr c61
         subst c61
         have H1 : ((laws_markWindow.f kj45 t242 t245 t246 t249 t252 t255 t258 1).bind fun bt269=>((laws_heldWindow.f kj45 bt269.2.1 t245 bt269.2.2.1 bt269.2.2.2.1 bt269.2.2.2.2.1 bt269.2.2.2.2.2 t258 1).bind fun t275=>(if t275 < 0 then (some false) else (if t275 = bt269.1 then ((laws_toStringS.f kj45 l0).bind fun t276=>((impl_NewWindow.f t276 a1).bind fun bt279=>((laws_eqWindow.f kj45 bt279.1 bt279.2.1 bt279.2.2.1 bt279.2.2.2.1 bt279.2.2.2.2.1 bt279.2.2.2.2.2.1 bt279.2.2.2.2.2.2.1 t220 t223 t224 t227 t230 t233 t236).bind fun t298=>(if t298 = true then (laws_FnExactNewWindow.j2 kj45 bt269.1 (bt279.2.2.2.2.2.2.2 != t237) bt269.2.1 t245 bt269.2.2.1 bt269.2.2.2.1 bt269.2.2.2.2.1 bt269.2.2.2.2.2 t258) else (laws_FnExactNewWindow.j2 kj45 bt269.1 true bt269.2.1 t245 bt269.2.2.1 bt269.2.2.2.1 bt269.2.2.2.2.1 bt269.2.2.2.2.2 t258))))) else (some false))))) = some r:=by rw [if_neg (show ¬ (false = true) by decide)] at H;exact H
         clear H
         have H:=H1
         clear H1
         replace H:=Option.bind_eq_some_iff.mp H
         obtain ⟨⟨t269,t270,t271,t272,t273,t274⟩,A620,H⟩:=H
         replace H : ((laws_heldWindow.f kj45 t270 t245 t271 t272 t273 t274 t258 1).bind fun t275=>(if t275 < 0 then (some false) else (if t275 = t269 then ((laws_toStringS.f kj45 l0).bind fun t276=>((impl_NewWindow.f t276 a1).bind fun bt279=>((laws_eqWindow.f kj45 bt279.1 bt279.2.1 bt279.2.2.1 bt279.2.2.2.1 bt279.2.2.2.2.1 bt279.2.2.2.2.2.1 bt279.2.2.2.2.2.2.1 t220 t223 t224 t227 t230 t233 t236).bind fun t298=>(if t298 = true then (laws_FnExactNewWindow.j2 kj45 t269 (bt279.2.2.2.2.2.2.2 != t237) t270 t245 t271 t272 t273 t274 t258) else (laws_FnExactNewWindow.j2 kj45 t269 true t270 t245 t271 t272 t273 t274 t258))))) else (some false)))) = some r:=H
         have A62:=Aside0.mk A620
         clear A620
         replace H:=Option.bind_eq_some_iff.mp H
         obtain ⟨t275,A630,H⟩:=H
         replace H : (if t275 < 0 then (some false) else (if t275 = t269 then ((laws_toStringS.f kj45 l0).bind fun t276=>((impl_NewWindow.f t276 a1).bind fun bt279=>((laws_eqWindow.f kj45 bt279.1 bt279.2.1 bt279.2.2.1 bt279.2.2.2.1 bt279.2.2.2.2.1 bt279.2.2.2.2.2.1 bt279.2.2.2.2.2.2.1 t220 t223 t224 t227 t230 t233 t236).bind fun t298=>(if t298 = true then (laws_FnExactNewWindow.j2 kj45 t269 (bt279.2.2.2.2.2.2.2 != t237) t270 t245 t271 t272 t273 t274 t258) else (laws_FnExactNewWindow.j2 kj45 t269 true t270 t245 t271 t272 t273 t274 t258))))) else (some false))) = some r:=H
         have A63:=Aside0.mk A630
         clear A630
         by_cases c64 : t275 < 0
         ·rw [if_pos c64] at H
          have c64b0 : decide (t275 < 0) = true:=decide_eq_true c64
          clear c64
          obtain rfl:=Option.some.inj H
          have hnb65:=NB260_238.out
          have hnc65:=NB238_260.out
          have hcz66_0 : wc.cell? ⟨gb260,0,none⟩ = some (.slice Ao24 t242.length co24):=(blk_cell BK260.out 0).trans rfl
          have hcz66_1 : wc.cell? ⟨gb260,1,none⟩ = some (.int .i64 t245):=(blk_cell BK260.out 1).trans rfl
          have hcz66_2 : wc.cell? ⟨gb260,2,none⟩ = some (.slice Ao27 t246.length co27):=(blk_cell BK260.out 2).trans rfl
          have hcz66_3 : wc.cell? ⟨gb260,3,none⟩ = some (.slice Ao28 t249.length co28):=(blk_cell BK260.out 3).trans rfl
          have hcz66_4 : wc.cell? ⟨gb260,4,none⟩ = some (.slice Ao29 t252.length co29):=(blk_cell BK260.out 4).trans rfl
          have hcz66_5 : wc.cell? ⟨gb260,5,none⟩ = some (.slice Ao30 t255.length co30):=(blk_cell BK260.out 5).trans rfl
          have hcz66_6 : wc.cell? ⟨gb260,6,none⟩ = some (.int .i64 t258):=(blk_cell BK260.out 6).trans rfl
          have hfz66_0:=blk_frozen BK260.out 0
          have hfz66_1:=blk_frozen BK260.out 1
          have hfz66_2:=blk_frozen BK260.out 2
          have hfz66_3:=blk_frozen BK260.out 3
          have hfz66_4:=blk_frozen BK260.out 4
          have hfz66_5:=blk_frozen BK260.out 5
          have hfz66_6:=blk_frozen BK260.out 6
          go_wp2_with (first|((with_reducible refine gate_callee (f:=53) rfl ?_);refine goesL_ (some 68) rfl rfl Try.func53 (by kernel_rfl) rfl #[.agg #[.slice Ao24 t242.length co24,.int .i64 t245,.slice Ao27 t246.length co27,.slice Ao28 t249.length co28,.slice Ao29 t252.length co29,.slice Ao30 t255.length co30,.int .i64 t258],.int .i64 1] rfl (by (try simp only [List.map_toArray,List.map_cons,List.map_nil]);first|done|rfl|(simp only [List.length_drop,List.length_take];rfl)) ?_;(with_reducible refine (laws_markWindow.calls kj45 (fun k_=>some k_ = (.slice Ao24 t242.length co24 : Value).ownBlock) (.slice Ao24 t242.length co24) t242 t245 (fun k_=>some k_ = (.slice Ao27 t246.length co27 : Value).ownBlock) (.slice Ao27 t246.length co27) t246 (fun k_=>some k_ = (.slice Ao28 t249.length co28 : Value).ownBlock) (.slice Ao28 t249.length co28) t249 (fun k_=>some k_ = (.slice Ao29 t252.length co29 : Value).ownBlock) (.slice Ao29 t252.length co29) t252 (fun k_=>some k_ = (.slice Ao30 t255.length co30 : Value).ownBlock) (.slice Ao30 t255.length co30) t255 t258 1 t269 t270 t271 t272 t273 t274 w _ ?side1 ?side2 ?side3 ?side4 ?side5 ?side6 ?side7 ?side8 ?side9 ?side10 A62.out).mono ?_);(case side1=>repeat (first|(with_reducible first|exact HB.out|apply below_alloc|apply pw_below_drewN|apply below_drew1|refine below_set ?_ GE238.out|refine below_set ?_ GE260.out)|exact HB.out));(case side2=>exact Kd.R_tight rfl HO_261000.out);(case side3=>exact fun k_ e_=>(HO_261000.out.1 k_ e_.symm).2.2);(case side4=>exact Kd.R_tight rfl HO_261002.out);(case side5=>exact fun k_ e_=>(HO_261002.out.1 k_ e_.symm).2.2);(case side6=>exact Kd.R_tight rfl HO_261003.out);(case side7=>exact Kd.R_tight rfl HO_261004.out);(case side8=>exact fun k_ e_=>(HO_261004.out.1 k_ e_.symm).2.2);(case side9=>exact Kd.R_tight rfl HO_261005.out);(case side10=>exact fun k_ e_=>(HO_261005.out.1 k_ e_.symm).2.2);rintro e w67 ⟨rfl,hy0,hy1,hy2,hy3,hy4,hb,hkp⟩;refine ⟨_,rfl,?_⟩;have n0_:=Aside0.mk (Kd.R_mono (ok':=fun k_=>some k_ ≠ (.slice Ao18 t230.length co18 : Value).ownBlock∧some k_ ≠ (.slice Ao24 t242.length co24 : Value).ownBlock∧some k_ ≠ (.slice Ao29 t252.length co29 : Value).ownBlock) (Kd.R_keptB ((Kd.R_apart' (Kd.R_apart' (Kd.R_apart' HO_239000.out (Kd.R_typed HO_261002.out) (by decide)) (Kd.R_typed HO_261003.out) (by decide)) (Kd.R_typed HO_261005.out) (by decide))) hkp (fun k_ hk_ hs_=>Or.elim hs_ (fun e_=>(hk_.1.1.1.2.1) e_) (fun e_=>Or.elim e_ (fun e_=>(hk_.1.1.2) e_) (fun e_=>Or.elim e_ (fun e_=>(hk_.1.2) e_) (fun e_=>Or.elim e_ (fun e_=>(hk_.1.1.1.2.2) e_) (fun e_=>(hk_.2) e_)))))) (fun k_ hk_=>⟨hk_.1.1.1.1.1,hk_.1.1.1.1.2.1,hk_.1.1.1.1.2.2⟩));have n1_:=Aside0.mk (Kd.R_mono (ok':=fun k_=>some k_ ≠ (.slice Ao19 t233.length co19 : Value).ownBlock∧some k_ ≠ (.slice Ao27 t246.length co27 : Value).ownBlock∧some k_ ≠ (.slice Ao30 t255.length co30 : Value).ownBlock) (Kd.R_keptB ((Kd.R_apart' (Kd.R_apart' (Kd.R_apart' HO_239002.out (Kd.R_typed HO_261000.out) (by decide)) (Kd.R_typed HO_261003.out) (by decide)) (Kd.R_typed HO_261004.out) (by decide))) hkp (fun k_ hk_ hs_=>Or.elim hs_ (fun e_=>(hk_.1.1.2) e_) (fun e_=>Or.elim e_ (fun e_=>(hk_.1.1.1.2.1) e_) (fun e_=>Or.elim e_ (fun e_=>(hk_.1.2) e_) (fun e_=>Or.elim e_ (fun e_=>(hk_.2) e_) (fun e_=>(hk_.1.1.1.2.2) e_)))))) (fun k_ hk_=>⟨hk_.1.1.1.1.1,hk_.1.1.1.1.2.1,hk_.1.1.1.1.2.2⟩));have n2_:=Aside0.mk (Kd.R_mono (ok':=fun k_=>some k_ ≠ (.slice Ao28 t249.length co28 : Value).ownBlock) (Kd.R_keptB ((Kd.R_apart' (Kd.R_apart' (Kd.R_apart' (Kd.R_apart' HO_239003.out (Kd.R_typed HO_261000.out) (by decide)) (Kd.R_typed HO_261002.out) (by decide)) (Kd.R_typed HO_261004.out) (by decide)) (Kd.R_typed HO_261005.out) (by decide))) hkp (fun k_ hk_ hs_=>Or.elim hs_ (fun e_=>(hk_.1.1.1.2) e_) (fun e_=>Or.elim e_ (fun e_=>(hk_.1.1.2) e_) (fun e_=>Or.elim e_ (fun e_=>(hk_.1.1.1.1) e_) (fun e_=>Or.elim e_ (fun e_=>(hk_.1.2) e_) (fun e_=>(hk_.2) e_)))))) (fun k_ hk_=>hk_.1.1.1.1.1));have n3_:=Aside0.mk (Kd.R_mono (ok':=fun k_=>some k_ ≠ (.slice Ao14 t220.length co14 : Value).ownBlock∧some k_ ≠ (.slice Ao24 t242.length co24 : Value).ownBlock∧some k_ ≠ (.slice Ao29 t252.length co29 : Value).ownBlock) (Kd.R_keptB ((Kd.R_apart' (Kd.R_apart' (Kd.R_apart' HO_239004.out (Kd.R_typed HO_261002.out) (by decide)) (Kd.R_typed HO_261003.out) (by decide)) (Kd.R_typed HO_261005.out) (by decide))) hkp (fun k_ hk_ hs_=>Or.elim hs_ (fun e_=>(hk_.1.1.1.2.1) e_) (fun e_=>Or.elim e_ (fun e_=>(hk_.1.1.2) e_) (fun e_=>Or.elim e_ (fun e_=>(hk_.1.2) e_) (fun e_=>Or.elim e_ (fun e_=>(hk_.1.1.1.2.2) e_) (fun e_=>(hk_.2) e_)))))) (fun k_ hk_=>⟨hk_.1.1.1.1.1,hk_.1.1.1.1.2.1,hk_.1.1.1.1.2.2⟩));have n4_:=Aside0.mk (Kd.R_mono (ok':=fun k_=>some k_ ≠ (.slice Ao16 t224.length co16 : Value).ownBlock∧some k_ ≠ (.slice Ao27 t246.length co27 : Value).ownBlock∧some k_ ≠ (.slice Ao30 t255.length co30 : Value).ownBlock) (Kd.R_keptB ((Kd.R_apart' (Kd.R_apart' (Kd.R_apart' HO_239005.out (Kd.R_typed HO_261000.out) (by decide)) (Kd.R_typed HO_261003.out) (by decide)) (Kd.R_typed HO_261004.out) (by decide))) hkp (fun k_ hk_ hs_=>Or.elim hs_ (fun e_=>(hk_.1.1.2) e_) (fun e_=>Or.elim e_ (fun e_=>(hk_.1.1.1.2.1) e_) (fun e_=>Or.elim e_ (fun e_=>(hk_.1.2) e_) (fun e_=>Or.elim e_ (fun e_=>(hk_.2) e_) (fun e_=>(hk_.1.1.1.2.2) e_)))))) (fun k_ hk_=>⟨hk_.1.1.1.1.1,hk_.1.1.1.1.2.1,hk_.1.1.1.1.2.2⟩));have n5_:=Aside0.mk (Kd.R_reok rfl hy0 (fun k_ e_=>HO_261000.out.1 k_ e_));have n6_:=Aside0.mk (Kd.R_reok rfl hy1 (fun k_ e_=>HO_261002.out.1 k_ e_));have n7_:=Aside0.mk (Kd.R_reok rfl hy2 (fun k_ e_=>HO_261003.out.1 k_ e_));have n8_:=Aside0.mk (Kd.R_reok rfl hy3 (fun k_ e_=>HO_261004.out.1 k_ e_));have n9_:=Aside0.mk (Kd.R_reok rfl hy4 (fun k_ e_=>HO_261005.out.1 k_ e_));have n10_:=Aside0.mk (blk_kept (by (with_reducible repeat (first|refine blk_drewN ?_ _|refine blk_drew ?_|refine blk_alloc ?_ _));exact BK238.out) hkp (fun hs_=>Or.elim hs_ (fun e_=>(fun e_=>(Kd.R_ne HO_261000.out BK238.out (by decide)) e_) e_) (fun e_=>Or.elim e_ (fun e_=>(fun e_=>(Kd.R_ne HO_261002.out BK238.out (by decide)) e_) e_) (fun e_=>Or.elim e_ (fun e_=>(fun e_=>(Kd.R_ne HO_261003.out BK238.out (by decide)) e_) e_) (fun e_=>Or.elim e_ (fun e_=>(fun e_=>(Kd.R_ne HO_261004.out BK238.out (by decide)) e_) e_) (fun e_=>(fun e_=>(Kd.R_ne HO_261005.out BK238.out (by decide)) e_) e_))))));have n11_:=Aside0.mk (blk_kept (by (with_reducible repeat (first|refine blk_drewN ?_ _|refine blk_drew ?_|refine blk_alloc ?_ _));exact BK260.out) hkp (fun hs_=>Or.elim hs_ (fun e_=>(fun e_=>(Kd.R_ne HO_261000.out BK260.out (by decide)) e_) e_) (fun e_=>Or.elim e_ (fun e_=>(fun e_=>(Kd.R_ne HO_261002.out BK260.out (by decide)) e_) e_) (fun e_=>Or.elim e_ (fun e_=>(fun e_=>(Kd.R_ne HO_261003.out BK260.out (by decide)) e_) e_) (fun e_=>Or.elim e_ (fun e_=>(fun e_=>(Kd.R_ne HO_261004.out BK260.out (by decide)) e_) e_) (fun e_=>(fun e_=>(Kd.R_ne HO_261005.out BK260.out (by decide)) e_) e_))))));have n12_:=Aside0.mk (hb);clear HO_239000;clear HO_239002;clear HO_239003;clear HO_239004;clear HO_239005;clear HO_261000;clear HO_261002;clear HO_261003;clear HO_261004;clear HO_261005;clear BK238;clear BK260;clear HB;have HO_239000:=n0_;have HO_239002:=n1_;have HO_239003:=n2_;have HO_239004:=n3_;have HO_239005:=n4_;have HO_261000:=n5_;have HO_261002:=n6_;have HO_261003:=n7_;have HO_261004:=n8_;have HO_261005:=n9_;have BK238:=n10_;have BK260:=n11_;have HB:=n12_;clear n0_ n1_ n2_ n3_ n4_ n5_ n6_ n7_ n8_ n9_ n10_ n11_ n12_;(try clear hb);(try clear hkp);(try clear hy0);(try clear hy1);(try clear hy2);(try clear hy3);(try clear hy4);have hcz68_0 : w67.cell? ⟨gb260,0,none⟩ = some (.slice Ao24 t242.length co24):=(blk_cell BK260.out 0).trans rfl;have hcz68_1 : w67.cell? ⟨gb260,1,none⟩ = some (.int .i64 t245):=(blk_cell BK260.out 1).trans rfl;have hcz68_2 : w67.cell? ⟨gb260,2,none⟩ = some (.slice Ao27 t246.length co27):=(blk_cell BK260.out 2).trans rfl;have hcz68_3 : w67.cell? ⟨gb260,3,none⟩ = some (.slice Ao28 t249.length co28):=(blk_cell BK260.out 3).trans rfl;have hcz68_4 : w67.cell? ⟨gb260,4,none⟩ = some (.slice Ao29 t252.length co29):=(blk_cell BK260.out 4).trans rfl;have hcz68_5 : w67.cell? ⟨gb260,5,none⟩ = some (.slice Ao30 t255.length co30):=(blk_cell BK260.out 5).trans rfl;have hcz68_6 : w67.cell? ⟨gb260,6,none⟩ = some (.int .i64 t258):=(blk_cell BK260.out 6).trans rfl;have hfz68_0:=blk_frozen BK260.out 0;have hfz68_1:=blk_frozen BK260.out 1;have hfz68_2:=blk_frozen BK260.out 2;have hfz68_3:=blk_frozen BK260.out 3;have hfz68_4:=blk_frozen BK260.out 4;have hfz68_5:=blk_frozen BK260.out 5;have hfz68_6:=blk_frozen BK260.out 6)|((with_reducible refine gate_callee (f:=54) rfl ?_);refine goesL_ (some 71) rfl rfl Try.func54 (by kernel_rfl) rfl #[.agg #[.slice Ao24 t270.length co24,.int .i64 t245,.slice Ao27 t271.length co27,.slice Ao28 t272.length co28,.slice Ao29 t273.length co29,.slice Ao30 t274.length co30,.int .i64 t258],.int .i64 1] rfl (by (try simp only [List.map_toArray,List.map_cons,List.map_nil]);first|done|(rw [show t270.length = t242.length from (Kd.R_reads' HO_261000.out).1.symm,show t271.length = t246.length from (Kd.R_reads' HO_261002.out).1.symm,show t272.length = t249.length from (Kd.R_reads' HO_261003.out).1.symm,show t273.length = t252.length from (Kd.R_reads' HO_261004.out).1.symm,show t274.length = t255.length from (Kd.R_reads' HO_261005.out).1.symm] <;> rfl)|rfl|(simp only [List.length_drop,List.length_take];rfl)) ?_;(with_reducible refine (laws_heldWindow.calls kj45 _ _ t270 t245 _ _ t271 _ _ t272 _ _ t273 _ _ t274 t258 1 t275 _ ?side1 ?side2 ?side3 ?side4 ?side5 ?side6 ?side7 ?side8 ?side9 ?side10 A63.out).mono ?_);(case side1=>repeat (first|exact (Kd.R_reads' HO_261000.out).2.2|(with_reducible refine C_alloc ?_ _)|(with_reducible refine C_drewN ?_ _)|(with_reducible refine C_drew ?_)));(case side2=>rw [show t270.length = t242.length from (Kd.R_reads' HO_261000.out).1.symm];exact (Kd.R_reads' HO_261000.out).2.1);(case side3=>repeat (first|exact (Kd.R_reads' HO_261002.out).2.2|(with_reducible refine C_alloc ?_ _)|(with_reducible refine C_drewN ?_ _)|(with_reducible refine C_drew ?_)));(case side4=>rw [show t271.length = t246.length from (Kd.R_reads' HO_261002.out).1.symm];exact (Kd.R_reads' HO_261002.out).2.1);(case side5=>repeat (first|exact (Kd.R_reads' HO_261003.out).2.2|(with_reducible refine C_alloc ?_ _)|(with_reducible refine C_drewN ?_ _)|(with_reducible refine C_drew ?_)));(case side6=>rw [show t272.length = t249.length from (Kd.R_reads' HO_261003.out).1.symm];exact (Kd.R_reads' HO_261003.out).2.1);(case side7=>repeat (first|exact (Kd.R_reads' HO_261004.out).2.2|(with_reducible refine C_alloc ?_ _)|(with_reducible refine C_drewN ?_ _)|(with_reducible refine C_drew ?_)));(case side8=>rw [show t273.length = t252.length from (Kd.R_reads' HO_261004.out).1.symm];exact (Kd.R_reads' HO_261004.out).2.1);(case side9=>repeat (first|exact (Kd.R_reads' HO_261005.out).2.2|(with_reducible refine C_alloc ?_ _)|(with_reducible refine C_drewN ?_ _)|(with_reducible refine C_drew ?_)));(case side10=>rw [show t274.length = t255.length from (Kd.R_reads' HO_261005.out).1.symm];exact (Kd.R_reads' HO_261005.out).2.1);rintro e w69 ⟨rfl,hb⟩;refine ⟨_,rfl,?_⟩;have n0_:=Aside0.mk (Kd.R_below (by (with_reducible repeat (first|apply R_alloc|apply R_drewN|apply R_drew));exact HO_239000.out) hb);have n1_:=Aside0.mk (Kd.R_below (by (with_reducible repeat (first|apply R_alloc|apply R_drewN|apply R_drew));exact HO_239002.out) hb);have n2_:=Aside0.mk (Kd.R_below (by (with_reducible repeat (first|apply R_alloc|apply R_drewN|apply R_drew));exact HO_239003.out) hb);have n3_:=Aside0.mk (Kd.R_below (by (with_reducible repeat (first|apply R_alloc|apply R_drewN|apply R_drew));exact HO_239004.out) hb);have n4_:=Aside0.mk (Kd.R_below (by (with_reducible repeat (first|apply R_alloc|apply R_drewN|apply R_drew));exact HO_239005.out) hb);have n5_:=Aside0.mk (Kd.R_below (by (with_reducible repeat (first|apply R_alloc|apply R_drewN|apply R_drew));exact HO_261000.out) hb);have n6_:=Aside0.mk (Kd.R_below (by (with_reducible repeat (first|apply R_alloc|apply R_drewN|apply R_drew));exact HO_261002.out) hb);have n7_:=Aside0.mk (Kd.R_below (by (with_reducible repeat (first|apply R_alloc|apply R_drewN|apply R_drew));exact HO_261003.out) hb);have n8_:=Aside0.mk (Kd.R_below (by (with_reducible repeat (first|apply R_alloc|apply R_drewN|apply R_drew));exact HO_261004.out) hb);have n9_:=Aside0.mk (Kd.R_below (by (with_reducible repeat (first|apply R_alloc|apply R_drewN|apply R_drew));exact HO_261005.out) hb);have n10_:=Aside0.mk (blk_below (g:=gb238) (o:=.cells #[.slice Ao14 t220.length co14,.int .i64 t223,.slice Ao16 t224.length co16,.slice Ao17 t227.length co17,.slice Ao18 t230.length co18,.slice Ao19 t233.length co19,.int .i64 t236] 66 (0,0)) (by (with_reducible repeat (first|refine blk_drewN ?_ _|refine blk_drew ?_|refine blk_alloc ?_ _));exact BK238.out) hb);have n11_:=Aside0.mk (blk_below (g:=gb260) (o:=.cells #[.slice Ao24 t242.length co24,.int .i64 t245,.slice Ao27 t246.length co27,.slice Ao28 t249.length co28,.slice Ao29 t252.length co29,.slice Ao30 t255.length co30,.int .i64 t258] 66 (0,0)) (by (with_reducible repeat (first|refine blk_drewN ?_ _|refine blk_drew ?_|refine blk_alloc ?_ _));exact BK260.out) hb);have n12_:=Aside0.mk (below_step (by repeat (first|(with_reducible first|exact HB.out|apply below_alloc|apply pw_below_drewN|apply below_drew1|refine below_set ?_ GE238.out|refine below_set ?_ GE260.out)|exact HB.out)) hb);clear HO_239000;clear HO_239002;clear HO_239003;clear HO_239004;clear HO_239005;clear HO_261000;clear HO_261002;clear HO_261003;clear HO_261004;clear HO_261005;clear BK238;clear BK260;clear HB;have HO_239000:=n0_;have HO_239002:=n1_;have HO_239003:=n2_;have HO_239004:=n3_;have HO_239005:=n4_;have HO_261000:=n5_;have HO_261002:=n6_;have HO_261003:=n7_;have HO_261004:=n8_;have HO_261005:=n9_;have BK238:=n10_;have BK260:=n11_;have HB:=n12_;clear n0_ n1_ n2_ n3_ n4_ n5_ n6_ n7_ n8_ n9_ n10_ n11_ n12_;(try clear hb);(try clear hb2);(try clear hk);(try clear hi)))
          go_ret
          exact ⟨by first|rfl|(simp [errW_none,errW_some] <;> rfl)|(simp [*,errW_none,errW_some] <;> rfl),by repeat (first|(with_reducible first|exact HB.out|apply below_alloc|apply pw_below_drewN|apply below_drew1|refine below_set ?_ GE238.out|refine below_set ?_ GE260.out)|exact HB.out)⟩
         ·rw [if_neg c64] at H
          have c64b0 : decide (t275 < 0) = false:=decide_eq_false c64
          clear c64
          by_cases c70 : t275 = t269
          ·rw [if_pos c70] at H
           have c70b0 : (t275 == t269) = true:=beq_iff_eq.mpr c70
           have c70b1 : (t275 != t269) = false:=bne_eq_false_iff_eq.mpr c70
           clear c70
           replace H:=Option.bind_eq_some_iff.mp H
           obtain ⟨t276,A710,H⟩:=H
           replace H : ((impl_NewWindow.f t276 a1).bind fun bt279=>((laws_eqWindow.f kj45 bt279.1 bt279.2.1 bt279.2.2.1 bt279.2.2.2.1 bt279.2.2.2.2.1 bt279.2.2.2.2.2.1 bt279.2.2.2.2.2.2.1 t220 t223 t224 t227 t230 t233 t236).bind fun t298=>(if t298 = true then (laws_FnExactNewWindow.j2 kj45 t269 (bt279.2.2.2.2.2.2.2 != t237) t270 t245 t271 t272 t273 t274 t258) else (laws_FnExactNewWindow.j2 kj45 t269 true t270 t245 t271 t272 t273 t274 t258)))) = some r:=H
           have A71:=Aside0.mk A710
           clear A710
           replace H:=Option.bind_eq_some_iff.mp H
           obtain ⟨⟨t279,t282,t283,t286,t289,t292,t295,t296⟩,A720,H⟩:=H
           replace H : ((laws_eqWindow.f kj45 t279 t282 t283 t286 t289 t292 t295 t220 t223 t224 t227 t230 t233 t236).bind fun t298=>(if t298 = true then (laws_FnExactNewWindow.j2 kj45 t269 (t296 != t237) t270 t245 t271 t272 t273 t274 t258) else (laws_FnExactNewWindow.j2 kj45 t269 true t270 t245 t271 t272 t273 t274 t258))) = some r:=H
           have A72:=Aside0.mk A720
           clear A720
           have HC73:=Aside0.mk H
           clear H
           have hnb74:=NB260_238.out
           have hnc74:=NB238_260.out
           have hcz75_0 : wc.cell? ⟨gb260,0,none⟩ = some (.slice Ao24 t242.length co24):=(blk_cell BK260.out 0).trans rfl
           have hcz75_1 : wc.cell? ⟨gb260,1,none⟩ = some (.int .i64 t245):=(blk_cell BK260.out 1).trans rfl
           have hcz75_2 : wc.cell? ⟨gb260,2,none⟩ = some (.slice Ao27 t246.length co27):=(blk_cell BK260.out 2).trans rfl
           have hcz75_3 : wc.cell? ⟨gb260,3,none⟩ = some (.slice Ao28 t249.length co28):=(blk_cell BK260.out 3).trans rfl
           have hcz75_4 : wc.cell? ⟨gb260,4,none⟩ = some (.slice Ao29 t252.length co29):=(blk_cell BK260.out 4).trans rfl
           have hcz75_5 : wc.cell? ⟨gb260,5,none⟩ = some (.slice Ao30 t255.length co30):=(blk_cell BK260.out 5).trans rfl
           have hcz75_6 : wc.cell? ⟨gb260,6,none⟩ = some (.int .i64 t258):=(blk_cell BK260.out 6).trans rfl
           have hfz75_0:=blk_frozen BK260.out 0
           have hfz75_1:=blk_frozen BK260.out 1
           have hfz75_2:=blk_frozen BK260.out 2
           have hfz75_3:=blk_frozen BK260.out 3
           have hfz75_4:=blk_frozen BK260.out 4
           have hfz75_5:=blk_frozen BK260.out 5
           have hfz75_6:=blk_frozen BK260.out 6
           go_upto_region 25 with (first|((with_reducible refine gate_callee (f:=53) rfl ?_);refine goesL_ (some 68) rfl rfl Try.func53 (by kernel_rfl) rfl #[.agg #[.slice Ao24 t242.length co24,.int .i64 t245,.slice Ao27 t246.length co27,.slice Ao28 t249.length co28,.slice Ao29 t252.length co29,.slice Ao30 t255.length co30,.int .i64 t258],.int .i64 1] rfl (by (try simp only [List.map_toArray,List.map_cons,List.map_nil]);first|done|rfl|(simp only [List.length_drop,List.length_take];rfl)) ?_;(with_reducible refine (laws_markWindow.calls kj45 (fun k_=>some k_ = (.slice Ao24 t242.length co24 : Value).ownBlock) (.slice Ao24 t242.length co24) t242 t245 (fun k_=>some k_ = (.slice Ao27 t246.length co27 : Value).ownBlock) (.slice Ao27 t246.length co27) t246 (fun k_=>some k_ = (.slice Ao28 t249.length co28 : Value).ownBlock) (.slice Ao28 t249.length co28) t249 (fun k_=>some k_ = (.slice Ao29 t252.length co29 : Value).ownBlock) (.slice Ao29 t252.length co29) t252 (fun k_=>some k_ = (.slice Ao30 t255.length co30 : Value).ownBlock) (.slice Ao30 t255.length co30) t255 t258 1 t269 t270 t271 t272 t273 t274 w _ ?side1 ?side2 ?side3 ?side4 ?side5 ?side6 ?side7 ?side8 ?side9 ?side10 A62.out).mono ?_);(case side1=>repeat (first|(with_reducible first|exact HB.out|apply below_alloc|apply pw_below_drewN|apply below_drew1|refine below_set ?_ GE238.out|refine below_set ?_ GE260.out)|exact HB.out));(case side2=>exact Kd.R_tight rfl HO_261000.out);(case side3=>exact fun k_ e_=>(HO_261000.out.1 k_ e_.symm).2.2);(case side4=>exact Kd.R_tight rfl HO_261002.out);(case side5=>exact fun k_ e_=>(HO_261002.out.1 k_ e_.symm).2.2);(case side6=>exact Kd.R_tight rfl HO_261003.out);(case side7=>exact Kd.R_tight rfl HO_261004.out);(case side8=>exact fun k_ e_=>(HO_261004.out.1 k_ e_.symm).2.2);(case side9=>exact Kd.R_tight rfl HO_261005.out);(case side10=>exact fun k_ e_=>(HO_261005.out.1 k_ e_.symm).2.2);rintro e w76 ⟨rfl,hy0,hy1,hy2,hy3,hy4,hb,hkp⟩;refine ⟨_,rfl,?_⟩;have n0_:=Aside0.mk (Kd.R_mono (ok':=fun k_=>some k_ ≠ (.slice Ao18 t230.length co18 : Value).ownBlock∧some k_ ≠ (.slice Ao24 t242.length co24 : Value).ownBlock∧some k_ ≠ (.slice Ao29 t252.length co29 : Value).ownBlock) (Kd.R_keptB ((Kd.R_apart' (Kd.R_apart' (Kd.R_apart' HO_239000.out (Kd.R_typed HO_261002.out) (by decide)) (Kd.R_typed HO_261003.out) (by decide)) (Kd.R_typed HO_261005.out) (by decide))) hkp (fun k_ hk_ hs_=>Or.elim hs_ (fun e_=>(hk_.1.1.1.2.1) e_) (fun e_=>Or.elim e_ (fun e_=>(hk_.1.1.2) e_) (fun e_=>Or.elim e_ (fun e_=>(hk_.1.2) e_) (fun e_=>Or.elim e_ (fun e_=>(hk_.1.1.1.2.2) e_) (fun e_=>(hk_.2) e_)))))) (fun k_ hk_=>⟨hk_.1.1.1.1.1,hk_.1.1.1.1.2.1,hk_.1.1.1.1.2.2⟩));have n1_:=Aside0.mk (Kd.R_mono (ok':=fun k_=>some k_ ≠ (.slice Ao19 t233.length co19 : Value).ownBlock∧some k_ ≠ (.slice Ao27 t246.length co27 : Value).ownBlock∧some k_ ≠ (.slice Ao30 t255.length co30 : Value).ownBlock) (Kd.R_keptB ((Kd.R_apart' (Kd.R_apart' (Kd.R_apart' HO_239002.out (Kd.R_typed HO_261000.out) (by decide)) (Kd.R_typed HO_261003.out) (by decide)) (Kd.R_typed HO_261004.out) (by decide))) hkp (fun k_ hk_ hs_=>Or.elim hs_ (fun e_=>(hk_.1.1.2) e_) (fun e_=>Or.elim e_ (fun e_=>(hk_.1.1.1.2.1) e_) (fun e_=>Or.elim e_ (fun e_=>(hk_.1.2) e_) (fun e_=>Or.elim e_ (fun e_=>(hk_.2) e_) (fun e_=>(hk_.1.1.1.2.2) e_)))))) (fun k_ hk_=>⟨hk_.1.1.1.1.1,hk_.1.1.1.1.2.1,hk_.1.1.1.1.2.2⟩));have n2_:=Aside0.mk (Kd.R_mono (ok':=fun k_=>some k_ ≠ (.slice Ao28 t249.length co28 : Value).ownBlock) (Kd.R_keptB ((Kd.R_apart' (Kd.R_apart' (Kd.R_apart' (Kd.R_apart' HO_239003.out (Kd.R_typed HO_261000.out) (by decide)) (Kd.R_typed HO_261002.out) (by decide)) (Kd.R_typed HO_261004.out) (by decide)) (Kd.R_typed HO_261005.out) (by decide))) hkp (fun k_ hk_ hs_=>Or.elim hs_ (fun e_=>(hk_.1.1.1.2) e_) (fun e_=>Or.elim e_ (fun e_=>(hk_.1.1.2) e_) (fun e_=>Or.elim e_ (fun e_=>(hk_.1.1.1.1) e_) (fun e_=>Or.elim e_ (fun e_=>(hk_.1.2) e_) (fun e_=>(hk_.2) e_)))))) (fun k_ hk_=>hk_.1.1.1.1.1));have n3_:=Aside0.mk (Kd.R_mono (ok':=fun k_=>some k_ ≠ (.slice Ao14 t220.length co14 : Value).ownBlock∧some k_ ≠ (.slice Ao24 t242.length co24 : Value).ownBlock∧some k_ ≠ (.slice Ao29 t252.length co29 : Value).ownBlock) (Kd.R_keptB ((Kd.R_apart' (Kd.R_apart' (Kd.R_apart' HO_239004.out (Kd.R_typed HO_261002.out) (by decide)) (Kd.R_typed HO_261003.out) (by decide)) (Kd.R_typed HO_261005.out) (by decide))) hkp (fun k_ hk_ hs_=>Or.elim hs_ (fun e_=>(hk_.1.1.1.2.1) e_) (fun e_=>Or.elim e_ (fun e_=>(hk_.1.1.2) e_) (fun e_=>Or.elim e_ (fun e_=>(hk_.1.2) e_) (fun e_=>Or.elim e_ (fun e_=>(hk_.1.1.1.2.2) e_) (fun e_=>(hk_.2) e_)))))) (fun k_ hk_=>⟨hk_.1.1.1.1.1,hk_.1.1.1.1.2.1,hk_.1.1.1.1.2.2⟩));have n4_:=Aside0.mk (Kd.R_mono (ok':=fun k_=>some k_ ≠ (.slice Ao16 t224.length co16 : Value).ownBlock∧some k_ ≠ (.slice Ao27 t246.length co27 : Value).ownBlock∧some k_ ≠ (.slice Ao30 t255.length co30 : Value).ownBlock) (Kd.R_keptB ((Kd.R_apart' (Kd.R_apart' (Kd.R_apart' HO_239005.out (Kd.R_typed HO_261000.out) (by decide)) (Kd.R_typed HO_261003.out) (by decide)) (Kd.R_typed HO_261004.out) (by decide))) hkp (fun k_ hk_ hs_=>Or.elim hs_ (fun e_=>(hk_.1.1.2) e_) (fun e_=>Or.elim e_ (fun e_=>(hk_.1.1.1.2.1) e_) (fun e_=>Or.elim e_ (fun e_=>(hk_.1.2) e_) (fun e_=>Or.elim e_ (fun e_=>(hk_.2) e_) (fun e_=>(hk_.1.1.1.2.2) e_)))))) (fun k_ hk_=>⟨hk_.1.1.1.1.1,hk_.1.1.1.1.2.1,hk_.1.1.1.1.2.2⟩));have n5_:=Aside0.mk (Kd.R_reok rfl hy0 (fun k_ e_=>HO_261000.out.1 k_ e_));have n6_:=Aside0.mk (Kd.R_reok rfl hy1 (fun k_ e_=>HO_261002.out.1 k_ e_));have n7_:=Aside0.mk (Kd.R_reok rfl hy2 (fun k_ e_=>HO_261003.out.1 k_ e_));have n8_:=Aside0.mk (Kd.R_reok rfl hy3 (fun k_ e_=>HO_261004.out.1 k_ e_));have n9_:=Aside0.mk (Kd.R_reok rfl hy4 (fun k_ e_=>HO_261005.out.1 k_ e_));have n10_:=Aside0.mk (blk_kept (by (with_reducible repeat (first|refine blk_drewN ?_ _|refine blk_drew ?_|refine blk_alloc ?_ _));exact BK238.out) hkp (fun hs_=>Or.elim hs_ (fun e_=>(fun e_=>(Kd.R_ne HO_261000.out BK238.out (by decide)) e_) e_) (fun e_=>Or.elim e_ (fun e_=>(fun e_=>(Kd.R_ne HO_261002.out BK238.out (by decide)) e_) e_) (fun e_=>Or.elim e_ (fun e_=>(fun e_=>(Kd.R_ne HO_261003.out BK238.out (by decide)) e_) e_) (fun e_=>Or.elim e_ (fun e_=>(fun e_=>(Kd.R_ne HO_261004.out BK238.out (by decide)) e_) e_) (fun e_=>(fun e_=>(Kd.R_ne HO_261005.out BK238.out (by decide)) e_) e_))))));have n11_:=Aside0.mk (blk_kept (by (with_reducible repeat (first|refine blk_drewN ?_ _|refine blk_drew ?_|refine blk_alloc ?_ _));exact BK260.out) hkp (fun hs_=>Or.elim hs_ (fun e_=>(fun e_=>(Kd.R_ne HO_261000.out BK260.out (by decide)) e_) e_) (fun e_=>Or.elim e_ (fun e_=>(fun e_=>(Kd.R_ne HO_261002.out BK260.out (by decide)) e_) e_) (fun e_=>Or.elim e_ (fun e_=>(fun e_=>(Kd.R_ne HO_261003.out BK260.out (by decide)) e_) e_) (fun e_=>Or.elim e_ (fun e_=>(fun e_=>(Kd.R_ne HO_261004.out BK260.out (by decide)) e_) e_) (fun e_=>(fun e_=>(Kd.R_ne HO_261005.out BK260.out (by decide)) e_) e_))))));have n12_:=Aside0.mk (hb);clear HO_239000;clear HO_239002;clear HO_239003;clear HO_239004;clear HO_239005;clear HO_261000;clear HO_261002;clear HO_261003;clear HO_261004;clear HO_261005;clear BK238;clear BK260;clear HB;have HO_239000:=n0_;have HO_239002:=n1_;have HO_239003:=n2_;have HO_239004:=n3_;have HO_239005:=n4_;have HO_261000:=n5_;have HO_261002:=n6_;have HO_261003:=n7_;have HO_261004:=n8_;have HO_261005:=n9_;have BK238:=n10_;have BK260:=n11_;have HB:=n12_;clear n0_ n1_ n2_ n3_ n4_ n5_ n6_ n7_ n8_ n9_ n10_ n11_ n12_;(try clear hb);(try clear hkp);(try clear hy0);(try clear hy1);(try clear hy2);(try clear hy3);(try clear hy4);have hcz77_0 : w76.cell? ⟨gb260,0,none⟩ = some (.slice Ao24 t242.length co24):=(blk_cell BK260.out 0).trans rfl;have hcz77_1 : w76.cell? ⟨gb260,1,none⟩ = some (.int .i64 t245):=(blk_cell BK260.out 1).trans rfl;have hcz77_2 : w76.cell? ⟨gb260,2,none⟩ = some (.slice Ao27 t246.length co27):=(blk_cell BK260.out 2).trans rfl;have hcz77_3 : w76.cell? ⟨gb260,3,none⟩ = some (.slice Ao28 t249.length co28):=(blk_cell BK260.out 3).trans rfl;have hcz77_4 : w76.cell? ⟨gb260,4,none⟩ = some (.slice Ao29 t252.length co29):=(blk_cell BK260.out 4).trans rfl;have hcz77_5 : w76.cell? ⟨gb260,5,none⟩ = some (.slice Ao30 t255.length co30):=(blk_cell BK260.out 5).trans rfl;have hcz77_6 : w76.cell? ⟨gb260,6,none⟩ = some (.int .i64 t258):=(blk_cell BK260.out 6).trans rfl;have hfz77_0:=blk_frozen BK260.out 0;have hfz77_1:=blk_frozen BK260.out 1;have hfz77_2:=blk_frozen BK260.out 2;have hfz77_3:=blk_frozen BK260.out 3;have hfz77_4:=blk_frozen BK260.out 4;have hfz77_5:=blk_frozen BK260.out 5;have hfz77_6:=blk_frozen BK260.out 6)|((with_reducible refine gate_callee (f:=54) rfl ?_);refine goesL_ (some 71) rfl rfl Try.func54 (by kernel_rfl) rfl #[.agg #[.slice Ao24 t270.length co24,.int .i64 t245,.slice Ao27 t271.length co27,.slice Ao28 t272.length co28,.slice Ao29 t273.length co29,.slice Ao30 t274.length co30,.int .i64 t258],.int .i64 1] rfl (by (try simp only [List.map_toArray,List.map_cons,List.map_nil]);first|done|(rw [show t270.length = t242.length from (Kd.R_reads' HO_261000.out).1.symm,show t271.length = t246.length from (Kd.R_reads' HO_261002.out).1.symm,show t272.length = t249.length from (Kd.R_reads' HO_261003.out).1.symm,show t273.length = t252.length from (Kd.R_reads' HO_261004.out).1.symm,show t274.length = t255.length from (Kd.R_reads' HO_261005.out).1.symm] <;> rfl)|rfl|(simp only [List.length_drop,List.length_take];rfl)) ?_;(with_reducible refine (laws_heldWindow.calls kj45 _ _ t270 t245 _ _ t271 _ _ t272 _ _ t273 _ _ t274 t258 1 t275 _ ?side1 ?side2 ?side3 ?side4 ?side5 ?side6 ?side7 ?side8 ?side9 ?side10 A63.out).mono ?_);(case side1=>repeat (first|exact (Kd.R_reads' HO_261000.out).2.2|(with_reducible refine C_alloc ?_ _)|(with_reducible refine C_drewN ?_ _)|(with_reducible refine C_drew ?_)));(case side2=>rw [show t270.length = t242.length from (Kd.R_reads' HO_261000.out).1.symm];exact (Kd.R_reads' HO_261000.out).2.1);(case side3=>repeat (first|exact (Kd.R_reads' HO_261002.out).2.2|(with_reducible refine C_alloc ?_ _)|(with_reducible refine C_drewN ?_ _)|(with_reducible refine C_drew ?_)));(case side4=>rw [show t271.length = t246.length from (Kd.R_reads' HO_261002.out).1.symm];exact (Kd.R_reads' HO_261002.out).2.1);(case side5=>repeat (first|exact (Kd.R_reads' HO_261003.out).2.2|(with_reducible refine C_alloc ?_ _)|(with_reducible refine C_drewN ?_ _)|(with_reducible refine C_drew ?_)));(case side6=>rw [show t272.length = t249.length from (Kd.R_reads' HO_261003.out).1.symm];exact (Kd.R_reads' HO_261003.out).2.1);(case side7=>repeat (first|exact (Kd.R_reads' HO_261004.out).2.2|(with_reducible refine C_alloc ?_ _)|(with_reducible refine C_drewN ?_ _)|(with_reducible refine C_drew ?_)));(case side8=>rw [show t273.length = t252.length from (Kd.R_reads' HO_261004.out).1.symm];exact (Kd.R_reads' HO_261004.out).2.1);(case side9=>repeat (first|exact (Kd.R_reads' HO_261005.out).2.2|(with_reducible refine C_alloc ?_ _)|(with_reducible refine C_drewN ?_ _)|(with_reducible refine C_drew ?_)));(case side10=>rw [show t274.length = t255.length from (Kd.R_reads' HO_261005.out).1.symm];exact (Kd.R_reads' HO_261005.out).2.1);rintro e w78 ⟨rfl,hb⟩;refine ⟨_,rfl,?_⟩;have n0_:=Aside0.mk (Kd.R_below (by (with_reducible repeat (first|apply R_alloc|apply R_drewN|apply R_drew));exact HO_239000.out) hb);have n1_:=Aside0.mk (Kd.R_below (by (with_reducible repeat (first|apply R_alloc|apply R_drewN|apply R_drew));exact HO_239002.out) hb);have n2_:=Aside0.mk (Kd.R_below (by (with_reducible repeat (first|apply R_alloc|apply R_drewN|apply R_drew));exact HO_239003.out) hb);have n3_:=Aside0.mk (Kd.R_below (by (with_reducible repeat (first|apply R_alloc|apply R_drewN|apply R_drew));exact HO_239004.out) hb);have n4_:=Aside0.mk (Kd.R_below (by (with_reducible repeat (first|apply R_alloc|apply R_drewN|apply R_drew));exact HO_239005.out) hb);have n5_:=Aside0.mk (Kd.R_below (by (with_reducible repeat (first|apply R_alloc|apply R_drewN|apply R_drew));exact HO_261000.out) hb);have n6_:=Aside0.mk (Kd.R_below (by (with_reducible repeat (first|apply R_alloc|apply R_drewN|apply R_drew));exact HO_261002.out) hb);have n7_:=Aside0.mk (Kd.R_below (by (with_reducible repeat (first|apply R_alloc|apply R_drewN|apply R_drew));exact HO_261003.out) hb);have n8_:=Aside0.mk (Kd.R_below (by (with_reducible repeat (first|apply R_alloc|apply R_drewN|apply R_drew));exact HO_261004.out) hb);have n9_:=Aside0.mk (Kd.R_below (by (with_reducible repeat (first|apply R_alloc|apply R_drewN|apply R_drew));exact HO_261005.out) hb);have n10_:=Aside0.mk (blk_below (g:=gb238) (o:=.cells #[.slice Ao14 t220.length co14,.int .i64 t223,.slice Ao16 t224.length co16,.slice Ao17 t227.length co17,.slice Ao18 t230.length co18,.slice Ao19 t233.length co19,.int .i64 t236] 66 (0,0)) (by (with_reducible repeat (first|refine blk_drewN ?_ _|refine blk_drew ?_|refine blk_alloc ?_ _));exact BK238.out) hb);have n11_:=Aside0.mk (blk_below (g:=gb260) (o:=.cells #[.slice Ao24 t242.length co24,.int .i64 t245,.slice Ao27 t246.length co27,.slice Ao28 t249.length co28,.slice Ao29 t252.length co29,.slice Ao30 t255.length co30,.int .i64 t258] 66 (0,0)) (by (with_reducible repeat (first|refine blk_drewN ?_ _|refine blk_drew ?_|refine blk_alloc ?_ _));exact BK260.out) hb);have n12_:=Aside0.mk (below_step (by repeat (first|(with_reducible first|exact HB.out|apply below_alloc|apply pw_below_drewN|apply below_drew1|refine below_set ?_ GE238.out|refine below_set ?_ GE260.out)|exact HB.out)) hb);clear HO_239000;clear HO_239002;clear HO_239003;clear HO_239004;clear HO_239005;clear HO_261000;clear HO_261002;clear HO_261003;clear HO_261004;clear HO_261005;clear BK238;clear BK260;clear HB;have HO_239000:=n0_;have HO_239002:=n1_;have HO_239003:=n2_;have HO_239004:=n3_;have HO_239005:=n4_;have HO_261000:=n5_;have HO_261002:=n6_;have HO_261003:=n7_;have HO_261004:=n8_;have HO_261005:=n9_;have BK238:=n10_;have BK260:=n11_;have HB:=n12_;clear n0_ n1_ n2_ n3_ n4_ n5_ n6_ n7_ n8_ n9_ n10_ n11_ n12_;(try clear hb);(try clear hb2);(try clear hk);(try clear hi))|((with_reducible refine gate_callee (f:=48) rfl ?_);refine goesL_ (some 79) rfl rfl Try.func48 (by kernel_rfl) rfl #[.slice A0 l0.length c0] rfl (by (try simp only [List.map_toArray,List.map_cons,List.map_nil]);first|done|rfl|(simp only [List.length_drop,List.length_take];rfl)) ?_;(with_reducible refine (laws_toStringS.calls kj45 _ _ l0 t276 _ ?side1 ?side2 A71.out).mono ?_);(case side1=>repeat (first|exact (Kd.C_below HR0.out HB.out)|(with_reducible refine C_alloc ?_ _)|(with_reducible refine C_drewN ?_ _)|(with_reducible refine C_drew ?_)));(case side2=>exact HC0.out);rintro e w79 ⟨v277,rfl,ho0,hb⟩;refine ⟨_,rfl,?_⟩;have n0_:=Aside0.mk (Kd.R_elder' (by (with_reducible repeat (first|apply R_alloc|apply R_drewN|apply R_drew));exact HO_239000.out) (Kd.R_base ho0) hb);have n1_:=Aside0.mk (Kd.R_below (by (with_reducible repeat (first|apply R_alloc|apply R_drewN|apply R_drew));exact HO_239002.out) hb);have n2_:=Aside0.mk (Kd.R_below (by (with_reducible repeat (first|apply R_alloc|apply R_drewN|apply R_drew));exact HO_239003.out) hb);have n3_:=Aside0.mk (Kd.R_elder' (by (with_reducible repeat (first|apply R_alloc|apply R_drewN|apply R_drew));exact HO_239004.out) (Kd.R_base ho0) hb);have n4_:=Aside0.mk (Kd.R_below (by (with_reducible repeat (first|apply R_alloc|apply R_drewN|apply R_drew));exact HO_239005.out) hb);have n5_:=Aside0.mk (Kd.R_elder' (by (with_reducible repeat (first|apply R_alloc|apply R_drewN|apply R_drew));exact HO_261000.out) (Kd.R_base ho0) hb);have n6_:=Aside0.mk (Kd.R_below (by (with_reducible repeat (first|apply R_alloc|apply R_drewN|apply R_drew));exact HO_261002.out) hb);have n7_:=Aside0.mk (Kd.R_below (by (with_reducible repeat (first|apply R_alloc|apply R_drewN|apply R_drew));exact HO_261003.out) hb);have n8_:=Aside0.mk (Kd.R_elder' (by (with_reducible repeat (first|apply R_alloc|apply R_drewN|apply R_drew));exact HO_261004.out) (Kd.R_base ho0) hb);have n9_:=Aside0.mk (Kd.R_below (by (with_reducible repeat (first|apply R_alloc|apply R_drewN|apply R_drew));exact HO_261005.out) hb);have n10_:=Aside0.mk (Kd.R_lower (Kd.R_new' (Kd.R_new' (Kd.R_new' (Kd.R_new' ho0 (Kd.R_lt (by (with_reducible repeat (first|apply R_alloc|apply R_drewN|apply R_drew));exact HO_239000.out))) (Kd.R_lt (by (with_reducible repeat (first|apply R_alloc|apply R_drewN|apply R_drew));exact HO_239004.out))) (Kd.R_lt (by (with_reducible repeat (first|apply R_alloc|apply R_drewN|apply R_drew));exact HO_261000.out))) (Kd.R_lt (by (with_reducible repeat (first|apply R_alloc|apply R_drewN|apply R_drew));exact HO_261004.out))) (below_size (by repeat (first|(with_reducible first|exact HB.out|apply below_alloc|apply pw_below_drewN|apply below_drew1|refine below_set ?_ GE238.out|refine below_set ?_ GE260.out)|exact HB.out))));have n11_:=Aside0.mk (blk_below (g:=gb238) (o:=.cells #[.slice Ao14 t220.length co14,.int .i64 t223,.slice Ao16 t224.length co16,.slice Ao17 t227.length co17,.slice Ao18 t230.length co18,.slice Ao19 t233.length co19,.int .i64 t236] 66 (0,0)) (by (with_reducible repeat (first|refine blk_drewN ?_ _|refine blk_drew ?_|refine blk_alloc ?_ _));exact BK238.out) hb);have n12_:=Aside0.mk (blk_below (g:=gb260) (o:=.cells #[.slice Ao24 t242.length co24,.int .i64 t245,.slice Ao27 t246.length co27,.slice Ao28 t249.length co28,.slice Ao29 t252.length co29,.slice Ao30 t255.length co30,.int .i64 t258] 66 (0,0)) (by (with_reducible repeat (first|refine blk_drewN ?_ _|refine blk_drew ?_|refine blk_alloc ?_ _));exact BK260.out) hb);have n13_:=Aside0.mk (below_step (by repeat (first|(with_reducible first|exact HB.out|apply below_alloc|apply pw_below_drewN|apply below_drew1|refine below_set ?_ GE238.out|refine below_set ?_ GE260.out)|exact HB.out)) hb);clear HO_239000;clear HO_239002;clear HO_239003;clear HO_239004;clear HO_239005;clear HO_261000;clear HO_261002;clear HO_261003;clear HO_261004;clear HO_261005;clear BK238;clear BK260;clear HB;have HO_239000:=n0_;have HO_239002:=n1_;have HO_239003:=n2_;have HO_239004:=n3_;have HO_239005:=n4_;have HO_261000:=n5_;have HO_261002:=n6_;have HO_261003:=n7_;have HO_261004:=n8_;have HO_261005:=n9_;have HO278:=n10_;have BK238:=n11_;have BK260:=n12_;have HB:=n13_;clear n0_ n1_ n2_ n3_ n4_ n5_ n6_ n7_ n8_ n9_ n10_ n11_ n12_ n13_;(try clear hb);(try clear hb2);(try clear hk);(try clear hi);(try clear ho0);obtain ⟨Ao80,co80,eo80⟩:=Kd.R_slice HO278.out;subst eo80)|((with_reducible refine gate_callee (f:=49) rfl ?_);refine goesL_ (some 81) rfl rfl Try.func49 (by kernel_rfl) rfl #[.slice Ao80 t276.length co80,.int .i64 a1] rfl (by (try simp only [List.map_toArray,List.map_cons,List.map_nil]);first|done|rfl|(simp only [List.length_drop,List.length_take];rfl)) ?_;(with_reducible refine (impl_NewWindow.calls _ _ t276 a1 t279 t282 t283 t286 t289 t292 t295 t296 _ ?side1 ?side2 A72.out).mono ?_);(case side1=>repeat (first|exact (Kd.R_reads' HO278.out).2.2|(with_reducible refine C_alloc ?_ _)|(with_reducible refine C_drewN ?_ _)|(with_reducible refine C_drew ?_)));(case side2=>exact (Kd.R_reads' HO278.out).2.1);rintro e w81 ⟨v280,v284,v287,v290,v293,rfl,ho0,ho1,ho2,ho3,ho4,hb⟩;refine ⟨_,rfl,?_⟩;have n0_:=Aside0.mk (Kd.R_mono (Kd.R_told (Kd.R_told (Kd.R_old (by (with_reducible repeat (first|apply R_alloc|apply R_drewN|apply R_drew));exact HO_239000.out) hb) (Kd.R_base ho0)) (Kd.R_base ho3)) (fun _ h_=>h_.1));have n1_:=Aside0.mk (Kd.R_mono (Kd.R_told (Kd.R_told (Kd.R_old (by (with_reducible repeat (first|apply R_alloc|apply R_drewN|apply R_drew));exact HO_239002.out) hb) (Kd.R_base ho1)) (Kd.R_base ho4)) (fun _ h_=>h_.1));have n2_:=Aside0.mk (Kd.R_elder' (by (with_reducible repeat (first|apply R_alloc|apply R_drewN|apply R_drew));exact HO_239003.out) (Kd.R_base ho2) hb);have n3_:=Aside0.mk (Kd.R_mono (Kd.R_told (Kd.R_told (Kd.R_old (by (with_reducible repeat (first|apply R_alloc|apply R_drewN|apply R_drew));exact HO_239004.out) hb) (Kd.R_base ho0)) (Kd.R_base ho3)) (fun _ h_=>h_.1));have n4_:=Aside0.mk (Kd.R_mono (Kd.R_told (Kd.R_told (Kd.R_old (by (with_reducible repeat (first|apply R_alloc|apply R_drewN|apply R_drew));exact HO_239005.out) hb) (Kd.R_base ho1)) (Kd.R_base ho4)) (fun _ h_=>h_.1));have n5_:=Aside0.mk (Kd.R_mono (Kd.R_told (Kd.R_told (Kd.R_old (by (with_reducible repeat (first|apply R_alloc|apply R_drewN|apply R_drew));exact HO_261000.out) hb) (Kd.R_base ho0)) (Kd.R_base ho3)) (fun _ h_=>h_.1));have n6_:=Aside0.mk (Kd.R_mono (Kd.R_told (Kd.R_told (Kd.R_old (by (with_reducible repeat (first|apply R_alloc|apply R_drewN|apply R_drew));exact HO_261002.out) hb) (Kd.R_base ho1)) (Kd.R_base ho4)) (fun _ h_=>h_.1));have n7_:=Aside0.mk (Kd.R_elder' (by (with_reducible repeat (first|apply R_alloc|apply R_drewN|apply R_drew));exact HO_261003.out) (Kd.R_base ho2) hb);have n8_:=Aside0.mk (Kd.R_mono (Kd.R_told (Kd.R_told (Kd.R_old (by (with_reducible repeat (first|apply R_alloc|apply R_drewN|apply R_drew));exact HO_261004.out) hb) (Kd.R_base ho0)) (Kd.R_base ho3)) (fun _ h_=>h_.1));have n9_:=Aside0.mk (Kd.R_mono (Kd.R_told (Kd.R_told (Kd.R_old (by (with_reducible repeat (first|apply R_alloc|apply R_drewN|apply R_drew));exact HO_261005.out) hb) (Kd.R_base ho1)) (Kd.R_base ho4)) (fun _ h_=>h_.1));have n10_:=Aside0.mk (Kd.R_mono (Kd.R_told (Kd.R_told (Kd.R_old (by (with_reducible repeat (first|apply R_alloc|apply R_drewN|apply R_drew));exact HO278.out) hb) (Kd.R_base ho0)) (Kd.R_base ho3)) (fun _ h_=>h_.1));have n11_:=Aside0.mk (Kd.R_lower (Kd.R_new' (Kd.R_new' (Kd.R_new' (Kd.R_new' (Kd.R_new' ho0 (Kd.R_lt (by (with_reducible repeat (first|apply R_alloc|apply R_drewN|apply R_drew));exact HO_239000.out))) (Kd.R_lt (by (with_reducible repeat (first|apply R_alloc|apply R_drewN|apply R_drew));exact HO_239004.out))) (Kd.R_lt (by (with_reducible repeat (first|apply R_alloc|apply R_drewN|apply R_drew));exact HO_261000.out))) (Kd.R_lt (by (with_reducible repeat (first|apply R_alloc|apply R_drewN|apply R_drew));exact HO_261004.out))) (Kd.R_lt (by (with_reducible repeat (first|apply R_alloc|apply R_drewN|apply R_drew));exact HO278.out))) (below_size (by repeat (first|(with_reducible first|exact HB.out|apply below_alloc|apply pw_below_drewN|apply below_drew1|refine below_set ?_ GE238.out|refine below_set ?_ GE260.out)|exact HB.out))));have n12_:=Aside0.mk (Kd.R_lower (Kd.R_new' (Kd.R_new' (Kd.R_new' (Kd.R_new' ho1 (Kd.R_lt (by (with_reducible repeat (first|apply R_alloc|apply R_drewN|apply R_drew));exact HO_239002.out))) (Kd.R_lt (by (with_reducible repeat (first|apply R_alloc|apply R_drewN|apply R_drew));exact HO_239005.out))) (Kd.R_lt (by (with_reducible repeat (first|apply R_alloc|apply R_drewN|apply R_drew));exact HO_261002.out))) (Kd.R_lt (by (with_reducible repeat (first|apply R_alloc|apply R_drewN|apply R_drew));exact HO_261005.out))) (below_size (by repeat (first|(with_reducible first|exact HB.out|apply below_alloc|apply pw_below_drewN|apply below_drew1|refine below_set ?_ GE238.out|refine below_set ?_ GE260.out)|exact HB.out))));have n13_:=Aside0.mk (Kd.R_lower (Kd.R_new' (Kd.R_new' ho2 (Kd.R_lt (by (with_reducible repeat (first|apply R_alloc|apply R_drewN|apply R_drew));exact HO_239003.out))) (Kd.R_lt (by (with_reducible repeat (first|apply R_alloc|apply R_drewN|apply R_drew));exact HO_261003.out))) (below_size (by repeat (first|(with_reducible first|exact HB.out|apply below_alloc|apply pw_below_drewN|apply below_drew1|refine below_set ?_ GE238.out|refine below_set ?_ GE260.out)|exact HB.out))));have n14_:=Aside0.mk (Kd.R_lower (Kd.R_new' (Kd.R_new' (Kd.R_new' (Kd.R_new' (Kd.R_new' ho3 (Kd.R_lt (by (with_reducible repeat (first|apply R_alloc|apply R_drewN|apply R_drew));exact HO_239000.out))) (Kd.R_lt (by (with_reducible repeat (first|apply R_alloc|apply R_drewN|apply R_drew));exact HO_239004.out))) (Kd.R_lt (by (with_reducible repeat (first|apply R_alloc|apply R_drewN|apply R_drew));exact HO_261000.out))) (Kd.R_lt (by (with_reducible repeat (first|apply R_alloc|apply R_drewN|apply R_drew));exact HO_261004.out))) (Kd.R_lt (by (with_reducible repeat (first|apply R_alloc|apply R_drewN|apply R_drew));exact HO278.out))) (below_size (by repeat (first|(with_reducible first|exact HB.out|apply below_alloc|apply pw_below_drewN|apply below_drew1|refine below_set ?_ GE238.out|refine below_set ?_ GE260.out)|exact HB.out))));have n15_:=Aside0.mk (Kd.R_lower (Kd.R_new' (Kd.R_new' (Kd.R_new' (Kd.R_new' ho4 (Kd.R_lt (by (with_reducible repeat (first|apply R_alloc|apply R_drewN|apply R_drew));exact HO_239002.out))) (Kd.R_lt (by (with_reducible repeat (first|apply R_alloc|apply R_drewN|apply R_drew));exact HO_239005.out))) (Kd.R_lt (by (with_reducible repeat (first|apply R_alloc|apply R_drewN|apply R_drew));exact HO_261002.out))) (Kd.R_lt (by (with_reducible repeat (first|apply R_alloc|apply R_drewN|apply R_drew));exact HO_261005.out))) (below_size (by repeat (first|(with_reducible first|exact HB.out|apply below_alloc|apply pw_below_drewN|apply below_drew1|refine below_set ?_ GE238.out|refine below_set ?_ GE260.out)|exact HB.out))));have n16_:=Aside0.mk (blk_below (g:=gb238) (o:=.cells #[.slice Ao14 t220.length co14,.int .i64 t223,.slice Ao16 t224.length co16,.slice Ao17 t227.length co17,.slice Ao18 t230.length co18,.slice Ao19 t233.length co19,.int .i64 t236] 66 (0,0)) (by (with_reducible repeat (first|refine blk_drewN ?_ _|refine blk_drew ?_|refine blk_alloc ?_ _));exact BK238.out) hb);have n17_:=Aside0.mk (blk_below (g:=gb260) (o:=.cells #[.slice Ao24 t242.length co24,.int .i64 t245,.slice Ao27 t246.length co27,.slice Ao28 t249.length co28,.slice Ao29 t252.length co29,.slice Ao30 t255.length co30,.int .i64 t258] 66 (0,0)) (by (with_reducible repeat (first|refine blk_drewN ?_ _|refine blk_drew ?_|refine blk_alloc ?_ _));exact BK260.out) hb);have n18_:=Aside0.mk (below_step (by repeat (first|(with_reducible first|exact HB.out|apply below_alloc|apply pw_below_drewN|apply below_drew1|refine below_set ?_ GE238.out|refine below_set ?_ GE260.out)|exact HB.out)) hb);clear HO_239000;clear HO_239002;clear HO_239003;clear HO_239004;clear HO_239005;clear HO_261000;clear HO_261002;clear HO_261003;clear HO_261004;clear HO_261005;clear HO278;clear BK238;clear BK260;clear HB;have HO_239000:=n0_;have HO_239002:=n1_;have HO_239003:=n2_;have HO_239004:=n3_;have HO_239005:=n4_;have HO_261000:=n5_;have HO_261002:=n6_;have HO_261003:=n7_;have HO_261004:=n8_;have HO_261005:=n9_;have HO278:=n10_;have HO281:=n11_;have HO285:=n12_;have HO288:=n13_;have HO291:=n14_;have HO294:=n15_;have BK238:=n16_;have BK260:=n17_;have HB:=n18_;clear n0_ n1_ n2_ n3_ n4_ n5_ n6_ n7_ n8_ n9_ n10_ n11_ n12_ n13_ n14_ n15_ n16_ n17_ n18_;(try clear hb);(try clear hb2);(try clear hk);(try clear hi);(try clear ho0);(try clear ho1);(try clear ho2);(try clear ho3);(try clear ho4))|((with_reducible refine gate_dst (N:=14) rfl ?_);refine box_event ?hg (N:=14) ?hd (cs:=#[.slice none 0 0,.int .i64 0,.slice none 0 0,.slice none 0 0,.slice none 0 0,.slice none 0 0,.int .i64 0]) (t:=66) ?hr ?_;(case hd=>rfl);(case hg=>rfl);(case hr=>first|(go_simp;done)|(go_simp;rfl));intro gb297 hg w82 hbox hb;have n0_:=Aside0.mk (Kd.R_below (by (with_reducible repeat (first|apply R_alloc|apply R_drewN|apply R_drew));exact HO_239000.out) hb);have n1_:=Aside0.mk (Kd.R_below (by (with_reducible repeat (first|apply R_alloc|apply R_drewN|apply R_drew));exact HO_239002.out) hb);have n2_:=Aside0.mk (Kd.R_below (by (with_reducible repeat (first|apply R_alloc|apply R_drewN|apply R_drew));exact HO_239003.out) hb);have n3_:=Aside0.mk (Kd.R_below (by (with_reducible repeat (first|apply R_alloc|apply R_drewN|apply R_drew));exact HO_239004.out) hb);have n4_:=Aside0.mk (Kd.R_below (by (with_reducible repeat (first|apply R_alloc|apply R_drewN|apply R_drew));exact HO_239005.out) hb);have n5_:=Aside0.mk (Kd.R_below (by (with_reducible repeat (first|apply R_alloc|apply R_drewN|apply R_drew));exact HO_261000.out) hb);have n6_:=Aside0.mk (Kd.R_below (by (with_reducible repeat (first|apply R_alloc|apply R_drewN|apply R_drew));exact HO_261002.out) hb);have n7_:=Aside0.mk (Kd.R_below (by (with_reducible repeat (first|apply R_alloc|apply R_drewN|apply R_drew));exact HO_261003.out) hb);have n8_:=Aside0.mk (Kd.R_below (by (with_reducible repeat (first|apply R_alloc|apply R_drewN|apply R_drew));exact HO_261004.out) hb);have n9_:=Aside0.mk (Kd.R_below (by (with_reducible repeat (first|apply R_alloc|apply R_drewN|apply R_drew));exact HO_261005.out) hb);have n10_:=Aside0.mk (Kd.R_below (by (with_reducible repeat (first|apply R_alloc|apply R_drewN|apply R_drew));exact HO278.out) hb);have n11_:=Aside0.mk (Kd.R_below (by (with_reducible repeat (first|apply R_alloc|apply R_drewN|apply R_drew));exact HO281.out) hb);have n12_:=Aside0.mk (Kd.R_below (by (with_reducible repeat (first|apply R_alloc|apply R_drewN|apply R_drew));exact HO285.out) hb);have n13_:=Aside0.mk (Kd.R_below (by (with_reducible repeat (first|apply R_alloc|apply R_drewN|apply R_drew));exact HO288.out) hb);have n14_:=Aside0.mk (Kd.R_below (by (with_reducible repeat (first|apply R_alloc|apply R_drewN|apply R_drew));exact HO291.out) hb);have n15_:=Aside0.mk (Kd.R_below (by (with_reducible repeat (first|apply R_alloc|apply R_drewN|apply R_drew));exact HO294.out) hb);have n16_:=Aside0.mk (blk_below (g:=gb238) (o:=.cells #[.slice Ao14 t220.length co14,.int .i64 t223,.slice Ao16 t224.length co16,.slice Ao17 t227.length co17,.slice Ao18 t230.length co18,.slice Ao19 t233.length co19,.int .i64 t236] 66 (0,0)) (by (with_reducible repeat (first|refine blk_drewN ?_ _|refine blk_drew ?_|refine blk_alloc ?_ _));exact BK238.out) hb);have n17_:=Aside0.mk (blk_below (g:=gb260) (o:=.cells #[.slice Ao24 t242.length co24,.int .i64 t245,.slice Ao27 t246.length co27,.slice Ao28 t249.length co28,.slice Ao29 t252.length co29,.slice Ao30 t255.length co30,.int .i64 t258] 66 (0,0)) (by (with_reducible repeat (first|refine blk_drewN ?_ _|refine blk_drew ?_|refine blk_alloc ?_ _));exact BK260.out) hb);have n18_:=Aside0.mk (below_step (by repeat (first|(with_reducible first|exact HB.out|apply below_alloc|apply pw_below_drewN|apply below_drew1|refine below_set ?_ GE238.out|refine below_set ?_ GE260.out)|exact HB.out)) hb);have n19_:=Aside0.mk (hbox);have n20_:=Aside0.mk ((by rw [hg];exact (below_size (by repeat (first|(with_reducible first|exact HB.out|apply below_alloc|apply pw_below_drewN|apply below_drew1|refine below_set ?_ GE238.out|refine below_set ?_ GE260.out)|exact HB.out))) : w.heap.size ≤ gb297));have n21_:=Aside0.mk ((by rw [hg];exact (below_size (by repeat (first|(with_reducible first|exact HB.out|apply below_alloc|apply pw_below_drewN|apply below_drew1|refine below_set ?_ GE238.out|refine below_set ?_ GE260.out)|exact HB.out))) : w.heap.size ≤ gb297));have n22_:=Aside0.mk ((by rw [hg];exact Nat.ne_of_lt (blk_lt (g:=gb238) (o:=.cells #[.slice Ao14 t220.length co14,.int .i64 t223,.slice Ao16 t224.length co16,.slice Ao17 t227.length co17,.slice Ao18 t230.length co18,.slice Ao19 t233.length co19,.int .i64 t236] 66 (0,0)) (by (with_reducible repeat (first|refine blk_drewN ?_ _|refine blk_drew ?_|refine blk_alloc ?_ _));exact BK238.out)) : gb238 ≠ gb297));have n23_:=Aside0.mk ((by rw [hg];exact Nat.ne_of_gt (blk_lt (g:=gb238) (o:=.cells #[.slice Ao14 t220.length co14,.int .i64 t223,.slice Ao16 t224.length co16,.slice Ao17 t227.length co17,.slice Ao18 t230.length co18,.slice Ao19 t233.length co19,.int .i64 t236] 66 (0,0)) (by (with_reducible repeat (first|refine blk_drewN ?_ _|refine blk_drew ?_|refine blk_alloc ?_ _));exact BK238.out)) : gb297 ≠ gb238));have n24_:=Aside0.mk ((by rw [hg];exact Nat.ne_of_lt (blk_lt (g:=gb260) (o:=.cells #[.slice Ao24 t242.length co24,.int .i64 t245,.slice Ao27 t246.length co27,.slice Ao28 t249.length co28,.slice Ao29 t252.length co29,.slice Ao30 t255.length co30,.int .i64 t258] 66 (0,0)) (by (with_reducible repeat (first|refine blk_drewN ?_ _|refine blk_drew ?_|refine blk_alloc ?_ _));exact BK260.out)) : gb260 ≠ gb297));have n25_:=Aside0.mk ((by rw [hg];exact Nat.ne_of_gt (blk_lt (g:=gb260) (o:=.cells #[.slice Ao24 t242.length co24,.int .i64 t245,.slice Ao27 t246.length co27,.slice Ao28 t249.length co28,.slice Ao29 t252.length co29,.slice Ao30 t255.length co30,.int .i64 t258] 66 (0,0)) (by (with_reducible repeat (first|refine blk_drewN ?_ _|refine blk_drew ?_|refine blk_alloc ?_ _));exact BK260.out)) : gb297 ≠ gb260));clear HO_239000;clear HO_239002;clear HO_239003;clear HO_239004;clear HO_239005;clear HO_261000;clear HO_261002;clear HO_261003;clear HO_261004;clear HO_261005;clear HO278;clear HO281;clear HO285;clear HO288;clear HO291;clear HO294;clear BK238;clear BK260;clear HB;have HO_239000:=n0_;have HO_239002:=n1_;have HO_239003:=n2_;have HO_239004:=n3_;have HO_239005:=n4_;have HO_261000:=n5_;have HO_261002:=n6_;have HO_261003:=n7_;have HO_261004:=n8_;have HO_261005:=n9_;have HO278:=n10_;have HO281:=n11_;have HO285:=n12_;have HO288:=n13_;have HO291:=n14_;have HO294:=n15_;have BK238:=n16_;have BK260:=n17_;have HB:=n18_;have BK297:=n19_;have GW297:=n20_;have GE297:=n21_;have NB238_297:=n22_;have NB297_238:=n23_;have NB260_297:=n24_;have NB297_260:=n25_;clear n0_ n1_ n2_ n3_ n4_ n5_ n6_ n7_ n8_ n9_ n10_ n11_ n12_ n13_ n14_ n15_ n16_ n17_ n18_ n19_ n20_ n21_ n22_ n23_ n24_ n25_;clear hb hbox hg;obtain ⟨Ao83,co83,eo83⟩:=Kd.R_slice HO281.out;subst eo83;have hnb84:=NB297_238.out;have hnc84:=NB238_297.out;have hnb85:=NB297_260.out;have hnc85:=NB260_297.out;have hcz86_0 : w82.cell? ⟨gb297,0,none⟩ = some (.slice none 0 0):=(blk_cell BK297.out 0).trans rfl;have hcz86_1 : w82.cell? ⟨gb297,1,none⟩ = some (.int .i64 0):=(blk_cell BK297.out 1).trans rfl;have hcz86_2 : w82.cell? ⟨gb297,2,none⟩ = some (.slice none 0 0):=(blk_cell BK297.out 2).trans rfl;have hcz86_3 : w82.cell? ⟨gb297,3,none⟩ = some (.slice none 0 0):=(blk_cell BK297.out 3).trans rfl;have hcz86_4 : w82.cell? ⟨gb297,4,none⟩ = some (.slice none 0 0):=(blk_cell BK297.out 4).trans rfl;have hcz86_5 : w82.cell? ⟨gb297,5,none⟩ = some (.slice none 0 0):=(blk_cell BK297.out 5).trans rfl;have hcz86_6 : w82.cell? ⟨gb297,6,none⟩ = some (.int .i64 0):=(blk_cell BK297.out 6).trans rfl;have hfz86_0:=blk_frozen BK297.out 0;have hfz86_1:=blk_frozen BK297.out 1;have hfz86_2:=blk_frozen BK297.out 2;have hfz86_3:=blk_frozen BK297.out 3;have hfz86_4:=blk_frozen BK297.out 4;have hfz86_5:=blk_frozen BK297.out 5;have hfz86_6:=blk_frozen BK297.out 6;obtain ⟨Ao87,co87,eo87⟩:=Kd.R_slice HO285.out;subst eo87;obtain ⟨Ao88,co88,eo88⟩:=Kd.R_slice HO288.out;subst eo88;obtain ⟨Ao89,co89,eo89⟩:=Kd.R_slice HO291.out;subst eo89;obtain ⟨Ao90,co90,eo90⟩:=Kd.R_slice HO294.out;subst eo90))
           (try simp only [Act.put,List.setIfInBounds_toArray,List.set_cons_zero,List.set_cons_succ])
           go_cut [92] (fun v92 wc=>∃ (kq : Nat) (x92_72 : Bool),v92 = .bool x92_72∧Aside0 (laws_FnExactNewWindow.j2 kq t269 x92_72 t270 t245 t271 t272 t273 t274 t258 = some r)∧Aside0 (kq ≤ kj45)∧Aside0 (Kd.R Kd.string 9 wc w.heap.size (fun k_=>some k_ ≠ ((.slice Ao18 t230.length co18) : Value).ownBlock∧some k_ ≠ ((.slice Ao24 t242.length co24) : Value).ownBlock∧some k_ ≠ ((.slice Ao29 t252.length co29) : Value).ownBlock∧some k_ ≠ ((.slice Ao83 t279.length co83) : Value).ownBlock∧some k_ ≠ ((.slice Ao89 t289.length co89) : Value).ownBlock) (.slice Ao14 t220.length co14) t220)∧Aside0 (Kd.R Kd.bool 4 wc w.heap.size (fun k_=>some k_ ≠ ((.slice Ao19 t233.length co19) : Value).ownBlock∧some k_ ≠ ((.slice Ao27 t246.length co27) : Value).ownBlock∧some k_ ≠ ((.slice Ao30 t255.length co30) : Value).ownBlock∧some k_ ≠ ((.slice Ao87 t283.length co87) : Value).ownBlock∧some k_ ≠ ((.slice Ao90 t292.length co90) : Value).ownBlock) (.slice Ao16 t224.length co16) t224)∧Aside0 (Kd.R k128 128 wc w.heap.size (fun k_=>some k_ ≠ ((.slice Ao28 t249.length co28) : Value).ownBlock∧some k_ ≠ ((.slice Ao88 t286.length co88) : Value).ownBlock) (.slice Ao17 t227.length co17) t227)∧Aside0 (Kd.R Kd.string 9 wc w.heap.size (fun k_=>some k_ ≠ ((.slice Ao14 t220.length co14) : Value).ownBlock∧some k_ ≠ ((.slice Ao24 t242.length co24) : Value).ownBlock∧some k_ ≠ ((.slice Ao29 t252.length co29) : Value).ownBlock∧some k_ ≠ ((.slice Ao83 t279.length co83) : Value).ownBlock∧some k_ ≠ ((.slice Ao89 t289.length co89) : Value).ownBlock) (.slice Ao18 t230.length co18) t230)∧Aside0 (Kd.R Kd.bool 4 wc w.heap.size (fun k_=>some k_ ≠ ((.slice Ao16 t224.length co16) : Value).ownBlock∧some k_ ≠ ((.slice Ao27 t246.length co27) : Value).ownBlock∧some k_ ≠ ((.slice Ao30 t255.length co30) : Value).ownBlock∧some k_ ≠ ((.slice Ao87 t283.length co87) : Value).ownBlock∧some k_ ≠ ((.slice Ao90 t292.length co90) : Value).ownBlock) (.slice Ao19 t233.length co19) t233)∧Aside0 (Kd.R Kd.string 9 wc w.heap.size (fun k_=>some k_ ≠ ((.slice Ao14 t220.length co14) : Value).ownBlock∧some k_ ≠ ((.slice Ao18 t230.length co18) : Value).ownBlock∧some k_ ≠ ((.slice Ao29 t252.length co29) : Value).ownBlock∧some k_ ≠ ((.slice Ao83 t279.length co83) : Value).ownBlock∧some k_ ≠ ((.slice Ao89 t289.length co89) : Value).ownBlock) (.slice Ao24 t242.length co24) t270)∧Aside0 (Kd.R Kd.bool 4 wc w.heap.size (fun k_=>some k_ ≠ ((.slice Ao16 t224.length co16) : Value).ownBlock∧some k_ ≠ ((.slice Ao19 t233.length co19) : Value).ownBlock∧some k_ ≠ ((.slice Ao30 t255.length co30) : Value).ownBlock∧some k_ ≠ ((.slice Ao87 t283.length co87) : Value).ownBlock∧some k_ ≠ ((.slice Ao90 t292.length co90) : Value).ownBlock) (.slice Ao27 t246.length co27) t271)∧Aside0 (Kd.R k128 128 wc w.heap.size (fun k_=>some k_ ≠ ((.slice Ao17 t227.length co17) : Value).ownBlock∧some k_ ≠ ((.slice Ao88 t286.length co88) : Value).ownBlock) (.slice Ao28 t249.length co28) t272)∧Aside0 (Kd.R Kd.string 9 wc w.heap.size (fun k_=>some k_ ≠ ((.slice Ao14 t220.length co14) : Value).ownBlock∧some k_ ≠ ((.slice Ao18 t230.length co18) : Value).ownBlock∧some k_ ≠ ((.slice Ao24 t242.length co24) : Value).ownBlock∧some k_ ≠ ((.slice Ao83 t279.length co83) : Value).ownBlock∧some k_ ≠ ((.slice Ao89 t289.length co89) : Value).ownBlock) (.slice Ao29 t252.length co29) t273)∧Aside0 (Kd.R Kd.bool 4 wc w.heap.size (fun k_=>some k_ ≠ ((.slice Ao16 t224.length co16) : Value).ownBlock∧some k_ ≠ ((.slice Ao19 t233.length co19) : Value).ownBlock∧some k_ ≠ ((.slice Ao27 t246.length co27) : Value).ownBlock∧some k_ ≠ ((.slice Ao87 t283.length co87) : Value).ownBlock∧some k_ ≠ ((.slice Ao90 t292.length co90) : Value).ownBlock) (.slice Ao30 t255.length co30) t274)∧Aside0 (Kd.R Kd.string 9 wc w.heap.size (fun k_=>some k_ ≠ ((.slice Ao14 t220.length co14) : Value).ownBlock∧some k_ ≠ ((.slice Ao18 t230.length co18) : Value).ownBlock∧some k_ ≠ ((.slice Ao24 t242.length co24) : Value).ownBlock∧some k_ ≠ ((.slice Ao29 t252.length co29) : Value).ownBlock∧some k_ ≠ ((.slice Ao89 t289.length co89) : Value).ownBlock) (.slice Ao83 t279.length co83) t279)∧Aside0 (Kd.R Kd.bool 4 wc w.heap.size (fun k_=>some k_ ≠ ((.slice Ao16 t224.length co16) : Value).ownBlock∧some k_ ≠ ((.slice Ao19 t233.length co19) : Value).ownBlock∧some k_ ≠ ((.slice Ao27 t246.length co27) : Value).ownBlock∧some k_ ≠ ((.slice Ao30 t255.length co30) : Value).ownBlock∧some k_ ≠ ((.slice Ao90 t292.length co90) : Value).ownBlock) (.slice Ao87 t283.length co87) t283)∧Aside0 (Kd.R k128 128 wc w.heap.size (fun k_=>some k_ ≠ ((.slice Ao17 t227.length co17) : Value).ownBlock∧some k_ ≠ ((.slice Ao28 t249.length co28) : Value).ownBlock) (.slice Ao88 t286.length co88) t286)∧Aside0 (Kd.R Kd.string 9 wc w.heap.size (fun k_=>some k_ ≠ ((.slice Ao14 t220.length co14) : Value).ownBlock∧some k_ ≠ ((.slice Ao18 t230.length co18) : Value).ownBlock∧some k_ ≠ ((.slice Ao24 t242.length co24) : Value).ownBlock∧some k_ ≠ ((.slice Ao29 t252.length co29) : Value).ownBlock∧some k_ ≠ ((.slice Ao83 t279.length co83) : Value).ownBlock) (.slice Ao89 t289.length co89) t289)∧Aside0 (Kd.R Kd.bool 4 wc w.heap.size (fun k_=>some k_ ≠ ((.slice Ao16 t224.length co16) : Value).ownBlock∧some k_ ≠ ((.slice Ao19 t233.length co19) : Value).ownBlock∧some k_ ≠ ((.slice Ao27 t246.length co27) : Value).ownBlock∧some k_ ≠ ((.slice Ao30 t255.length co30) : Value).ownBlock∧some k_ ≠ ((.slice Ao87 t283.length co87) : Value).ownBlock) (.slice Ao90 t292.length co90) t292)∧Aside0 (wc.heap[gb238]? = some (.cells #[(.slice Ao14 t220.length co14),.int .i64 t223,(.slice Ao16 t224.length co16),(.slice Ao17 t227.length co17),(.slice Ao18 t230.length co18),(.slice Ao19 t233.length co19),.int .i64 t236] 66 (0,0)))∧Aside0 (wc.heap[gb260]? = some (.cells #[(.slice Ao24 t242.length co24),.int .i64 t245,(.slice Ao27 t246.length co27),(.slice Ao28 t249.length co28),(.slice Ao29 t252.length co29),(.slice Ao30 t255.length co30),.int .i64 t258] 66 (0,0)))∧Aside0 (wc.heap[gb297]? = some (.cells #[(.slice Ao83 t279.length co83),.int .i64 t282,(.slice Ao87 t283.length co87),(.slice Ao88 t286.length co88),(.slice Ao89 t289.length co89),(.slice Ao90 t292.length co90),.int .i64 t295] 66 (0,0)))∧Aside0 (Below w.heap.size w wc))
           case first =>
            have H:=HC73.out
            clear HC73
            replace H:=Option.bind_eq_some_iff.mp H
            obtain ⟨t298,A910,H⟩:=H
            replace H : (if t298 = true then (laws_FnExactNewWindow.j2 kj45 t269 (t296 != t237) t270 t245 t271 t272 t273 t274 t258) else (laws_FnExactNewWindow.j2 kj45 t269 true t270 t245 t271 t272 t273 t274 t258)) = some r:=H
            have A91:=Aside0.mk A910
            clear A910
            by_cases c92 : t298 = true
            case' pos =>
             subst c92
             have H1 : (laws_FnExactNewWindow.j2 kj45 t269 (t296 != t237) t270 t245 t271 t272 t273 t274 t258) = some r:=by rw [if_pos rfl] at H;exact H
             clear H
             have H:=H1
             clear H1
             have H':=Aside0.mk H
             clear H
             have hnb93:=NB297_238.out
             have hnc93:=NB238_297.out
             have hnb94:=NB297_260.out
             have hnc94:=NB260_297.out
             have hcz95_0 : w82.cell? ⟨gb297,0,none⟩ = some (.slice none 0 0):=(blk_cell BK297.out 0).trans rfl
             have hcz95_1 : w82.cell? ⟨gb297,1,none⟩ = some (.int .i64 0):=(blk_cell BK297.out 1).trans rfl
             have hcz95_2 : w82.cell? ⟨gb297,2,none⟩ = some (.slice none 0 0):=(blk_cell BK297.out 2).trans rfl
             have hcz95_3 : w82.cell? ⟨gb297,3,none⟩ = some (.slice none 0 0):=(blk_cell BK297.out 3).trans rfl
             have hcz95_4 : w82.cell? ⟨gb297,4,none⟩ = some (.slice none 0 0):=(blk_cell BK297.out 4).trans rfl
             have hcz95_5 : w82.cell? ⟨gb297,5,none⟩ = some (.slice none 0 0):=(blk_cell BK297.out 5).trans rfl
             have hcz95_6 : w82.cell? ⟨gb297,6,none⟩ = some (.int .i64 0):=(blk_cell BK297.out 6).trans rfl
             have hfz95_0:=blk_frozen BK297.out 0
             have hfz95_1:=blk_frozen BK297.out 1
             have hfz95_2:=blk_frozen BK297.out 2
             have hfz95_3:=blk_frozen BK297.out 3
             have hfz95_4:=blk_frozen BK297.out 4
             have hfz95_5:=blk_frozen BK297.out 5
             have hfz95_6:=blk_frozen BK297.out 6
             have hnb96:=NB238_260.out
             have hnc96:=NB260_238.out
             have hcz97_0 : w82.cell? ⟨gb238,0,none⟩ = some (.slice Ao14 t220.length co14):=(blk_cell BK238.out 0).trans rfl
             have hcz97_1 : w82.cell? ⟨gb238,1,none⟩ = some (.int .i64 t223):=(blk_cell BK238.out 1).trans rfl
             have hcz97_2 : w82.cell? ⟨gb238,2,none⟩ = some (.slice Ao16 t224.length co16):=(blk_cell BK238.out 2).trans rfl
             have hcz97_3 : w82.cell? ⟨gb238,3,none⟩ = some (.slice Ao17 t227.length co17):=(blk_cell BK238.out 3).trans rfl
             have hcz97_4 : w82.cell? ⟨gb238,4,none⟩ = some (.slice Ao18 t230.length co18):=(blk_cell BK238.out 4).trans rfl
             have hcz97_5 : w82.cell? ⟨gb238,5,none⟩ = some (.slice Ao19 t233.length co19):=(blk_cell BK238.out 5).trans rfl
             have hcz97_6 : w82.cell? ⟨gb238,6,none⟩ = some (.int .i64 t236):=(blk_cell BK238.out 6).trans rfl
             have hfz97_0:=blk_frozen BK238.out 0
             have hfz97_1:=blk_frozen BK238.out 1
             have hfz97_2:=blk_frozen BK238.out 2
             have hfz97_3:=blk_frozen BK238.out 3
             have hfz97_4:=blk_frozen BK238.out 4
             have hfz97_5:=blk_frozen BK238.out 5
             have hfz97_6:=blk_frozen BK238.out 6
            case' neg =>
             replace c92:=Bool.eq_false_iff.mpr c92
             subst c92
             have H1 : (laws_FnExactNewWindow.j2 kj45 t269 true t270 t245 t271 t272 t273 t274 t258) = some r:=by rw [if_neg (show ¬ (false = true) by decide)] at H;exact H
             clear H
             have H:=H1
             clear H1
             have H':=Aside0.mk H
             clear H
             have hnb99:=NB297_238.out
             have hnc99:=NB238_297.out
             have hnb100:=NB297_260.out
             have hnc100:=NB260_297.out
             have hcz101_0 : w82.cell? ⟨gb297,0,none⟩ = some (.slice none 0 0):=(blk_cell BK297.out 0).trans rfl
             have hcz101_1 : w82.cell? ⟨gb297,1,none⟩ = some (.int .i64 0):=(blk_cell BK297.out 1).trans rfl
             have hcz101_2 : w82.cell? ⟨gb297,2,none⟩ = some (.slice none 0 0):=(blk_cell BK297.out 2).trans rfl
             have hcz101_3 : w82.cell? ⟨gb297,3,none⟩ = some (.slice none 0 0):=(blk_cell BK297.out 3).trans rfl
             have hcz101_4 : w82.cell? ⟨gb297,4,none⟩ = some (.slice none 0 0):=(blk_cell BK297.out 4).trans rfl
             have hcz101_5 : w82.cell? ⟨gb297,5,none⟩ = some (.slice none 0 0):=(blk_cell BK297.out 5).trans rfl
             have hcz101_6 : w82.cell? ⟨gb297,6,none⟩ = some (.int .i64 0):=(blk_cell BK297.out 6).trans rfl
             have hfz101_0:=blk_frozen BK297.out 0
             have hfz101_1:=blk_frozen BK297.out 1
             have hfz101_2:=blk_frozen BK297.out 2
             have hfz101_3:=blk_frozen BK297.out 3
             have hfz101_4:=blk_frozen BK297.out 4
             have hfz101_5:=blk_frozen BK297.out 5
             have hfz101_6:=blk_frozen BK297.out 6
             have hnb102:=NB238_260.out
             have hnc102:=NB260_238.out
             have hcz103_0 : w82.cell? ⟨gb238,0,none⟩ = some (.slice Ao14 t220.length co14):=(blk_cell BK238.out 0).trans rfl
             have hcz103_1 : w82.cell? ⟨gb238,1,none⟩ = some (.int .i64 t223):=(blk_cell BK238.out 1).trans rfl
             have hcz103_2 : w82.cell? ⟨gb238,2,none⟩ = some (.slice Ao16 t224.length co16):=(blk_cell BK238.out 2).trans rfl
             have hcz103_3 : w82.cell? ⟨gb238,3,none⟩ = some (.slice Ao17 t227.length co17):=(blk_cell BK238.out 3).trans rfl
             have hcz103_4 : w82.cell? ⟨gb238,4,none⟩ = some (.slice Ao18 t230.length co18):=(blk_cell BK238.out 4).trans rfl
             have hcz103_5 : w82.cell? ⟨gb238,5,none⟩ = some (.slice Ao19 t233.length co19):=(blk_cell BK238.out 5).trans rfl
             have hcz103_6 : w82.cell? ⟨gb238,6,none⟩ = some (.int .i64 t236):=(blk_cell BK238.out 6).trans rfl
             have hfz103_0:=blk_frozen BK238.out 0
             have hfz103_1:=blk_frozen BK238.out 1
             have hfz103_2:=blk_frozen BK238.out 2
             have hfz103_3:=blk_frozen BK238.out 3
             have hfz103_4:=blk_frozen BK238.out 4
             have hfz103_5:=blk_frozen BK238.out 5
             have hfz103_6:=blk_frozen BK238.out 6
            all_goals
             go_wp2_with (first|((with_reducible refine gate_callee (f:=50) rfl ?_);refine goesL_ (some 86) rfl rfl Try.func50 (by kernel_rfl) rfl #[.agg #[.slice Ao83 t279.length co83,.int .i64 t282,.slice Ao87 t283.length co87,.slice Ao88 t286.length co88,.slice Ao89 t289.length co89,.slice Ao90 t292.length co90,.int .i64 t295],.agg #[.slice Ao14 t220.length co14,.int .i64 t223,.slice Ao16 t224.length co16,.slice Ao17 t227.length co17,.slice Ao18 t230.length co18,.slice Ao19 t233.length co19,.int .i64 t236]] rfl (by (try simp only [List.map_toArray,List.map_cons,List.map_nil]);first|done|rfl|(simp only [List.length_drop,List.length_take];rfl)) ?_;(with_reducible refine (laws_eqWindow.calls kj45 _ _ t279 t282 _ _ t283 _ _ t286 _ _ t289 _ _ t292 t295 _ _ t220 t223 _ _ t224 _ _ t227 _ _ t230 _ _ t233 t236 _ _ ?side1 ?side2 ?side3 ?side4 ?side5 ?side6 ?side7 ?side8 ?side9 ?side10 ?side11 ?side12 ?side13 ?side14 ?side15 ?side16 ?side17 ?side18 ?side19 ?side20 A91.out).mono ?_);(case side1=>refine (Kd.R_reads' (e:=9) (base:=w.heap.size) (ok:=fun k_=>(((((some k_ ≠ (.slice Ao89 t289.length co89 : Value).ownBlock∧some k_ ≠ (.slice Ao14 t220.length co14 : Value).ownBlock)∧some k_ ≠ (.slice Ao18 t230.length co18 : Value).ownBlock)∧some k_ ≠ (.slice Ao24 t242.length co24 : Value).ownBlock)∧some k_ ≠ (.slice Ao29 t252.length co29 : Value).ownBlock)∧some k_ ≠ (.slice Ao80 t276.length co80 : Value).ownBlock)) (n:=t279.length) (c:=co83) ?_).2.2;exact (by (with_reducible repeat (first|apply R_alloc|apply R_drewN|apply R_drew));exact (Kd.R_mono (Kd.R_far (p:=⟨gb297,6,none⟩) (Kd.R_far (p:=⟨gb297,5,none⟩) (Kd.R_far (p:=⟨gb297,4,none⟩) (Kd.R_far (p:=⟨gb297,3,none⟩) (Kd.R_far (p:=⟨gb297,2,none⟩) (Kd.R_far (p:=⟨gb297,1,none⟩) (Kd.R_far (p:=⟨gb297,0,none⟩) (Kd.R_types HO281.out BK297.out (by decide)) (fun _ hk=>hk.2) (.slice Ao83 t279.length co83)) (fun _ hk=>hk.2) (.int .i64 t282)) (fun _ hk=>hk.2) (.slice Ao87 t283.length co87)) (fun _ hk=>hk.2) (.slice Ao88 t286.length co88)) (fun _ hk=>hk.2) (.slice Ao89 t289.length co89)) (fun _ hk=>hk.2) (.slice Ao90 t292.length co90)) (fun _ hk=>hk.2) (.int .i64 t295)) (fun _ h_=>h_.1))));(case side2=>exact (Kd.R_reads' HO281.out).2.1);(case side3=>refine (Kd.R_reads' (e:=4) (base:=w.heap.size) (ok:=fun k_=>((((some k_ ≠ (.slice Ao90 t292.length co90 : Value).ownBlock∧some k_ ≠ (.slice Ao16 t224.length co16 : Value).ownBlock)∧some k_ ≠ (.slice Ao19 t233.length co19 : Value).ownBlock)∧some k_ ≠ (.slice Ao27 t246.length co27 : Value).ownBlock)∧some k_ ≠ (.slice Ao30 t255.length co30 : Value).ownBlock)) (n:=t283.length) (c:=co87) ?_).2.2;exact (by (with_reducible repeat (first|apply R_alloc|apply R_drewN|apply R_drew));exact (Kd.R_mono (Kd.R_far (p:=⟨gb297,6,none⟩) (Kd.R_far (p:=⟨gb297,5,none⟩) (Kd.R_far (p:=⟨gb297,4,none⟩) (Kd.R_far (p:=⟨gb297,3,none⟩) (Kd.R_far (p:=⟨gb297,2,none⟩) (Kd.R_far (p:=⟨gb297,1,none⟩) (Kd.R_far (p:=⟨gb297,0,none⟩) (Kd.R_types HO285.out BK297.out (by decide)) (fun _ hk=>hk.2) (.slice Ao83 t279.length co83)) (fun _ hk=>hk.2) (.int .i64 t282)) (fun _ hk=>hk.2) (.slice Ao87 t283.length co87)) (fun _ hk=>hk.2) (.slice Ao88 t286.length co88)) (fun _ hk=>hk.2) (.slice Ao89 t289.length co89)) (fun _ hk=>hk.2) (.slice Ao90 t292.length co90)) (fun _ hk=>hk.2) (.int .i64 t295)) (fun _ h_=>h_.1))));(case side4=>exact (Kd.R_reads' HO285.out).2.1);(case side5=>refine (Kd.R_reads' (e:=128) (base:=w.heap.size) (ok:=fun k_=>((True∧some k_ ≠ (.slice Ao17 t227.length co17 : Value).ownBlock)∧some k_ ≠ (.slice Ao28 t249.length co28 : Value).ownBlock)) (n:=t286.length) (c:=co88) ?_).2.2;exact (by (with_reducible repeat (first|apply R_alloc|apply R_drewN|apply R_drew));exact (Kd.R_mono (Kd.R_far (p:=⟨gb297,6,none⟩) (Kd.R_far (p:=⟨gb297,5,none⟩) (Kd.R_far (p:=⟨gb297,4,none⟩) (Kd.R_far (p:=⟨gb297,3,none⟩) (Kd.R_far (p:=⟨gb297,2,none⟩) (Kd.R_far (p:=⟨gb297,1,none⟩) (Kd.R_far (p:=⟨gb297,0,none⟩) (Kd.R_types HO288.out BK297.out (by decide)) (fun _ hk=>hk.2) (.slice Ao83 t279.length co83)) (fun _ hk=>hk.2) (.int .i64 t282)) (fun _ hk=>hk.2) (.slice Ao87 t283.length co87)) (fun _ hk=>hk.2) (.slice Ao88 t286.length co88)) (fun _ hk=>hk.2) (.slice Ao89 t289.length co89)) (fun _ hk=>hk.2) (.slice Ao90 t292.length co90)) (fun _ hk=>hk.2) (.int .i64 t295)) (fun _ h_=>h_.1))));(case side6=>exact (Kd.R_reads' HO288.out).2.1);(case side7=>refine (Kd.R_reads' (e:=9) (base:=w.heap.size) (ok:=fun k_=>(((((some k_ ≠ (.slice Ao83 t279.length co83 : Value).ownBlock∧some k_ ≠ (.slice Ao14 t220.length co14 : Value).ownBlock)∧some k_ ≠ (.slice Ao18 t230.length co18 : Value).ownBlock)∧some k_ ≠ (.slice Ao24 t242.length co24 : Value).ownBlock)∧some k_ ≠ (.slice Ao29 t252.length co29 : Value).ownBlock)∧some k_ ≠ (.slice Ao80 t276.length co80 : Value).ownBlock)) (n:=t289.length) (c:=co89) ?_).2.2;exact (by (with_reducible repeat (first|apply R_alloc|apply R_drewN|apply R_drew));exact (Kd.R_mono (Kd.R_far (p:=⟨gb297,6,none⟩) (Kd.R_far (p:=⟨gb297,5,none⟩) (Kd.R_far (p:=⟨gb297,4,none⟩) (Kd.R_far (p:=⟨gb297,3,none⟩) (Kd.R_far (p:=⟨gb297,2,none⟩) (Kd.R_far (p:=⟨gb297,1,none⟩) (Kd.R_far (p:=⟨gb297,0,none⟩) (Kd.R_types HO291.out BK297.out (by decide)) (fun _ hk=>hk.2) (.slice Ao83 t279.length co83)) (fun _ hk=>hk.2) (.int .i64 t282)) (fun _ hk=>hk.2) (.slice Ao87 t283.length co87)) (fun _ hk=>hk.2) (.slice Ao88 t286.length co88)) (fun _ hk=>hk.2) (.slice Ao89 t289.length co89)) (fun _ hk=>hk.2) (.slice Ao90 t292.length co90)) (fun _ hk=>hk.2) (.int .i64 t295)) (fun _ h_=>h_.1))));(case side8=>exact (Kd.R_reads' HO291.out).2.1);(case side9=>refine (Kd.R_reads' (e:=4) (base:=w.heap.size) (ok:=fun k_=>((((some k_ ≠ (.slice Ao87 t283.length co87 : Value).ownBlock∧some k_ ≠ (.slice Ao16 t224.length co16 : Value).ownBlock)∧some k_ ≠ (.slice Ao19 t233.length co19 : Value).ownBlock)∧some k_ ≠ (.slice Ao27 t246.length co27 : Value).ownBlock)∧some k_ ≠ (.slice Ao30 t255.length co30 : Value).ownBlock)) (n:=t292.length) (c:=co90) ?_).2.2;exact (by (with_reducible repeat (first|apply R_alloc|apply R_drewN|apply R_drew));exact (Kd.R_mono (Kd.R_far (p:=⟨gb297,6,none⟩) (Kd.R_far (p:=⟨gb297,5,none⟩) (Kd.R_far (p:=⟨gb297,4,none⟩) (Kd.R_far (p:=⟨gb297,3,none⟩) (Kd.R_far (p:=⟨gb297,2,none⟩) (Kd.R_far (p:=⟨gb297,1,none⟩) (Kd.R_far (p:=⟨gb297,0,none⟩) (Kd.R_types HO294.out BK297.out (by decide)) (fun _ hk=>hk.2) (.slice Ao83 t279.length co83)) (fun _ hk=>hk.2) (.int .i64 t282)) (fun _ hk=>hk.2) (.slice Ao87 t283.length co87)) (fun _ hk=>hk.2) (.slice Ao88 t286.length co88)) (fun _ hk=>hk.2) (.slice Ao89 t289.length co89)) (fun _ hk=>hk.2) (.slice Ao90 t292.length co90)) (fun _ hk=>hk.2) (.int .i64 t295)) (fun _ h_=>h_.1))));(case side10=>exact (Kd.R_reads' HO294.out).2.1);(case side11=>refine (Kd.R_reads' (e:=9) (base:=w.heap.size) (ok:=fun k_=>((((some k_ ≠ (.slice Ao18 t230.length co18 : Value).ownBlock∧(some k_ ≠ (.slice Ao24 t242.length co24 : Value).ownBlock∧some k_ ≠ (.slice Ao29 t252.length co29 : Value).ownBlock))∧some k_ ≠ (.slice Ao80 t276.length co80 : Value).ownBlock)∧some k_ ≠ (.slice Ao83 t279.length co83 : Value).ownBlock)∧some k_ ≠ (.slice Ao89 t289.length co89 : Value).ownBlock)) (n:=t220.length) (c:=co14) ?_).2.2;exact (by (with_reducible repeat (first|apply R_alloc|apply R_drewN|apply R_drew));exact (Kd.R_mono (Kd.R_far (p:=⟨gb297,6,none⟩) (Kd.R_far (p:=⟨gb297,5,none⟩) (Kd.R_far (p:=⟨gb297,4,none⟩) (Kd.R_far (p:=⟨gb297,3,none⟩) (Kd.R_far (p:=⟨gb297,2,none⟩) (Kd.R_far (p:=⟨gb297,1,none⟩) (Kd.R_far (p:=⟨gb297,0,none⟩) (Kd.R_types HO_239000.out BK297.out (by decide)) (fun _ hk=>hk.2) (.slice Ao83 t279.length co83)) (fun _ hk=>hk.2) (.int .i64 t282)) (fun _ hk=>hk.2) (.slice Ao87 t283.length co87)) (fun _ hk=>hk.2) (.slice Ao88 t286.length co88)) (fun _ hk=>hk.2) (.slice Ao89 t289.length co89)) (fun _ hk=>hk.2) (.slice Ao90 t292.length co90)) (fun _ hk=>hk.2) (.int .i64 t295)) (fun _ h_=>h_.1))));(case side12=>exact (Kd.R_reads' HO_239000.out).2.1);(case side13=>refine (Kd.R_reads' (e:=4) (base:=w.heap.size) (ok:=fun k_=>(((some k_ ≠ (.slice Ao19 t233.length co19 : Value).ownBlock∧(some k_ ≠ (.slice Ao27 t246.length co27 : Value).ownBlock∧some k_ ≠ (.slice Ao30 t255.length co30 : Value).ownBlock))∧some k_ ≠ (.slice Ao87 t283.length co87 : Value).ownBlock)∧some k_ ≠ (.slice Ao90 t292.length co90 : Value).ownBlock)) (n:=t224.length) (c:=co16) ?_).2.2;exact (by (with_reducible repeat (first|apply R_alloc|apply R_drewN|apply R_drew));exact (Kd.R_mono (Kd.R_far (p:=⟨gb297,6,none⟩) (Kd.R_far (p:=⟨gb297,5,none⟩) (Kd.R_far (p:=⟨gb297,4,none⟩) (Kd.R_far (p:=⟨gb297,3,none⟩) (Kd.R_far (p:=⟨gb297,2,none⟩) (Kd.R_far (p:=⟨gb297,1,none⟩) (Kd.R_far (p:=⟨gb297,0,none⟩) (Kd.R_types HO_239002.out BK297.out (by decide)) (fun _ hk=>hk.2) (.slice Ao83 t279.length co83)) (fun _ hk=>hk.2) (.int .i64 t282)) (fun _ hk=>hk.2) (.slice Ao87 t283.length co87)) (fun _ hk=>hk.2) (.slice Ao88 t286.length co88)) (fun _ hk=>hk.2) (.slice Ao89 t289.length co89)) (fun _ hk=>hk.2) (.slice Ao90 t292.length co90)) (fun _ hk=>hk.2) (.int .i64 t295)) (fun _ h_=>h_.1))));(case side14=>exact (Kd.R_reads' HO_239002.out).2.1);(case side15=>refine (Kd.R_reads' (e:=128) (base:=w.heap.size) (ok:=fun k_=>(some k_ ≠ (.slice Ao28 t249.length co28 : Value).ownBlock∧some k_ ≠ (.slice Ao88 t286.length co88 : Value).ownBlock)) (n:=t227.length) (c:=co17) ?_).2.2;exact (by (with_reducible repeat (first|apply R_alloc|apply R_drewN|apply R_drew));exact (Kd.R_mono (Kd.R_far (p:=⟨gb297,6,none⟩) (Kd.R_far (p:=⟨gb297,5,none⟩) (Kd.R_far (p:=⟨gb297,4,none⟩) (Kd.R_far (p:=⟨gb297,3,none⟩) (Kd.R_far (p:=⟨gb297,2,none⟩) (Kd.R_far (p:=⟨gb297,1,none⟩) (Kd.R_far (p:=⟨gb297,0,none⟩) (Kd.R_types HO_239003.out BK297.out (by decide)) (fun _ hk=>hk.2) (.slice Ao83 t279.length co83)) (fun _ hk=>hk.2) (.int .i64 t282)) (fun _ hk=>hk.2) (.slice Ao87 t283.length co87)) (fun _ hk=>hk.2) (.slice Ao88 t286.length co88)) (fun _ hk=>hk.2) (.slice Ao89 t289.length co89)) (fun _ hk=>hk.2) (.slice Ao90 t292.length co90)) (fun _ hk=>hk.2) (.int .i64 t295)) (fun _ h_=>h_.1))));(case side16=>exact (Kd.R_reads' HO_239003.out).2.1);(case side17=>refine (Kd.R_reads' (e:=9) (base:=w.heap.size) (ok:=fun k_=>((((some k_ ≠ (.slice Ao14 t220.length co14 : Value).ownBlock∧(some k_ ≠ (.slice Ao24 t242.length co24 : Value).ownBlock∧some k_ ≠ (.slice Ao29 t252.length co29 : Value).ownBlock))∧some k_ ≠ (.slice Ao80 t276.length co80 : Value).ownBlock)∧some k_ ≠ (.slice Ao83 t279.length co83 : Value).ownBlock)∧some k_ ≠ (.slice Ao89 t289.length co89 : Value).ownBlock)) (n:=t230.length) (c:=co18) ?_).2.2;exact (by (with_reducible repeat (first|apply R_alloc|apply R_drewN|apply R_drew));exact (Kd.R_mono (Kd.R_far (p:=⟨gb297,6,none⟩) (Kd.R_far (p:=⟨gb297,5,none⟩) (Kd.R_far (p:=⟨gb297,4,none⟩) (Kd.R_far (p:=⟨gb297,3,none⟩) (Kd.R_far (p:=⟨gb297,2,none⟩) (Kd.R_far (p:=⟨gb297,1,none⟩) (Kd.R_far (p:=⟨gb297,0,none⟩) (Kd.R_types HO_239004.out BK297.out (by decide)) (fun _ hk=>hk.2) (.slice Ao83 t279.length co83)) (fun _ hk=>hk.2) (.int .i64 t282)) (fun _ hk=>hk.2) (.slice Ao87 t283.length co87)) (fun _ hk=>hk.2) (.slice Ao88 t286.length co88)) (fun _ hk=>hk.2) (.slice Ao89 t289.length co89)) (fun _ hk=>hk.2) (.slice Ao90 t292.length co90)) (fun _ hk=>hk.2) (.int .i64 t295)) (fun _ h_=>h_.1))));(case side18=>exact (Kd.R_reads' HO_239004.out).2.1);(case side19=>refine (Kd.R_reads' (e:=4) (base:=w.heap.size) (ok:=fun k_=>(((some k_ ≠ (.slice Ao16 t224.length co16 : Value).ownBlock∧(some k_ ≠ (.slice Ao27 t246.length co27 : Value).ownBlock∧some k_ ≠ (.slice Ao30 t255.length co30 : Value).ownBlock))∧some k_ ≠ (.slice Ao87 t283.length co87 : Value).ownBlock)∧some k_ ≠ (.slice Ao90 t292.length co90 : Value).ownBlock)) (n:=t233.length) (c:=co19) ?_).2.2;exact (by (with_reducible repeat (first|apply R_alloc|apply R_drewN|apply R_drew));exact (Kd.R_mono (Kd.R_far (p:=⟨gb297,6,none⟩) (Kd.R_far (p:=⟨gb297,5,none⟩) (Kd.R_far (p:=⟨gb297,4,none⟩) (Kd.R_far (p:=⟨gb297,3,none⟩) (Kd.R_far (p:=⟨gb297,2,none⟩) (Kd.R_far (p:=⟨gb297,1,none⟩) (Kd.R_far (p:=⟨gb297,0,none⟩) (Kd.R_types HO_239005.out BK297.out (by decide)) (fun _ hk=>hk.2) (.slice Ao83 t279.length co83)) (fun _ hk=>hk.2) (.int .i64 t282)) (fun _ hk=>hk.2) (.slice Ao87 t283.length co87)) (fun _ hk=>hk.2) (.slice Ao88 t286.length co88)) (fun _ hk=>hk.2) (.slice Ao89 t289.length co89)) (fun _ hk=>hk.2) (.slice Ao90 t292.length co90)) (fun _ hk=>hk.2) (.int .i64 t295)) (fun _ h_=>h_.1))));(case side20=>exact (Kd.R_reads' HO_239005.out).2.1);rintro e w98 ⟨rfl,hb⟩;refine ⟨_,rfl,?_⟩;have n0_:=Aside0.mk (Kd.R_below (by (with_reducible repeat (first|apply R_alloc|apply R_drewN|apply R_drew));exact (Kd.R_mono (Kd.R_far (p:=⟨gb297,6,none⟩) (Kd.R_far (p:=⟨gb297,5,none⟩) (Kd.R_far (p:=⟨gb297,4,none⟩) (Kd.R_far (p:=⟨gb297,3,none⟩) (Kd.R_far (p:=⟨gb297,2,none⟩) (Kd.R_far (p:=⟨gb297,1,none⟩) (Kd.R_far (p:=⟨gb297,0,none⟩) (Kd.R_types HO_239000.out BK297.out (by decide)) (fun _ hk=>hk.2) (.slice Ao83 t279.length co83)) (fun _ hk=>hk.2) (.int .i64 t282)) (fun _ hk=>hk.2) (.slice Ao87 t283.length co87)) (fun _ hk=>hk.2) (.slice Ao88 t286.length co88)) (fun _ hk=>hk.2) (.slice Ao89 t289.length co89)) (fun _ hk=>hk.2) (.slice Ao90 t292.length co90)) (fun _ hk=>hk.2) (.int .i64 t295)) (fun _ h_=>h_.1))) hb);have n1_:=Aside0.mk (Kd.R_below (by (with_reducible repeat (first|apply R_alloc|apply R_drewN|apply R_drew));exact (Kd.R_mono (Kd.R_far (p:=⟨gb297,6,none⟩) (Kd.R_far (p:=⟨gb297,5,none⟩) (Kd.R_far (p:=⟨gb297,4,none⟩) (Kd.R_far (p:=⟨gb297,3,none⟩) (Kd.R_far (p:=⟨gb297,2,none⟩) (Kd.R_far (p:=⟨gb297,1,none⟩) (Kd.R_far (p:=⟨gb297,0,none⟩) (Kd.R_types HO_239002.out BK297.out (by decide)) (fun _ hk=>hk.2) (.slice Ao83 t279.length co83)) (fun _ hk=>hk.2) (.int .i64 t282)) (fun _ hk=>hk.2) (.slice Ao87 t283.length co87)) (fun _ hk=>hk.2) (.slice Ao88 t286.length co88)) (fun _ hk=>hk.2) (.slice Ao89 t289.length co89)) (fun _ hk=>hk.2) (.slice Ao90 t292.length co90)) (fun _ hk=>hk.2) (.int .i64 t295)) (fun _ h_=>h_.1))) hb);have n2_:=Aside0.mk (Kd.R_below (by (with_reducible repeat (first|apply R_alloc|apply R_drewN|apply R_drew));exact (Kd.R_mono (Kd.R_far (p:=⟨gb297,6,none⟩) (Kd.R_far (p:=⟨gb297,5,none⟩) (Kd.R_far (p:=⟨gb297,4,none⟩) (Kd.R_far (p:=⟨gb297,3,none⟩) (Kd.R_far (p:=⟨gb297,2,none⟩) (Kd.R_far (p:=⟨gb297,1,none⟩) (Kd.R_far (p:=⟨gb297,0,none⟩) (Kd.R_types HO_239003.out BK297.out (by decide)) (fun _ hk=>hk.2) (.slice Ao83 t279.length co83)) (fun _ hk=>hk.2) (.int .i64 t282)) (fun _ hk=>hk.2) (.slice Ao87 t283.length co87)) (fun _ hk=>hk.2) (.slice Ao88 t286.length co88)) (fun _ hk=>hk.2) (.slice Ao89 t289.length co89)) (fun _ hk=>hk.2) (.slice Ao90 t292.length co90)) (fun _ hk=>hk.2) (.int .i64 t295)) (fun _ h_=>h_.1))) hb);have n3_:=Aside0.mk (Kd.R_below (by (with_reducible repeat (first|apply R_alloc|apply R_drewN|apply R_drew));exact (Kd.R_mono (Kd.R_far (p:=⟨gb297,6,none⟩) (Kd.R_far (p:=⟨gb297,5,none⟩) (Kd.R_far (p:=⟨gb297,4,none⟩) (Kd.R_far (p:=⟨gb297,3,none⟩) (Kd.R_far (p:=⟨gb297,2,none⟩) (Kd.R_far (p:=⟨gb297,1,none⟩) (Kd.R_far (p:=⟨gb297,0,none⟩) (Kd.R_types HO_239004.out BK297.out (by decide)) (fun _ hk=>hk.2) (.slice Ao83 t279.length co83)) (fun _ hk=>hk.2) (.int .i64 t282)) (fun _ hk=>hk.2) (.slice Ao87 t283.length co87)) (fun _ hk=>hk.2) (.slice Ao88 t286.length co88)) (fun _ hk=>hk.2) (.slice Ao89 t289.length co89)) (fun _ hk=>hk.2) (.slice Ao90 t292.length co90)) (fun _ hk=>hk.2) (.int .i64 t295)) (fun _ h_=>h_.1))) hb);have n4_:=Aside0.mk (Kd.R_below (by (with_reducible repeat (first|apply R_alloc|apply R_drewN|apply R_drew));exact (Kd.R_mono (Kd.R_far (p:=⟨gb297,6,none⟩) (Kd.R_far (p:=⟨gb297,5,none⟩) (Kd.R_far (p:=⟨gb297,4,none⟩) (Kd.R_far (p:=⟨gb297,3,none⟩) (Kd.R_far (p:=⟨gb297,2,none⟩) (Kd.R_far (p:=⟨gb297,1,none⟩) (Kd.R_far (p:=⟨gb297,0,none⟩) (Kd.R_types HO_239005.out BK297.out (by decide)) (fun _ hk=>hk.2) (.slice Ao83 t279.length co83)) (fun _ hk=>hk.2) (.int .i64 t282)) (fun _ hk=>hk.2) (.slice Ao87 t283.length co87)) (fun _ hk=>hk.2) (.slice Ao88 t286.length co88)) (fun _ hk=>hk.2) (.slice Ao89 t289.length co89)) (fun _ hk=>hk.2) (.slice Ao90 t292.length co90)) (fun _ hk=>hk.2) (.int .i64 t295)) (fun _ h_=>h_.1))) hb);have n5_:=Aside0.mk (Kd.R_below (by (with_reducible repeat (first|apply R_alloc|apply R_drewN|apply R_drew));exact (Kd.R_mono (Kd.R_far (p:=⟨gb297,6,none⟩) (Kd.R_far (p:=⟨gb297,5,none⟩) (Kd.R_far (p:=⟨gb297,4,none⟩) (Kd.R_far (p:=⟨gb297,3,none⟩) (Kd.R_far (p:=⟨gb297,2,none⟩) (Kd.R_far (p:=⟨gb297,1,none⟩) (Kd.R_far (p:=⟨gb297,0,none⟩) (Kd.R_types HO_261000.out BK297.out (by decide)) (fun _ hk=>hk.2) (.slice Ao83 t279.length co83)) (fun _ hk=>hk.2) (.int .i64 t282)) (fun _ hk=>hk.2) (.slice Ao87 t283.length co87)) (fun _ hk=>hk.2) (.slice Ao88 t286.length co88)) (fun _ hk=>hk.2) (.slice Ao89 t289.length co89)) (fun _ hk=>hk.2) (.slice Ao90 t292.length co90)) (fun _ hk=>hk.2) (.int .i64 t295)) (fun _ h_=>h_.1))) hb);have n6_:=Aside0.mk (Kd.R_below (by (with_reducible repeat (first|apply R_alloc|apply R_drewN|apply R_drew));exact (Kd.R_mono (Kd.R_far (p:=⟨gb297,6,none⟩) (Kd.R_far (p:=⟨gb297,5,none⟩) (Kd.R_far (p:=⟨gb297,4,none⟩) (Kd.R_far (p:=⟨gb297,3,none⟩) (Kd.R_far (p:=⟨gb297,2,none⟩) (Kd.R_far (p:=⟨gb297,1,none⟩) (Kd.R_far (p:=⟨gb297,0,none⟩) (Kd.R_types HO_261002.out BK297.out (by decide)) (fun _ hk=>hk.2) (.slice Ao83 t279.length co83)) (fun _ hk=>hk.2) (.int .i64 t282)) (fun _ hk=>hk.2) (.slice Ao87 t283.length co87)) (fun _ hk=>hk.2) (.slice Ao88 t286.length co88)) (fun _ hk=>hk.2) (.slice Ao89 t289.length co89)) (fun _ hk=>hk.2) (.slice Ao90 t292.length co90)) (fun _ hk=>hk.2) (.int .i64 t295)) (fun _ h_=>h_.1))) hb);have n7_:=Aside0.mk (Kd.R_below (by (with_reducible repeat (first|apply R_alloc|apply R_drewN|apply R_drew));exact (Kd.R_mono (Kd.R_far (p:=⟨gb297,6,none⟩) (Kd.R_far (p:=⟨gb297,5,none⟩) (Kd.R_far (p:=⟨gb297,4,none⟩) (Kd.R_far (p:=⟨gb297,3,none⟩) (Kd.R_far (p:=⟨gb297,2,none⟩) (Kd.R_far (p:=⟨gb297,1,none⟩) (Kd.R_far (p:=⟨gb297,0,none⟩) (Kd.R_types HO_261003.out BK297.out (by decide)) (fun _ hk=>hk.2) (.slice Ao83 t279.length co83)) (fun _ hk=>hk.2) (.int .i64 t282)) (fun _ hk=>hk.2) (.slice Ao87 t283.length co87)) (fun _ hk=>hk.2) (.slice Ao88 t286.length co88)) (fun _ hk=>hk.2) (.slice Ao89 t289.length co89)) (fun _ hk=>hk.2) (.slice Ao90 t292.length co90)) (fun _ hk=>hk.2) (.int .i64 t295)) (fun _ h_=>h_.1))) hb);have n8_:=Aside0.mk (Kd.R_below (by (with_reducible repeat (first|apply R_alloc|apply R_drewN|apply R_drew));exact (Kd.R_mono (Kd.R_far (p:=⟨gb297,6,none⟩) (Kd.R_far (p:=⟨gb297,5,none⟩) (Kd.R_far (p:=⟨gb297,4,none⟩) (Kd.R_far (p:=⟨gb297,3,none⟩) (Kd.R_far (p:=⟨gb297,2,none⟩) (Kd.R_far (p:=⟨gb297,1,none⟩) (Kd.R_far (p:=⟨gb297,0,none⟩) (Kd.R_types HO_261004.out BK297.out (by decide)) (fun _ hk=>hk.2) (.slice Ao83 t279.length co83)) (fun _ hk=>hk.2) (.int .i64 t282)) (fun _ hk=>hk.2) (.slice Ao87 t283.length co87)) (fun _ hk=>hk.2) (.slice Ao88 t286.length co88)) (fun _ hk=>hk.2) (.slice Ao89 t289.length co89)) (fun _ hk=>hk.2) (.slice Ao90 t292.length co90)) (fun _ hk=>hk.2) (.int .i64 t295)) (fun _ h_=>h_.1))) hb);have n9_:=Aside0.mk (Kd.R_below (by (with_reducible repeat (first|apply R_alloc|apply R_drewN|apply R_drew));exact (Kd.R_mono (Kd.R_far (p:=⟨gb297,6,none⟩) (Kd.R_far (p:=⟨gb297,5,none⟩) (Kd.R_far (p:=⟨gb297,4,none⟩) (Kd.R_far (p:=⟨gb297,3,none⟩) (Kd.R_far (p:=⟨gb297,2,none⟩) (Kd.R_far (p:=⟨gb297,1,none⟩) (Kd.R_far (p:=⟨gb297,0,none⟩) (Kd.R_types HO_261005.out BK297.out (by decide)) (fun _ hk=>hk.2) (.slice Ao83 t279.length co83)) (fun _ hk=>hk.2) (.int .i64 t282)) (fun _ hk=>hk.2) (.slice Ao87 t283.length co87)) (fun _ hk=>hk.2) (.slice Ao88 t286.length co88)) (fun _ hk=>hk.2) (.slice Ao89 t289.length co89)) (fun _ hk=>hk.2) (.slice Ao90 t292.length co90)) (fun _ hk=>hk.2) (.int .i64 t295)) (fun _ h_=>h_.1))) hb);have n10_:=Aside0.mk (Kd.R_below (by (with_reducible repeat (first|apply R_alloc|apply R_drewN|apply R_drew));exact (Kd.R_mono (Kd.R_far (p:=⟨gb297,6,none⟩) (Kd.R_far (p:=⟨gb297,5,none⟩) (Kd.R_far (p:=⟨gb297,4,none⟩) (Kd.R_far (p:=⟨gb297,3,none⟩) (Kd.R_far (p:=⟨gb297,2,none⟩) (Kd.R_far (p:=⟨gb297,1,none⟩) (Kd.R_far (p:=⟨gb297,0,none⟩) (Kd.R_types HO278.out BK297.out (by decide)) (fun _ hk=>hk.2) (.slice Ao83 t279.length co83)) (fun _ hk=>hk.2) (.int .i64 t282)) (fun _ hk=>hk.2) (.slice Ao87 t283.length co87)) (fun _ hk=>hk.2) (.slice Ao88 t286.length co88)) (fun _ hk=>hk.2) (.slice Ao89 t289.length co89)) (fun _ hk=>hk.2) (.slice Ao90 t292.length co90)) (fun _ hk=>hk.2) (.int .i64 t295)) (fun _ h_=>h_.1))) hb);have n11_:=Aside0.mk (Kd.R_below (by (with_reducible repeat (first|apply R_alloc|apply R_drewN|apply R_drew));exact (Kd.R_mono (Kd.R_far (p:=⟨gb297,6,none⟩) (Kd.R_far (p:=⟨gb297,5,none⟩) (Kd.R_far (p:=⟨gb297,4,none⟩) (Kd.R_far (p:=⟨gb297,3,none⟩) (Kd.R_far (p:=⟨gb297,2,none⟩) (Kd.R_far (p:=⟨gb297,1,none⟩) (Kd.R_far (p:=⟨gb297,0,none⟩) (Kd.R_types HO281.out BK297.out (by decide)) (fun _ hk=>hk.2) (.slice Ao83 t279.length co83)) (fun _ hk=>hk.2) (.int .i64 t282)) (fun _ hk=>hk.2) (.slice Ao87 t283.length co87)) (fun _ hk=>hk.2) (.slice Ao88 t286.length co88)) (fun _ hk=>hk.2) (.slice Ao89 t289.length co89)) (fun _ hk=>hk.2) (.slice Ao90 t292.length co90)) (fun _ hk=>hk.2) (.int .i64 t295)) (fun _ h_=>h_.1))) hb);have n12_:=Aside0.mk (Kd.R_below (by (with_reducible repeat (first|apply R_alloc|apply R_drewN|apply R_drew));exact (Kd.R_mono (Kd.R_far (p:=⟨gb297,6,none⟩) (Kd.R_far (p:=⟨gb297,5,none⟩) (Kd.R_far (p:=⟨gb297,4,none⟩) (Kd.R_far (p:=⟨gb297,3,none⟩) (Kd.R_far (p:=⟨gb297,2,none⟩) (Kd.R_far (p:=⟨gb297,1,none⟩) (Kd.R_far (p:=⟨gb297,0,none⟩) (Kd.R_types HO285.out BK297.out (by decide)) (fun _ hk=>hk.2) (.slice Ao83 t279.length co83)) (fun _ hk=>hk.2) (.int .i64 t282)) (fun _ hk=>hk.2) (.slice Ao87 t283.length co87)) (fun _ hk=>hk.2) (.slice Ao88 t286.length co88)) (fun _ hk=>hk.2) (.slice Ao89 t289.length co89)) (fun _ hk=>hk.2) (.slice Ao90 t292.length co90)) (fun _ hk=>hk.2) (.int .i64 t295)) (fun _ h_=>h_.1))) hb);have n13_:=Aside0.mk (Kd.R_below (by (with_reducible repeat (first|apply R_alloc|apply R_drewN|apply R_drew));exact (Kd.R_mono (Kd.R_far (p:=⟨gb297,6,none⟩) (Kd.R_far (p:=⟨gb297,5,none⟩) (Kd.R_far (p:=⟨gb297,4,none⟩) (Kd.R_far (p:=⟨gb297,3,none⟩) (Kd.R_far (p:=⟨gb297,2,none⟩) (Kd.R_far (p:=⟨gb297,1,none⟩) (Kd.R_far (p:=⟨gb297,0,none⟩) (Kd.R_types HO288.out BK297.out (by decide)) (fun _ hk=>hk.2) (.slice Ao83 t279.length co83)) (fun _ hk=>hk.2) (.int .i64 t282)) (fun _ hk=>hk.2) (.slice Ao87 t283.length co87)) (fun _ hk=>hk.2) (.slice Ao88 t286.length co88)) (fun _ hk=>hk.2) (.slice Ao89 t289.length co89)) (fun _ hk=>hk.2) (.slice Ao90 t292.length co90)) (fun _ hk=>hk.2) (.int .i64 t295)) (fun _ h_=>h_.1))) hb);have n14_:=Aside0.mk (Kd.R_below (by (with_reducible repeat (first|apply R_alloc|apply R_drewN|apply R_drew));exact (Kd.R_mono (Kd.R_far (p:=⟨gb297,6,none⟩) (Kd.R_far (p:=⟨gb297,5,none⟩) (Kd.R_far (p:=⟨gb297,4,none⟩) (Kd.R_far (p:=⟨gb297,3,none⟩) (Kd.R_far (p:=⟨gb297,2,none⟩) (Kd.R_far (p:=⟨gb297,1,none⟩) (Kd.R_far (p:=⟨gb297,0,none⟩) (Kd.R_types HO291.out BK297.out (by decide)) (fun _ hk=>hk.2) (.slice Ao83 t279.length co83)) (fun _ hk=>hk.2) (.int .i64 t282)) (fun _ hk=>hk.2) (.slice Ao87 t283.length co87)) (fun _ hk=>hk.2) (.slice Ao88 t286.length co88)) (fun _ hk=>hk.2) (.slice Ao89 t289.length co89)) (fun _ hk=>hk.2) (.slice Ao90 t292.length co90)) (fun _ hk=>hk.2) (.int .i64 t295)) (fun _ h_=>h_.1))) hb);have n15_:=Aside0.mk (Kd.R_below (by (with_reducible repeat (first|apply R_alloc|apply R_drewN|apply R_drew));exact (Kd.R_mono (Kd.R_far (p:=⟨gb297,6,none⟩) (Kd.R_far (p:=⟨gb297,5,none⟩) (Kd.R_far (p:=⟨gb297,4,none⟩) (Kd.R_far (p:=⟨gb297,3,none⟩) (Kd.R_far (p:=⟨gb297,2,none⟩) (Kd.R_far (p:=⟨gb297,1,none⟩) (Kd.R_far (p:=⟨gb297,0,none⟩) (Kd.R_types HO294.out BK297.out (by decide)) (fun _ hk=>hk.2) (.slice Ao83 t279.length co83)) (fun _ hk=>hk.2) (.int .i64 t282)) (fun _ hk=>hk.2) (.slice Ao87 t283.length co87)) (fun _ hk=>hk.2) (.slice Ao88 t286.length co88)) (fun _ hk=>hk.2) (.slice Ao89 t289.length co89)) (fun _ hk=>hk.2) (.slice Ao90 t292.length co90)) (fun _ hk=>hk.2) (.int .i64 t295)) (fun _ h_=>h_.1))) hb);have n16_:=Aside0.mk (blk_below (g:=gb238) (o:=.cells #[.slice Ao14 t220.length co14,.int .i64 t223,.slice Ao16 t224.length co16,.slice Ao17 t227.length co17,.slice Ao18 t230.length co18,.slice Ao19 t233.length co19,.int .i64 t236] 66 (0,0)) (by (with_reducible repeat (first|refine blk_drewN ?_ _|refine blk_drew ?_|refine blk_alloc ?_ _));refine blk_far ?_ NB238_297.out _;(with_reducible repeat (first|refine blk_drewN ?_ _|refine blk_drew ?_|refine blk_alloc ?_ _));refine blk_far ?_ NB238_297.out _;(with_reducible repeat (first|refine blk_drewN ?_ _|refine blk_drew ?_|refine blk_alloc ?_ _));refine blk_far ?_ NB238_297.out _;(with_reducible repeat (first|refine blk_drewN ?_ _|refine blk_drew ?_|refine blk_alloc ?_ _));refine blk_far ?_ NB238_297.out _;(with_reducible repeat (first|refine blk_drewN ?_ _|refine blk_drew ?_|refine blk_alloc ?_ _));refine blk_far ?_ NB238_297.out _;(with_reducible repeat (first|refine blk_drewN ?_ _|refine blk_drew ?_|refine blk_alloc ?_ _));refine blk_far ?_ NB238_297.out _;(with_reducible repeat (first|refine blk_drewN ?_ _|refine blk_drew ?_|refine blk_alloc ?_ _));refine blk_far ?_ NB238_297.out _;(with_reducible repeat (first|refine blk_drewN ?_ _|refine blk_drew ?_|refine blk_alloc ?_ _));exact BK238.out) hb);have n17_:=Aside0.mk (blk_below (g:=gb260) (o:=.cells #[.slice Ao24 t242.length co24,.int .i64 t245,.slice Ao27 t246.length co27,.slice Ao28 t249.length co28,.slice Ao29 t252.length co29,.slice Ao30 t255.length co30,.int .i64 t258] 66 (0,0)) (by (with_reducible repeat (first|refine blk_drewN ?_ _|refine blk_drew ?_|refine blk_alloc ?_ _));refine blk_far ?_ NB260_297.out _;(with_reducible repeat (first|refine blk_drewN ?_ _|refine blk_drew ?_|refine blk_alloc ?_ _));refine blk_far ?_ NB260_297.out _;(with_reducible repeat (first|refine blk_drewN ?_ _|refine blk_drew ?_|refine blk_alloc ?_ _));refine blk_far ?_ NB260_297.out _;(with_reducible repeat (first|refine blk_drewN ?_ _|refine blk_drew ?_|refine blk_alloc ?_ _));refine blk_far ?_ NB260_297.out _;(with_reducible repeat (first|refine blk_drewN ?_ _|refine blk_drew ?_|refine blk_alloc ?_ _));refine blk_far ?_ NB260_297.out _;(with_reducible repeat (first|refine blk_drewN ?_ _|refine blk_drew ?_|refine blk_alloc ?_ _));refine blk_far ?_ NB260_297.out _;(with_reducible repeat (first|refine blk_drewN ?_ _|refine blk_drew ?_|refine blk_alloc ?_ _));refine blk_far ?_ NB260_297.out _;(with_reducible repeat (first|refine blk_drewN ?_ _|refine blk_drew ?_|refine blk_alloc ?_ _));exact BK260.out) hb);have n18_:=Aside0.mk (blk_below (g:=gb297) (o:=.cells #[.slice Ao83 t279.length co83,.int .i64 t282,.slice Ao87 t283.length co87,.slice Ao88 t286.length co88,.slice Ao89 t289.length co89,.slice Ao90 t292.length co90,.int .i64 t295] 66 (0,0)) (by (with_reducible repeat (first|refine blk_drewN ?_ _|refine blk_drew ?_|refine blk_alloc ?_ _));refine blk_put (cs:=#[.slice Ao83 t279.length co83,.int .i64 t282,.slice Ao87 t283.length co87,.slice Ao88 t286.length co88,.slice Ao89 t289.length co89,.slice Ao90 t292.length co90,.int .i64 0]) ?_ 6 _ rfl;(with_reducible repeat (first|refine blk_drewN ?_ _|refine blk_drew ?_|refine blk_alloc ?_ _));refine blk_put (cs:=#[.slice Ao83 t279.length co83,.int .i64 t282,.slice Ao87 t283.length co87,.slice Ao88 t286.length co88,.slice Ao89 t289.length co89,.slice none 0 0,.int .i64 0]) ?_ 5 _ rfl;(with_reducible repeat (first|refine blk_drewN ?_ _|refine blk_drew ?_|refine blk_alloc ?_ _));refine blk_put (cs:=#[.slice Ao83 t279.length co83,.int .i64 t282,.slice Ao87 t283.length co87,.slice Ao88 t286.length co88,.slice none 0 0,.slice none 0 0,.int .i64 0]) ?_ 4 _ rfl;(with_reducible repeat (first|refine blk_drewN ?_ _|refine blk_drew ?_|refine blk_alloc ?_ _));refine blk_put (cs:=#[.slice Ao83 t279.length co83,.int .i64 t282,.slice Ao87 t283.length co87,.slice none 0 0,.slice none 0 0,.slice none 0 0,.int .i64 0]) ?_ 3 _ rfl;(with_reducible repeat (first|refine blk_drewN ?_ _|refine blk_drew ?_|refine blk_alloc ?_ _));refine blk_put (cs:=#[.slice Ao83 t279.length co83,.int .i64 t282,.slice none 0 0,.slice none 0 0,.slice none 0 0,.slice none 0 0,.int .i64 0]) ?_ 2 _ rfl;(with_reducible repeat (first|refine blk_drewN ?_ _|refine blk_drew ?_|refine blk_alloc ?_ _));refine blk_put (cs:=#[.slice Ao83 t279.length co83,.int .i64 0,.slice none 0 0,.slice none 0 0,.slice none 0 0,.slice none 0 0,.int .i64 0]) ?_ 1 _ rfl;(with_reducible repeat (first|refine blk_drewN ?_ _|refine blk_drew ?_|refine blk_alloc ?_ _));refine blk_put (cs:=#[.slice none 0 0,.int .i64 0,.slice none 0 0,.slice none 0 0,.slice none 0 0,.slice none 0 0,.int .i64 0]) ?_ 0 _ rfl;(with_reducible repeat (first|refine blk_drewN ?_ _|refine blk_drew ?_|refine blk_alloc ?_ _));exact BK297.out) hb);have n19_:=Aside0.mk (below_step (by repeat (first|(with_reducible first|exact HB.out|apply below_alloc|apply pw_below_drewN|apply below_drew1|refine below_set ?_ GE238.out|refine below_set ?_ GE260.out|refine below_set ?_ GE297.out)|exact HB.out)) hb);clear HO_239000;clear HO_239002;clear HO_239003;clear HO_239004;clear HO_239005;clear HO_261000;clear HO_261002;clear HO_261003;clear HO_261004;clear HO_261005;clear HO278;clear HO281;clear HO285;clear HO288;clear HO291;clear HO294;clear BK238;clear BK260;clear BK297;clear HB;have HO_239000:=n0_;have HO_239002:=n1_;have HO_239003:=n2_;have HO_239004:=n3_;have HO_239005:=n4_;have HO_261000:=n5_;have HO_261002:=n6_;have HO_261003:=n7_;have HO_261004:=n8_;have HO_261005:=n9_;have HO278:=n10_;have HO281:=n11_;have HO285:=n12_;have HO288:=n13_;have HO291:=n14_;have HO294:=n15_;have BK238:=n16_;have BK260:=n17_;have BK297:=n18_;have HB:=n19_;clear n0_ n1_ n2_ n3_ n4_ n5_ n6_ n7_ n8_ n9_ n10_ n11_ n12_ n13_ n14_ n15_ n16_ n17_ n18_ n19_;(try clear hb);(try clear hb2);(try clear hk);(try clear hi)))
            ·go_meet
             case rel=>exact ⟨_,(true),(by first|rfl|(simp;done)|(simp [*];done)),H',⟨by have:=HJ8.out;have:=HJ45.out;first|omega|exact Nat.le_refl _⟩,⟨by (with_reducible repeat (first|apply R_alloc|apply R_drewN|apply R_drew));exact Kd.R_mono HO_239000.out (fun _ hk=>⟨hk.1.1.1.1,⟨hk.1.1.1.2.1,⟨hk.1.1.1.2.2,⟨hk.1.2,hk.2⟩⟩⟩⟩)⟩,⟨by (with_reducible repeat (first|apply R_alloc|apply R_drewN|apply R_drew));exact Kd.R_mono HO_239002.out (fun _ hk=>⟨hk.1.1.1,⟨hk.1.1.2.1,⟨hk.1.1.2.2,⟨hk.1.2,hk.2⟩⟩⟩⟩)⟩,⟨by (with_reducible repeat (first|apply R_alloc|apply R_drewN|apply R_drew));exact HO_239003.out⟩,⟨by (with_reducible repeat (first|apply R_alloc|apply R_drewN|apply R_drew));exact Kd.R_mono HO_239004.out (fun _ hk=>⟨hk.1.1.1.1,⟨hk.1.1.1.2.1,⟨hk.1.1.1.2.2,⟨hk.1.2,hk.2⟩⟩⟩⟩)⟩,⟨by (with_reducible repeat (first|apply R_alloc|apply R_drewN|apply R_drew));exact Kd.R_mono HO_239005.out (fun _ hk=>⟨hk.1.1.1,⟨hk.1.1.2.1,⟨hk.1.1.2.2,⟨hk.1.2,hk.2⟩⟩⟩⟩)⟩,⟨by (with_reducible repeat (first|apply R_alloc|apply R_drewN|apply R_drew));exact Kd.R_mono HO_261000.out (fun _ hk=>⟨hk.1.1.1.1,⟨hk.1.1.1.2.1,⟨hk.1.1.1.2.2,⟨hk.1.2,hk.2⟩⟩⟩⟩)⟩,⟨by (with_reducible repeat (first|apply R_alloc|apply R_drewN|apply R_drew));exact Kd.R_mono HO_261002.out (fun _ hk=>⟨hk.1.1.1,⟨hk.1.1.2.1,⟨hk.1.1.2.2,⟨hk.1.2,hk.2⟩⟩⟩⟩)⟩,⟨by (with_reducible repeat (first|apply R_alloc|apply R_drewN|apply R_drew));exact HO_261003.out⟩,⟨by (with_reducible repeat (first|apply R_alloc|apply R_drewN|apply R_drew));exact Kd.R_mono HO_261004.out (fun _ hk=>⟨hk.1.1.1.1,⟨hk.1.1.1.2.1,⟨hk.1.1.1.2.2,⟨hk.1.2,hk.2⟩⟩⟩⟩)⟩,⟨by (with_reducible repeat (first|apply R_alloc|apply R_drewN|apply R_drew));exact Kd.R_mono HO_261005.out (fun _ hk=>⟨hk.1.1.1,⟨hk.1.1.2.1,⟨hk.1.1.2.2,⟨hk.1.2,hk.2⟩⟩⟩⟩)⟩,⟨by (with_reducible repeat (first|apply R_alloc|apply R_drewN|apply R_drew));exact Kd.R_mono HO281.out (fun _ hk=>⟨hk.1.1.1.1.2,⟨hk.1.1.1.2,⟨hk.1.1.2,⟨hk.1.2,hk.1.1.1.1.1⟩⟩⟩⟩)⟩,⟨by (with_reducible repeat (first|apply R_alloc|apply R_drewN|apply R_drew));exact Kd.R_mono HO285.out (fun _ hk=>⟨hk.1.1.1.2,⟨hk.1.1.2,⟨hk.1.2,⟨hk.2,hk.1.1.1.1⟩⟩⟩⟩)⟩,⟨by (with_reducible repeat (first|apply R_alloc|apply R_drewN|apply R_drew));exact Kd.R_mono HO288.out (fun _ hk=>⟨hk.1.2,hk.2⟩)⟩,⟨by (with_reducible repeat (first|apply R_alloc|apply R_drewN|apply R_drew));exact Kd.R_mono HO291.out (fun _ hk=>⟨hk.1.1.1.1.2,⟨hk.1.1.1.2,⟨hk.1.1.2,⟨hk.1.2,hk.1.1.1.1.1⟩⟩⟩⟩)⟩,⟨by (with_reducible repeat (first|apply R_alloc|apply R_drewN|apply R_drew));exact Kd.R_mono HO294.out (fun _ hk=>⟨hk.1.1.1.2,⟨hk.1.1.2,⟨hk.1.2,⟨hk.2,hk.1.1.1.1⟩⟩⟩⟩)⟩,⟨by (with_reducible repeat (first|refine blk_drewN ?_ _|refine blk_drew ?_|refine blk_alloc ?_ _));exact BK238.out⟩,⟨by (with_reducible repeat (first|refine blk_drewN ?_ _|refine blk_drew ?_|refine blk_alloc ?_ _));exact BK260.out⟩,⟨by (with_reducible repeat (first|refine blk_drewN ?_ _|refine blk_drew ?_|refine blk_alloc ?_ _));exact BK297.out⟩,⟨by repeat (first|(with_reducible first|exact HB.out|apply below_alloc|apply pw_below_drewN|apply below_drew1|refine below_set ?_ GE238.out|refine below_set ?_ GE260.out|refine below_set ?_ GE297.out)|exact HB.out)⟩⟩
            ·go_meet
             case rel=>exact ⟨_,((t296 != t237)),(by first|rfl|(simp;done)|(simp [*];done)),H',⟨by have:=HJ8.out;have:=HJ45.out;first|omega|exact Nat.le_refl _⟩,⟨by (with_reducible repeat (first|apply R_alloc|apply R_drewN|apply R_drew));exact Kd.R_mono HO_239000.out (fun _ hk=>⟨hk.1.1.1.1,⟨hk.1.1.1.2.1,⟨hk.1.1.1.2.2,⟨hk.1.2,hk.2⟩⟩⟩⟩)⟩,⟨by (with_reducible repeat (first|apply R_alloc|apply R_drewN|apply R_drew));exact Kd.R_mono HO_239002.out (fun _ hk=>⟨hk.1.1.1,⟨hk.1.1.2.1,⟨hk.1.1.2.2,⟨hk.1.2,hk.2⟩⟩⟩⟩)⟩,⟨by (with_reducible repeat (first|apply R_alloc|apply R_drewN|apply R_drew));exact HO_239003.out⟩,⟨by (with_reducible repeat (first|apply R_alloc|apply R_drewN|apply R_drew));exact Kd.R_mono HO_239004.out (fun _ hk=>⟨hk.1.1.1.1,⟨hk.1.1.1.2.1,⟨hk.1.1.1.2.2,⟨hk.1.2,hk.2⟩⟩⟩⟩)⟩,⟨by (with_reducible repeat (first|apply R_alloc|apply R_drewN|apply R_drew));exact Kd.R_mono HO_239005.out (fun _ hk=>⟨hk.1.1.1,⟨hk.1.1.2.1,⟨hk.1.1.2.2,⟨hk.1.2,hk.2⟩⟩⟩⟩)⟩,⟨by (with_reducible repeat (first|apply R_alloc|apply R_drewN|apply R_drew));exact Kd.R_mono HO_261000.out (fun _ hk=>⟨hk.1.1.1.1,⟨hk.1.1.1.2.1,⟨hk.1.1.1.2.2,⟨hk.1.2,hk.2⟩⟩⟩⟩)⟩,⟨by (with_reducible repeat (first|apply R_alloc|apply R_drewN|apply R_drew));exact Kd.R_mono HO_261002.out (fun _ hk=>⟨hk.1.1.1,⟨hk.1.1.2.1,⟨hk.1.1.2.2,⟨hk.1.2,hk.2⟩⟩⟩⟩)⟩,⟨by (with_reducible repeat (first|apply R_alloc|apply R_drewN|apply R_drew));exact HO_261003.out⟩,⟨by (with_reducible repeat (first|apply R_alloc|apply R_drewN|apply R_drew));exact Kd.R_mono HO_261004.out (fun _ hk=>⟨hk.1.1.1.1,⟨hk.1.1.1.2.1,⟨hk.1.1.1.2.2,⟨hk.1.2,hk.2⟩⟩⟩⟩)⟩,⟨by (with_reducible repeat (first|apply R_alloc|apply R_drewN|apply R_drew));exact Kd.R_mono HO_261005.out (fun _ hk=>⟨hk.1.1.1,⟨hk.1.1.2.1,⟨hk.1.1.2.2,⟨hk.1.2,hk.2⟩⟩⟩⟩)⟩,⟨by (with_reducible repeat (first|apply R_alloc|apply R_drewN|apply R_drew));exact Kd.R_mono HO281.out (fun _ hk=>⟨hk.1.1.1.1.2,⟨hk.1.1.1.2,⟨hk.1.1.2,⟨hk.1.2,hk.1.1.1.1.1⟩⟩⟩⟩)⟩,⟨by (with_reducible repeat (first|apply R_alloc|apply R_drewN|apply R_drew));exact Kd.R_mono HO285.out (fun _ hk=>⟨hk.1.1.1.2,⟨hk.1.1.2,⟨hk.1.2,⟨hk.2,hk.1.1.1.1⟩⟩⟩⟩)⟩,⟨by (with_reducible repeat (first|apply R_alloc|apply R_drewN|apply R_drew));exact Kd.R_mono HO288.out (fun _ hk=>⟨hk.1.2,hk.2⟩)⟩,⟨by (with_reducible repeat (first|apply R_alloc|apply R_drewN|apply R_drew));exact Kd.R_mono HO291.out (fun _ hk=>⟨hk.1.1.1.1.2,⟨hk.1.1.1.2,⟨hk.1.1.2,⟨hk.1.2,hk.1.1.1.1.1⟩⟩⟩⟩)⟩,⟨by (with_reducible repeat (first|apply R_alloc|apply R_drewN|apply R_drew));exact Kd.R_mono HO294.out (fun _ hk=>⟨hk.1.1.1.2,⟨hk.1.1.2,⟨hk.1.2,⟨hk.2,hk.1.1.1.1⟩⟩⟩⟩)⟩,⟨by (with_reducible repeat (first|refine blk_drewN ?_ _|refine blk_drew ?_|refine blk_alloc ?_ _));exact BK238.out⟩,⟨by (with_reducible repeat (first|refine blk_drewN ?_ _|refine blk_drew ?_|refine blk_alloc ?_ _));exact BK260.out⟩,⟨by (with_reducible repeat (first|refine blk_drewN ?_ _|refine blk_drew ?_|refine blk_alloc ?_ _));exact BK297.out⟩,⟨by repeat (first|(with_reducible first|exact HB.out|apply below_alloc|apply pw_below_drewN|apply below_drew1|refine below_set ?_ GE238.out|refine below_set ?_ GE260.out|refine below_set ?_ GE297.out)|exact HB.out)⟩⟩
           case rest =>
            clear HC73
            try clear c1
            try clear c2
            try clear p2
            try clear c3
            try clear c4
            try clear c4b0
            try clear c5
            try clear c6
            try clear c7
            try clear c8
            try clear c9
            try clear c10
            try clear c12
            try clear c25
            try clear c32
            try clear c33
            try clear c37
            try clear c41
            try clear c44
            try clear c46
            try clear c47
            try clear c48
            try clear c49
            try clear c50
            try clear c50b0
            try clear c51
            try clear c52
            try clear c53
            try clear c54
            try clear c57
            try clear c61
            try clear c64
            try clear c64b0
            try clear c65
            try clear c70
            try clear c70b0
            try clear c70b1
            try clear c74
            try clear c84
            try clear c85
            try clear c92
            try clear c93
            try clear c94
            try clear c96
            try clear c99
            try clear c100
            try clear c102
            try clear hcz101_0
            try clear hcz101_1
            try clear hcz101_2
            try clear hcz101_3
            try clear hcz101_4
            try clear hcz101_5
            try clear hcz101_6
            try clear hcz103_0
            try clear hcz103_1
            try clear hcz103_2
            try clear hcz103_3
            try clear hcz103_4
            try clear hcz103_5
            try clear hcz103_6
            try clear hcz15_0
            try clear hcz15_1
            try clear hcz15_2
            try clear hcz15_3
            try clear hcz15_4
            try clear hcz15_5
            try clear hcz15_6
            try clear hcz26_0
            try clear hcz26_1
            try clear hcz26_2
            try clear hcz26_3
            try clear hcz26_4
            try clear hcz26_5
            try clear hcz26_6
            try clear hcz34_0
            try clear hcz34_1
            try clear hcz34_2
            try clear hcz34_3
            try clear hcz34_4
            try clear hcz34_5
            try clear hcz34_6
            try clear hcz35_0
            try clear hcz35_1
            try clear hcz35_2
            try clear hcz35_3
            try clear hcz35_4
            try clear hcz35_5
            try clear hcz35_6
            try clear hcz38_0
            try clear hcz38_1
            try clear hcz38_2
            try clear hcz38_3
            try clear hcz38_4
            try clear hcz38_5
            try clear hcz38_6
            try clear hcz39_0
            try clear hcz39_1
            try clear hcz39_2
            try clear hcz39_3
            try clear hcz39_4
            try clear hcz39_5
            try clear hcz39_6
            try clear hcz54_0
            try clear hcz54_1
            try clear hcz54_2
            try clear hcz54_3
            try clear hcz54_4
            try clear hcz54_5
            try clear hcz54_6
            try clear hcz55_0
            try clear hcz55_1
            try clear hcz55_2
            try clear hcz55_3
            try clear hcz55_4
            try clear hcz55_5
            try clear hcz55_6
            try clear hcz58_0
            try clear hcz58_1
            try clear hcz58_2
            try clear hcz58_3
            try clear hcz58_4
            try clear hcz58_5
            try clear hcz58_6
            try clear hcz59_0
            try clear hcz59_1
            try clear hcz59_2
            try clear hcz59_3
            try clear hcz59_4
            try clear hcz59_5
            try clear hcz59_6
            try clear hcz66_0
            try clear hcz66_1
            try clear hcz66_2
            try clear hcz66_3
            try clear hcz66_4
            try clear hcz66_5
            try clear hcz66_6
            try clear hcz68_0
            try clear hcz68_1
            try clear hcz68_2
            try clear hcz68_3
            try clear hcz68_4
            try clear hcz68_5
            try clear hcz68_6
            try clear hcz75_0
            try clear hcz75_1
            try clear hcz75_2
            try clear hcz75_3
            try clear hcz75_4
            try clear hcz75_5
            try clear hcz75_6
            try clear hcz77_0
            try clear hcz77_1
            try clear hcz77_2
            try clear hcz77_3
            try clear hcz77_4
            try clear hcz77_5
            try clear hcz77_6
            try clear hcz86_0
            try clear hcz86_1
            try clear hcz86_2
            try clear hcz86_3
            try clear hcz86_4
            try clear hcz86_5
            try clear hcz86_6
            try clear hcz95_0
            try clear hcz95_1
            try clear hcz95_2
            try clear hcz95_3
            try clear hcz95_4
            try clear hcz95_5
            try clear hcz95_6
            try clear hcz97_0
            try clear hcz97_1
            try clear hcz97_2
            try clear hcz97_3
            try clear hcz97_4
            try clear hcz97_5
            try clear hcz97_6
            try clear hfz101_0
            try clear hfz101_1
            try clear hfz101_2
            try clear hfz101_3
            try clear hfz101_4
            try clear hfz101_5
            try clear hfz101_6
            try clear hfz103_0
            try clear hfz103_1
            try clear hfz103_2
            try clear hfz103_3
            try clear hfz103_4
            try clear hfz103_5
            try clear hfz103_6
            try clear hfz15_0
            try clear hfz15_1
            try clear hfz15_2
            try clear hfz15_3
            try clear hfz15_4
            try clear hfz15_5
            try clear hfz15_6
            try clear hfz26_0
            try clear hfz26_1
            try clear hfz26_2
            try clear hfz26_3
            try clear hfz26_4
            try clear hfz26_5
            try clear hfz26_6
            try clear hfz34_0
            try clear hfz34_1
            try clear hfz34_2
            try clear hfz34_3
            try clear hfz34_4
            try clear hfz34_5
            try clear hfz34_6
            try clear hfz35_0
            try clear hfz35_1
            try clear hfz35_2
            try clear hfz35_3
            try clear hfz35_4
            try clear hfz35_5
            try clear hfz35_6
            try clear hfz38_0
            try clear hfz38_1
            try clear hfz38_2
            try clear hfz38_3
            try clear hfz38_4
            try clear hfz38_5
            try clear hfz38_6
            try clear hfz39_0
            try clear hfz39_1
            try clear hfz39_2
            try clear hfz39_3
            try clear hfz39_4
            try clear hfz39_5
            try clear hfz39_6
            try clear hfz54_0
            try clear hfz54_1
            try clear hfz54_2
            try clear hfz54_3
            try clear hfz54_4
            try clear hfz54_5
            try clear hfz54_6
            try clear hfz55_0
            try clear hfz55_1
            try clear hfz55_2
            try clear hfz55_3
            try clear hfz55_4
            try clear hfz55_5
            try clear hfz55_6
            try clear hfz58_0
            try clear hfz58_1
            try clear hfz58_2
            try clear hfz58_3
            try clear hfz58_4
            try clear hfz58_5
            try clear hfz58_6
            try clear hfz59_0
            try clear hfz59_1
            try clear hfz59_2
            try clear hfz59_3
            try clear hfz59_4
            try clear hfz59_5
            try clear hfz59_6
            try clear hfz66_0
            try clear hfz66_1
            try clear hfz66_2
            try clear hfz66_3
            try clear hfz66_4
            try clear hfz66_5
            try clear hfz66_6
            try clear hfz68_0
            try clear hfz68_1
            try clear hfz68_2
            try clear hfz68_3
            try clear hfz68_4
            try clear hfz68_5
            try clear hfz68_6
            try clear hfz75_0
            try clear hfz75_1
            try clear hfz75_2
            try clear hfz75_3
            try clear hfz75_4
            try clear hfz75_5
            try clear hfz75_6
            try clear hfz77_0
            try clear hfz77_1
            try clear hfz77_2
            try clear hfz77_3
            try clear hfz77_4
            try clear hfz77_5
            try clear hfz77_6
            try clear hfz86_0
            try clear hfz86_1
            try clear hfz86_2
            try clear hfz86_3
            try clear hfz86_4
            try clear hfz86_5
            try clear hfz86_6
            try clear hfz95_0
            try clear hfz95_1
            try clear hfz95_2
            try clear hfz95_3
            try clear hfz95_4
            try clear hfz95_5
            try clear hfz95_6
            try clear hfz97_0
            try clear hfz97_1
            try clear hfz97_2
            try clear hfz97_3
            try clear hfz97_4
            try clear hfz97_5
            try clear hfz97_6
            try clear p2
            obtain ⟨kq,x92_72,rfl,HA,HJ72,HO_239000,HO_239002,HO_239003,HO_239004,HO_239005,HO_261000,HO_261002,HO_261003,HO_261004,HO_261005,HO_298000,HO_298002,HO_298003,HO_298004,HO_298005,BK238,BK260,BK297,HB⟩:=hcut
            have hl261000_72:=(Kd.R_reads' HO_261000.out).1
            rw [hl261000_72] at HO_261000
            (try simp only [hl261000_72])
            (try simp only [hl261000_72] at BK238)
            (try simp only [hl261000_72] at BK260)
            (try simp only [hl261000_72] at BK297)
            (try simp only [hl261000_72] at HO_239000)
            (try simp only [hl261000_72] at HO_239002)
            (try simp only [hl261000_72] at HO_239003)
            (try simp only [hl261000_72] at HO_239004)
            (try simp only [hl261000_72] at HO_239005)
            (try simp only [hl261000_72] at HO_261002)
            (try simp only [hl261000_72] at HO_261003)
            (try simp only [hl261000_72] at HO_261004)
            (try simp only [hl261000_72] at HO_261005)
            (try simp only [hl261000_72] at HO_298000)
            (try simp only [hl261000_72] at HO_298002)
            (try simp only [hl261000_72] at HO_298003)
            (try simp only [hl261000_72] at HO_298004)
            (try simp only [hl261000_72] at HO_298005)
            have hl261002_72:=(Kd.R_reads' HO_261002.out).1
            rw [hl261002_72] at HO_261002
            (try simp only [hl261002_72])
            (try simp only [hl261002_72] at BK238)
            (try simp only [hl261002_72] at BK260)
            (try simp only [hl261002_72] at BK297)
            (try simp only [hl261002_72] at HO_239000)
            (try simp only [hl261002_72] at HO_239002)
            (try simp only [hl261002_72] at HO_239003)
            (try simp only [hl261002_72] at HO_239004)
            (try simp only [hl261002_72] at HO_239005)
            (try simp only [hl261002_72] at HO_261000)
            (try simp only [hl261002_72] at HO_261003)
            (try simp only [hl261002_72] at HO_261004)
            (try simp only [hl261002_72] at HO_261005)
            (try simp only [hl261002_72] at HO_298000)
            (try simp only [hl261002_72] at HO_298002)
            (try simp only [hl261002_72] at HO_298003)
            (try simp only [hl261002_72] at HO_298004)
            (try simp only [hl261002_72] at HO_298005)
            have hl261003_72:=(Kd.R_reads' HO_261003.out).1
            rw [hl261003_72] at HO_261003
            (try simp only [hl261003_72])
            (try simp only [hl261003_72] at BK238)
            (try simp only [hl261003_72] at BK260)
            (try simp only [hl261003_72] at BK297)
            (try simp only [hl261003_72] at HO_239000)
            (try simp only [hl261003_72] at HO_239002)
            (try simp only [hl261003_72] at HO_239003)
            (try simp only [hl261003_72] at HO_239004)
            (try simp only [hl261003_72] at HO_239005)
            (try simp only [hl261003_72] at HO_261000)
            (try simp only [hl261003_72] at HO_261002)
            (try simp only [hl261003_72] at HO_261004)
            (try simp only [hl261003_72] at HO_261005)
            (try simp only [hl261003_72] at HO_298000)
            (try simp only [hl261003_72] at HO_298002)
            (try simp only [hl261003_72] at HO_298003)
            (try simp only [hl261003_72] at HO_298004)
            (try simp only [hl261003_72] at HO_298005)
            have hl261004_72:=(Kd.R_reads' HO_261004.out).1
            rw [hl261004_72] at HO_261004
            (try simp only [hl261004_72])
            (try simp only [hl261004_72] at BK238)
            (try simp only [hl261004_72] at BK260)
            (try simp only [hl261004_72] at BK297)
            (try simp only [hl261004_72] at HO_239000)
            (try simp only [hl261004_72] at HO_239002)
            (try simp only [hl261004_72] at HO_239003)
            (try simp only [hl261004_72] at HO_239004)
            (try simp only [hl261004_72] at HO_239005)
            (try simp only [hl261004_72] at HO_261000)
            (try simp only [hl261004_72] at HO_261002)
            (try simp only [hl261004_72] at HO_261003)
            (try simp only [hl261004_72] at HO_261005)
            (try simp only [hl261004_72] at HO_298000)
            (try simp only [hl261004_72] at HO_298002)
            (try simp only [hl261004_72] at HO_298003)
            (try simp only [hl261004_72] at HO_298004)
            (try simp only [hl261004_72] at HO_298005)
            have hl261005_72:=(Kd.R_reads' HO_261005.out).1
            rw [hl261005_72] at HO_261005
            (try simp only [hl261005_72])
            (try simp only [hl261005_72] at BK238)
            (try simp only [hl261005_72] at BK260)
            (try simp only [hl261005_72] at BK297)
            (try simp only [hl261005_72] at HO_239000)
            (try simp only [hl261005_72] at HO_239002)
            (try simp only [hl261005_72] at HO_239003)
            (try simp only [hl261005_72] at HO_239004)
            (try simp only [hl261005_72] at HO_239005)
            (try simp only [hl261005_72] at HO_261000)
            (try simp only [hl261005_72] at HO_261002)
            (try simp only [hl261005_72] at HO_261003)
            (try simp only [hl261005_72] at HO_261004)
            (try simp only [hl261005_72] at HO_298000)
            (try simp only [hl261005_72] at HO_298002)
            (try simp only [hl261005_72] at HO_298003)
            (try simp only [hl261005_72] at HO_298004)
            (try simp only [hl261005_72] at HO_298005)
            cases kq with
            | zero=>exact absurd HA.out (by simp [laws_FnExactNewWindow.j2])
            | succ kj72 =>
             have H:=HA.out
             clear HA
             simp only [laws_FnExactNewWindow.j2] at H
             by_cases c105 : x92_72 = true
             ·subst c105
              have H1 : (some false) = some r:=by rw [if_pos rfl] at H;exact H
              clear H
              have H:=H1
              clear H1
              obtain rfl:=Option.some.inj H
              go_wp2
              go_ret
              exact ⟨by first|rfl|(simp [errW_none,errW_some] <;> rfl)|(simp [*,errW_none,errW_some] <;> rfl),by repeat (first|(with_reducible first|exact HB.out|apply below_alloc|apply pw_below_drewN|apply below_drew1|refine below_set ?_ GE238.out|refine below_set ?_ GE260.out|refine below_set ?_ GE297.out)|exact HB.out)⟩
             ·replace c105:=Bool.eq_false_iff.mpr c105
              subst c105
              have H1 : ((laws_heldWindow.f kj72 t270 t245 t271 t272 t273 t274 t258 1).bind fun t299=>(if t299 < 0 then (some false) else (if t299 = t269 then (some true) else (some false)))) = some r:=by rw [if_neg (show ¬ (false = true) by decide)] at H;exact H
              clear H
              have H:=H1
              clear H1
              replace H:=Option.bind_eq_some_iff.mp H
              obtain ⟨t299,A1060,H⟩:=H
              replace H : (if t299 < 0 then (some false) else (if t299 = t269 then (some true) else (some false))) = some r:=H
              have A106:=Aside0.mk A1060
              clear A1060
              by_cases c107 : t299 < 0
              ·rw [if_pos c107] at H
               have c107b0 : decide (t299 < 0) = true:=decide_eq_true c107
               clear c107
               obtain rfl:=Option.some.inj H
               have hnb108:=NB260_238.out
               have hnc108:=NB238_260.out
               have hnb109:=NB260_297.out
               have hnc109:=NB297_260.out
               have hcz110_0 : wc.cell? ⟨gb260,0,none⟩ = some (.slice Ao24 t270.length co24):=(blk_cell BK260.out 0).trans rfl
               have hcz110_1 : wc.cell? ⟨gb260,1,none⟩ = some (.int .i64 t245):=(blk_cell BK260.out 1).trans rfl
               have hcz110_2 : wc.cell? ⟨gb260,2,none⟩ = some (.slice Ao27 t271.length co27):=(blk_cell BK260.out 2).trans rfl
               have hcz110_3 : wc.cell? ⟨gb260,3,none⟩ = some (.slice Ao28 t272.length co28):=(blk_cell BK260.out 3).trans rfl
               have hcz110_4 : wc.cell? ⟨gb260,4,none⟩ = some (.slice Ao29 t273.length co29):=(blk_cell BK260.out 4).trans rfl
               have hcz110_5 : wc.cell? ⟨gb260,5,none⟩ = some (.slice Ao30 t274.length co30):=(blk_cell BK260.out 5).trans rfl
               have hcz110_6 : wc.cell? ⟨gb260,6,none⟩ = some (.int .i64 t258):=(blk_cell BK260.out 6).trans rfl
               have hfz110_0:=blk_frozen BK260.out 0
               have hfz110_1:=blk_frozen BK260.out 1
               have hfz110_2:=blk_frozen BK260.out 2
               have hfz110_3:=blk_frozen BK260.out 3
               have hfz110_4:=blk_frozen BK260.out 4
               have hfz110_5:=blk_frozen BK260.out 5
               have hfz110_6:=blk_frozen BK260.out 6
               go_wp2_with (first|((with_reducible refine gate_callee (f:=54) rfl ?_);refine goesL_ (some 95) rfl rfl Try.func54 (by kernel_rfl) rfl #[.agg #[.slice Ao24 t270.length co24,.int .i64 t245,.slice Ao27 t271.length co27,.slice Ao28 t272.length co28,.slice Ao29 t273.length co29,.slice Ao30 t274.length co30,.int .i64 t258],.int .i64 1] rfl (by (try simp only [List.map_toArray,List.map_cons,List.map_nil]);first|done|rfl|(simp only [List.length_drop,List.length_take];rfl)) ?_;(with_reducible refine (laws_heldWindow.calls kj72 _ _ t270 t245 _ _ t271 _ _ t272 _ _ t273 _ _ t274 t258 1 t299 _ ?side1 ?side2 ?side3 ?side4 ?side5 ?side6 ?side7 ?side8 ?side9 ?side10 A106.out).mono ?_);(case side1=>repeat (first|exact (Kd.R_reads' HO_261000.out).2.2|(with_reducible refine C_alloc ?_ _)|(with_reducible refine C_drewN ?_ _)|(with_reducible refine C_drew ?_)));(case side2=>exact (Kd.R_reads' HO_261000.out).2.1);(case side3=>repeat (first|exact (Kd.R_reads' HO_261002.out).2.2|(with_reducible refine C_alloc ?_ _)|(with_reducible refine C_drewN ?_ _)|(with_reducible refine C_drew ?_)));(case side4=>exact (Kd.R_reads' HO_261002.out).2.1);(case side5=>repeat (first|exact (Kd.R_reads' HO_261003.out).2.2|(with_reducible refine C_alloc ?_ _)|(with_reducible refine C_drewN ?_ _)|(with_reducible refine C_drew ?_)));(case side6=>exact (Kd.R_reads' HO_261003.out).2.1);(case side7=>repeat (first|exact (Kd.R_reads' HO_261004.out).2.2|(with_reducible refine C_alloc ?_ _)|(with_reducible refine C_drewN ?_ _)|(with_reducible refine C_drew ?_)));(case side8=>exact (Kd.R_reads' HO_261004.out).2.1);(case side9=>repeat (first|exact (Kd.R_reads' HO_261005.out).2.2|(with_reducible refine C_alloc ?_ _)|(with_reducible refine C_drewN ?_ _)|(with_reducible refine C_drew ?_)));(case side10=>exact (Kd.R_reads' HO_261005.out).2.1);rintro e w111 ⟨rfl,hb⟩;refine ⟨_,rfl,?_⟩;have n0_:=Aside0.mk (Kd.R_below (by (with_reducible repeat (first|apply R_alloc|apply R_drewN|apply R_drew));exact HO_239000.out) hb);have n1_:=Aside0.mk (Kd.R_below (by (with_reducible repeat (first|apply R_alloc|apply R_drewN|apply R_drew));exact HO_239002.out) hb);have n2_:=Aside0.mk (Kd.R_below (by (with_reducible repeat (first|apply R_alloc|apply R_drewN|apply R_drew));exact HO_239003.out) hb);have n3_:=Aside0.mk (Kd.R_below (by (with_reducible repeat (first|apply R_alloc|apply R_drewN|apply R_drew));exact HO_239004.out) hb);have n4_:=Aside0.mk (Kd.R_below (by (with_reducible repeat (first|apply R_alloc|apply R_drewN|apply R_drew));exact HO_239005.out) hb);have n5_:=Aside0.mk (Kd.R_below (by (with_reducible repeat (first|apply R_alloc|apply R_drewN|apply R_drew));exact HO_261000.out) hb);have n6_:=Aside0.mk (Kd.R_below (by (with_reducible repeat (first|apply R_alloc|apply R_drewN|apply R_drew));exact HO_261002.out) hb);have n7_:=Aside0.mk (Kd.R_below (by (with_reducible repeat (first|apply R_alloc|apply R_drewN|apply R_drew));exact HO_261003.out) hb);have n8_:=Aside0.mk (Kd.R_below (by (with_reducible repeat (first|apply R_alloc|apply R_drewN|apply R_drew));exact HO_261004.out) hb);have n9_:=Aside0.mk (Kd.R_below (by (with_reducible repeat (first|apply R_alloc|apply R_drewN|apply R_drew));exact HO_261005.out) hb);have n10_:=Aside0.mk (Kd.R_below (by (with_reducible repeat (first|apply R_alloc|apply R_drewN|apply R_drew));exact HO_298000.out) hb);have n11_:=Aside0.mk (Kd.R_below (by (with_reducible repeat (first|apply R_alloc|apply R_drewN|apply R_drew));exact HO_298002.out) hb);have n12_:=Aside0.mk (Kd.R_below (by (with_reducible repeat (first|apply R_alloc|apply R_drewN|apply R_drew));exact HO_298003.out) hb);have n13_:=Aside0.mk (Kd.R_below (by (with_reducible repeat (first|apply R_alloc|apply R_drewN|apply R_drew));exact HO_298004.out) hb);have n14_:=Aside0.mk (Kd.R_below (by (with_reducible repeat (first|apply R_alloc|apply R_drewN|apply R_drew));exact HO_298005.out) hb);have n15_:=Aside0.mk (blk_below (g:=gb238) (o:=.cells #[.slice Ao14 t220.length co14,.int .i64 t223,.slice Ao16 t224.length co16,.slice Ao17 t227.length co17,.slice Ao18 t230.length co18,.slice Ao19 t233.length co19,.int .i64 t236] 66 (0,0)) (by (with_reducible repeat (first|refine blk_drewN ?_ _|refine blk_drew ?_|refine blk_alloc ?_ _));exact BK238.out) hb);have n16_:=Aside0.mk (blk_below (g:=gb260) (o:=.cells #[.slice Ao24 t270.length co24,.int .i64 t245,.slice Ao27 t271.length co27,.slice Ao28 t272.length co28,.slice Ao29 t273.length co29,.slice Ao30 t274.length co30,.int .i64 t258] 66 (0,0)) (by (with_reducible repeat (first|refine blk_drewN ?_ _|refine blk_drew ?_|refine blk_alloc ?_ _));exact BK260.out) hb);have n17_:=Aside0.mk (blk_below (g:=gb297) (o:=.cells #[.slice Ao83 t279.length co83,.int .i64 t282,.slice Ao87 t283.length co87,.slice Ao88 t286.length co88,.slice Ao89 t289.length co89,.slice Ao90 t292.length co90,.int .i64 t295] 66 (0,0)) (by (with_reducible repeat (first|refine blk_drewN ?_ _|refine blk_drew ?_|refine blk_alloc ?_ _));exact BK297.out) hb);have n18_:=Aside0.mk (below_step (by repeat (first|(with_reducible first|exact HB.out|apply below_alloc|apply pw_below_drewN|apply below_drew1|refine below_set ?_ GE238.out|refine below_set ?_ GE260.out|refine below_set ?_ GE297.out)|exact HB.out)) hb);clear HO_239000;clear HO_239002;clear HO_239003;clear HO_239004;clear HO_239005;clear HO_261000;clear HO_261002;clear HO_261003;clear HO_261004;clear HO_261005;clear HO_298000;clear HO_298002;clear HO_298003;clear HO_298004;clear HO_298005;clear BK238;clear BK260;clear BK297;clear HB;have HO_239000:=n0_;have HO_239002:=n1_;have HO_239003:=n2_;have HO_239004:=n3_;have HO_239005:=n4_;have HO_261000:=n5_;have HO_261002:=n6_;have HO_261003:=n7_;have HO_261004:=n8_;have HO_261005:=n9_;have HO_298000:=n10_;have HO_298002:=n11_;have HO_298003:=n12_;have HO_298004:=n13_;have HO_298005:=n14_;have BK238:=n15_;have BK260:=n16_;have BK297:=n17_;have HB:=n18_;clear n0_ n1_ n2_ n3_ n4_ n5_ n6_ n7_ n8_ n9_ n10_ n11_ n12_ n13_ n14_ n15_ n16_ n17_ n18_;(try clear hb);(try clear hb2);(try clear hk);(try clear hi)))
               go_ret
               exact ⟨by first|rfl|(simp [errW_none,errW_some] <;> rfl)|(simp [*,errW_none,errW_some] <;> rfl),by repeat (first|(with_reducible first|exact HB.out|apply below_alloc|apply pw_below_drewN|apply below_drew1|refine below_set ?_ GE238.out|refine below_set ?_ GE260.out|refine below_set ?_ GE297.out)|exact HB.out)⟩
              ·rw [if_neg c107] at H
               have c107b0 : decide (t299 < 0) = false:=decide_eq_false c107
               clear c107
               by_cases c112 : t299 = t269
               case' pos =>
                rw [if_pos c112] at H
                have c112b0 : (t299 == t269) = true:=beq_iff_eq.mpr c112
                have c112b1 : (t299 != t269) = false:=bne_eq_false_iff_eq.mpr c112
                clear c112
                obtain rfl:=Option.some.inj H
                have hnb113:=NB260_238.out
                have hnc113:=NB238_260.out
                have hnb114:=NB260_297.out
                have hnc114:=NB297_260.out
                have hcz115_0 : wc.cell? ⟨gb260,0,none⟩ = some (.slice Ao24 t270.length co24):=(blk_cell BK260.out 0).trans rfl
                have hcz115_1 : wc.cell? ⟨gb260,1,none⟩ = some (.int .i64 t245):=(blk_cell BK260.out 1).trans rfl
                have hcz115_2 : wc.cell? ⟨gb260,2,none⟩ = some (.slice Ao27 t271.length co27):=(blk_cell BK260.out 2).trans rfl
                have hcz115_3 : wc.cell? ⟨gb260,3,none⟩ = some (.slice Ao28 t272.length co28):=(blk_cell BK260.out 3).trans rfl
                have hcz115_4 : wc.cell? ⟨gb260,4,none⟩ = some (.slice Ao29 t273.length co29):=(blk_cell BK260.out 4).trans rfl
                have hcz115_5 : wc.cell? ⟨gb260,5,none⟩ = some (.slice Ao30 t274.length co30):=(blk_cell BK260.out 5).trans rfl
                have hcz115_6 : wc.cell? ⟨gb260,6,none⟩ = some (.int .i64 t258):=(blk_cell BK260.out 6).trans rfl
                have hfz115_0:=blk_frozen BK260.out 0
                have hfz115_1:=blk_frozen BK260.out 1
                have hfz115_2:=blk_frozen BK260.out 2
                have hfz115_3:=blk_frozen BK260.out 3
                have hfz115_4:=blk_frozen BK260.out 4
                have hfz115_5:=blk_frozen BK260.out 5
                have hfz115_6:=blk_frozen BK260.out 6
               case' neg =>
                rw [if_neg c112] at H
                have c112b0 : (t299 == t269) = false:=beq_eq_false_iff_ne.mpr c112
                have c112b1 : (t299 != t269) = true:=bne_iff_ne.mpr c112
                obtain rfl:=Option.some.inj H
                have hnb117:=NB260_238.out
                have hnc117:=NB238_260.out
                have hnb118:=NB260_297.out
                have hnc118:=NB297_260.out
                have hcz119_0 : wc.cell? ⟨gb260,0,none⟩ = some (.slice Ao24 t270.length co24):=(blk_cell BK260.out 0).trans rfl
                have hcz119_1 : wc.cell? ⟨gb260,1,none⟩ = some (.int .i64 t245):=(blk_cell BK260.out 1).trans rfl
                have hcz119_2 : wc.cell? ⟨gb260,2,none⟩ = some (.slice Ao27 t271.length co27):=(blk_cell BK260.out 2).trans rfl
                have hcz119_3 : wc.cell? ⟨gb260,3,none⟩ = some (.slice Ao28 t272.length co28):=(blk_cell BK260.out 3).trans rfl
                have hcz119_4 : wc.cell? ⟨gb260,4,none⟩ = some (.slice Ao29 t273.length co29):=(blk_cell BK260.out 4).trans rfl
                have hcz119_5 : wc.cell? ⟨gb260,5,none⟩ = some (.slice Ao30 t274.length co30):=(blk_cell BK260.out 5).trans rfl
                have hcz119_6 : wc.cell? ⟨gb260,6,none⟩ = some (.int .i64 t258):=(blk_cell BK260.out 6).trans rfl
                have hfz119_0:=blk_frozen BK260.out 0
                have hfz119_1:=blk_frozen BK260.out 1
                have hfz119_2:=blk_frozen BK260.out 2
                have hfz119_3:=blk_frozen BK260.out 3
                have hfz119_4:=blk_frozen BK260.out 4
                have hfz119_5:=blk_frozen BK260.out 5
                have hfz119_6:=blk_frozen BK260.out 6
               all_goals
                go_wp2_with (first|((with_reducible refine gate_callee (f:=54) rfl ?_);refine goesL_ (some 95) rfl rfl Try.func54 (by kernel_rfl) rfl #[.agg #[.slice Ao24 t270.length co24,.int .i64 t245,.slice Ao27 t271.length co27,.slice Ao28 t272.length co28,.slice Ao29 t273.length co29,.slice Ao30 t274.length co30,.int .i64 t258],.int .i64 1] rfl (by (try simp only [List.map_toArray,List.map_cons,List.map_nil]);first|done|rfl|(simp only [List.length_drop,List.length_take];rfl)) ?_;(with_reducible refine (laws_heldWindow.calls kj72 _ _ t270 t245 _ _ t271 _ _ t272 _ _ t273 _ _ t274 t258 1 t299 _ ?side1 ?side2 ?side3 ?side4 ?side5 ?side6 ?side7 ?side8 ?side9 ?side10 A106.out).mono ?_);(case side1=>repeat (first|exact (Kd.R_reads' HO_261000.out).2.2|(with_reducible refine C_alloc ?_ _)|(with_reducible refine C_drewN ?_ _)|(with_reducible refine C_drew ?_)));(case side2=>exact (Kd.R_reads' HO_261000.out).2.1);(case side3=>repeat (first|exact (Kd.R_reads' HO_261002.out).2.2|(with_reducible refine C_alloc ?_ _)|(with_reducible refine C_drewN ?_ _)|(with_reducible refine C_drew ?_)));(case side4=>exact (Kd.R_reads' HO_261002.out).2.1);(case side5=>repeat (first|exact (Kd.R_reads' HO_261003.out).2.2|(with_reducible refine C_alloc ?_ _)|(with_reducible refine C_drewN ?_ _)|(with_reducible refine C_drew ?_)));(case side6=>exact (Kd.R_reads' HO_261003.out).2.1);(case side7=>repeat (first|exact (Kd.R_reads' HO_261004.out).2.2|(with_reducible refine C_alloc ?_ _)|(with_reducible refine C_drewN ?_ _)|(with_reducible refine C_drew ?_)));(case side8=>exact (Kd.R_reads' HO_261004.out).2.1);(case side9=>repeat (first|exact (Kd.R_reads' HO_261005.out).2.2|(with_reducible refine C_alloc ?_ _)|(with_reducible refine C_drewN ?_ _)|(with_reducible refine C_drew ?_)));(case side10=>exact (Kd.R_reads' HO_261005.out).2.1);rintro e w116 ⟨rfl,hb⟩;refine ⟨_,rfl,?_⟩;have n0_:=Aside0.mk (Kd.R_below (by (with_reducible repeat (first|apply R_alloc|apply R_drewN|apply R_drew));exact HO_239000.out) hb);have n1_:=Aside0.mk (Kd.R_below (by (with_reducible repeat (first|apply R_alloc|apply R_drewN|apply R_drew));exact HO_239002.out) hb);have n2_:=Aside0.mk (Kd.R_below (by (with_reducible repeat (first|apply R_alloc|apply R_drewN|apply R_drew));exact HO_239003.out) hb);have n3_:=Aside0.mk (Kd.R_below (by (with_reducible repeat (first|apply R_alloc|apply R_drewN|apply R_drew));exact HO_239004.out) hb);have n4_:=Aside0.mk (Kd.R_below (by (with_reducible repeat (first|apply R_alloc|apply R_drewN|apply R_drew));exact HO_239005.out) hb);have n5_:=Aside0.mk (Kd.R_below (by (with_reducible repeat (first|apply R_alloc|apply R_drewN|apply R_drew));exact HO_261000.out) hb);have n6_:=Aside0.mk (Kd.R_below (by (with_reducible repeat (first|apply R_alloc|apply R_drewN|apply R_drew));exact HO_261002.out) hb);have n7_:=Aside0.mk (Kd.R_below (by (with_reducible repeat (first|apply R_alloc|apply R_drewN|apply R_drew));exact HO_261003.out) hb);have n8_:=Aside0.mk (Kd.R_below (by (with_reducible repeat (first|apply R_alloc|apply R_drewN|apply R_drew));exact HO_261004.out) hb);have n9_:=Aside0.mk (Kd.R_below (by (with_reducible repeat (first|apply R_alloc|apply R_drewN|apply R_drew));exact HO_261005.out) hb);have n10_:=Aside0.mk (Kd.R_below (by (with_reducible repeat (first|apply R_alloc|apply R_drewN|apply R_drew));exact HO_298000.out) hb);have n11_:=Aside0.mk (Kd.R_below (by (with_reducible repeat (first|apply R_alloc|apply R_drewN|apply R_drew));exact HO_298002.out) hb);have n12_:=Aside0.mk (Kd.R_below (by (with_reducible repeat (first|apply R_alloc|apply R_drewN|apply R_drew));exact HO_298003.out) hb);have n13_:=Aside0.mk (Kd.R_below (by (with_reducible repeat (first|apply R_alloc|apply R_drewN|apply R_drew));exact HO_298004.out) hb);have n14_:=Aside0.mk (Kd.R_below (by (with_reducible repeat (first|apply R_alloc|apply R_drewN|apply R_drew));exact HO_298005.out) hb);have n15_:=Aside0.mk (blk_below (g:=gb238) (o:=.cells #[.slice Ao14 t220.length co14,.int .i64 t223,.slice Ao16 t224.length co16,.slice Ao17 t227.length co17,.slice Ao18 t230.length co18,.slice Ao19 t233.length co19,.int .i64 t236] 66 (0,0)) (by (with_reducible repeat (first|refine blk_drewN ?_ _|refine blk_drew ?_|refine blk_alloc ?_ _));exact BK238.out) hb);have n16_:=Aside0.mk (blk_below (g:=gb260) (o:=.cells #[.slice Ao24 t270.length co24,.int .i64 t245,.slice Ao27 t271.length co27,.slice Ao28 t272.length co28,.slice Ao29 t273.length co29,.slice Ao30 t274.length co30,.int .i64 t258] 66 (0,0)) (by (with_reducible repeat (first|refine blk_drewN ?_ _|refine blk_drew ?_|refine blk_alloc ?_ _));exact BK260.out) hb);have n17_:=Aside0.mk (blk_below (g:=gb297) (o:=.cells #[.slice Ao83 t279.length co83,.int .i64 t282,.slice Ao87 t283.length co87,.slice Ao88 t286.length co88,.slice Ao89 t289.length co89,.slice Ao90 t292.length co90,.int .i64 t295] 66 (0,0)) (by (with_reducible repeat (first|refine blk_drewN ?_ _|refine blk_drew ?_|refine blk_alloc ?_ _));exact BK297.out) hb);have n18_:=Aside0.mk (below_step (by repeat (first|(with_reducible first|exact HB.out|apply below_alloc|apply pw_below_drewN|apply below_drew1|refine below_set ?_ GE238.out|refine below_set ?_ GE260.out|refine below_set ?_ GE297.out)|exact HB.out)) hb);clear HO_239000;clear HO_239002;clear HO_239003;clear HO_239004;clear HO_239005;clear HO_261000;clear HO_261002;clear HO_261003;clear HO_261004;clear HO_261005;clear HO_298000;clear HO_298002;clear HO_298003;clear HO_298004;clear HO_298005;clear BK238;clear BK260;clear BK297;clear HB;have HO_239000:=n0_;have HO_239002:=n1_;have HO_239003:=n2_;have HO_239004:=n3_;have HO_239005:=n4_;have HO_261000:=n5_;have HO_261002:=n6_;have HO_261003:=n7_;have HO_261004:=n8_;have HO_261005:=n9_;have HO_298000:=n10_;have HO_298002:=n11_;have HO_298003:=n12_;have HO_298004:=n13_;have HO_298005:=n14_;have BK238:=n15_;have BK260:=n16_;have BK297:=n17_;have HB:=n18_;clear n0_ n1_ n2_ n3_ n4_ n5_ n6_ n7_ n8_ n9_ n10_ n11_ n12_ n13_ n14_ n15_ n16_ n17_ n18_;(try clear hb);(try clear hb2);(try clear hk);(try clear hi)))
               ·go_ret
                exact ⟨by first|rfl|(simp [errW_none,errW_some] <;> rfl)|(simp [*,errW_none,errW_some] <;> rfl),by repeat (first|(with_reducible first|exact HB.out|apply below_alloc|apply pw_below_drewN|apply below_drew1|refine below_set ?_ GE238.out|refine below_set ?_ GE260.out|refine below_set ?_ GE297.out)|exact HB.out)⟩
               ·go_ret
                exact ⟨by first|rfl|(simp [errW_none,errW_some] <;> rfl)|(simp [*,errW_none,errW_some] <;> rfl),by repeat (first|(with_reducible first|exact HB.out|apply below_alloc|apply pw_below_drewN|apply below_drew1|refine below_set ?_ GE238.out|refine below_set ?_ GE260.out|refine below_set ?_ GE297.out)|exact HB.out)⟩
          ·rw [if_neg c70] at H
           have c70b0 : (t275 == t269) = false:=beq_eq_false_iff_ne.mpr c70
           have c70b1 : (t275 != t269) = true:=bne_iff_ne.mpr c70
           obtain rfl:=Option.some.inj H
           have hnb121:=NB260_238.out
           have hnc121:=NB238_260.out
           have hcz122_0 : wc.cell? ⟨gb260,0,none⟩ = some (.slice Ao24 t242.length co24):=(blk_cell BK260.out 0).trans rfl
           have hcz122_1 : wc.cell? ⟨gb260,1,none⟩ = some (.int .i64 t245):=(blk_cell BK260.out 1).trans rfl
           have hcz122_2 : wc.cell? ⟨gb260,2,none⟩ = some (.slice Ao27 t246.length co27):=(blk_cell BK260.out 2).trans rfl
           have hcz122_3 : wc.cell? ⟨gb260,3,none⟩ = some (.slice Ao28 t249.length co28):=(blk_cell BK260.out 3).trans rfl
           have hcz122_4 : wc.cell? ⟨gb260,4,none⟩ = some (.slice Ao29 t252.length co29):=(blk_cell BK260.out 4).trans rfl
           have hcz122_5 : wc.cell? ⟨gb260,5,none⟩ = some (.slice Ao30 t255.length co30):=(blk_cell BK260.out 5).trans rfl
           have hcz122_6 : wc.cell? ⟨gb260,6,none⟩ = some (.int .i64 t258):=(blk_cell BK260.out 6).trans rfl
           have hfz122_0:=blk_frozen BK260.out 0
           have hfz122_1:=blk_frozen BK260.out 1
           have hfz122_2:=blk_frozen BK260.out 2
           have hfz122_3:=blk_frozen BK260.out 3
           have hfz122_4:=blk_frozen BK260.out 4
           have hfz122_5:=blk_frozen BK260.out 5
           have hfz122_6:=blk_frozen BK260.out 6
           go_wp2_with (first|((with_reducible refine gate_callee (f:=53) rfl ?_);refine goesL_ (some 68) rfl rfl Try.func53 (by kernel_rfl) rfl #[.agg #[.slice Ao24 t242.length co24,.int .i64 t245,.slice Ao27 t246.length co27,.slice Ao28 t249.length co28,.slice Ao29 t252.length co29,.slice Ao30 t255.length co30,.int .i64 t258],.int .i64 1] rfl (by (try simp only [List.map_toArray,List.map_cons,List.map_nil]);first|done|rfl|(simp only [List.length_drop,List.length_take];rfl)) ?_;(with_reducible refine (laws_markWindow.calls kj45 (fun k_=>some k_ = (.slice Ao24 t242.length co24 : Value).ownBlock) (.slice Ao24 t242.length co24) t242 t245 (fun k_=>some k_ = (.slice Ao27 t246.length co27 : Value).ownBlock) (.slice Ao27 t246.length co27) t246 (fun k_=>some k_ = (.slice Ao28 t249.length co28 : Value).ownBlock) (.slice Ao28 t249.length co28) t249 (fun k_=>some k_ = (.slice Ao29 t252.length co29 : Value).ownBlock) (.slice Ao29 t252.length co29) t252 (fun k_=>some k_ = (.slice Ao30 t255.length co30 : Value).ownBlock) (.slice Ao30 t255.length co30) t255 t258 1 t269 t270 t271 t272 t273 t274 w _ ?side1 ?side2 ?side3 ?side4 ?side5 ?side6 ?side7 ?side8 ?side9 ?side10 A62.out).mono ?_);(case side1=>repeat (first|(with_reducible first|exact HB.out|apply below_alloc|apply pw_below_drewN|apply below_drew1|refine below_set ?_ GE238.out|refine below_set ?_ GE260.out)|exact HB.out));(case side2=>exact Kd.R_tight rfl HO_261000.out);(case side3=>exact fun k_ e_=>(HO_261000.out.1 k_ e_.symm).2.2);(case side4=>exact Kd.R_tight rfl HO_261002.out);(case side5=>exact fun k_ e_=>(HO_261002.out.1 k_ e_.symm).2.2);(case side6=>exact Kd.R_tight rfl HO_261003.out);(case side7=>exact Kd.R_tight rfl HO_261004.out);(case side8=>exact fun k_ e_=>(HO_261004.out.1 k_ e_.symm).2.2);(case side9=>exact Kd.R_tight rfl HO_261005.out);(case side10=>exact fun k_ e_=>(HO_261005.out.1 k_ e_.symm).2.2);rintro e w123 ⟨rfl,hy0,hy1,hy2,hy3,hy4,hb,hkp⟩;refine ⟨_,rfl,?_⟩;have n0_:=Aside0.mk (Kd.R_mono (ok':=fun k_=>some k_ ≠ (.slice Ao18 t230.length co18 : Value).ownBlock∧some k_ ≠ (.slice Ao24 t242.length co24 : Value).ownBlock∧some k_ ≠ (.slice Ao29 t252.length co29 : Value).ownBlock) (Kd.R_keptB ((Kd.R_apart' (Kd.R_apart' (Kd.R_apart' HO_239000.out (Kd.R_typed HO_261002.out) (by decide)) (Kd.R_typed HO_261003.out) (by decide)) (Kd.R_typed HO_261005.out) (by decide))) hkp (fun k_ hk_ hs_=>Or.elim hs_ (fun e_=>(hk_.1.1.1.2.1) e_) (fun e_=>Or.elim e_ (fun e_=>(hk_.1.1.2) e_) (fun e_=>Or.elim e_ (fun e_=>(hk_.1.2) e_) (fun e_=>Or.elim e_ (fun e_=>(hk_.1.1.1.2.2) e_) (fun e_=>(hk_.2) e_)))))) (fun k_ hk_=>⟨hk_.1.1.1.1.1,hk_.1.1.1.1.2.1,hk_.1.1.1.1.2.2⟩));have n1_:=Aside0.mk (Kd.R_mono (ok':=fun k_=>some k_ ≠ (.slice Ao19 t233.length co19 : Value).ownBlock∧some k_ ≠ (.slice Ao27 t246.length co27 : Value).ownBlock∧some k_ ≠ (.slice Ao30 t255.length co30 : Value).ownBlock) (Kd.R_keptB ((Kd.R_apart' (Kd.R_apart' (Kd.R_apart' HO_239002.out (Kd.R_typed HO_261000.out) (by decide)) (Kd.R_typed HO_261003.out) (by decide)) (Kd.R_typed HO_261004.out) (by decide))) hkp (fun k_ hk_ hs_=>Or.elim hs_ (fun e_=>(hk_.1.1.2) e_) (fun e_=>Or.elim e_ (fun e_=>(hk_.1.1.1.2.1) e_) (fun e_=>Or.elim e_ (fun e_=>(hk_.1.2) e_) (fun e_=>Or.elim e_ (fun e_=>(hk_.2) e_) (fun e_=>(hk_.1.1.1.2.2) e_)))))) (fun k_ hk_=>⟨hk_.1.1.1.1.1,hk_.1.1.1.1.2.1,hk_.1.1.1.1.2.2⟩));have n2_:=Aside0.mk (Kd.R_mono (ok':=fun k_=>some k_ ≠ (.slice Ao28 t249.length co28 : Value).ownBlock) (Kd.R_keptB ((Kd.R_apart' (Kd.R_apart' (Kd.R_apart' (Kd.R_apart' HO_239003.out (Kd.R_typed HO_261000.out) (by decide)) (Kd.R_typed HO_261002.out) (by decide)) (Kd.R_typed HO_261004.out) (by decide)) (Kd.R_typed HO_261005.out) (by decide))) hkp (fun k_ hk_ hs_=>Or.elim hs_ (fun e_=>(hk_.1.1.1.2) e_) (fun e_=>Or.elim e_ (fun e_=>(hk_.1.1.2) e_) (fun e_=>Or.elim e_ (fun e_=>(hk_.1.1.1.1) e_) (fun e_=>Or.elim e_ (fun e_=>(hk_.1.2) e_) (fun e_=>(hk_.2) e_)))))) (fun k_ hk_=>hk_.1.1.1.1.1));have n3_:=Aside0.mk (Kd.R_mono (ok':=fun k_=>some k_ ≠ (.slice Ao14 t220.length co14 : Value).ownBlock∧some k_ ≠ (.slice Ao24 t242.length co24 : Value).ownBlock∧some k_ ≠ (.slice Ao29 t252.length co29 : Value).ownBlock) (Kd.R_keptB ((Kd.R_apart' (Kd.R_apart' (Kd.R_apart' HO_239004.out (Kd.R_typed HO_261002.out) (by decide)) (Kd.R_typed HO_261003.out) (by decide)) (Kd.R_typed HO_261005.out) (by decide))) hkp (fun k_ hk_ hs_=>Or.elim hs_ (fun e_=>(hk_.1.1.1.2.1) e_) (fun e_=>Or.elim e_ (fun e_=>(hk_.1.1.2) e_) (fun e_=>Or.elim e_ (fun e_=>(hk_.1.2) e_) (fun e_=>Or.elim e_ (fun e_=>(hk_.1.1.1.2.2) e_) (fun e_=>(hk_.2) e_)))))) (fun k_ hk_=>⟨hk_.1.1.1.1.1,hk_.1.1.1.1.2.1,hk_.1.1.1.1.2.2⟩));have n4_:=Aside0.mk (Kd.R_mono (ok':=fun k_=>some k_ ≠ (.slice Ao16 t224.length co16 : Value).ownBlock∧some k_ ≠ (.slice Ao27 t246.length co27 : Value).ownBlock∧some k_ ≠ (.slice Ao30 t255.length co30 : Value).ownBlock) (Kd.R_keptB ((Kd.R_apart' (Kd.R_apart' (Kd.R_apart' HO_239005.out (Kd.R_typed HO_261000.out) (by decide)) (Kd.R_typed HO_261003.out) (by decide)) (Kd.R_typed HO_261004.out) (by decide))) hkp (fun k_ hk_ hs_=>Or.elim hs_ (fun e_=>(hk_.1.1.2) e_) (fun e_=>Or.elim e_ (fun e_=>(hk_.1.1.1.2.1) e_) (fun e_=>Or.elim e_ (fun e_=>(hk_.1.2) e_) (fun e_=>Or.elim e_ (fun e_=>(hk_.2) e_) (fun e_=>(hk_.1.1.1.2.2) e_)))))) (fun k_ hk_=>⟨hk_.1.1.1.1.1,hk_.1.1.1.1.2.1,hk_.1.1.1.1.2.2⟩));have n5_:=Aside0.mk (Kd.R_reok rfl hy0 (fun k_ e_=>HO_261000.out.1 k_ e_));have n6_:=Aside0.mk (Kd.R_reok rfl hy1 (fun k_ e_=>HO_261002.out.1 k_ e_));have n7_:=Aside0.mk (Kd.R_reok rfl hy2 (fun k_ e_=>HO_261003.out.1 k_ e_));have n8_:=Aside0.mk (Kd.R_reok rfl hy3 (fun k_ e_=>HO_261004.out.1 k_ e_));have n9_:=Aside0.mk (Kd.R_reok rfl hy4 (fun k_ e_=>HO_261005.out.1 k_ e_));have n10_:=Aside0.mk (blk_kept (by (with_reducible repeat (first|refine blk_drewN ?_ _|refine blk_drew ?_|refine blk_alloc ?_ _));exact BK238.out) hkp (fun hs_=>Or.elim hs_ (fun e_=>(fun e_=>(Kd.R_ne HO_261000.out BK238.out (by decide)) e_) e_) (fun e_=>Or.elim e_ (fun e_=>(fun e_=>(Kd.R_ne HO_261002.out BK238.out (by decide)) e_) e_) (fun e_=>Or.elim e_ (fun e_=>(fun e_=>(Kd.R_ne HO_261003.out BK238.out (by decide)) e_) e_) (fun e_=>Or.elim e_ (fun e_=>(fun e_=>(Kd.R_ne HO_261004.out BK238.out (by decide)) e_) e_) (fun e_=>(fun e_=>(Kd.R_ne HO_261005.out BK238.out (by decide)) e_) e_))))));have n11_:=Aside0.mk (blk_kept (by (with_reducible repeat (first|refine blk_drewN ?_ _|refine blk_drew ?_|refine blk_alloc ?_ _));exact BK260.out) hkp (fun hs_=>Or.elim hs_ (fun e_=>(fun e_=>(Kd.R_ne HO_261000.out BK260.out (by decide)) e_) e_) (fun e_=>Or.elim e_ (fun e_=>(fun e_=>(Kd.R_ne HO_261002.out BK260.out (by decide)) e_) e_) (fun e_=>Or.elim e_ (fun e_=>(fun e_=>(Kd.R_ne HO_261003.out BK260.out (by decide)) e_) e_) (fun e_=>Or.elim e_ (fun e_=>(fun e_=>(Kd.R_ne HO_261004.out BK260.out (by decide)) e_) e_) (fun e_=>(fun e_=>(Kd.R_ne HO_261005.out BK260.out (by decide)) e_) e_))))));have n12_:=Aside0.mk (hb);clear HO_239000;clear HO_239002;clear HO_239003;clear HO_239004;clear HO_239005;clear HO_261000;clear HO_261002;clear HO_261003;clear HO_261004;clear HO_261005;clear BK238;clear BK260;clear HB;have HO_239000:=n0_;have HO_239002:=n1_;have HO_239003:=n2_;have HO_239004:=n3_;have HO_239005:=n4_;have HO_261000:=n5_;have HO_261002:=n6_;have HO_261003:=n7_;have HO_261004:=n8_;have HO_261005:=n9_;have BK238:=n10_;have BK260:=n11_;have HB:=n12_;clear n0_ n1_ n2_ n3_ n4_ n5_ n6_ n7_ n8_ n9_ n10_ n11_ n12_;(try clear hb);(try clear hkp);(try clear hy0);(try clear hy1);(try clear hy2);(try clear hy3);(try clear hy4);have hcz124_0 : w123.cell? ⟨gb260,0,none⟩ = some (.slice Ao24 t242.length co24):=(blk_cell BK260.out 0).trans rfl;have hcz124_1 : w123.cell? ⟨gb260,1,none⟩ = some (.int .i64 t245):=(blk_cell BK260.out 1).trans rfl;have hcz124_2 : w123.cell? ⟨gb260,2,none⟩ = some (.slice Ao27 t246.length co27):=(blk_cell BK260.out 2).trans rfl;have hcz124_3 : w123.cell? ⟨gb260,3,none⟩ = some (.slice Ao28 t249.length co28):=(blk_cell BK260.out 3).trans rfl;have hcz124_4 : w123.cell? ⟨gb260,4,none⟩ = some (.slice Ao29 t252.length co29):=(blk_cell BK260.out 4).trans rfl;have hcz124_5 : w123.cell? ⟨gb260,5,none⟩ = some (.slice Ao30 t255.length co30):=(blk_cell BK260.out 5).trans rfl;have hcz124_6 : w123.cell? ⟨gb260,6,none⟩ = some (.int .i64 t258):=(blk_cell BK260.out 6).trans rfl;have hfz124_0:=blk_frozen BK260.out 0;have hfz124_1:=blk_frozen BK260.out 1;have hfz124_2:=blk_frozen BK260.out 2;have hfz124_3:=blk_frozen BK260.out 3;have hfz124_4:=blk_frozen BK260.out 4;have hfz124_5:=blk_frozen BK260.out 5;have hfz124_6:=blk_frozen BK260.out 6)|((with_reducible refine gate_callee (f:=54) rfl ?_);refine goesL_ (some 71) rfl rfl Try.func54 (by kernel_rfl) rfl #[.agg #[.slice Ao24 t270.length co24,.int .i64 t245,.slice Ao27 t271.length co27,.slice Ao28 t272.length co28,.slice Ao29 t273.length co29,.slice Ao30 t274.length co30,.int .i64 t258],.int .i64 1] rfl (by (try simp only [List.map_toArray,List.map_cons,List.map_nil]);first|done|(rw [show t270.length = t242.length from (Kd.R_reads' HO_261000.out).1.symm,show t271.length = t246.length from (Kd.R_reads' HO_261002.out).1.symm,show t272.length = t249.length from (Kd.R_reads' HO_261003.out).1.symm,show t273.length = t252.length from (Kd.R_reads' HO_261004.out).1.symm,show t274.length = t255.length from (Kd.R_reads' HO_261005.out).1.symm] <;> rfl)|rfl|(simp only [List.length_drop,List.length_take];rfl)) ?_;(with_reducible refine (laws_heldWindow.calls kj45 _ _ t270 t245 _ _ t271 _ _ t272 _ _ t273 _ _ t274 t258 1 t275 _ ?side1 ?side2 ?side3 ?side4 ?side5 ?side6 ?side7 ?side8 ?side9 ?side10 A63.out).mono ?_);(case side1=>repeat (first|exact (Kd.R_reads' HO_261000.out).2.2|(with_reducible refine C_alloc ?_ _)|(with_reducible refine C_drewN ?_ _)|(with_reducible refine C_drew ?_)));(case side2=>rw [show t270.length = t242.length from (Kd.R_reads' HO_261000.out).1.symm];exact (Kd.R_reads' HO_261000.out).2.1);(case side3=>repeat (first|exact (Kd.R_reads' HO_261002.out).2.2|(with_reducible refine C_alloc ?_ _)|(with_reducible refine C_drewN ?_ _)|(with_reducible refine C_drew ?_)));(case side4=>rw [show t271.length = t246.length from (Kd.R_reads' HO_261002.out).1.symm];exact (Kd.R_reads' HO_261002.out).2.1);(case side5=>repeat (first|exact (Kd.R_reads' HO_261003.out).2.2|(with_reducible refine C_alloc ?_ _)|(with_reducible refine C_drewN ?_ _)|(with_reducible refine C_drew ?_)));(case side6=>rw [show t272.length = t249.length from (Kd.R_reads' HO_261003.out).1.symm];exact (Kd.R_reads' HO_261003.out).2.1);(case side7=>repeat (first|exact (Kd.R_reads' HO_261004.out).2.2|(with_reducible refine C_alloc ?_ _)|(with_reducible refine C_drewN ?_ _)|(with_reducible refine C_drew ?_)));(case side8=>rw [show t273.length = t252.length from (Kd.R_reads' HO_261004.out).1.symm];exact (Kd.R_reads' HO_261004.out).2.1);(case side9=>repeat (first|exact (Kd.R_reads' HO_261005.out).2.2|(with_reducible refine C_alloc ?_ _)|(with_reducible refine C_drewN ?_ _)|(with_reducible refine C_drew ?_)));(case side10=>rw [show t274.length = t255.length from (Kd.R_reads' HO_261005.out).1.symm];exact (Kd.R_reads' HO_261005.out).2.1);rintro e w125 ⟨rfl,hb⟩;refine ⟨_,rfl,?_⟩;have n0_:=Aside0.mk (Kd.R_below (by (with_reducible repeat (first|apply R_alloc|apply R_drewN|apply R_drew));exact HO_239000.out) hb);have n1_:=Aside0.mk (Kd.R_below (by (with_reducible repeat (first|apply R_alloc|apply R_drewN|apply R_drew));exact HO_239002.out) hb);have n2_:=Aside0.mk (Kd.R_below (by (with_reducible repeat (first|apply R_alloc|apply R_drewN|apply R_drew));exact HO_239003.out) hb);have n3_:=Aside0.mk (Kd.R_below (by (with_reducible repeat (first|apply R_alloc|apply R_drewN|apply R_drew));exact HO_239004.out) hb);have n4_:=Aside0.mk (Kd.R_below (by (with_reducible repeat (first|apply R_alloc|apply R_drewN|apply R_drew));exact HO_239005.out) hb);have n5_:=Aside0.mk (Kd.R_below (by (with_reducible repeat (first|apply R_alloc|apply R_drewN|apply R_drew));exact HO_261000.out) hb);have n6_:=Aside0.mk (Kd.R_below (by (with_reducible repeat (first|apply R_alloc|apply R_drewN|apply R_drew));exact HO_261002.out) hb);have n7_:=Aside0.mk (Kd.R_below (by (with_reducible repeat (first|apply R_alloc|apply R_drewN|apply R_drew));exact HO_261003.out) hb);have n8_:=Aside0.mk (Kd.R_below (by (with_reducible repeat (first|apply R_alloc|apply R_drewN|apply R_drew));exact HO_261004.out) hb);have n9_:=Aside0.mk (Kd.R_below (by (with_reducible repeat (first|apply R_alloc|apply R_drewN|apply R_drew));exact HO_261005.out) hb);have n10_:=Aside0.mk (blk_below (g:=gb238) (o:=.cells #[.slice Ao14 t220.length co14,.int .i64 t223,.slice Ao16 t224.length co16,.slice Ao17 t227.length co17,.slice Ao18 t230.length co18,.slice Ao19 t233.length co19,.int .i64 t236] 66 (0,0)) (by (with_reducible repeat (first|refine blk_drewN ?_ _|refine blk_drew ?_|refine blk_alloc ?_ _));exact BK238.out) hb);have n11_:=Aside0.mk (blk_below (g:=gb260) (o:=.cells #[.slice Ao24 t242.length co24,.int .i64 t245,.slice Ao27 t246.length co27,.slice Ao28 t249.length co28,.slice Ao29 t252.length co29,.slice Ao30 t255.length co30,.int .i64 t258] 66 (0,0)) (by (with_reducible repeat (first|refine blk_drewN ?_ _|refine blk_drew ?_|refine blk_alloc ?_ _));exact BK260.out) hb);have n12_:=Aside0.mk (below_step (by repeat (first|(with_reducible first|exact HB.out|apply below_alloc|apply pw_below_drewN|apply below_drew1|refine below_set ?_ GE238.out|refine below_set ?_ GE260.out)|exact HB.out)) hb);clear HO_239000;clear HO_239002;clear HO_239003;clear HO_239004;clear HO_239005;clear HO_261000;clear HO_261002;clear HO_261003;clear HO_261004;clear HO_261005;clear BK238;clear BK260;clear HB;have HO_239000:=n0_;have HO_239002:=n1_;have HO_239003:=n2_;have HO_239004:=n3_;have HO_239005:=n4_;have HO_261000:=n5_;have HO_261002:=n6_;have HO_261003:=n7_;have HO_261004:=n8_;have HO_261005:=n9_;have BK238:=n10_;have BK260:=n11_;have HB:=n12_;clear n0_ n1_ n2_ n3_ n4_ n5_ n6_ n7_ n8_ n9_ n10_ n11_ n12_;(try clear hb);(try clear hb2);(try clear hk);(try clear hi)))
           go_ret
           exact ⟨by first|rfl|(simp [errW_none,errW_some] <;> rfl)|(simp [*,errW_none,errW_some] <;> rfl),by repeat (first|(with_reducible first|exact HB.out|apply below_alloc|apply pw_below_drewN|apply below_drew1|refine below_set ?_ GE238.out|refine below_set ?_ GE260.out)|exact HB.out)⟩
     ·replace c44:=Bool.eq_false_iff.mpr c44
      subst c44
      have H1 : (some false) = some r:=by rw [if_neg (show ¬ (false = true) by decide)] at H;exact H
      clear H
      have H:=H1
      clear H1
      obtain rfl:=Option.some.inj H
      go_wp2_with (first|((with_reducible refine gate_callee (f:=48) rfl ?_);refine goesL_ (some 47) rfl rfl Try.func48 (by kernel_rfl) rfl #[.slice A0 l0.length c0] rfl (by (try simp only [List.map_toArray,List.map_cons,List.map_nil]);first|done|rfl|(simp only [List.length_drop,List.length_take];rfl)) ?_;(with_reducible refine (laws_toStringS.calls kj8 _ _ l0 t262 _ ?side1 ?side2 A42.out).mono ?_);(case side1=>repeat (first|exact (Kd.C_below HR0.out HB.out)|(with_reducible refine C_alloc ?_ _)|(with_reducible refine C_drewN ?_ _)|(with_reducible refine C_drew ?_)));(case side2=>exact HC0.out);rintro e w126 ⟨v263,rfl,ho0,hb⟩;refine ⟨_,rfl,?_⟩;have n0_:=Aside0.mk (Kd.R_elder' (by (with_reducible repeat (first|apply R_alloc|apply R_drewN|apply R_drew));exact HO_8.out) (Kd.R_base ho0) hb);have n1_:=Aside0.mk (Kd.R_elder' (by (with_reducible repeat (first|apply R_alloc|apply R_drewN|apply R_drew));exact HO_239000.out) (Kd.R_base ho0) hb);have n2_:=Aside0.mk (Kd.R_below (by (with_reducible repeat (first|apply R_alloc|apply R_drewN|apply R_drew));exact HO_239002.out) hb);have n3_:=Aside0.mk (Kd.R_below (by (with_reducible repeat (first|apply R_alloc|apply R_drewN|apply R_drew));exact HO_239003.out) hb);have n4_:=Aside0.mk (Kd.R_elder' (by (with_reducible repeat (first|apply R_alloc|apply R_drewN|apply R_drew));exact HO_239004.out) (Kd.R_base ho0) hb);have n5_:=Aside0.mk (Kd.R_below (by (with_reducible repeat (first|apply R_alloc|apply R_drewN|apply R_drew));exact HO_239005.out) hb);have n6_:=Aside0.mk (Kd.R_elder' (by (with_reducible repeat (first|apply R_alloc|apply R_drewN|apply R_drew));exact HO_261000.out) (Kd.R_base ho0) hb);have n7_:=Aside0.mk (Kd.R_below (by (with_reducible repeat (first|apply R_alloc|apply R_drewN|apply R_drew));exact HO_261002.out) hb);have n8_:=Aside0.mk (Kd.R_below (by (with_reducible repeat (first|apply R_alloc|apply R_drewN|apply R_drew));exact HO_261003.out) hb);have n9_:=Aside0.mk (Kd.R_elder' (by (with_reducible repeat (first|apply R_alloc|apply R_drewN|apply R_drew));exact HO_261004.out) (Kd.R_base ho0) hb);have n10_:=Aside0.mk (Kd.R_below (by (with_reducible repeat (first|apply R_alloc|apply R_drewN|apply R_drew));exact HO_261005.out) hb);have n11_:=Aside0.mk (Kd.R_lower (Kd.R_new' (Kd.R_new' (Kd.R_new' (Kd.R_new' (Kd.R_new' ho0 (Kd.R_lt (by (with_reducible repeat (first|apply R_alloc|apply R_drewN|apply R_drew));exact HO_8.out))) (Kd.R_lt (by (with_reducible repeat (first|apply R_alloc|apply R_drewN|apply R_drew));exact HO_239000.out))) (Kd.R_lt (by (with_reducible repeat (first|apply R_alloc|apply R_drewN|apply R_drew));exact HO_239004.out))) (Kd.R_lt (by (with_reducible repeat (first|apply R_alloc|apply R_drewN|apply R_drew));exact HO_261000.out))) (Kd.R_lt (by (with_reducible repeat (first|apply R_alloc|apply R_drewN|apply R_drew));exact HO_261004.out))) (below_size (by repeat (first|(with_reducible first|exact HB.out|apply below_alloc|apply pw_below_drewN|apply below_drew1|refine below_set ?_ GE238.out|refine below_set ?_ GE260.out)|exact HB.out))));have n12_:=Aside0.mk (blk_below (g:=gb238) (o:=.cells #[.slice Ao14 t220.length co14,.int .i64 t223,.slice Ao16 t224.length co16,.slice Ao17 t227.length co17,.slice Ao18 t230.length co18,.slice Ao19 t233.length co19,.int .i64 t236] 66 (0,0)) (by (with_reducible repeat (first|refine blk_drewN ?_ _|refine blk_drew ?_|refine blk_alloc ?_ _));exact BK238.out) hb);have n13_:=Aside0.mk (blk_below (g:=gb260) (o:=.cells #[.slice Ao24 t242.length co24,.int .i64 t245,.slice Ao27 t246.length co27,.slice Ao28 t249.length co28,.slice Ao29 t252.length co29,.slice Ao30 t255.length co30,.int .i64 t258] 66 (0,0)) (by (with_reducible repeat (first|refine blk_drewN ?_ _|refine blk_drew ?_|refine blk_alloc ?_ _));exact BK260.out) hb);have n14_:=Aside0.mk (below_step (by repeat (first|(with_reducible first|exact HB.out|apply below_alloc|apply pw_below_drewN|apply below_drew1|refine below_set ?_ GE238.out|refine below_set ?_ GE260.out)|exact HB.out)) hb);clear HO_8;clear HO_239000;clear HO_239002;clear HO_239003;clear HO_239004;clear HO_239005;clear HO_261000;clear HO_261002;clear HO_261003;clear HO_261004;clear HO_261005;clear BK238;clear BK260;clear HB;have HO_8:=n0_;have HO_239000:=n1_;have HO_239002:=n2_;have HO_239003:=n3_;have HO_239004:=n4_;have HO_239005:=n5_;have HO_261000:=n6_;have HO_261002:=n7_;have HO_261003:=n8_;have HO_261004:=n9_;have HO_261005:=n10_;have HO264:=n11_;have BK238:=n12_;have BK260:=n13_;have HB:=n14_;clear n0_ n1_ n2_ n3_ n4_ n5_ n6_ n7_ n8_ n9_ n10_ n11_ n12_ n13_ n14_;(try clear hb);(try clear hb2);(try clear hk);(try clear hi);(try clear ho0);obtain ⟨Ao127,co127,eo127⟩:=Kd.R_slice HO264.out;subst eo127)|((with_reducible refine gate_callee (f:=51) rfl ?_);refine goesL_ (some 48) rfl rfl Try.func51 (by kernel_rfl) rfl #[.slice Ao21 t239.length co21,.slice Ao127 t262.length co127] rfl (by (try simp only [List.map_toArray,List.map_cons,List.map_nil]);first|done|rfl|(simp only [List.length_drop,List.length_take];rfl)) ?_;(with_reducible refine (laws_eqStringS.calls kj8 _ _ t239 _ _ t262 false _ ?side1 ?side2 ?side3 ?side4 A43.out).mono ?_);(case side1=>repeat (first|exact (Kd.R_reads' HO_8.out).2.2|(with_reducible refine C_alloc ?_ _)|(with_reducible refine C_drewN ?_ _)|(with_reducible refine C_drew ?_)));(case side2=>exact (Kd.R_reads' HO_8.out).2.1);(case side3=>repeat (first|exact (Kd.R_reads' HO264.out).2.2|(with_reducible refine C_alloc ?_ _)|(with_reducible refine C_drewN ?_ _)|(with_reducible refine C_drew ?_)));(case side4=>exact (Kd.R_reads' HO264.out).2.1);rintro e w' ⟨rfl,⟨nd,rfl⟩⟩;refine ⟨_,rfl,?_⟩))
      go_ret
      exact ⟨by first|rfl|(simp [errW_none,errW_some] <;> rfl)|(simp [*,errW_none,errW_some] <;> rfl),by repeat (first|(with_reducible first|exact HB.out|apply below_alloc|apply pw_below_drewN|apply below_drew1|refine below_set ?_ GE238.out|refine below_set ?_ GE260.out)|exact HB.out)⟩

/-! #### what a reading tells -/
/-- THE ONE PURE STATEMENT of laws_FnExactNewWindow. -/
def laws_FnExactNewWindow.Pure : Prop := ∀ (l0 : List ByteArray) (a1 : Int), (l0.length * 16 ≤ 140737488351232 ∧ ∀ y_ ∈ l0, y_.size ≤ 140737488351232) → (Lit.int .i64 a1).wf = true → ∃ k, laws_FnExactNewWindow.f k l0 a1 = some true

end Go.Proofs.Ytafkbhkikdndnaa.PFnExactNewWindow

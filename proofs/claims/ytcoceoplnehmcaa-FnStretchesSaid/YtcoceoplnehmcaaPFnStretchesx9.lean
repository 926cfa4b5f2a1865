/- Lean functions with the same answers as the Go functions that one law reaches, and for each a proof that its call comes to just these answers. No condition. Written by pr.py, a program of this session. -/
import Derived.Test.YtcoceoplnehmcaaPFnStretchesx0
import Derived.Test.YtcoceoplnehmcaaPFnStretchesx2
import Derived.Test.YtcoceoplnehmcaaPFnStretchesx3
import Derived.Test.YtcoceoplnehmcaaPFnStretchesx4
import Derived.Test.YtcoceoplnehmcaaPFnStretchesx5
import Derived.Test.YtcoceoplnehmcaaPFnStretchesx6
import Derived.Test.YtcoceoplnehmcaaPFnStretchesx7
import Derived.Test.YtcoceoplnehmcaaPFnStretchesx8
namespace Go.Proofs.Ytcoceoplnehmcaa.PFnStretches
open Go.RowKit Go.Proofs.YtcoceoplnehmcaaW.PrintWords Go.Proofs.YtcoceoplnehmcaaW.PrintLast Go.Proofs.YtcoceoplnehmcaaW.PrintMore
attribute [local go_sem] max2_int min2_int max_two min_two max_three min_three max_four min_four   -- for this text's walks alone
set_option linter.unusedVariables false
set_option linter.unusedSimpArgs false

/-! ### laws_FnStretches: function 11 -/
mutual
def laws_FnStretches.j0 : Nat → List Int → List Int → List (S47) → Bool → Bool → Option (Bool)
  | 0, _, _, _, _, _ => none
  | k + 1, x1, x5, x6, x7, x65 => if x65 = true then (some false) else (if x7 = true then ((impl_PlacesOf.f k x6).bind fun bt309 => ((impl_GoodMap.f k x6).bind fun t313 => (if t313 = true then (if bt309.2 = true then ((laws_sameInts.f k bt309.1 x5).bind fun t314 => (if t314 = true then (laws_FnStretches.j1 k x1 x5 x6 (decide ((x6.length : Int) > 16))) else (laws_FnStretches.j1 k x1 x5 x6 true))) else (laws_FnStretches.j1 k x1 x5 x6 true)) else (laws_FnStretches.j1 k x1 x5 x6 true)))) else (laws_FnStretches.j3 k x1))
def laws_FnStretches.j3 : Nat → List Int → Option (Bool)
  | 0, _ => none
  | k + 1, x1 => (spec_DrawPutStretch.f k x1).bind fun bt318 => ((impl_PutStretch.f k bt318.1 bt318.2.1 bt318.2.2.1 bt318.2.2.2).bind fun bt325 => ((spec_PutStretch.f k bt318.1 bt318.2.1 bt318.2.2.1 bt318.2.2.2).bind fun bt329 => (if (bt325.2 != bt329.2) = true then (laws_FnStretches.j4 k x1 bt318.1 bt325.1 bt325.2 true bt318.2.1 bt318.2.2.1 bt318.2.2.2) else ((laws_sameMap.f k bt325.1 bt329.1).bind fun t333 => (if t333 = true then ((impl_GoodMap.f k bt318.1).bind fun t334 => ((spec_GoodMap.f k bt318.1).bind fun t335 => (laws_FnStretches.j4 k x1 bt318.1 bt325.1 bt325.2 (t334 != t335) bt318.2.1 bt318.2.2.1 bt318.2.2.2))) else (laws_FnStretches.j4 k x1 bt318.1 bt325.1 bt325.2 true bt318.2.1 bt318.2.2.1 bt318.2.2.2))))))
def laws_FnStretches.j4 : Nat → List Int → List (S47) → List (S47) → Bool → Bool → Int → Int → Int → Option (Bool)
  | 0, _, _, _, _, _, _, _, _ => none
  | k + 1, x1, x16, x18, x19, x148, x325000, x325001, x325002 => if x148 = true then (some false) else (if x19 = true then ((impl_PlacesOf.f k x16).bind fun bt336 => ((impl_PlacesOf.f k x18).bind fun bt340 => ((impl_GoodMap.f k x18).bind fun t344 => (if t344 = true then (if bt336.2 = true then (laws_FnStretches.j5 k x1 bt336.1 bt340.1 (!bt340.2) x325000 x325001 x325002) else (laws_FnStretches.j5 k x1 bt336.1 bt340.1 true x325000 x325001 x325002)) else (laws_FnStretches.j5 k x1 bt336.1 bt340.1 true x325000 x325001 x325002))))) else (laws_FnStretches.j7 k x1))
def laws_FnStretches.j7 : Nat → List Int → Option (Bool)
  | 0, _ => none
  | k + 1, x1 => (spec_DrawPlaceOf.f k x1).bind fun bt352 => ((impl_PlaceOf.f k bt352.1 bt352.2).bind fun bt356 => ((spec_PlaceOf.f k bt352.1 bt352.2).bind fun bt358 => ((spec_DrawPlacesOf.f k x1).bind fun t360 => ((impl_PlacesOf.f k t360).bind fun bt363 => ((spec_PlacesOf.f k t360).bind fun bt367 => (if (bt356.2 == bt358.2) = true then (if bt356.1 = bt358.1 then (if (bt363.2 == bt367.2) = true then ((laws_sameInts.f k bt363.1 bt367.1).bind fun t371 => (some t371)) else (some false)) else (some false)) else (some false)))))))
def laws_FnStretches.j5 : Nat → List Int → List Int → List Int → Bool → Int → Int → Int → Option (Bool)
  | 0, _, _, _, _, _, _, _ => none
  | k + 1, x1, x22, x24, x170, x325000, x325001, x325002 => if x170 = true then (some false) else (laws_FnStretches.l1 k x1 x22 x24 (x24.length : Int) 0 x325000 x325001 x325002)
def laws_FnStretches.l1 : Nat → List Int → List Int → List Int → Int → Int → Int → Int → Int → Option (Bool)
  | 0, _, _, _, _, _, _, _, _ => none
  | k + 1, x1, x22, x24, x172, x173, x325000, x325001, x325002 => if x173 < x172 then (if x173 ≥ x325000 then (if x173 < (wrap64 (x325000 + x325001)) then (if 0 ≤ x173 then (if x173 < (x24.length : Int) then (if (rd x24 x173) = (wrap64 ((wrap64 (x325002 + x173)) - x325000)) then (if (x173 < (wrap64 (x325000 + x325001))) then (laws_FnStretches.l1 k x1 x22 x24 x172 (wrap64 (x173 + 1)) x325000 x325001 x325002) else (if x173 < (x22.length : Int) then (if (rd x24 x173) = (rd x22 x173) then (laws_FnStretches.l1 k x1 x22 x24 x172 (wrap64 (x173 + 1)) x325000 x325001 x325002) else (some false)) else (none))) else (some false)) else (none)) else (none)) else (if (x173 < (wrap64 (x325000 + x325001))) then (laws_FnStretches.l1 k x1 x22 x24 x172 (wrap64 (x173 + 1)) x325000 x325001 x325002) else (if 0 ≤ x173 then (if x173 < (x24.length : Int) then (if x173 < (x22.length : Int) then (if (rd x24 x173) = (rd x22 x173) then (laws_FnStretches.l1 k x1 x22 x24 x172 (wrap64 (x173 + 1)) x325000 x325001 x325002) else (some false)) else (none)) else (none)) else (none)))) else (if 0 ≤ x173 then (if x173 < (x24.length : Int) then (if x173 < (x22.length : Int) then (if (rd x24 x173) = (rd x22 x173) then (laws_FnStretches.l1 k x1 x22 x24 x172 (wrap64 (x173 + 1)) x325000 x325001 x325002) else (some false)) else (none)) else (none)) else (none))) else (laws_FnStretches.j7 k x1)
def laws_FnStretches.j1 : Nat → List Int → List Int → List (S47) → Bool → Option (Bool)
  | 0, _, _, _, _ => none
  | k + 1, x1, x5, x6, x89 => if x89 = true then (some false) else (laws_FnStretches.l0 k x1 x6 x5 (x5.length : Int) 0)
def laws_FnStretches.l0 : Nat → List Int → List (S47) → List Int → Int → Int → Option (Bool)
  | 0, _, _, _, _, _ => none
  | k + 1, x1, x6, x90, x91, x92 => if x92 < x91 then (if 0 ≤ x92 then (if x92 < (x90.length : Int) then ((impl_PlaceOf.f k x6 x92).bind fun bt316 => (if (bt316.2 != (decide ((rd x90 x92) ≥ 0))) = true then (some false) else (if bt316.2 = true then (if bt316.1 = (rd x90 x92) then (laws_FnStretches.l0 k x1 x6 x90 x91 (wrap64 (x92 + 1))) else (some false)) else (laws_FnStretches.l0 k x1 x6 x90 x91 (wrap64 (x92 + 1)))))) else (none)) else (none)) else (laws_FnStretches.j3 k x1)
end
def laws_FnStretches.f (k : Nat) (l0 : List Int) (l1 : List Int) : Option (Bool) := if (wrap64 ((l0.length : Int) + (l1.length : Int))) > 1048576 then (some true) else ((spec_DrawMapOf.f k l0).bind fun t297 => ((impl_MapOf.f k t297).bind fun bt300 => ((spec_MapOf.f k t297).bind fun bt304 => (if (bt300.2 != bt304.2) = true then (laws_FnStretches.j0 k l1 t297 bt300.1 bt300.2 true) else ((laws_sameMap.f k bt300.1 bt304.1).bind fun t308 => (laws_FnStretches.j0 k l1 t297 bt300.1 bt300.2 (!t308)))))))
theorem laws_FnStretches.mono_l : ∀ k, (∀ y0 y1 y2 y3 y4, LeO (laws_FnStretches.j0 k y0 y1 y2 y3 y4) (laws_FnStretches.j0 (k + 1) y0 y1 y2 y3 y4)) ∧ (∀ y0, LeO (laws_FnStretches.j3 k y0) (laws_FnStretches.j3 (k + 1) y0)) ∧ (∀ y0 y1 y2 y3 y4 y5 y6 y7, LeO (laws_FnStretches.j4 k y0 y1 y2 y3 y4 y5 y6 y7) (laws_FnStretches.j4 (k + 1) y0 y1 y2 y3 y4 y5 y6 y7)) ∧ (∀ y0, LeO (laws_FnStretches.j7 k y0) (laws_FnStretches.j7 (k + 1) y0)) ∧ (∀ y0 y1 y2 y3 y4 y5 y6, LeO (laws_FnStretches.j5 k y0 y1 y2 y3 y4 y5 y6) (laws_FnStretches.j5 (k + 1) y0 y1 y2 y3 y4 y5 y6)) ∧ (∀ y0 y1 y2 y3 y4 y5 y6 y7, LeO (laws_FnStretches.l1 k y0 y1 y2 y3 y4 y5 y6 y7) (laws_FnStretches.l1 (k + 1) y0 y1 y2 y3 y4 y5 y6 y7)) ∧ (∀ y0 y1 y2 y3, LeO (laws_FnStretches.j1 k y0 y1 y2 y3) (laws_FnStretches.j1 (k + 1) y0 y1 y2 y3)) ∧ (∀ y0 y1 y2 y3 y4, LeO (laws_FnStretches.l0 k y0 y1 y2 y3 y4) (laws_FnStretches.l0 (k + 1) y0 y1 y2 y3 y4))
  | 0 => ⟨fun _ _ _ _ _ r h => by simp [laws_FnStretches.j0] at h, fun _ r h => by simp [laws_FnStretches.j3] at h, fun _ _ _ _ _ _ _ _ r h => by simp [laws_FnStretches.j4] at h, fun _ r h => by simp [laws_FnStretches.j7] at h, fun _ _ _ _ _ _ _ r h => by simp [laws_FnStretches.j5] at h, fun _ _ _ _ _ _ _ _ r h => by simp [laws_FnStretches.l1] at h, fun _ _ _ _ r h => by simp [laws_FnStretches.j1] at h, fun _ _ _ _ _ r h => by simp [laws_FnStretches.l0] at h⟩
  | k + 1 => by
    obtain ⟨ih0, ih1, ih2, ih3, ih4, ih5, ih6, ih7⟩ := laws_FnStretches.mono_l k
    refine ⟨?_, ?_, ?_, ?_, ?_, ?_, ?_, ?_⟩
    · intro y0 y1 y2 y3 y4
      unfold laws_FnStretches.j0
      repeat' first
      | (with_reducible exact ih0 _ _ _ _ _)
      | (with_reducible exact ih1 _)
      | (with_reducible exact ih2 _ _ _ _ _ _ _ _)
      | (with_reducible exact ih3 _)
      | (with_reducible exact ih4 _ _ _ _ _ _ _)
      | (with_reducible exact ih5 _ _ _ _ _ _ _ _)
      | (with_reducible exact ih6 _ _ _ _)
      | (with_reducible exact ih7 _ _ _ _ _)
      | (with_reducible exact impl_GoodMap.mono _ _)
      | (with_reducible exact impl_MapOf.mono _ _)
      | (with_reducible exact impl_PlaceOf.mono _ _ _)
      | (with_reducible exact impl_PlacesOf.mono _ _)
      | (with_reducible exact impl_PutStretch.mono _ _ _ _ _)
      | (with_reducible exact laws_sameInts.mono _ _ _)
      | (with_reducible exact laws_sameMap.mono _ _ _)
      | (with_reducible exact spec_DrawMapOf.mono _ _)
      | (with_reducible exact spec_DrawPlaceOf.mono _ _)
      | (with_reducible exact spec_DrawPlacesOf.mono _ _)
      | (with_reducible exact spec_DrawPutStretch.mono _ _)
      | (with_reducible exact spec_GoodMap.mono _ _)
      | (with_reducible exact spec_MapOf.mono _ _)
      | (with_reducible exact spec_PlaceOf.mono _ _ _)
      | (with_reducible exact spec_PlacesOf.mono _ _)
      | (with_reducible exact spec_PutStretch.mono _ _ _ _ _)
      | (with_reducible exact LeO.refl _)
      | (with_reducible exact LeO.none _)
      | (with_reducible refine LeO.ite ?_ ?_)
      | (with_reducible refine LeO.bind ?_ (fun _ => ?_))
      | exact ih0 _ _ _ _ _
      | exact ih1 _
      | exact ih2 _ _ _ _ _ _ _ _
      | exact ih3 _
      | exact ih4 _ _ _ _ _ _ _
      | exact ih5 _ _ _ _ _ _ _ _
      | exact ih6 _ _ _ _
      | exact ih7 _ _ _ _ _
      | exact impl_GoodMap.mono _ _
      | exact impl_MapOf.mono _ _
      | exact impl_PlaceOf.mono _ _ _
      | exact impl_PlacesOf.mono _ _
      | exact impl_PutStretch.mono _ _ _ _ _
      | exact laws_sameInts.mono _ _ _
      | exact laws_sameMap.mono _ _ _
      | exact spec_DrawMapOf.mono _ _
      | exact spec_DrawPlaceOf.mono _ _
      | exact spec_DrawPlacesOf.mono _ _
      | exact spec_DrawPutStretch.mono _ _
      | exact spec_GoodMap.mono _ _
      | exact spec_MapOf.mono _ _
      | exact spec_PlaceOf.mono _ _ _
      | exact spec_PlacesOf.mono _ _
      | exact spec_PutStretch.mono _ _ _ _ _
      | exact LeO.none _
      | refine LeO.ite ?_ ?_
      | refine LeO.bind ?_ (fun _ => ?_)
    · intro y0
      unfold laws_FnStretches.j3
      repeat' first
      | (with_reducible exact ih0 _ _ _ _ _)
      | (with_reducible exact ih1 _)
      | (with_reducible exact ih2 _ _ _ _ _ _ _ _)
      | (with_reducible exact ih3 _)
      | (with_reducible exact ih4 _ _ _ _ _ _ _)
      | (with_reducible exact ih5 _ _ _ _ _ _ _ _)
      | (with_reducible exact ih6 _ _ _ _)
      | (with_reducible exact ih7 _ _ _ _ _)
      | (with_reducible exact impl_GoodMap.mono _ _)
      | (with_reducible exact impl_MapOf.mono _ _)
      | (with_reducible exact impl_PlaceOf.mono _ _ _)
      | (with_reducible exact impl_PlacesOf.mono _ _)
      | (with_reducible exact impl_PutStretch.mono _ _ _ _ _)
      | (with_reducible exact laws_sameInts.mono _ _ _)
      | (with_reducible exact laws_sameMap.mono _ _ _)
      | (with_reducible exact spec_DrawMapOf.mono _ _)
      | (with_reducible exact spec_DrawPlaceOf.mono _ _)
      | (with_reducible exact spec_DrawPlacesOf.mono _ _)
      | (with_reducible exact spec_DrawPutStretch.mono _ _)
      | (with_reducible exact spec_GoodMap.mono _ _)
      | (with_reducible exact spec_MapOf.mono _ _)
      | (with_reducible exact spec_PlaceOf.mono _ _ _)
      | (with_reducible exact spec_PlacesOf.mono _ _)
      | (with_reducible exact spec_PutStretch.mono _ _ _ _ _)
      | (with_reducible exact LeO.refl _)
      | (with_reducible exact LeO.none _)
      | (with_reducible refine LeO.ite ?_ ?_)
      | (with_reducible refine LeO.bind ?_ (fun _ => ?_))
      | exact ih0 _ _ _ _ _
      | exact ih1 _
      | exact ih2 _ _ _ _ _ _ _ _
      | exact ih3 _
      | exact ih4 _ _ _ _ _ _ _
      | exact ih5 _ _ _ _ _ _ _ _
      | exact ih6 _ _ _ _
      | exact ih7 _ _ _ _ _
      | exact impl_GoodMap.mono _ _
      | exact impl_MapOf.mono _ _
      | exact impl_PlaceOf.mono _ _ _
      | exact impl_PlacesOf.mono _ _
      | exact impl_PutStretch.mono _ _ _ _ _
      | exact laws_sameInts.mono _ _ _
      | exact laws_sameMap.mono _ _ _
      | exact spec_DrawMapOf.mono _ _
      | exact spec_DrawPlaceOf.mono _ _
      | exact spec_DrawPlacesOf.mono _ _
      | exact spec_DrawPutStretch.mono _ _
      | exact spec_GoodMap.mono _ _
      | exact spec_MapOf.mono _ _
      | exact spec_PlaceOf.mono _ _ _
      | exact spec_PlacesOf.mono _ _
      | exact spec_PutStretch.mono _ _ _ _ _
      | exact LeO.none _
      | refine LeO.ite ?_ ?_
      | refine LeO.bind ?_ (fun _ => ?_)
    · intro y0 y1 y2 y3 y4 y5 y6 y7
      unfold laws_FnStretches.j4
      repeat' first
      | (with_reducible exact ih0 _ _ _ _ _)
      | (with_reducible exact ih1 _)
      | (with_reducible exact ih2 _ _ _ _ _ _ _ _)
      | (with_reducible exact ih3 _)
      | (with_reducible exact ih4 _ _ _ _ _ _ _)
      | (with_reducible exact ih5 _ _ _ _ _ _ _ _)
      | (with_reducible exact ih6 _ _ _ _)
      | (with_reducible exact ih7 _ _ _ _ _)
      | (with_reducible exact impl_GoodMap.mono _ _)
      | (with_reducible exact impl_MapOf.mono _ _)
      | (with_reducible exact impl_PlaceOf.mono _ _ _)
      | (with_reducible exact impl_PlacesOf.mono _ _)
      | (with_reducible exact impl_PutStretch.mono _ _ _ _ _)
      | (with_reducible exact laws_sameInts.mono _ _ _)
      | (with_reducible exact laws_sameMap.mono _ _ _)
      | (with_reducible exact spec_DrawMapOf.mono _ _)
      | (with_reducible exact spec_DrawPlaceOf.mono _ _)
      | (with_reducible exact spec_DrawPlacesOf.mono _ _)
      | (with_reducible exact spec_DrawPutStretch.mono _ _)
      | (with_reducible exact spec_GoodMap.mono _ _)
      | (with_reducible exact spec_MapOf.mono _ _)
      | (with_reducible exact spec_PlaceOf.mono _ _ _)
      | (with_reducible exact spec_PlacesOf.mono _ _)
      | (with_reducible exact spec_PutStretch.mono _ _ _ _ _)
      | (with_reducible exact LeO.refl _)
      | (with_reducible exact LeO.none _)
      | (with_reducible refine LeO.ite ?_ ?_)
      | (with_reducible refine LeO.bind ?_ (fun _ => ?_))
      | exact ih0 _ _ _ _ _
      | exact ih1 _
      | exact ih2 _ _ _ _ _ _ _ _
      | exact ih3 _
      | exact ih4 _ _ _ _ _ _ _
      | exact ih5 _ _ _ _ _ _ _ _
      | exact ih6 _ _ _ _
      | exact ih7 _ _ _ _ _
      | exact impl_GoodMap.mono _ _
      | exact impl_MapOf.mono _ _
      | exact impl_PlaceOf.mono _ _ _
      | exact impl_PlacesOf.mono _ _
      | exact impl_PutStretch.mono _ _ _ _ _
      | exact laws_sameInts.mono _ _ _
      | exact laws_sameMap.mono _ _ _
      | exact spec_DrawMapOf.mono _ _
      | exact spec_DrawPlaceOf.mono _ _
      | exact spec_DrawPlacesOf.mono _ _
      | exact spec_DrawPutStretch.mono _ _
      | exact spec_GoodMap.mono _ _
      | exact spec_MapOf.mono _ _
      | exact spec_PlaceOf.mono _ _ _
      | exact spec_PlacesOf.mono _ _
      | exact spec_PutStretch.mono _ _ _ _ _
      | exact LeO.none _
      | refine LeO.ite ?_ ?_
      | refine LeO.bind ?_ (fun _ => ?_)
    · intro y0
      unfold laws_FnStretches.j7
      repeat' first
      | (with_reducible exact ih0 _ _ _ _ _)
      | (with_reducible exact ih1 _)
      | (with_reducible exact ih2 _ _ _ _ _ _ _ _)
      | (with_reducible exact ih3 _)
      | (with_reducible exact ih4 _ _ _ _ _ _ _)
      | (with_reducible exact ih5 _ _ _ _ _ _ _ _)
      | (with_reducible exact ih6 _ _ _ _)
      | (with_reducible exact ih7 _ _ _ _ _)
      | (with_reducible exact impl_GoodMap.mono _ _)
      | (with_reducible exact impl_MapOf.mono _ _)
      | (with_reducible exact impl_PlaceOf.mono _ _ _)
      | (with_reducible exact impl_PlacesOf.mono _ _)
      | (with_reducible exact impl_PutStretch.mono _ _ _ _ _)
      | (with_reducible exact laws_sameInts.mono _ _ _)
      | (with_reducible exact laws_sameMap.mono _ _ _)
      | (with_reducible exact spec_DrawMapOf.mono _ _)
      | (with_reducible exact spec_DrawPlaceOf.mono _ _)
      | (with_reducible exact spec_DrawPlacesOf.mono _ _)
      | (with_reducible exact spec_DrawPutStretch.mono _ _)
      | (with_reducible exact spec_GoodMap.mono _ _)
      | (with_reducible exact spec_MapOf.mono _ _)
      | (with_reducible exact spec_PlaceOf.mono _ _ _)
      | (with_reducible exact spec_PlacesOf.mono _ _)
      | (with_reducible exact spec_PutStretch.mono _ _ _ _ _)
      | (with_reducible exact LeO.refl _)
      | (with_reducible exact LeO.none _)
      | (with_reducible refine LeO.ite ?_ ?_)
      | (with_reducible refine LeO.bind ?_ (fun _ => ?_))
      | exact ih0 _ _ _ _ _
      | exact ih1 _
      | exact ih2 _ _ _ _ _ _ _ _
      | exact ih3 _
      | exact ih4 _ _ _ _ _ _ _
      | exact ih5 _ _ _ _ _ _ _ _
      | exact ih6 _ _ _ _
      | exact ih7 _ _ _ _ _
      | exact impl_GoodMap.mono _ _
      | exact impl_MapOf.mono _ _
      | exact impl_PlaceOf.mono _ _ _
      | exact impl_PlacesOf.mono _ _
      | exact impl_PutStretch.mono _ _ _ _ _
      | exact laws_sameInts.mono _ _ _
      | exact laws_sameMap.mono _ _ _
      | exact spec_DrawMapOf.mono _ _
      | exact spec_DrawPlaceOf.mono _ _
      | exact spec_DrawPlacesOf.mono _ _
      | exact spec_DrawPutStretch.mono _ _
      | exact spec_GoodMap.mono _ _
      | exact spec_MapOf.mono _ _
      | exact spec_PlaceOf.mono _ _ _
      | exact spec_PlacesOf.mono _ _
      | exact spec_PutStretch.mono _ _ _ _ _
      | exact LeO.none _
      | refine LeO.ite ?_ ?_
      | refine LeO.bind ?_ (fun _ => ?_)
    · intro y0 y1 y2 y3 y4 y5 y6
      unfold laws_FnStretches.j5
      repeat' first
      | (with_reducible exact ih0 _ _ _ _ _)
      | (with_reducible exact ih1 _)
      | (with_reducible exact ih2 _ _ _ _ _ _ _ _)
      | (with_reducible exact ih3 _)
      | (with_reducible exact ih4 _ _ _ _ _ _ _)
      | (with_reducible exact ih5 _ _ _ _ _ _ _ _)
      | (with_reducible exact ih6 _ _ _ _)
      | (with_reducible exact ih7 _ _ _ _ _)
      | (with_reducible exact impl_GoodMap.mono _ _)
      | (with_reducible exact impl_MapOf.mono _ _)
      | (with_reducible exact impl_PlaceOf.mono _ _ _)
      | (with_reducible exact impl_PlacesOf.mono _ _)
      | (with_reducible exact impl_PutStretch.mono _ _ _ _ _)
      | (with_reducible exact laws_sameInts.mono _ _ _)
      | (with_reducible exact laws_sameMap.mono _ _ _)
      | (with_reducible exact spec_DrawMapOf.mono _ _)
      | (with_reducible exact spec_DrawPlaceOf.mono _ _)
      | (with_reducible exact spec_DrawPlacesOf.mono _ _)
      | (with_reducible exact spec_DrawPutStretch.mono _ _)
      | (with_reducible exact spec_GoodMap.mono _ _)
      | (with_reducible exact spec_MapOf.mono _ _)
      | (with_reducible exact spec_PlaceOf.mono _ _ _)
      | (with_reducible exact spec_PlacesOf.mono _ _)
      | (with_reducible exact spec_PutStretch.mono _ _ _ _ _)
      | (with_reducible exact LeO.refl _)
      | (with_reducible exact LeO.none _)
      | (with_reducible refine LeO.ite ?_ ?_)
      | (with_reducible refine LeO.bind ?_ (fun _ => ?_))
      | exact ih0 _ _ _ _ _
      | exact ih1 _
      | exact ih2 _ _ _ _ _ _ _ _
      | exact ih3 _
      | exact ih4 _ _ _ _ _ _ _
      | exact ih5 _ _ _ _ _ _ _ _
      | exact ih6 _ _ _ _
      | exact ih7 _ _ _ _ _
      | exact impl_GoodMap.mono _ _
      | exact impl_MapOf.mono _ _
      | exact impl_PlaceOf.mono _ _ _
      | exact impl_PlacesOf.mono _ _
      | exact impl_PutStretch.mono _ _ _ _ _
      | exact laws_sameInts.mono _ _ _
      | exact laws_sameMap.mono _ _ _
      | exact spec_DrawMapOf.mono _ _
      | exact spec_DrawPlaceOf.mono _ _
      | exact spec_DrawPlacesOf.mono _ _
      | exact spec_DrawPutStretch.mono _ _
      | exact spec_GoodMap.mono _ _
      | exact spec_MapOf.mono _ _
      | exact spec_PlaceOf.mono _ _ _
      | exact spec_PlacesOf.mono _ _
      | exact spec_PutStretch.mono _ _ _ _ _
      | exact LeO.none _
      | refine LeO.ite ?_ ?_
      | refine LeO.bind ?_ (fun _ => ?_)
    · intro y0 y1 y2 y3 y4 y5 y6 y7
      unfold laws_FnStretches.l1
      repeat' first
      | (with_reducible exact ih0 _ _ _ _ _)
      | (with_reducible exact ih1 _)
      | (with_reducible exact ih2 _ _ _ _ _ _ _ _)
      | (with_reducible exact ih3 _)
      | (with_reducible exact ih4 _ _ _ _ _ _ _)
      | (with_reducible exact ih5 _ _ _ _ _ _ _ _)
      | (with_reducible exact ih6 _ _ _ _)
      | (with_reducible exact ih7 _ _ _ _ _)
      | (with_reducible exact impl_GoodMap.mono _ _)
      | (with_reducible exact impl_MapOf.mono _ _)
      | (with_reducible exact impl_PlaceOf.mono _ _ _)
      | (with_reducible exact impl_PlacesOf.mono _ _)
      | (with_reducible exact impl_PutStretch.mono _ _ _ _ _)
      | (with_reducible exact laws_sameInts.mono _ _ _)
      | (with_reducible exact laws_sameMap.mono _ _ _)
      | (with_reducible exact spec_DrawMapOf.mono _ _)
      | (with_reducible exact spec_DrawPlaceOf.mono _ _)
      | (with_reducible exact spec_DrawPlacesOf.mono _ _)
      | (with_reducible exact spec_DrawPutStretch.mono _ _)
      | (with_reducible exact spec_GoodMap.mono _ _)
      | (with_reducible exact spec_MapOf.mono _ _)
      | (with_reducible exact spec_PlaceOf.mono _ _ _)
      | (with_reducible exact spec_PlacesOf.mono _ _)
      | (with_reducible exact spec_PutStretch.mono _ _ _ _ _)
      | (with_reducible exact LeO.refl _)
      | (with_reducible exact LeO.none _)
      | (with_reducible refine LeO.ite ?_ ?_)
      | (with_reducible refine LeO.bind ?_ (fun _ => ?_))
      | exact ih0 _ _ _ _ _
      | exact ih1 _
      | exact ih2 _ _ _ _ _ _ _ _
      | exact ih3 _
      | exact ih4 _ _ _ _ _ _ _
      | exact ih5 _ _ _ _ _ _ _ _
      | exact ih6 _ _ _ _
      | exact ih7 _ _ _ _ _
      | exact impl_GoodMap.mono _ _
      | exact impl_MapOf.mono _ _
      | exact impl_PlaceOf.mono _ _ _
      | exact impl_PlacesOf.mono _ _
      | exact impl_PutStretch.mono _ _ _ _ _
      | exact laws_sameInts.mono _ _ _
      | exact laws_sameMap.mono _ _ _
      | exact spec_DrawMapOf.mono _ _
      | exact spec_DrawPlaceOf.mono _ _
      | exact spec_DrawPlacesOf.mono _ _
      | exact spec_DrawPutStretch.mono _ _
      | exact spec_GoodMap.mono _ _
      | exact spec_MapOf.mono _ _
      | exact spec_PlaceOf.mono _ _ _
      | exact spec_PlacesOf.mono _ _
      | exact spec_PutStretch.mono _ _ _ _ _
      | exact LeO.none _
      | refine LeO.ite ?_ ?_
      | refine LeO.bind ?_ (fun _ => ?_)
    · intro y0 y1 y2 y3
      unfold laws_FnStretches.j1
      repeat' first
      | (with_reducible exact ih0 _ _ _ _ _)
      | (with_reducible exact ih1 _)
      | (with_reducible exact ih2 _ _ _ _ _ _ _ _)
      | (with_reducible exact ih3 _)
      | (with_reducible exact ih4 _ _ _ _ _ _ _)
      | (with_reducible exact ih5 _ _ _ _ _ _ _ _)
      | (with_reducible exact ih6 _ _ _ _)
      | (with_reducible exact ih7 _ _ _ _ _)
      | (with_reducible exact impl_GoodMap.mono _ _)
      | (with_reducible exact impl_MapOf.mono _ _)
      | (with_reducible exact impl_PlaceOf.mono _ _ _)
      | (with_reducible exact impl_PlacesOf.mono _ _)
      | (with_reducible exact impl_PutStretch.mono _ _ _ _ _)
      | (with_reducible exact laws_sameInts.mono _ _ _)
      | (with_reducible exact laws_sameMap.mono _ _ _)
      | (with_reducible exact spec_DrawMapOf.mono _ _)
      | (with_reducible exact spec_DrawPlaceOf.mono _ _)
      | (with_reducible exact spec_DrawPlacesOf.mono _ _)
      | (with_reducible exact spec_DrawPutStretch.mono _ _)
      | (with_reducible exact spec_GoodMap.mono _ _)
      | (with_reducible exact spec_MapOf.mono _ _)
      | (with_reducible exact spec_PlaceOf.mono _ _ _)
      | (with_reducible exact spec_PlacesOf.mono _ _)
      | (with_reducible exact spec_PutStretch.mono _ _ _ _ _)
      | (with_reducible exact LeO.refl _)
      | (with_reducible exact LeO.none _)
      | (with_reducible refine LeO.ite ?_ ?_)
      | (with_reducible refine LeO.bind ?_ (fun _ => ?_))
      | exact ih0 _ _ _ _ _
      | exact ih1 _
      | exact ih2 _ _ _ _ _ _ _ _
      | exact ih3 _
      | exact ih4 _ _ _ _ _ _ _
      | exact ih5 _ _ _ _ _ _ _ _
      | exact ih6 _ _ _ _
      | exact ih7 _ _ _ _ _
      | exact impl_GoodMap.mono _ _
      | exact impl_MapOf.mono _ _
      | exact impl_PlaceOf.mono _ _ _
      | exact impl_PlacesOf.mono _ _
      | exact impl_PutStretch.mono _ _ _ _ _
      | exact laws_sameInts.mono _ _ _
      | exact laws_sameMap.mono _ _ _
      | exact spec_DrawMapOf.mono _ _
      | exact spec_DrawPlaceOf.mono _ _
      | exact spec_DrawPlacesOf.mono _ _
      | exact spec_DrawPutStretch.mono _ _
      | exact spec_GoodMap.mono _ _
      | exact spec_MapOf.mono _ _
      | exact spec_PlaceOf.mono _ _ _
      | exact spec_PlacesOf.mono _ _
      | exact spec_PutStretch.mono _ _ _ _ _
      | exact LeO.none _
      | refine LeO.ite ?_ ?_
      | refine LeO.bind ?_ (fun _ => ?_)
    · intro y0 y1 y2 y3 y4
      unfold laws_FnStretches.l0
      repeat' first
      | (with_reducible exact ih0 _ _ _ _ _)
      | (with_reducible exact ih1 _)
      | (with_reducible exact ih2 _ _ _ _ _ _ _ _)
      | (with_reducible exact ih3 _)
      | (with_reducible exact ih4 _ _ _ _ _ _ _)
      | (with_reducible exact ih5 _ _ _ _ _ _ _ _)
      | (with_reducible exact ih6 _ _ _ _)
      | (with_reducible exact ih7 _ _ _ _ _)
      | (with_reducible exact impl_GoodMap.mono _ _)
      | (with_reducible exact impl_MapOf.mono _ _)
      | (with_reducible exact impl_PlaceOf.mono _ _ _)
      | (with_reducible exact impl_PlacesOf.mono _ _)
      | (with_reducible exact impl_PutStretch.mono _ _ _ _ _)
      | (with_reducible exact laws_sameInts.mono _ _ _)
      | (with_reducible exact laws_sameMap.mono _ _ _)
      | (with_reducible exact spec_DrawMapOf.mono _ _)
      | (with_reducible exact spec_DrawPlaceOf.mono _ _)
      | (with_reducible exact spec_DrawPlacesOf.mono _ _)
      | (with_reducible exact spec_DrawPutStretch.mono _ _)
      | (with_reducible exact spec_GoodMap.mono _ _)
      | (with_reducible exact spec_MapOf.mono _ _)
      | (with_reducible exact spec_PlaceOf.mono _ _ _)
      | (with_reducible exact spec_PlacesOf.mono _ _)
      | (with_reducible exact spec_PutStretch.mono _ _ _ _ _)
      | (with_reducible exact LeO.refl _)
      | (with_reducible exact LeO.none _)
      | (with_reducible refine LeO.ite ?_ ?_)
      | (with_reducible refine LeO.bind ?_ (fun _ => ?_))
      | exact ih0 _ _ _ _ _
      | exact ih1 _
      | exact ih2 _ _ _ _ _ _ _ _
      | exact ih3 _
      | exact ih4 _ _ _ _ _ _ _
      | exact ih5 _ _ _ _ _ _ _ _
      | exact ih6 _ _ _ _
      | exact ih7 _ _ _ _ _
      | exact impl_GoodMap.mono _ _
      | exact impl_MapOf.mono _ _
      | exact impl_PlaceOf.mono _ _ _
      | exact impl_PlacesOf.mono _ _
      | exact impl_PutStretch.mono _ _ _ _ _
      | exact laws_sameInts.mono _ _ _
      | exact laws_sameMap.mono _ _ _
      | exact spec_DrawMapOf.mono _ _
      | exact spec_DrawPlaceOf.mono _ _
      | exact spec_DrawPlacesOf.mono _ _
      | exact spec_DrawPutStretch.mono _ _
      | exact spec_GoodMap.mono _ _
      | exact spec_MapOf.mono _ _
      | exact spec_PlaceOf.mono _ _ _
      | exact spec_PlacesOf.mono _ _
      | exact spec_PutStretch.mono _ _ _ _ _
      | exact LeO.none _
      | refine LeO.ite ?_ ?_
      | refine LeO.bind ?_ (fun _ => ?_)
theorem laws_FnStretches.mono : ∀ a0 a1 k, LeO (laws_FnStretches.f k a0 a1) (laws_FnStretches.f (k + 1) a0 a1) := by
  intro a0 a1 k
  obtain ⟨ih0, ih1, ih2, ih3, ih4, ih5, ih6, ih7⟩ := laws_FnStretches.mono_l k
  unfold laws_FnStretches.f
  repeat' first
      | (with_reducible exact ih0 _ _ _ _ _)
      | (with_reducible exact ih1 _)
      | (with_reducible exact ih2 _ _ _ _ _ _ _ _)
      | (with_reducible exact ih3 _)
      | (with_reducible exact ih4 _ _ _ _ _ _ _)
      | (with_reducible exact ih5 _ _ _ _ _ _ _ _)
      | (with_reducible exact ih6 _ _ _ _)
      | (with_reducible exact ih7 _ _ _ _ _)
      | (with_reducible exact impl_GoodMap.mono _ _)
      | (with_reducible exact impl_MapOf.mono _ _)
      | (with_reducible exact impl_PlaceOf.mono _ _ _)
      | (with_reducible exact impl_PlacesOf.mono _ _)
      | (with_reducible exact impl_PutStretch.mono _ _ _ _ _)
      | (with_reducible exact laws_sameInts.mono _ _ _)
      | (with_reducible exact laws_sameMap.mono _ _ _)
      | (with_reducible exact spec_DrawMapOf.mono _ _)
      | (with_reducible exact spec_DrawPlaceOf.mono _ _)
      | (with_reducible exact spec_DrawPlacesOf.mono _ _)
      | (with_reducible exact spec_DrawPutStretch.mono _ _)
      | (with_reducible exact spec_GoodMap.mono _ _)
      | (with_reducible exact spec_MapOf.mono _ _)
      | (with_reducible exact spec_PlaceOf.mono _ _ _)
      | (with_reducible exact spec_PlacesOf.mono _ _)
      | (with_reducible exact spec_PutStretch.mono _ _ _ _ _)
      | (with_reducible exact LeO.refl _)
      | (with_reducible exact LeO.none _)
      | (with_reducible refine LeO.ite ?_ ?_)
      | (with_reducible refine LeO.bind ?_ (fun _ => ?_))
      | exact ih0 _ _ _ _ _
      | exact ih1 _
      | exact ih2 _ _ _ _ _ _ _ _
      | exact ih3 _
      | exact ih4 _ _ _ _ _ _ _
      | exact ih5 _ _ _ _ _ _ _ _
      | exact ih6 _ _ _ _
      | exact ih7 _ _ _ _ _
      | exact impl_GoodMap.mono _ _
      | exact impl_MapOf.mono _ _
      | exact impl_PlaceOf.mono _ _ _
      | exact impl_PlacesOf.mono _ _
      | exact impl_PutStretch.mono _ _ _ _ _
      | exact laws_sameInts.mono _ _ _
      | exact laws_sameMap.mono _ _ _
      | exact spec_DrawMapOf.mono _ _
      | exact spec_DrawPlaceOf.mono _ _
      | exact spec_DrawPlacesOf.mono _ _
      | exact spec_DrawPutStretch.mono _ _
      | exact spec_GoodMap.mono _ _
      | exact spec_MapOf.mono _ _
      | exact spec_PlaceOf.mono _ _ _
      | exact spec_PlacesOf.mono _ _
      | exact spec_PutStretch.mono _ _ _ _ _
      | exact LeO.none _
      | refine LeO.ite ?_ ?_
      | refine LeO.bind ?_ (fun _ => ?_)
set_option maxHeartbeats 64000000 in
set_option maxRecDepth 100000 in
theorem laws_FnStretches.calls (k : Nat) (A0 : Option Addr) (c0 : Nat) (l0 : List Int) (A1 : Option Addr) (c1 : Nat) (l1 : List Int) (r : Bool) (w : World) (hr0 : Kd.C (Kd.int .u8) w A0 l0.length l0) (hc0 : l0.length ≤ c0) (hr1 : Kd.C (Kd.int .u8) w A1 l1.length l1) (hc1 : l1.length ≤ c1) (h : laws_FnStretches.f k l0 l1 = some r) :
    Calls Try.prog 11 #[.slice A0 l0.length c0, .slice A1 l1.length c1] w fun e w' => e = .returned (.bool r) ∧ Below w.heap.size w w' := by
  have hu47 := Try.underlying47
  have HR0 := Aside0.mk hr0
  have HC0 := Aside0.mk hc0
  clear hr0 hc0
  have HR1 := Aside0.mk hr1
  have HC1 := Aside0.mk hc1
  clear hr1 hc1
  have HB := Aside0.mk (Below.refl w.heap.size w)
  have H : (if (wrap64 ((l0.length : Int) + (l1.length : Int))) > 1048576 then (some true) else ((spec_DrawMapOf.f k l0).bind fun t297 => ((impl_MapOf.f k t297).bind fun bt300 => ((spec_MapOf.f k t297).bind fun bt304 => (if (bt300.2 != bt304.2) = true then (laws_FnStretches.j0 k l1 t297 bt300.1 bt300.2 true) else ((laws_sameMap.f k bt300.1 bt304.1).bind fun t308 => (laws_FnStretches.j0 k l1 t297 bt300.1 bt300.2 (!t308)))))))) = some r := h
  clear h
  by_cases c3 : (wrap64 ((l0.length : Int) + (l1.length : Int))) > 1048576
  · rw [if_pos c3] at H
    have c3b0 : decide (1048576 < (wrap64 ((l0.length : Int) + (l1.length : Int)))) = true := decide_eq_true c3
    clear c3
    obtain rfl := Option.some.inj H
    go_enter Try.func11, Try.ntmps11
    go_wp2
    repeat (go_quiet (fail); try go_wp2)
    go_ret
    exact ⟨by first | rfl | (simp [errW_none, errW_some] <;> rfl) | (simp [*, errW_none, errW_some] <;> rfl), by repeat (first | (with_reducible first | exact HB.out | apply below_alloc | apply pw_below_drewN | apply below_drew1) | exact HB.out)⟩
  · rw [if_neg c3] at H
    have c3b0 : decide (1048576 < (wrap64 ((l0.length : Int) + (l1.length : Int)))) = false := decide_eq_false c3
    clear c3
    replace H := Option.bind_eq_some_iff.mp H
    obtain ⟨t297, A40, H⟩ := H
    replace H : ((impl_MapOf.f k t297).bind fun bt300 => ((spec_MapOf.f k t297).bind fun bt304 => (if (bt300.2 != bt304.2) = true then (laws_FnStretches.j0 k l1 t297 bt300.1 bt300.2 true) else ((laws_sameMap.f k bt300.1 bt304.1).bind fun t308 => (laws_FnStretches.j0 k l1 t297 bt300.1 bt300.2 (!t308)))))) = some r := H
    have A4 := Aside0.mk A40
    clear A40
    replace H := Option.bind_eq_some_iff.mp H
    obtain ⟨⟨t300, t301⟩, A50, H⟩ := H
    replace H : ((spec_MapOf.f k t297).bind fun bt304 => (if (t301 != bt304.2) = true then (laws_FnStretches.j0 k l1 t297 t300 t301 true) else ((laws_sameMap.f k t300 bt304.1).bind fun t308 => (laws_FnStretches.j0 k l1 t297 t300 t301 (!t308))))) = some r := H
    have A5 := Aside0.mk A50
    clear A50
    replace H := Option.bind_eq_some_iff.mp H
    obtain ⟨⟨t304, t305⟩, A60, H⟩ := H
    replace H : (if (t301 != t305) = true then (laws_FnStretches.j0 k l1 t297 t300 t301 true) else ((laws_sameMap.f k t300 t304).bind fun t308 => (laws_FnStretches.j0 k l1 t297 t300 t301 (!t308)))) = some r := H
    have A6 := Aside0.mk A60
    clear A60
    have HC7 := Aside0.mk H
    clear H
    go_enter Try.func11, Try.ntmps11
    go_upto_region 6 with (first | (go_at_call 38; (with_reducible refine (spec_DrawMapOf.calls k _ _ l0 t297 _ ?side1 ?side2 A4.out).mono ?_); (case side1 => repeat (first | exact HR0.out | (with_reducible refine Kd.C_alloc ?_ _) | (with_reducible refine Kd.C_drewN ?_ _) | (with_reducible refine Kd.C_drew ?_))); (case side2 => exact HC0.out); rintro e w8 ⟨v298, rfl, ho0, hb⟩; have n0_ := Aside0.mk (Kd.Q_lower ho0 (below_size (by repeat (first | (with_reducible first | exact HB.out | apply below_alloc | apply pw_below_drewN | apply below_drew1) | exact HB.out)))); have n1_ := Aside0.mk (below_step (by repeat (first | (with_reducible first | exact HB.out | apply below_alloc | apply pw_below_drewN | apply below_drew1) | exact HB.out)) hb); clear HB; have HO299 := n0_; have HB := n1_; clear n0_ n1_; (try clear hb); (try clear hb2); (try clear hk); (try clear hi); (try clear ho0); obtain ⟨Ao9, co9, eo9, _⟩ := Kd.Q_slice HO299.out; subst eo9) | (go_at_call 19; (with_reducible refine (impl_MapOf.calls k _ _ t297 t300 t301 _ ?side1 ?side2 A5.out).mono ?_); (case side1 => repeat (first | exact (Kd.Q_reads' HO299.out).2.2 | (with_reducible refine Kd.C_alloc ?_ _) | (with_reducible refine Kd.C_drewN ?_ _) | (with_reducible refine Kd.C_drew ?_))); (case side2 => exact (Kd.Q_reads' HO299.out).2.1); rintro e w10 ⟨v302, rfl, ho0, hb⟩; have n0_ := Aside0.mk (Kd.Q_below (by (with_reducible repeat (first | apply Kd.Q_alloc | apply Kd.Q_drewN | apply Kd.Q_drew)); exact HO299.out) hb); have n1_ := Aside0.mk (Kd.R_lower ho0 (below_size (by repeat (first | (with_reducible first | exact HB.out | apply below_alloc | apply pw_below_drewN | apply below_drew1) | exact HB.out)))); have n2_ := Aside0.mk (below_step (by repeat (first | (with_reducible first | exact HB.out | apply below_alloc | apply pw_below_drewN | apply below_drew1) | exact HB.out)) hb); clear HO299; clear HB; have HO299 := n0_; have HO303 := n1_; have HB := n2_; clear n0_ n1_ n2_; (try clear hb); (try clear hb2); (try clear hk); (try clear hi); (try clear ho0)) | (go_at_call 17; (with_reducible refine (spec_MapOf.calls k _ _ t297 t304 t305 _ ?side1 ?side2 A6.out).mono ?_); (case side1 => repeat (first | exact (Kd.Q_reads' HO299.out).2.2 | (with_reducible refine Kd.C_alloc ?_ _) | (with_reducible refine Kd.C_drewN ?_ _) | (with_reducible refine Kd.C_drew ?_))); (case side2 => exact (Kd.Q_reads' HO299.out).2.1); rintro e w11 ⟨v306, rfl, ho0, hb⟩; have n0_ := Aside0.mk (Kd.Q_below (by (with_reducible repeat (first | apply Kd.Q_alloc | apply Kd.Q_drewN | apply Kd.Q_drew)); exact HO299.out) hb); have n1_ := Aside0.mk (Kd.R_elder' (by (with_reducible repeat (first | apply Kd.R_alloc | apply Kd.R_drewN | apply Kd.R_drew)); exact HO303.out) (Kd.R_base ho0) hb); have n2_ := Aside0.mk (Kd.R_lower (Kd.R_new' ho0 (Kd.R_lt (by (with_reducible repeat (first | apply Kd.R_alloc | apply Kd.R_drewN | apply Kd.R_drew)); exact HO303.out))) (below_size (by repeat (first | (with_reducible first | exact HB.out | apply below_alloc | apply pw_below_drewN | apply below_drew1) | exact HB.out)))); have n3_ := Aside0.mk (below_step (by repeat (first | (with_reducible first | exact HB.out | apply below_alloc | apply pw_below_drewN | apply below_drew1) | exact HB.out)) hb); clear HO299; clear HO303; clear HB; have HO299 := n0_; have HO303 := n1_; have HO307 := n2_; have HB := n3_; clear n0_ n1_ n2_ n3_; (try clear hb); (try clear hb2); (try clear hk); (try clear hi); (try clear ho0)))
    (try simp only [Act.put, List.setIfInBounds_toArray, List.set_cons_zero, List.set_cons_succ])
    go_cut [65] (fun v65 wc => ∃ (kq : Nat) (x65_6 : Bool), v65 = .bool x65_6 ∧ Aside0 (laws_FnStretches.j0 kq l1 t297 t300 t301 x65_6 = some r) ∧ Aside0 (kq ≤ k) ∧ Aside0 (Kd.Q (Kd.int .i64) 3 wc w.heap.size (fun _ => True) (.slice Ao9 t297.length co9) t297) ∧ Aside0 (Kd.R k47 47 wc w.heap.size (fun _ => True) v302 t300) ∧ Aside0 (Below w.heap.size w wc))
    case first => as_aux_lemma =>
      have H := HC7.out
      clear HC7
      by_cases c12 : (t301 != t305) = true
      · rw [if_pos c12] at H
        have c12b0 : (t301 != t305) = true := c12
        (try (have c12b1 : decide (t301 = t305) = false := by simpa using c12))
        (try (have c12b2 : (t301 == t305) = false := by simpa using c12))
        (try (have c12b3 : ¬ (t301 = t305) := by simpa using c12))
        clear c12
        (first | rw [c12b0] | (simp only [i64_w, i32_w]; rw [c12b0]) | skip)
        have H' := Aside0.mk H
        clear H
        go_wp2
        repeat (go_quiet (fail); try go_wp2)
        go_meet
        case rel => exact ⟨_, (true), (by first | rfl | (simp; done) | (simp [*]; done)), H', ⟨by first | omega | exact Nat.le_refl _⟩, ⟨by (with_reducible repeat (first | apply Kd.Q_alloc | apply Kd.Q_drewN | apply Kd.Q_drew)); exact HO299.out⟩, ⟨by (with_reducible repeat (first | apply Kd.R_alloc | apply Kd.R_drewN | apply Kd.R_drew)); exact Kd.R_mono HO303.out (fun _ hk => trivial)⟩, ⟨by repeat (first | (with_reducible first | exact HB.out | apply below_alloc | apply pw_below_drewN | apply below_drew1) | exact HB.out)⟩⟩
      · rw [if_neg c12] at H
        have c12b0 : (t301 != t305) = false := by simpa using c12
        (try (have c12b1 : decide (t301 = t305) = true := by simpa using c12))
        (try (have c12b2 : (t301 == t305) = true := by simpa using c12))
        clear c12
        (first | rw [c12b0] | (simp only [i64_w, i32_w]; rw [c12b0]) | skip)
        replace H := Option.bind_eq_some_iff.mp H
        obtain ⟨t308, A130, H⟩ := H
        replace H : (laws_FnStretches.j0 k l1 t297 t300 t301 (!t308)) = some r := H
        have A13 := Aside0.mk A130
        clear A130
        have H' := Aside0.mk H
        clear H
        obtain ⟨Ao14, co14, eo14⟩ := Kd.R_slice HO303.out
        subst eo14
        obtain ⟨Ao15, co15, eo15⟩ := Kd.R_slice HO307.out
        subst eo15
        go_wp2_with (first | (go_at_call 39; (with_reducible refine (laws_sameMap.calls k _ _ t300 _ _ t304 t308 _ ?side1 ?side2 ?side3 ?side4 A13.out).mono ?_); (case side1 => repeat (first | exact (Kd.R_reads' HO303.out).2.2 | (with_reducible refine Kd.C_alloc ?_ _) | (with_reducible refine Kd.C_drewN ?_ _) | (with_reducible refine Kd.C_drew ?_))); (case side2 => exact (Kd.R_reads' HO303.out).2.1); (case side3 => repeat (first | exact (Kd.R_reads' HO307.out).2.2 | (with_reducible refine Kd.C_alloc ?_ _) | (with_reducible refine Kd.C_drewN ?_ _) | (with_reducible refine Kd.C_drew ?_))); (case side4 => exact (Kd.R_reads' HO307.out).2.1); rintro e w' ⟨rfl, ⟨nd, rfl⟩⟩; (try first | exact ⟨rfl, _, World.drewN_drewN _ _ _⟩ | exact ⟨rfl, _, Eq.trans (World.drewN_drewN _ _ _) (congrArg (World.drewN _) (Nat.add_assoc _ _ _))⟩)))
        go_meet
        case rel => exact ⟨_, (!t308), (by first | rfl | (simp; done) | (simp [*]; done)), H', ⟨by first | omega | exact Nat.le_refl _⟩, ⟨by (with_reducible repeat (first | apply Kd.Q_alloc | apply Kd.Q_drewN | apply Kd.Q_drew)); exact HO299.out⟩, ⟨by (with_reducible repeat (first | apply Kd.R_alloc | apply Kd.R_drewN | apply Kd.R_drew)); exact Kd.R_mono HO303.out (fun _ hk => trivial)⟩, ⟨by repeat (first | (with_reducible first | exact HB.out | apply below_alloc | apply pw_below_drewN | apply below_drew1) | exact HB.out)⟩⟩
    case rest => as_aux_lemma =>
      clear HC7
      try clear c1
      try clear p2
      try clear c3
      try clear c3b0
      try clear p6
      try clear c11
      try clear c12
      try clear c12b0
      try clear c12b1
      try clear c12b2
      obtain ⟨kq, x65_6, rfl, HA, HJ6, HO_5, HO_6, HB⟩ := hcut
      cases kq with
      | zero => exact absurd HA.out (by simp [laws_FnStretches.j0])
      | succ kj6 =>
        have H := HA.out
        clear HA
        simp only [laws_FnStretches.j0] at H
        by_cases c16 : x65_6 = true
        · subst c16
          have H1 : (some false) = some r := by rw [if_pos rfl] at H; exact H
          clear H
          have H := H1
          clear H1
          obtain rfl := Option.some.inj H
          go_wp2
          repeat (go_quiet (fail); try go_wp2)
          go_ret
          exact ⟨by first | rfl | (simp [errW_none, errW_some] <;> rfl) | (simp [*, errW_none, errW_some] <;> rfl), by repeat (first | (with_reducible first | exact HB.out | apply below_alloc | apply pw_below_drewN | apply below_drew1) | exact HB.out)⟩
        · replace c16 := Bool.eq_false_iff.mpr c16
          subst c16
          have H1 : (if t301 = true then ((impl_PlacesOf.f kj6 t300).bind fun bt309 => ((impl_GoodMap.f kj6 t300).bind fun t313 => (if t313 = true then (if bt309.2 = true then ((laws_sameInts.f kj6 bt309.1 t297).bind fun t314 => (if t314 = true then (laws_FnStretches.j1 kj6 l1 t297 t300 (decide ((t300.length : Int) > 16))) else (laws_FnStretches.j1 kj6 l1 t297 t300 true))) else (laws_FnStretches.j1 kj6 l1 t297 t300 true)) else (laws_FnStretches.j1 kj6 l1 t297 t300 true)))) else (laws_FnStretches.j3 kj6 l1)) = some r := by rw [if_neg (show ¬ (false = true) by decide)] at H; exact H
          clear H
          have H := H1
          clear H1
          have HC17 := Aside0.mk H
          clear H
          go_upto_if 66 with (fail)
          repeat (go_quiet (fail); go_upto_if 66 with (fail))
          go_cut [] (fun wc => ∃ (kq : Nat), Aside0 (laws_FnStretches.j3 kq l1 = some r) ∧ Aside0 (kq ≤ kj6) ∧ Aside0 (Below w.heap.size w wc))
          case first => as_aux_lemma =>
            have H := HC17.out
            clear HC17
            by_cases c18 : t301 = true
            · subst c18
              have H1 : ((impl_PlacesOf.f kj6 t300).bind fun bt309 => ((impl_GoodMap.f kj6 t300).bind fun t313 => (if t313 = true then (if bt309.2 = true then ((laws_sameInts.f kj6 bt309.1 t297).bind fun t314 => (if t314 = true then (laws_FnStretches.j1 kj6 l1 t297 t300 (decide ((t300.length : Int) > 16))) else (laws_FnStretches.j1 kj6 l1 t297 t300 true))) else (laws_FnStretches.j1 kj6 l1 t297 t300 true)) else (laws_FnStretches.j1 kj6 l1 t297 t300 true)))) = some r := by rw [if_pos rfl] at H; exact H
              clear H
              have H := H1
              clear H1
              replace H := Option.bind_eq_some_iff.mp H
              obtain ⟨⟨t309, t310⟩, A190, H⟩ := H
              replace H : ((impl_GoodMap.f kj6 t300).bind fun t313 => (if t313 = true then (if t310 = true then ((laws_sameInts.f kj6 t309 t297).bind fun t314 => (if t314 = true then (laws_FnStretches.j1 kj6 l1 t297 t300 (decide ((t300.length : Int) > 16))) else (laws_FnStretches.j1 kj6 l1 t297 t300 true))) else (laws_FnStretches.j1 kj6 l1 t297 t300 true)) else (laws_FnStretches.j1 kj6 l1 t297 t300 true))) = some r := H
              have A19 := Aside0.mk A190
              clear A190
              have HC20 := Aside0.mk H
              clear H
              obtain ⟨Ao21, co21, eo21⟩ := Kd.R_slice HO_6.out
              subst eo21
              go_upto_region 10 with (first | (go_at_call 27; (with_reducible refine (impl_PlacesOf.calls kj6 _ _ t300 t309 t310 _ ?side1 ?side2 A19.out).mono ?_); (case side1 => repeat (first | exact (Kd.R_reads' HO_6.out).2.2 | (with_reducible refine Kd.C_alloc ?_ _) | (with_reducible refine Kd.C_drewN ?_ _) | (with_reducible refine Kd.C_drew ?_))); (case side2 => exact (Kd.R_reads' HO_6.out).2.1); rintro e w22 ⟨v311, rfl, ho0, hb⟩; have n0_ := Aside0.mk (Kd.Q_elder' (by (with_reducible repeat (first | apply Kd.Q_alloc | apply Kd.Q_drewN | apply Kd.Q_drew)); exact HO_5.out) (Kd.R_base ho0) hb); have n1_ := Aside0.mk (Kd.R_below (by (with_reducible repeat (first | apply Kd.R_alloc | apply Kd.R_drewN | apply Kd.R_drew)); exact HO_6.out) hb); have n2_ := Aside0.mk (Kd.R_lower (Kd.R_new' ho0 (Kd.Q_lt (by (with_reducible repeat (first | apply Kd.Q_alloc | apply Kd.Q_drewN | apply Kd.Q_drew)); exact HO_5.out))) (below_size (by repeat (first | (with_reducible first | exact HB.out | apply below_alloc | apply pw_below_drewN | apply below_drew1) | exact HB.out)))); have n3_ := Aside0.mk (below_step (by repeat (first | (with_reducible first | exact HB.out | apply below_alloc | apply pw_below_drewN | apply below_drew1) | exact HB.out)) hb); clear HO_5; clear HO_6; clear HB; have HO_5 := n0_; have HO_6 := n1_; have HO312 := n2_; have HB := n3_; clear n0_ n1_ n2_ n3_; (try clear hb); (try clear hb2); (try clear hk); (try clear hi); (try clear ho0)))
              (try simp only [Act.put, List.setIfInBounds_toArray, List.set_cons_zero, List.set_cons_succ])
              go_cut [89] (fun v89 wc => ∃ (kq : Nat) (x89_19 : Bool), v89 = .bool x89_19 ∧ Aside0 (laws_FnStretches.j1 kq l1 t297 t300 x89_19 = some r) ∧ Aside0 (kq ≤ kj6) ∧ Aside0 (Kd.Q (Kd.int .i64) 3 wc w.heap.size (fun _ => True) (.slice Ao9 t297.length co9) t297) ∧ Aside0 (Kd.R k47 47 wc w.heap.size (fun _ => True) (.slice Ao21 t300.length co21) t300) ∧ Aside0 (Below w.heap.size w wc))
              case first => as_aux_lemma =>
                have H := HC20.out
                clear HC20
                replace H := Option.bind_eq_some_iff.mp H
                obtain ⟨t313, A230, H⟩ := H
                replace H : (if t313 = true then (if t310 = true then ((laws_sameInts.f kj6 t309 t297).bind fun t314 => (if t314 = true then (laws_FnStretches.j1 kj6 l1 t297 t300 (decide ((t300.length : Int) > 16))) else (laws_FnStretches.j1 kj6 l1 t297 t300 true))) else (laws_FnStretches.j1 kj6 l1 t297 t300 true)) else (laws_FnStretches.j1 kj6 l1 t297 t300 true)) = some r := H
                have A23 := Aside0.mk A230
                clear A230
                by_cases c24 : t313 = true
                · subst c24
                  have H1 : (if t310 = true then ((laws_sameInts.f kj6 t309 t297).bind fun t314 => (if t314 = true then (laws_FnStretches.j1 kj6 l1 t297 t300 (decide ((t300.length : Int) > 16))) else (laws_FnStretches.j1 kj6 l1 t297 t300 true))) else (laws_FnStretches.j1 kj6 l1 t297 t300 true)) = some r := by rw [if_pos rfl] at H; exact H
                  clear H
                  have H := H1
                  clear H1
                  by_cases c25 : t310 = true
                  · subst c25
                    have H1 : ((laws_sameInts.f kj6 t309 t297).bind fun t314 => (if t314 = true then (laws_FnStretches.j1 kj6 l1 t297 t300 (decide ((t300.length : Int) > 16))) else (laws_FnStretches.j1 kj6 l1 t297 t300 true))) = some r := by rw [if_pos rfl] at H; exact H
                    clear H
                    have H := H1
                    clear H1
                    replace H := Option.bind_eq_some_iff.mp H
                    obtain ⟨t314, A260, H⟩ := H
                    replace H : (if t314 = true then (laws_FnStretches.j1 kj6 l1 t297 t300 (decide ((t300.length : Int) > 16))) else (laws_FnStretches.j1 kj6 l1 t297 t300 true)) = some r := H
                    have A26 := Aside0.mk A260
                    clear A260
                    by_cases c27 : t314 = true
                    · subst c27
                      have H1 : (laws_FnStretches.j1 kj6 l1 t297 t300 (decide ((t300.length : Int) > 16))) = some r := by rw [if_pos rfl] at H; exact H
                      clear H
                      have H := H1
                      clear H1
                      have H' := Aside0.mk H
                      clear H
                      go_wp2_with (first | (go_at_call 15; (with_reducible refine (impl_GoodMap.calls kj6 _ _ t300 true _ ?side1 ?side2 A23.out).mono ?_); (case side1 => repeat (first | exact (Kd.R_reads' HO_6.out).2.2 | (with_reducible refine Kd.C_alloc ?_ _) | (with_reducible refine Kd.C_drewN ?_ _) | (with_reducible refine Kd.C_drew ?_))); (case side2 => exact (Kd.R_reads' HO_6.out).2.1); rintro e w28 ⟨rfl, hb⟩; have n0_ := Aside0.mk (Kd.Q_below (by (with_reducible repeat (first | apply Kd.Q_alloc | apply Kd.Q_drewN | apply Kd.Q_drew)); exact HO_5.out) hb); have n1_ := Aside0.mk (Kd.R_below (by (with_reducible repeat (first | apply Kd.R_alloc | apply Kd.R_drewN | apply Kd.R_drew)); exact HO_6.out) hb); have n2_ := Aside0.mk (Kd.R_below (by (with_reducible repeat (first | apply Kd.R_alloc | apply Kd.R_drewN | apply Kd.R_drew)); exact HO312.out) hb); have n3_ := Aside0.mk (below_step (by repeat (first | (with_reducible first | exact HB.out | apply below_alloc | apply pw_below_drewN | apply below_drew1) | exact HB.out)) hb); clear HO_5; clear HO_6; clear HO312; clear HB; have HO_5 := n0_; have HO_6 := n1_; have HO312 := n2_; have HB := n3_; clear n0_ n1_ n2_ n3_; (try clear hb); (try clear hb2); (try clear hk); (try clear hi); obtain ⟨Ao29, co29, eo29⟩ := Kd.R_slice HO312.out; subst eo29) | (go_at_call 40; (with_reducible refine (laws_sameInts.calls kj6 _ _ t309 _ _ t297 true _ ?side1 ?side2 ?side3 ?side4 A26.out).mono ?_); (case side1 => repeat (first | exact (Kd.R_reads' HO312.out).2.2 | (with_reducible refine Kd.C_alloc ?_ _) | (with_reducible refine Kd.C_drewN ?_ _) | (with_reducible refine Kd.C_drew ?_))); (case side2 => exact (Kd.R_reads' HO312.out).2.1); (case side3 => repeat (first | exact (Kd.Q_reads' HO_5.out).2.2 | (with_reducible refine Kd.C_alloc ?_ _) | (with_reducible refine Kd.C_drewN ?_ _) | (with_reducible refine Kd.C_drew ?_))); (case side4 => exact (Kd.Q_reads' HO_5.out).2.1); rintro e w' ⟨rfl, ⟨nd, rfl⟩⟩; (try first | exact ⟨rfl, _, World.drewN_drewN _ _ _⟩ | exact ⟨rfl, _, Eq.trans (World.drewN_drewN _ _ _) (congrArg (World.drewN _) (Nat.add_assoc _ _ _))⟩)))
                      go_meet
                      case rel => exact ⟨_, (decide ((t300.length : Int) > 16)), (by first | rfl | (simp; done) | (simp [*]; done)), H', ⟨by have := HJ6.out; first | omega | exact Nat.le_refl _⟩, ⟨by (with_reducible repeat (first | apply Kd.Q_alloc | apply Kd.Q_drewN | apply Kd.Q_drew)); exact Kd.Q_mono HO_5.out (fun _ hk => trivial)⟩, ⟨by (with_reducible repeat (first | apply Kd.R_alloc | apply Kd.R_drewN | apply Kd.R_drew)); exact HO_6.out⟩, ⟨by repeat (first | (with_reducible first | exact HB.out | apply below_alloc | apply pw_below_drewN | apply below_drew1) | exact HB.out)⟩⟩
                    · replace c27 := Bool.eq_false_iff.mpr c27
                      subst c27
                      have H1 : (laws_FnStretches.j1 kj6 l1 t297 t300 true) = some r := by rw [if_neg (show ¬ (false = true) by decide)] at H; exact H
                      clear H
                      have H := H1
                      clear H1
                      have H' := Aside0.mk H
                      clear H
                      go_wp2_with (first | (go_at_call 15; (with_reducible refine (impl_GoodMap.calls kj6 _ _ t300 true _ ?side1 ?side2 A23.out).mono ?_); (case side1 => repeat (first | exact (Kd.R_reads' HO_6.out).2.2 | (with_reducible refine Kd.C_alloc ?_ _) | (with_reducible refine Kd.C_drewN ?_ _) | (with_reducible refine Kd.C_drew ?_))); (case side2 => exact (Kd.R_reads' HO_6.out).2.1); rintro e w30 ⟨rfl, hb⟩; have n0_ := Aside0.mk (Kd.Q_below (by (with_reducible repeat (first | apply Kd.Q_alloc | apply Kd.Q_drewN | apply Kd.Q_drew)); exact HO_5.out) hb); have n1_ := Aside0.mk (Kd.R_below (by (with_reducible repeat (first | apply Kd.R_alloc | apply Kd.R_drewN | apply Kd.R_drew)); exact HO_6.out) hb); have n2_ := Aside0.mk (Kd.R_below (by (with_reducible repeat (first | apply Kd.R_alloc | apply Kd.R_drewN | apply Kd.R_drew)); exact HO312.out) hb); have n3_ := Aside0.mk (below_step (by repeat (first | (with_reducible first | exact HB.out | apply below_alloc | apply pw_below_drewN | apply below_drew1) | exact HB.out)) hb); clear HO_5; clear HO_6; clear HO312; clear HB; have HO_5 := n0_; have HO_6 := n1_; have HO312 := n2_; have HB := n3_; clear n0_ n1_ n2_ n3_; (try clear hb); (try clear hb2); (try clear hk); (try clear hi); obtain ⟨Ao31, co31, eo31⟩ := Kd.R_slice HO312.out; subst eo31) | (go_at_call 40; (with_reducible refine (laws_sameInts.calls kj6 _ _ t309 _ _ t297 false _ ?side1 ?side2 ?side3 ?side4 A26.out).mono ?_); (case side1 => repeat (first | exact (Kd.R_reads' HO312.out).2.2 | (with_reducible refine Kd.C_alloc ?_ _) | (with_reducible refine Kd.C_drewN ?_ _) | (with_reducible refine Kd.C_drew ?_))); (case side2 => exact (Kd.R_reads' HO312.out).2.1); (case side3 => repeat (first | exact (Kd.Q_reads' HO_5.out).2.2 | (with_reducible refine Kd.C_alloc ?_ _) | (with_reducible refine Kd.C_drewN ?_ _) | (with_reducible refine Kd.C_drew ?_))); (case side4 => exact (Kd.Q_reads' HO_5.out).2.1); rintro e w' ⟨rfl, ⟨nd, rfl⟩⟩; (try first | exact ⟨rfl, _, World.drewN_drewN _ _ _⟩ | exact ⟨rfl, _, Eq.trans (World.drewN_drewN _ _ _) (congrArg (World.drewN _) (Nat.add_assoc _ _ _))⟩)))
                      go_meet
                      case rel => exact ⟨_, (true), (by first | rfl | (simp; done) | (simp [*]; done)), H', ⟨by have := HJ6.out; first | omega | exact Nat.le_refl _⟩, ⟨by (with_reducible repeat (first | apply Kd.Q_alloc | apply Kd.Q_drewN | apply Kd.Q_drew)); exact Kd.Q_mono HO_5.out (fun _ hk => trivial)⟩, ⟨by (with_reducible repeat (first | apply Kd.R_alloc | apply Kd.R_drewN | apply Kd.R_drew)); exact HO_6.out⟩, ⟨by repeat (first | (with_reducible first | exact HB.out | apply below_alloc | apply pw_below_drewN | apply below_drew1) | exact HB.out)⟩⟩
                  · replace c25 := Bool.eq_false_iff.mpr c25
                    subst c25
                    have H1 : (laws_FnStretches.j1 kj6 l1 t297 t300 true) = some r := by rw [if_neg (show ¬ (false = true) by decide)] at H; exact H
                    clear H
                    have H := H1
                    clear H1
                    have H' := Aside0.mk H
                    clear H
                    go_wp2_with (first | (go_at_call 15; (with_reducible refine (impl_GoodMap.calls kj6 _ _ t300 true _ ?side1 ?side2 A23.out).mono ?_); (case side1 => repeat (first | exact (Kd.R_reads' HO_6.out).2.2 | (with_reducible refine Kd.C_alloc ?_ _) | (with_reducible refine Kd.C_drewN ?_ _) | (with_reducible refine Kd.C_drew ?_))); (case side2 => exact (Kd.R_reads' HO_6.out).2.1); rintro e w32 ⟨rfl, hb⟩; have n0_ := Aside0.mk (Kd.Q_below (by (with_reducible repeat (first | apply Kd.Q_alloc | apply Kd.Q_drewN | apply Kd.Q_drew)); exact HO_5.out) hb); have n1_ := Aside0.mk (Kd.R_below (by (with_reducible repeat (first | apply Kd.R_alloc | apply Kd.R_drewN | apply Kd.R_drew)); exact HO_6.out) hb); have n2_ := Aside0.mk (Kd.R_below (by (with_reducible repeat (first | apply Kd.R_alloc | apply Kd.R_drewN | apply Kd.R_drew)); exact HO312.out) hb); have n3_ := Aside0.mk (below_step (by repeat (first | (with_reducible first | exact HB.out | apply below_alloc | apply pw_below_drewN | apply below_drew1) | exact HB.out)) hb); clear HO_5; clear HO_6; clear HO312; clear HB; have HO_5 := n0_; have HO_6 := n1_; have HO312 := n2_; have HB := n3_; clear n0_ n1_ n2_ n3_; (try clear hb); (try clear hb2); (try clear hk); (try clear hi)))
                    go_meet
                    case rel => exact ⟨_, (true), (by first | rfl | (simp; done) | (simp [*]; done)), H', ⟨by have := HJ6.out; first | omega | exact Nat.le_refl _⟩, ⟨by (with_reducible repeat (first | apply Kd.Q_alloc | apply Kd.Q_drewN | apply Kd.Q_drew)); exact Kd.Q_mono HO_5.out (fun _ hk => trivial)⟩, ⟨by (with_reducible repeat (first | apply Kd.R_alloc | apply Kd.R_drewN | apply Kd.R_drew)); exact HO_6.out⟩, ⟨by repeat (first | (with_reducible first | exact HB.out | apply below_alloc | apply pw_below_drewN | apply below_drew1) | exact HB.out)⟩⟩
                · replace c24 := Bool.eq_false_iff.mpr c24
                  subst c24
                  have H1 : (laws_FnStretches.j1 kj6 l1 t297 t300 true) = some r := by rw [if_neg (show ¬ (false = true) by decide)] at H; exact H
                  clear H
                  have H := H1
                  clear H1
                  have H' := Aside0.mk H
                  clear H
                  go_wp2_with (first | (go_at_call 15; (with_reducible refine (impl_GoodMap.calls kj6 _ _ t300 false _ ?side1 ?side2 A23.out).mono ?_); (case side1 => repeat (first | exact (Kd.R_reads' HO_6.out).2.2 | (with_reducible refine Kd.C_alloc ?_ _) | (with_reducible refine Kd.C_drewN ?_ _) | (with_reducible refine Kd.C_drew ?_))); (case side2 => exact (Kd.R_reads' HO_6.out).2.1); rintro e w33 ⟨rfl, hb⟩; have n0_ := Aside0.mk (Kd.Q_below (by (with_reducible repeat (first | apply Kd.Q_alloc | apply Kd.Q_drewN | apply Kd.Q_drew)); exact HO_5.out) hb); have n1_ := Aside0.mk (Kd.R_below (by (with_reducible repeat (first | apply Kd.R_alloc | apply Kd.R_drewN | apply Kd.R_drew)); exact HO_6.out) hb); have n2_ := Aside0.mk (Kd.R_below (by (with_reducible repeat (first | apply Kd.R_alloc | apply Kd.R_drewN | apply Kd.R_drew)); exact HO312.out) hb); have n3_ := Aside0.mk (below_step (by repeat (first | (with_reducible first | exact HB.out | apply below_alloc | apply pw_below_drewN | apply below_drew1) | exact HB.out)) hb); clear HO_5; clear HO_6; clear HO312; clear HB; have HO_5 := n0_; have HO_6 := n1_; have HO312 := n2_; have HB := n3_; clear n0_ n1_ n2_ n3_; (try clear hb); (try clear hb2); (try clear hk); (try clear hi)))
                  go_meet
                  case rel => exact ⟨_, (true), (by first | rfl | (simp; done) | (simp [*]; done)), H', ⟨by have := HJ6.out; first | omega | exact Nat.le_refl _⟩, ⟨by (with_reducible repeat (first | apply Kd.Q_alloc | apply Kd.Q_drewN | apply Kd.Q_drew)); exact Kd.Q_mono HO_5.out (fun _ hk => trivial)⟩, ⟨by (with_reducible repeat (first | apply Kd.R_alloc | apply Kd.R_drewN | apply Kd.R_drew)); exact HO_6.out⟩, ⟨by repeat (first | (with_reducible first | exact HB.out | apply below_alloc | apply pw_below_drewN | apply below_drew1) | exact HB.out)⟩⟩
              case rest => as_aux_lemma =>
                clear HC20
                try clear c1
                try clear c2
                try clear p2
                try clear c3
                try clear c3b0
                try clear p6
                try clear c11
                try clear c12
                try clear c12b0
                try clear c12b1
                try clear c12b2
                try clear c16
                try clear c18
                try clear c24
                try clear c25
                try clear c27
                try clear p2
                try clear p6
                obtain ⟨kq, x89_19, rfl, HA, HJ19, HO_5, HO_6, HB⟩ := hcut
                cases kq with
                | zero => exact absurd HA.out (by simp [laws_FnStretches.j1])
                | succ kj19 =>
                  have H := HA.out
                  clear HA
                  simp only [laws_FnStretches.j1] at H
                  by_cases c34 : x89_19 = true
                  · subst c34
                    have H1 : (some false) = some r := by rw [if_pos rfl] at H; exact H
                    clear H
                    have H := H1
                    clear H1
                    obtain rfl := Option.some.inj H
                    go_wp2
                    repeat (go_quiet (fail); try go_wp2)
                    go_ret
                    exact ⟨by first | rfl | (simp [errW_none, errW_some] <;> rfl) | (simp [*, errW_none, errW_some] <;> rfl), by repeat (first | (with_reducible first | exact HB.out | apply below_alloc | apply pw_below_drewN | apply below_drew1) | exact HB.out)⟩
                  · replace c34 := Bool.eq_false_iff.mpr c34
                    subst c34
                    have H1 : (laws_FnStretches.l0 kj19 l1 t300 t297 (t297.length : Int) 0) = some r := by rw [if_neg (show ¬ (false = true) by decide)] at H; exact H
                    clear H
                    have H := H1
                    clear H1
                    have H' := Aside0.mk H
                    clear H
                    go_wp2
                    repeat (go_quiet (fail); try go_wp2)
                    go_loopg [92] kj19 (fun kq v92 w' => ∃ (x92_3 : Int), v92 = .int .i64 x92_3 ∧ Aside0 (laws_FnStretches.l0 kq l1 t300 t297 (t297.length : Int) x92_3 = some r) ∧ Aside0 (kq ≤ kj19) ∧ Aside0 (Kd.R k47 47 w' w.heap.size (fun _ => True) (.slice Ao21 t300.length co21) t300) ∧ Aside0 (Kd.Q (Kd.int .i64) 3 w' w.heap.size (fun _ => True) (.slice Ao9 t297.length co9) t297) ∧ Aside0 (Below w.heap.size w w'))
                    case atStart => exact ⟨(0), (by first | rfl | (simp; done) | (simp [*]; done)), H', ⟨Nat.le_refl _⟩, ⟨by (with_reducible repeat (first | apply Kd.R_alloc | apply Kd.R_drewN | apply Kd.R_drew)); exact HO_6.out⟩, ⟨by (with_reducible repeat (first | apply Kd.Q_alloc | apply Kd.Q_drewN | apply Kd.Q_drew)); exact HO_5.out⟩, ⟨by repeat (first | (with_reducible first | exact HB.out | apply below_alloc | apply pw_below_drewN | apply below_drew1) | exact HB.out)⟩⟩
                    case round => as_aux_lemma =>
                      clear H'
                      try clear c1
                      try clear c2
                      try clear p2
                      try clear c3
                      try clear c3b0
                      try clear p6
                      try clear c11
                      try clear c12
                      try clear c12b0
                      try clear c12b1
                      try clear c12b2
                      try clear c16
                      try clear c18
                      try clear c24
                      try clear c25
                      try clear c27
                      try clear c34
                      try clear p2
                      try clear p6
                      obtain ⟨x92_3, rfl, HA, HK3, HO_6, HO_90, HB⟩ := hrel
                      cases gk with
                      | zero => exact absurd HA.out (by simp [laws_FnStretches.l0])
                      | succ k3 =>
                        have H := HA.out
                        clear HA
                        simp only [laws_FnStretches.l0] at H
                        by_cases c35 : x92_3 < (t297.length : Int)
                        · rw [if_pos c35] at H
                          have c35b0 : decide (x92_3 < (t297.length : Int)) = true := decide_eq_true c35
                          clear c35
                          by_cases c36 : 0 ≤ x92_3
                          · rw [if_pos c36] at H
                            have c36b0 : decide (0 ≤ x92_3) = true := decide_eq_true c36
                            clear c36
                            by_cases c37 : x92_3 < (t297.length : Int)
                            · rw [if_pos c37] at H
                              have c37b0 : decide (x92_3 < (t297.length : Int)) = true := decide_eq_true c37
                              clear c37
                              replace H := Option.bind_eq_some_iff.mp H
                              obtain ⟨⟨t316, t317⟩, A380, H⟩ := H
                              replace H : (if (t317 != (decide ((rd t297 x92_3) ≥ 0))) = true then (some false) else (if t317 = true then (if t316 = (rd t297 x92_3) then (laws_FnStretches.l0 k3 l1 t300 t297 (t297.length : Int) (wrap64 (x92_3 + 1))) else (some false)) else (laws_FnStretches.l0 k3 l1 t300 t297 (t297.length : Int) (wrap64 (x92_3 + 1))))) = some r := H
                              have A38 := Aside0.mk A380
                              clear A380
                              by_cases c39 : (t317 != (decide ((rd t297 x92_3) ≥ 0))) = true
                              · rw [if_pos c39] at H
                                have c39b0 : (t317 != (decide ((rd t297 x92_3) ≥ 0))) = true := c39
                                (try (have c39b1 : decide (t317 = (decide ((rd t297 x92_3) ≥ 0))) = false := by simpa using c39))
                                (try (have c39b2 : (t317 == (decide ((rd t297 x92_3) ≥ 0))) = false := by simpa using c39))
                                (try (have c39b3 : ¬ (t317 = (decide ((rd t297 x92_3) ≥ 0))) := by simpa using c39))
                                clear c39
                                obtain rfl := Option.some.inj H
                                have p315 : 0 ≤ (x92_3 : Int) := of_decide_eq_true (by first | (with_reducible assumption) | assumption)
                                have q315 : x92_3 < (t297.length : Int) := of_decide_eq_true (by first | (with_reducible assumption) | assumption)
                                obtain ⟨ad315, e315, hx315_0⟩ := Kd.at_int (Kd.Q_reads' HO_90.out).2.2 x92_3 p315 q315
                                cases e315
                                replace p315 := eq_true p315
                                replace q315 := eq_true q315
                                go_wp2_with (first | (go_at_call 25; (with_reducible refine (impl_PlaceOf.calls k3 _ _ t300 x92_3 t316 t317 _ ?side1 ?side2 A38.out).mono ?_); (case side1 => repeat (first | exact (Kd.R_reads' HO_6.out).2.2 | (with_reducible refine Kd.C_alloc ?_ _) | (with_reducible refine Kd.C_drewN ?_ _) | (with_reducible refine Kd.C_drew ?_))); (case side2 => exact (Kd.R_reads' HO_6.out).2.1); rintro e w40 ⟨rfl, hb⟩; have n0_ := Aside0.mk (Kd.R_below (by (with_reducible repeat (first | apply Kd.R_alloc | apply Kd.R_drewN | apply Kd.R_drew)); exact HO_6.out) hb); have n1_ := Aside0.mk (Kd.Q_below (by (with_reducible repeat (first | apply Kd.Q_alloc | apply Kd.Q_drewN | apply Kd.Q_drew)); exact HO_90.out) hb); have n2_ := Aside0.mk (below_step (by repeat (first | (with_reducible first | exact HB.out | apply below_alloc | apply pw_below_drewN | apply below_drew1) | exact HB.out)) hb); clear HO_6; clear HO_90; clear HB; have HO_6 := n0_; have HO_90 := n1_; have HB := n2_; clear n0_ n1_ n2_; (try clear hb); (try clear hb2); (try clear hk); (try clear hi)))
                                go_ret
                                exact ⟨by first | rfl | (simp [errW_none, errW_some] <;> rfl) | (simp [*, errW_none, errW_some] <;> rfl), by repeat (first | (with_reducible first | exact HB.out | apply below_alloc | apply pw_below_drewN | apply below_drew1) | exact HB.out)⟩
                              · rw [if_neg c39] at H
                                have c39b0 : (t317 != (decide ((rd t297 x92_3) ≥ 0))) = false := by simpa using c39
                                (try (have c39b1 : decide (t317 = (decide ((rd t297 x92_3) ≥ 0))) = true := by simpa using c39))
                                (try (have c39b2 : (t317 == (decide ((rd t297 x92_3) ≥ 0))) = true := by simpa using c39))
                                clear c39
                                by_cases c41 : t317 = true
                                · subst c41
                                  have H1 : (if t316 = (rd t297 x92_3) then (laws_FnStretches.l0 k3 l1 t300 t297 (t297.length : Int) (wrap64 (x92_3 + 1))) else (some false)) = some r := by rw [if_pos rfl] at H; exact H
                                  clear H
                                  have H := H1
                                  clear H1
                                  by_cases c42 : t316 = (rd t297 x92_3)
                                  · rw [if_pos c42] at H
                                    have c42b0 : (t316 == (rd t297 x92_3)) = true := beq_iff_eq.mpr c42
                                    have c42b1 : (t316 != (rd t297 x92_3)) = false := bne_eq_false_iff_eq.mpr c42
                                    clear c42
                                    have H' := Aside0.mk H
                                    clear H
                                    have p315 : 0 ≤ (x92_3 : Int) := of_decide_eq_true (by first | (with_reducible assumption) | assumption)
                                    have q315 : x92_3 < (t297.length : Int) := of_decide_eq_true (by first | (with_reducible assumption) | assumption)
                                    obtain ⟨ad315, e315, hx315_0⟩ := Kd.at_int (Kd.Q_reads' HO_90.out).2.2 x92_3 p315 q315
                                    cases e315
                                    replace p315 := eq_true p315
                                    replace q315 := eq_true q315
                                    go_wp2_with (first | (go_at_call 25; (with_reducible refine (impl_PlaceOf.calls k3 _ _ t300 x92_3 t316 true _ ?side1 ?side2 A38.out).mono ?_); (case side1 => repeat (first | exact (Kd.R_reads' HO_6.out).2.2 | (with_reducible refine Kd.C_alloc ?_ _) | (with_reducible refine Kd.C_drewN ?_ _) | (with_reducible refine Kd.C_drew ?_))); (case side2 => exact (Kd.R_reads' HO_6.out).2.1); rintro e w43 ⟨rfl, hb⟩; have n0_ := Aside0.mk (Kd.R_below (by (with_reducible repeat (first | apply Kd.R_alloc | apply Kd.R_drewN | apply Kd.R_drew)); exact HO_6.out) hb); have n1_ := Aside0.mk (Kd.Q_below (by (with_reducible repeat (first | apply Kd.Q_alloc | apply Kd.Q_drewN | apply Kd.Q_drew)); exact HO_90.out) hb); have n2_ := Aside0.mk (below_step (by repeat (first | (with_reducible first | exact HB.out | apply below_alloc | apply pw_below_drewN | apply below_drew1) | exact HB.out)) hb); clear HO_6; clear HO_90; clear HB; have HO_6 := n0_; have HO_90 := n1_; have HB := n2_; clear n0_ n1_ n2_; (try clear hb); (try clear hb2); (try clear hk); (try clear hi)))
                                    go_roundg k3
                                    case measure => have := HJ6.out; have := HJ19.out; have := HK3.out; omega
                                    case rel => exact ⟨(wrap64 (x92_3 + 1)), (by first | rfl | (simp; done) | (simp [*]; done)), H', ⟨by have := HJ6.out; have := HJ19.out; have := HK3.out; omega⟩, ⟨by (with_reducible repeat (first | apply Kd.R_alloc | apply Kd.R_drewN | apply Kd.R_drew)); exact HO_6.out⟩, ⟨by (with_reducible repeat (first | apply Kd.Q_alloc | apply Kd.Q_drewN | apply Kd.Q_drew)); exact HO_90.out⟩, ⟨by repeat (first | (with_reducible first | exact HB.out | apply below_alloc | apply pw_below_drewN | apply below_drew1) | exact HB.out)⟩⟩
                                  · rw [if_neg c42] at H
                                    have c42b0 : (t316 == (rd t297 x92_3)) = false := beq_eq_false_iff_ne.mpr c42
                                    have c42b1 : (t316 != (rd t297 x92_3)) = true := bne_iff_ne.mpr c42
                                    obtain rfl := Option.some.inj H
                                    have p315 : 0 ≤ (x92_3 : Int) := of_decide_eq_true (by first | (with_reducible assumption) | assumption)
                                    have q315 : x92_3 < (t297.length : Int) := of_decide_eq_true (by first | (with_reducible assumption) | assumption)
                                    obtain ⟨ad315, e315, hx315_0⟩ := Kd.at_int (Kd.Q_reads' HO_90.out).2.2 x92_3 p315 q315
                                    cases e315
                                    replace p315 := eq_true p315
                                    replace q315 := eq_true q315
                                    go_wp2_with (first | (go_at_call 25; (with_reducible refine (impl_PlaceOf.calls k3 _ _ t300 x92_3 t316 true _ ?side1 ?side2 A38.out).mono ?_); (case side1 => repeat (first | exact (Kd.R_reads' HO_6.out).2.2 | (with_reducible refine Kd.C_alloc ?_ _) | (with_reducible refine Kd.C_drewN ?_ _) | (with_reducible refine Kd.C_drew ?_))); (case side2 => exact (Kd.R_reads' HO_6.out).2.1); rintro e w44 ⟨rfl, hb⟩; have n0_ := Aside0.mk (Kd.R_below (by (with_reducible repeat (first | apply Kd.R_alloc | apply Kd.R_drewN | apply Kd.R_drew)); exact HO_6.out) hb); have n1_ := Aside0.mk (Kd.Q_below (by (with_reducible repeat (first | apply Kd.Q_alloc | apply Kd.Q_drewN | apply Kd.Q_drew)); exact HO_90.out) hb); have n2_ := Aside0.mk (below_step (by repeat (first | (with_reducible first | exact HB.out | apply below_alloc | apply pw_below_drewN | apply below_drew1) | exact HB.out)) hb); clear HO_6; clear HO_90; clear HB; have HO_6 := n0_; have HO_90 := n1_; have HB := n2_; clear n0_ n1_ n2_; (try clear hb); (try clear hb2); (try clear hk); (try clear hi)))
                                    go_ret
                                    exact ⟨by first | rfl | (simp [errW_none, errW_some] <;> rfl) | (simp [*, errW_none, errW_some] <;> rfl), by repeat (first | (with_reducible first | exact HB.out | apply below_alloc | apply pw_below_drewN | apply below_drew1) | exact HB.out)⟩
                                · replace c41 := Bool.eq_false_iff.mpr c41
                                  subst c41
                                  have H1 : (laws_FnStretches.l0 k3 l1 t300 t297 (t297.length : Int) (wrap64 (x92_3 + 1))) = some r := by rw [if_neg (show ¬ (false = true) by decide)] at H; exact H
                                  clear H
                                  have H := H1
                                  clear H1
                                  have H' := Aside0.mk H
                                  clear H
                                  have p315 : 0 ≤ (x92_3 : Int) := of_decide_eq_true (by first | (with_reducible assumption) | assumption)
                                  have q315 : x92_3 < (t297.length : Int) := of_decide_eq_true (by first | (with_reducible assumption) | assumption)
                                  obtain ⟨ad315, e315, hx315_0⟩ := Kd.at_int (Kd.Q_reads' HO_90.out).2.2 x92_3 p315 q315
                                  cases e315
                                  replace p315 := eq_true p315
                                  replace q315 := eq_true q315
                                  go_wp2_with (first | (go_at_call 25; (with_reducible refine (impl_PlaceOf.calls k3 _ _ t300 x92_3 t316 false _ ?side1 ?side2 A38.out).mono ?_); (case side1 => repeat (first | exact (Kd.R_reads' HO_6.out).2.2 | (with_reducible refine Kd.C_alloc ?_ _) | (with_reducible refine Kd.C_drewN ?_ _) | (with_reducible refine Kd.C_drew ?_))); (case side2 => exact (Kd.R_reads' HO_6.out).2.1); rintro e w45 ⟨rfl, hb⟩; have n0_ := Aside0.mk (Kd.R_below (by (with_reducible repeat (first | apply Kd.R_alloc | apply Kd.R_drewN | apply Kd.R_drew)); exact HO_6.out) hb); have n1_ := Aside0.mk (Kd.Q_below (by (with_reducible repeat (first | apply Kd.Q_alloc | apply Kd.Q_drewN | apply Kd.Q_drew)); exact HO_90.out) hb); have n2_ := Aside0.mk (below_step (by repeat (first | (with_reducible first | exact HB.out | apply below_alloc | apply pw_below_drewN | apply below_drew1) | exact HB.out)) hb); clear HO_6; clear HO_90; clear HB; have HO_6 := n0_; have HO_90 := n1_; have HB := n2_; clear n0_ n1_ n2_; (try clear hb); (try clear hb2); (try clear hk); (try clear hi)))
                                  go_roundg k3
                                  case measure => have := HJ6.out; have := HJ19.out; have := HK3.out; omega
                                  case rel => exact ⟨(wrap64 (x92_3 + 1)), (by first | rfl | (simp; done) | (simp [*]; done)), H', ⟨by have := HJ6.out; have := HJ19.out; have := HK3.out; omega⟩, ⟨by (with_reducible repeat (first | apply Kd.R_alloc | apply Kd.R_drewN | apply Kd.R_drew)); exact HO_6.out⟩, ⟨by (with_reducible repeat (first | apply Kd.Q_alloc | apply Kd.Q_drewN | apply Kd.Q_drew)); exact HO_90.out⟩, ⟨by repeat (first | (with_reducible first | exact HB.out | apply below_alloc | apply pw_below_drewN | apply below_drew1) | exact HB.out)⟩⟩
                            · rw [if_neg c37] at H
                              exact absurd H (by simp)
                          · rw [if_neg c36] at H
                            exact absurd H (by simp)
                        · rw [if_neg c35] at H
                          have c35b0 : decide (x92_3 < (t297.length : Int)) = false := decide_eq_false c35
                          clear c35
                          have H' := Aside0.mk H
                          clear H
                          go_wp2
                          repeat (go_quiet (fail); try go_wp2)
                          go_meet
                          case rel => exact ⟨_, H', ⟨by have := HJ6.out; have := HJ19.out; have := HK3.out; first | omega | exact Nat.le_refl _⟩, ⟨by repeat (first | (with_reducible first | exact HB.out | apply below_alloc | apply pw_below_drewN | apply below_drew1) | exact HB.out)⟩⟩
            · replace c18 := Bool.eq_false_iff.mpr c18
              subst c18
              have H1 : (laws_FnStretches.j3 kj6 l1) = some r := by rw [if_neg (show ¬ (false = true) by decide)] at H; exact H
              clear H
              have H := H1
              clear H1
              have H' := Aside0.mk H
              clear H
              go_wp2
              repeat (go_quiet (fail); try go_wp2)
              go_meet
              case rel => exact ⟨_, H', ⟨by have := HJ6.out; first | omega | exact Nat.le_refl _⟩, ⟨by repeat (first | (with_reducible first | exact HB.out | apply below_alloc | apply pw_below_drewN | apply below_drew1) | exact HB.out)⟩⟩
          case rest => as_aux_lemma =>
            clear HC17
            try clear c1
            try clear c2
            try clear p2
            try clear c3
            try clear c3b0
            try clear p3
            try clear q3
            try clear hx3
            try clear c4
            try clear p6
            try clear c11
            try clear c12
            try clear c12b0
            try clear c12b1
            try clear c12b2
            try clear c16
            try clear c18
            try clear c24
            try clear c25
            try clear c27
            try clear p31
            try clear q31
            try clear hx31
            try clear c34
            try clear c35
            try clear c35b0
            try clear c36
            try clear c36b0
            try clear c37
            try clear c37b0
            try clear c39
            try clear c39b0
            try clear c39b1
            try clear c39b2
            try clear c41
            try clear c42
            try clear c42b0
            try clear c42b1
            try clear hx315_0
            try clear p2
            try clear p315
            try clear p6
            try clear q315
            obtain ⟨kq, HA, HJ16, HB⟩ := hcut
            cases kq with
            | zero => exact absurd HA.out (by simp [laws_FnStretches.j3])
            | succ kj16 =>
              have H := HA.out
              clear HA
              simp only [laws_FnStretches.j3] at H
              replace H := Option.bind_eq_some_iff.mp H
              obtain ⟨⟨t318, t321, t322, t323⟩, A460, H⟩ := H
              replace H : ((impl_PutStretch.f kj16 t318 t321 t322 t323).bind fun bt325 => ((spec_PutStretch.f kj16 t318 t321 t322 t323).bind fun bt329 => (if (bt325.2 != bt329.2) = true then (laws_FnStretches.j4 kj16 l1 t318 bt325.1 bt325.2 true t321 t322 t323) else ((laws_sameMap.f kj16 bt325.1 bt329.1).bind fun t333 => (if t333 = true then ((impl_GoodMap.f kj16 t318).bind fun t334 => ((spec_GoodMap.f kj16 t318).bind fun t335 => (laws_FnStretches.j4 kj16 l1 t318 bt325.1 bt325.2 (t334 != t335) t321 t322 t323))) else (laws_FnStretches.j4 kj16 l1 t318 bt325.1 bt325.2 true t321 t322 t323)))))) = some r := H
              have A46 := Aside0.mk A460
              clear A460
              replace H := Option.bind_eq_some_iff.mp H
              obtain ⟨⟨t325, t328⟩, A470, H⟩ := H
              replace H : ((spec_PutStretch.f kj16 t318 t321 t322 t323).bind fun bt329 => (if (t328 != bt329.2) = true then (laws_FnStretches.j4 kj16 l1 t318 t325 t328 true t321 t322 t323) else ((laws_sameMap.f kj16 t325 bt329.1).bind fun t333 => (if t333 = true then ((impl_GoodMap.f kj16 t318).bind fun t334 => ((spec_GoodMap.f kj16 t318).bind fun t335 => (laws_FnStretches.j4 kj16 l1 t318 t325 t328 (t334 != t335) t321 t322 t323))) else (laws_FnStretches.j4 kj16 l1 t318 t325 t328 true t321 t322 t323))))) = some r := H
              have A47 := Aside0.mk A470
              clear A470
              replace H := Option.bind_eq_some_iff.mp H
              obtain ⟨⟨t329, t332⟩, A480, H⟩ := H
              replace H : (if (t328 != t332) = true then (laws_FnStretches.j4 kj16 l1 t318 t325 t328 true t321 t322 t323) else ((laws_sameMap.f kj16 t325 t329).bind fun t333 => (if t333 = true then ((impl_GoodMap.f kj16 t318).bind fun t334 => ((spec_GoodMap.f kj16 t318).bind fun t335 => (laws_FnStretches.j4 kj16 l1 t318 t325 t328 (t334 != t335) t321 t322 t323))) else (laws_FnStretches.j4 kj16 l1 t318 t325 t328 true t321 t322 t323)))) = some r := H
              have A48 := Aside0.mk A480
              clear A480
              have HC49 := Aside0.mk H
              clear H
              go_upto_region 22 with (first | (go_at_call 41; (with_reducible refine (spec_DrawPutStretch.calls kj16 _ _ l1 t318 t321 t322 t323 _ ?side1 ?side2 A46.out).mono ?_); (case side1 => repeat (first | exact (Kd.C_below HR1.out HB.out) | (with_reducible refine Kd.C_alloc ?_ _) | (with_reducible refine Kd.C_drewN ?_ _) | (with_reducible refine Kd.C_drew ?_))); (case side2 => exact HC1.out); rintro e w50 ⟨v319, rfl, ho0, hb⟩; have n0_ := Aside0.mk (Kd.R_lower ho0 (below_size (by repeat (first | (with_reducible first | exact HB.out | apply below_alloc | apply pw_below_drewN | apply below_drew1) | exact HB.out)))); have n1_ := Aside0.mk (below_step (by repeat (first | (with_reducible first | exact HB.out | apply below_alloc | apply pw_below_drewN | apply below_drew1) | exact HB.out)) hb); clear HB; have HO320 := n0_; have HB := n1_; clear n0_ n1_; (try clear hb); (try clear hb2); (try clear hk); (try clear hi); (try clear ho0)) | ((with_reducible refine gate_dst (N := 17) rfl ?_); (try (refine gate_guard (by rfl) ?_; dsimp only)); refine box_event ?hg (N := 17) ?hd (cs := #[.int .i64 0, .int .i64 0, .int .i64 0]) (t := 47) ?hr ?_; (case hd => rfl); (case hg => rfl); (case hr => first | (go_simp; done) | (go_simp; rfl)); intro gb324 hg w51 hbox hb; have n0_ := Aside0.mk (Kd.R_below (Kd.R_elderB (by (with_reducible repeat (first | apply Kd.R_alloc | apply Kd.R_drewN | apply Kd.R_drew)); exact HO320.out) gb324 (Nat.le_of_eq hg.symm)) hb); have n1_ := Aside0.mk (below_step (by repeat (first | (with_reducible first | exact HB.out | apply below_alloc | apply pw_below_drewN | apply below_drew1) | exact HB.out)) hb); have n2_ := Aside0.mk (hbox); have n3_ := Aside0.mk ((by rw [hg]; exact (below_size (by repeat (first | (with_reducible first | exact HB.out | apply below_alloc | apply pw_below_drewN | apply below_drew1) | exact HB.out))) : w.heap.size ≤ gb324)); have n4_ := Aside0.mk ((by rw [hg]; exact (below_size (by repeat (first | (with_reducible first | exact HB.out | apply below_alloc | apply pw_below_drewN | apply below_drew1) | exact HB.out))) : w.heap.size ≤ gb324)); clear HO320; clear HB; have HO320 := n0_; have HB := n1_; have BK324 := n2_; have GW324 := n3_; have GE324 := n4_; clear n0_ n1_ n2_ n3_ n4_; clear hb hbox hg; have hcz52_0 : w51.cell? ⟨gb324, 0, none⟩ = some (.int .i64 0) := (blk_cell BK324.out 0).trans rfl; have hcz52_1 : w51.cell? ⟨gb324, 1, none⟩ = some (.int .i64 0) := (blk_cell BK324.out 1).trans rfl; have hcz52_2 : w51.cell? ⟨gb324, 2, none⟩ = some (.int .i64 0) := (blk_cell BK324.out 2).trans rfl; have hfz52_0 := blk_frozen BK324.out 0; have hfz52_1 := blk_frozen BK324.out 1; have hfz52_2 := blk_frozen BK324.out 2; obtain ⟨Ao53, co53, eo53⟩ := Kd.R_slice HO320.out; subst eo53) | (go_at_call 33; (with_reducible refine (impl_PutStretch.calls kj16 _ _ t318 t321 t322 t323 t325 t328 _ ?side1 ?side2 A47.out).mono ?_); (case side1 => refine (Kd.R_reads' (e := 47) (base := w.heap.size) (ok := fun k_ => (True ∧ k_ ≠ gb324)) (n := t318.length) (c := co53) ?_).2.2; exact (by (with_reducible repeat (first | apply Kd.R_alloc | apply Kd.R_drewN | apply Kd.R_drew)); exact (Kd.R_mono (Kd.R_far (p := ⟨gb324, 2, none⟩) (Kd.R_far (p := ⟨gb324, 1, none⟩) (Kd.R_far (p := ⟨gb324, 0, none⟩) (Kd.R_mono HO320.out (fun k_ hk => (⟨hk, hk.2⟩ : _ ∧ k_ ≠ gb324))) (fun _ hk => hk.2) (.int .i64 t321)) (fun _ hk => hk.2) (.int .i64 t322)) (fun _ hk => hk.2) (.int .i64 t323)) (fun _ h_ => h_.1)))); (case side2 => exact (Kd.R_reads' HO320.out).2.1); rintro e w54 ⟨v326, rfl, ho0, hb⟩; have n0_ := Aside0.mk (Kd.R_elder' (by (with_reducible repeat (first | apply Kd.R_alloc | apply Kd.R_drewN | apply Kd.R_drew)); exact (Kd.R_mono (Kd.R_far (p := ⟨gb324, 2, none⟩) (Kd.R_far (p := ⟨gb324, 1, none⟩) (Kd.R_far (p := ⟨gb324, 0, none⟩) (Kd.R_mono HO320.out (fun k_ hk => (⟨hk, hk.2⟩ : _ ∧ k_ ≠ gb324))) (fun _ hk => hk.2) (.int .i64 t321)) (fun _ hk => hk.2) (.int .i64 t322)) (fun _ hk => hk.2) (.int .i64 t323)) (fun _ h_ => h_.1))) (Kd.R_base ho0) hb); have n1_ := Aside0.mk (Kd.R_lower (Kd.R_newB (Kd.R_new' ho0 (Kd.R_lt (by (with_reducible repeat (first | apply Kd.R_alloc | apply Kd.R_drewN | apply Kd.R_drew)); exact (Kd.R_mono (Kd.R_far (p := ⟨gb324, 2, none⟩) (Kd.R_far (p := ⟨gb324, 1, none⟩) (Kd.R_far (p := ⟨gb324, 0, none⟩) (Kd.R_mono HO320.out (fun k_ hk => (⟨hk, hk.2⟩ : _ ∧ k_ ≠ gb324))) (fun _ hk => hk.2) (.int .i64 t321)) (fun _ hk => hk.2) (.int .i64 t322)) (fun _ hk => hk.2) (.int .i64 t323)) (fun _ h_ => h_.1))))) (g := gb324) (o := .cells #[.int .i64 t321, .int .i64 t322, .int .i64 t323] 47 (0, 0)) (by (with_reducible repeat (first | refine blk_drewN ?_ _ | refine blk_drew ?_ | refine blk_alloc ?_ _)); refine blk_put (cs := #[.int .i64 t321, .int .i64 t322, .int .i64 0]) ?_ 2 _ rfl; (with_reducible repeat (first | refine blk_drewN ?_ _ | refine blk_drew ?_ | refine blk_alloc ?_ _)); refine blk_put (cs := #[.int .i64 t321, .int .i64 0, .int .i64 0]) ?_ 1 _ rfl; (with_reducible repeat (first | refine blk_drewN ?_ _ | refine blk_drew ?_ | refine blk_alloc ?_ _)); refine blk_put (cs := #[.int .i64 0, .int .i64 0, .int .i64 0]) ?_ 0 _ rfl; (with_reducible repeat (first | refine blk_drewN ?_ _ | refine blk_drew ?_ | refine blk_alloc ?_ _)); exact BK324.out)) (below_size (by repeat (first | (with_reducible first | exact HB.out | apply below_alloc | apply pw_below_drewN | apply below_drew1 | refine below_set ?_ GE324.out) | exact HB.out)))); have n2_ := Aside0.mk (blk_below (g := gb324) (o := .cells #[.int .i64 t321, .int .i64 t322, .int .i64 t323] 47 (0, 0)) (by (with_reducible repeat (first | refine blk_drewN ?_ _ | refine blk_drew ?_ | refine blk_alloc ?_ _)); refine blk_put (cs := #[.int .i64 t321, .int .i64 t322, .int .i64 0]) ?_ 2 _ rfl; (with_reducible repeat (first | refine blk_drewN ?_ _ | refine blk_drew ?_ | refine blk_alloc ?_ _)); refine blk_put (cs := #[.int .i64 t321, .int .i64 0, .int .i64 0]) ?_ 1 _ rfl; (with_reducible repeat (first | refine blk_drewN ?_ _ | refine blk_drew ?_ | refine blk_alloc ?_ _)); refine blk_put (cs := #[.int .i64 0, .int .i64 0, .int .i64 0]) ?_ 0 _ rfl; (with_reducible repeat (first | refine blk_drewN ?_ _ | refine blk_drew ?_ | refine blk_alloc ?_ _)); exact BK324.out) hb); have n3_ := Aside0.mk (below_step (by repeat (first | (with_reducible first | exact HB.out | apply below_alloc | apply pw_below_drewN | apply below_drew1 | refine below_set ?_ GE324.out) | exact HB.out)) hb); clear HO320; clear BK324; clear HB; have HO320 := n0_; have HO327 := n1_; have BK324 := n2_; have HB := n3_; clear n0_ n1_ n2_ n3_; (try clear hb); (try clear hb2); (try clear hk); (try clear hi); (try clear ho0); have hcz55_0 : w54.cell? ⟨gb324, 0, none⟩ = some (.int .i64 t321) := (blk_cell BK324.out 0).trans rfl; have hcz55_1 : w54.cell? ⟨gb324, 1, none⟩ = some (.int .i64 t322) := (blk_cell BK324.out 1).trans rfl; have hcz55_2 : w54.cell? ⟨gb324, 2, none⟩ = some (.int .i64 t323) := (blk_cell BK324.out 2).trans rfl; have hfz55_0 := blk_frozen BK324.out 0; have hfz55_1 := blk_frozen BK324.out 1; have hfz55_2 := blk_frozen BK324.out 2) | (go_at_call 31; (with_reducible refine (spec_PutStretch.calls kj16 _ _ t318 t321 t322 t323 t329 t332 _ ?side1 ?side2 A48.out).mono ?_); (case side1 => repeat (first | exact (Kd.R_reads' HO320.out).2.2 | (with_reducible refine Kd.C_alloc ?_ _) | (with_reducible refine Kd.C_drewN ?_ _) | (with_reducible refine Kd.C_drew ?_))); (case side2 => exact (Kd.R_reads' HO320.out).2.1); rintro e w56 ⟨v330, rfl, ho0, hb⟩; have n0_ := Aside0.mk (Kd.R_elder' (by (with_reducible repeat (first | apply Kd.R_alloc | apply Kd.R_drewN | apply Kd.R_drew)); exact HO320.out) (Kd.R_base ho0) hb); have n1_ := Aside0.mk (Kd.R_elder' (by (with_reducible repeat (first | apply Kd.R_alloc | apply Kd.R_drewN | apply Kd.R_drew)); exact HO327.out) (Kd.R_base ho0) hb); have n2_ := Aside0.mk (Kd.R_lower (Kd.R_newB (Kd.R_new' (Kd.R_new' ho0 (Kd.R_lt (by (with_reducible repeat (first | apply Kd.R_alloc | apply Kd.R_drewN | apply Kd.R_drew)); exact HO320.out))) (Kd.R_lt (by (with_reducible repeat (first | apply Kd.R_alloc | apply Kd.R_drewN | apply Kd.R_drew)); exact HO327.out))) (g := gb324) (o := .cells #[.int .i64 t321, .int .i64 t322, .int .i64 t323] 47 (0, 0)) (by (with_reducible repeat (first | refine blk_drewN ?_ _ | refine blk_drew ?_ | refine blk_alloc ?_ _)); exact BK324.out)) (below_size (by repeat (first | (with_reducible first | exact HB.out | apply below_alloc | apply pw_below_drewN | apply below_drew1 | refine below_set ?_ GE324.out) | exact HB.out)))); have n3_ := Aside0.mk (blk_below (g := gb324) (o := .cells #[.int .i64 t321, .int .i64 t322, .int .i64 t323] 47 (0, 0)) (by (with_reducible repeat (first | refine blk_drewN ?_ _ | refine blk_drew ?_ | refine blk_alloc ?_ _)); exact BK324.out) hb); have n4_ := Aside0.mk (below_step (by repeat (first | (with_reducible first | exact HB.out | apply below_alloc | apply pw_below_drewN | apply below_drew1 | refine below_set ?_ GE324.out) | exact HB.out)) hb); clear HO320; clear HO327; clear BK324; clear HB; have HO320 := n0_; have HO327 := n1_; have HO331 := n2_; have BK324 := n3_; have HB := n4_; clear n0_ n1_ n2_ n3_ n4_; (try clear hb); (try clear hb2); (try clear hk); (try clear hi); (try clear ho0)))
              (try simp only [Act.put, List.setIfInBounds_toArray, List.set_cons_zero, List.set_cons_succ])
              go_cut [148] (fun v148 wc => ∃ (kq : Nat) (x148_48 : Bool), v148 = .bool x148_48 ∧ Aside0 (laws_FnStretches.j4 kq l1 t318 t325 t328 x148_48 t321 t322 t323 = some r) ∧ Aside0 (kq ≤ kj16) ∧ Aside0 (Kd.R k47 47 wc w.heap.size (fun k_ => some k_ ≠ (v326 : Value).ownBlock ∧ k_ ≠ gb324) (.slice Ao53 t318.length co53) t318) ∧ Aside0 (Kd.R k47 47 wc w.heap.size (fun k_ => some k_ ≠ ((.slice Ao53 t318.length co53) : Value).ownBlock ∧ k_ ≠ gb324) v326 t325) ∧ Aside0 (wc.heap[gb324]? = some (.cells #[.int .i64 t321, .int .i64 t322, .int .i64 t323] 47 (0, 0))) ∧ Aside0 (Below w.heap.size w wc))
              case first => as_aux_lemma =>
                have H := HC49.out
                clear HC49
                by_cases c57 : (t328 != t332) = true
                · rw [if_pos c57] at H
                  have c57b0 : (t328 != t332) = true := c57
                  (try (have c57b1 : decide (t328 = t332) = false := by simpa using c57))
                  (try (have c57b2 : (t328 == t332) = false := by simpa using c57))
                  (try (have c57b3 : ¬ (t328 = t332) := by simpa using c57))
                  clear c57
                  (first | rw [c57b0] | (simp only [i64_w, i32_w]; rw [c57b0]) | skip)
                  have H' := Aside0.mk H
                  clear H
                  go_wp2
                  repeat (go_quiet (fail); try go_wp2)
                  go_meet
                  case rel => exact ⟨_, (true), (by first | rfl | (simp; done) | (simp [*]; done)), H', ⟨by have := HJ6.out; have := HJ16.out; first | omega | exact Nat.le_refl _⟩, ⟨by (with_reducible repeat (first | apply Kd.R_alloc | apply Kd.R_drewN | apply Kd.R_drew)); exact Kd.R_mono HO320.out (fun _ hk => ⟨hk.1.2, hk.1.1.2⟩)⟩, ⟨by (with_reducible repeat (first | apply Kd.R_alloc | apply Kd.R_drewN | apply Kd.R_drew)); exact Kd.R_mono HO327.out (fun _ hk => ⟨hk.1.1.2, hk.1.2⟩)⟩, ⟨by (with_reducible repeat (first | refine blk_drewN ?_ _ | refine blk_drew ?_ | refine blk_alloc ?_ _)); exact BK324.out⟩, ⟨by repeat (first | (with_reducible first | exact HB.out | apply below_alloc | apply pw_below_drewN | apply below_drew1 | refine below_set ?_ GE324.out) | exact HB.out)⟩⟩
                · rw [if_neg c57] at H
                  have c57b0 : (t328 != t332) = false := by simpa using c57
                  (try (have c57b1 : decide (t328 = t332) = true := by simpa using c57))
                  (try (have c57b2 : (t328 == t332) = true := by simpa using c57))
                  clear c57
                  (first | rw [c57b0] | (simp only [i64_w, i32_w]; rw [c57b0]) | skip)
                  replace H := Option.bind_eq_some_iff.mp H
                  obtain ⟨t333, A580, H⟩ := H
                  replace H : (if t333 = true then ((impl_GoodMap.f kj16 t318).bind fun t334 => ((spec_GoodMap.f kj16 t318).bind fun t335 => (laws_FnStretches.j4 kj16 l1 t318 t325 t328 (t334 != t335) t321 t322 t323))) else (laws_FnStretches.j4 kj16 l1 t318 t325 t328 true t321 t322 t323)) = some r := H
                  have A58 := Aside0.mk A580
                  clear A580
                  by_cases c59 : t333 = true
                  · subst c59
                    have H1 : ((impl_GoodMap.f kj16 t318).bind fun t334 => ((spec_GoodMap.f kj16 t318).bind fun t335 => (laws_FnStretches.j4 kj16 l1 t318 t325 t328 (t334 != t335) t321 t322 t323))) = some r := by rw [if_pos rfl] at H; exact H
                    clear H
                    have H := H1
                    clear H1
                    replace H := Option.bind_eq_some_iff.mp H
                    obtain ⟨t334, A600, H⟩ := H
                    replace H : ((spec_GoodMap.f kj16 t318).bind fun t335 => (laws_FnStretches.j4 kj16 l1 t318 t325 t328 (t334 != t335) t321 t322 t323)) = some r := H
                    have A60 := Aside0.mk A600
                    clear A600
                    replace H := Option.bind_eq_some_iff.mp H
                    obtain ⟨t335, A610, H⟩ := H
                    replace H : (laws_FnStretches.j4 kj16 l1 t318 t325 t328 (t334 != t335) t321 t322 t323) = some r := H
                    have A61 := Aside0.mk A610
                    clear A610
                    have H' := Aside0.mk H
                    clear H
                    obtain ⟨Ao62, co62, eo62⟩ := Kd.R_slice HO327.out
                    subst eo62
                    obtain ⟨Ao63, co63, eo63⟩ := Kd.R_slice HO331.out
                    subst eo63
                    go_wp2_with (first | (go_at_call 39; (with_reducible refine (laws_sameMap.calls kj16 _ _ t325 _ _ t329 true _ ?side1 ?side2 ?side3 ?side4 A58.out).mono ?_); (case side1 => repeat (first | exact (Kd.R_reads' HO327.out).2.2 | (with_reducible refine Kd.C_alloc ?_ _) | (with_reducible refine Kd.C_drewN ?_ _) | (with_reducible refine Kd.C_drew ?_))); (case side2 => exact (Kd.R_reads' HO327.out).2.1); (case side3 => repeat (first | exact (Kd.R_reads' HO331.out).2.2 | (with_reducible refine Kd.C_alloc ?_ _) | (with_reducible refine Kd.C_drewN ?_ _) | (with_reducible refine Kd.C_drew ?_))); (case side4 => exact (Kd.R_reads' HO331.out).2.1); rintro e w' ⟨rfl, ⟨nd, rfl⟩⟩; (try first | exact ⟨rfl, _, World.drewN_drewN _ _ _⟩ | exact ⟨rfl, _, Eq.trans (World.drewN_drewN _ _ _) (congrArg (World.drewN _) (Nat.add_assoc _ _ _))⟩)) | (go_at_call 15; (with_reducible refine (impl_GoodMap.calls kj16 _ _ t318 t334 _ ?side1 ?side2 A60.out).mono ?_); (case side1 => repeat (first | exact (Kd.R_reads' HO320.out).2.2 | (with_reducible refine Kd.C_alloc ?_ _) | (with_reducible refine Kd.C_drewN ?_ _) | (with_reducible refine Kd.C_drew ?_))); (case side2 => exact (Kd.R_reads' HO320.out).2.1); rintro e w64 ⟨rfl, hb⟩; have n0_ := Aside0.mk (Kd.R_below (by (with_reducible repeat (first | apply Kd.R_alloc | apply Kd.R_drewN | apply Kd.R_drew)); exact HO320.out) hb); have n1_ := Aside0.mk (Kd.R_below (by (with_reducible repeat (first | apply Kd.R_alloc | apply Kd.R_drewN | apply Kd.R_drew)); exact HO327.out) hb); have n2_ := Aside0.mk (Kd.R_below (by (with_reducible repeat (first | apply Kd.R_alloc | apply Kd.R_drewN | apply Kd.R_drew)); exact HO331.out) hb); have n3_ := Aside0.mk (blk_below (g := gb324) (o := .cells #[.int .i64 t321, .int .i64 t322, .int .i64 t323] 47 (0, 0)) (by (with_reducible repeat (first | refine blk_drewN ?_ _ | refine blk_drew ?_ | refine blk_alloc ?_ _)); exact BK324.out) hb); have n4_ := Aside0.mk (below_step (by repeat (first | (with_reducible first | exact HB.out | apply below_alloc | apply pw_below_drewN | apply below_drew1 | refine below_set ?_ GE324.out) | exact HB.out)) hb); clear HO320; clear HO327; clear HO331; clear BK324; clear HB; have HO320 := n0_; have HO327 := n1_; have HO331 := n2_; have BK324 := n3_; have HB := n4_; clear n0_ n1_ n2_ n3_ n4_; (try clear hb); (try clear hb2); (try clear hk); (try clear hi)) | (go_at_call 13; (with_reducible refine (spec_GoodMap.calls kj16 _ _ t318 t335 _ ?side1 ?side2 A61.out).mono ?_); (case side1 => repeat (first | exact (Kd.R_reads' HO320.out).2.2 | (with_reducible refine Kd.C_alloc ?_ _) | (with_reducible refine Kd.C_drewN ?_ _) | (with_reducible refine Kd.C_drew ?_))); (case side2 => exact (Kd.R_reads' HO320.out).2.1); rintro e w65 ⟨rfl, hb⟩; have n0_ := Aside0.mk (Kd.R_below (by (with_reducible repeat (first | apply Kd.R_alloc | apply Kd.R_drewN | apply Kd.R_drew)); exact HO320.out) hb); have n1_ := Aside0.mk (Kd.R_below (by (with_reducible repeat (first | apply Kd.R_alloc | apply Kd.R_drewN | apply Kd.R_drew)); exact HO327.out) hb); have n2_ := Aside0.mk (Kd.R_below (by (with_reducible repeat (first | apply Kd.R_alloc | apply Kd.R_drewN | apply Kd.R_drew)); exact HO331.out) hb); have n3_ := Aside0.mk (blk_below (g := gb324) (o := .cells #[.int .i64 t321, .int .i64 t322, .int .i64 t323] 47 (0, 0)) (by (with_reducible repeat (first | refine blk_drewN ?_ _ | refine blk_drew ?_ | refine blk_alloc ?_ _)); exact BK324.out) hb); have n4_ := Aside0.mk (below_step (by repeat (first | (with_reducible first | exact HB.out | apply below_alloc | apply pw_below_drewN | apply below_drew1 | refine below_set ?_ GE324.out) | exact HB.out)) hb); clear HO320; clear HO327; clear HO331; clear BK324; clear HB; have HO320 := n0_; have HO327 := n1_; have HO331 := n2_; have BK324 := n3_; have HB := n4_; clear n0_ n1_ n2_ n3_ n4_; (try clear hb); (try clear hb2); (try clear hk); (try clear hi)))
                    go_meet
                    case rel => exact ⟨_, ((t334 != t335)), (by first | rfl | (simp; done) | (simp [*]; done)), H', ⟨by have := HJ6.out; have := HJ16.out; first | omega | exact Nat.le_refl _⟩, ⟨by (with_reducible repeat (first | apply Kd.R_alloc | apply Kd.R_drewN | apply Kd.R_drew)); exact Kd.R_mono HO320.out (fun _ hk => ⟨hk.1.2, hk.1.1.2⟩)⟩, ⟨by (with_reducible repeat (first | apply Kd.R_alloc | apply Kd.R_drewN | apply Kd.R_drew)); exact Kd.R_mono HO327.out (fun _ hk => ⟨hk.1.1.2, hk.1.2⟩)⟩, ⟨by (with_reducible repeat (first | refine blk_drewN ?_ _ | refine blk_drew ?_ | refine blk_alloc ?_ _)); exact BK324.out⟩, ⟨by repeat (first | (with_reducible first | exact HB.out | apply below_alloc | apply pw_below_drewN | apply below_drew1 | refine below_set ?_ GE324.out) | exact HB.out)⟩⟩
                  · replace c59 := Bool.eq_false_iff.mpr c59
                    subst c59
                    have H1 : (laws_FnStretches.j4 kj16 l1 t318 t325 t328 true t321 t322 t323) = some r := by rw [if_neg (show ¬ (false = true) by decide)] at H; exact H
                    clear H
                    have H := H1
                    clear H1
                    have H' := Aside0.mk H
                    clear H
                    obtain ⟨Ao66, co66, eo66⟩ := Kd.R_slice HO327.out
                    subst eo66
                    obtain ⟨Ao67, co67, eo67⟩ := Kd.R_slice HO331.out
                    subst eo67
                    go_wp2_with (first | (go_at_call 39; (with_reducible refine (laws_sameMap.calls kj16 _ _ t325 _ _ t329 false _ ?side1 ?side2 ?side3 ?side4 A58.out).mono ?_); (case side1 => repeat (first | exact (Kd.R_reads' HO327.out).2.2 | (with_reducible refine Kd.C_alloc ?_ _) | (with_reducible refine Kd.C_drewN ?_ _) | (with_reducible refine Kd.C_drew ?_))); (case side2 => exact (Kd.R_reads' HO327.out).2.1); (case side3 => repeat (first | exact (Kd.R_reads' HO331.out).2.2 | (with_reducible refine Kd.C_alloc ?_ _) | (with_reducible refine Kd.C_drewN ?_ _) | (with_reducible refine Kd.C_drew ?_))); (case side4 => exact (Kd.R_reads' HO331.out).2.1); rintro e w' ⟨rfl, ⟨nd, rfl⟩⟩; (try first | exact ⟨rfl, _, World.drewN_drewN _ _ _⟩ | exact ⟨rfl, _, Eq.trans (World.drewN_drewN _ _ _) (congrArg (World.drewN _) (Nat.add_assoc _ _ _))⟩)))
                    go_meet
                    case rel => exact ⟨_, (true), (by first | rfl | (simp; done) | (simp [*]; done)), H', ⟨by have := HJ6.out; have := HJ16.out; first | omega | exact Nat.le_refl _⟩, ⟨by (with_reducible repeat (first | apply Kd.R_alloc | apply Kd.R_drewN | apply Kd.R_drew)); exact Kd.R_mono HO320.out (fun _ hk => ⟨hk.1.2, hk.1.1.2⟩)⟩, ⟨by (with_reducible repeat (first | apply Kd.R_alloc | apply Kd.R_drewN | apply Kd.R_drew)); exact Kd.R_mono HO327.out (fun _ hk => ⟨hk.1.1.2, hk.1.2⟩)⟩, ⟨by (with_reducible repeat (first | refine blk_drewN ?_ _ | refine blk_drew ?_ | refine blk_alloc ?_ _)); exact BK324.out⟩, ⟨by repeat (first | (with_reducible first | exact HB.out | apply below_alloc | apply pw_below_drewN | apply below_drew1 | refine below_set ?_ GE324.out) | exact HB.out)⟩⟩
              case rest => as_aux_lemma =>
                clear HC49
                try clear c1
                try clear c2
                try clear p2
                try clear c3
                try clear c3b0
                try clear p3
                try clear q3
                try clear hx3
                try clear c4
                try clear c5
                try clear p6
                try clear c11
                try clear c12
                try clear c12b0
                try clear c12b1
                try clear c12b2
                try clear c16
                try clear c18
                try clear c24
                try clear c25
                try clear c27
                try clear p31
                try clear q31
                try clear hx31
                try clear c34
                try clear c35
                try clear c35b0
                try clear c36
                try clear c36b0
                try clear c37
                try clear c37b0
                try clear c39
                try clear c39b0
                try clear c39b1
                try clear c39b2
                try clear c41
                try clear c42
                try clear c42b0
                try clear c42b1
                try clear c57
                try clear c57b0
                try clear c57b1
                try clear c57b2
                try clear c59
                try clear p64
                try clear hcz52_0
                try clear hcz52_1
                try clear hcz52_2
                try clear hcz55_0
                try clear hcz55_1
                try clear hcz55_2
                try clear hfz52_0
                try clear hfz52_1
                try clear hfz52_2
                try clear hfz55_0
                try clear hfz55_1
                try clear hfz55_2
                try clear hx315_0
                try clear p2
                try clear p3
                try clear p31
                try clear p315
                try clear p6
                try clear q3
                try clear q31
                try clear q315
                obtain ⟨kq, x148_48, rfl, HA, HJ48, HO_16, HO_18, BK324, HB⟩ := hcut
                cases kq with
                | zero => exact absurd HA.out (by simp [laws_FnStretches.j4])
                | succ kj48 =>
                  have H := HA.out
                  clear HA
                  simp only [laws_FnStretches.j4] at H
                  by_cases c68 : x148_48 = true
                  · subst c68
                    have H1 : (some false) = some r := by rw [if_pos rfl] at H; exact H
                    clear H
                    have H := H1
                    clear H1
                    obtain rfl := Option.some.inj H
                    go_wp2
                    repeat (go_quiet (fail); try go_wp2)
                    go_ret
                    exact ⟨by first | rfl | (simp [errW_none, errW_some] <;> rfl) | (simp [*, errW_none, errW_some] <;> rfl), by repeat (first | (with_reducible first | exact HB.out | apply below_alloc | apply pw_below_drewN | apply below_drew1 | refine below_set ?_ GE324.out) | exact HB.out)⟩
                  · replace c68 := Bool.eq_false_iff.mpr c68
                    subst c68
                    have H1 : (if t328 = true then ((impl_PlacesOf.f kj48 t318).bind fun bt336 => ((impl_PlacesOf.f kj48 t325).bind fun bt340 => ((impl_GoodMap.f kj48 t325).bind fun t344 => (if t344 = true then (if bt336.2 = true then (laws_FnStretches.j5 kj48 l1 bt336.1 bt340.1 (!bt340.2) t321 t322 t323) else (laws_FnStretches.j5 kj48 l1 bt336.1 bt340.1 true t321 t322 t323)) else (laws_FnStretches.j5 kj48 l1 bt336.1 bt340.1 true t321 t322 t323))))) else (laws_FnStretches.j7 kj48 l1)) = some r := by rw [if_neg (show ¬ (false = true) by decide)] at H; exact H
                    clear H
                    have H := H1
                    clear H1
                    have HC69 := Aside0.mk H
                    clear H
                    go_upto_if 149 with (fail)
                    repeat (go_quiet (fail); go_upto_if 149 with (fail))
                    go_cut [] (fun wc => ∃ (kq : Nat), Aside0 (laws_FnStretches.j7 kq l1 = some r) ∧ Aside0 (kq ≤ kj48) ∧ Aside0 (wc.heap[gb324]? = some (.cells #[.int .i64 t321, .int .i64 t322, .int .i64 t323] 47 (0, 0))) ∧ Aside0 (Below w.heap.size w wc))
                    case first => as_aux_lemma =>
                      have H := HC69.out
                      clear HC69
                      by_cases c70 : t328 = true
                      · subst c70
                        have H1 : ((impl_PlacesOf.f kj48 t318).bind fun bt336 => ((impl_PlacesOf.f kj48 t325).bind fun bt340 => ((impl_GoodMap.f kj48 t325).bind fun t344 => (if t344 = true then (if bt336.2 = true then (laws_FnStretches.j5 kj48 l1 bt336.1 bt340.1 (!bt340.2) t321 t322 t323) else (laws_FnStretches.j5 kj48 l1 bt336.1 bt340.1 true t321 t322 t323)) else (laws_FnStretches.j5 kj48 l1 bt336.1 bt340.1 true t321 t322 t323))))) = some r := by rw [if_pos rfl] at H; exact H
                        clear H
                        have H := H1
                        clear H1
                        replace H := Option.bind_eq_some_iff.mp H
                        obtain ⟨⟨t336, t337⟩, A710, H⟩ := H
                        replace H : ((impl_PlacesOf.f kj48 t325).bind fun bt340 => ((impl_GoodMap.f kj48 t325).bind fun t344 => (if t344 = true then (if t337 = true then (laws_FnStretches.j5 kj48 l1 t336 bt340.1 (!bt340.2) t321 t322 t323) else (laws_FnStretches.j5 kj48 l1 t336 bt340.1 true t321 t322 t323)) else (laws_FnStretches.j5 kj48 l1 t336 bt340.1 true t321 t322 t323)))) = some r := H
                        have A71 := Aside0.mk A710
                        clear A710
                        replace H := Option.bind_eq_some_iff.mp H
                        obtain ⟨⟨t340, t341⟩, A720, H⟩ := H
                        replace H : ((impl_GoodMap.f kj48 t325).bind fun t344 => (if t344 = true then (if t337 = true then (laws_FnStretches.j5 kj48 l1 t336 t340 (!t341) t321 t322 t323) else (laws_FnStretches.j5 kj48 l1 t336 t340 true t321 t322 t323)) else (laws_FnStretches.j5 kj48 l1 t336 t340 true t321 t322 t323))) = some r := H
                        have A72 := Aside0.mk A720
                        clear A720
                        have HC73 := Aside0.mk H
                        clear H
                        go_upto_region 27 with (first | (go_at_call 27; (with_reducible refine (impl_PlacesOf.calls kj48 _ _ t318 t336 t337 _ ?side1 ?side2 A71.out).mono ?_); (case side1 => repeat (first | exact (Kd.R_reads' HO_16.out).2.2 | (with_reducible refine Kd.C_alloc ?_ _) | (with_reducible refine Kd.C_drewN ?_ _) | (with_reducible refine Kd.C_drew ?_))); (case side2 => exact (Kd.R_reads' HO_16.out).2.1); rintro e w74 ⟨v338, rfl, ho0, hb⟩; have n0_ := Aside0.mk (Kd.R_below (by (with_reducible repeat (first | apply Kd.R_alloc | apply Kd.R_drewN | apply Kd.R_drew)); exact HO_16.out) hb); have n1_ := Aside0.mk (Kd.R_below (by (with_reducible repeat (first | apply Kd.R_alloc | apply Kd.R_drewN | apply Kd.R_drew)); exact HO_18.out) hb); have n2_ := Aside0.mk (Kd.R_lower ho0 (below_size (by repeat (first | (with_reducible first | exact HB.out | apply below_alloc | apply pw_below_drewN | apply below_drew1 | refine below_set ?_ GE324.out) | exact HB.out)))); have n3_ := Aside0.mk (blk_below (g := gb324) (o := .cells #[.int .i64 t321, .int .i64 t322, .int .i64 t323] 47 (0, 0)) (by (with_reducible repeat (first | refine blk_drewN ?_ _ | refine blk_drew ?_ | refine blk_alloc ?_ _)); exact BK324.out) hb); have n4_ := Aside0.mk (below_step (by repeat (first | (with_reducible first | exact HB.out | apply below_alloc | apply pw_below_drewN | apply below_drew1 | refine below_set ?_ GE324.out) | exact HB.out)) hb); clear HO_16; clear HO_18; clear BK324; clear HB; have HO_16 := n0_; have HO_18 := n1_; have HO339 := n2_; have BK324 := n3_; have HB := n4_; clear n0_ n1_ n2_ n3_ n4_; (try clear hb); (try clear hb2); (try clear hk); (try clear hi); (try clear ho0); obtain ⟨Ao75, co75, eo75⟩ := Kd.R_slice HO_18.out; subst eo75) | (go_at_call 27; (with_reducible refine (impl_PlacesOf.calls kj48 _ _ t325 t340 t341 _ ?side1 ?side2 A72.out).mono ?_); (case side1 => repeat (first | exact (Kd.R_reads' HO_18.out).2.2 | (with_reducible refine Kd.C_alloc ?_ _) | (with_reducible refine Kd.C_drewN ?_ _) | (with_reducible refine Kd.C_drew ?_))); (case side2 => exact (Kd.R_reads' HO_18.out).2.1); rintro e w76 ⟨v342, rfl, ho0, hb⟩; have n0_ := Aside0.mk (Kd.R_below (by (with_reducible repeat (first | apply Kd.R_alloc | apply Kd.R_drewN | apply Kd.R_drew)); exact HO_16.out) hb); have n1_ := Aside0.mk (Kd.R_below (by (with_reducible repeat (first | apply Kd.R_alloc | apply Kd.R_drewN | apply Kd.R_drew)); exact HO_18.out) hb); have n2_ := Aside0.mk (Kd.R_elder' (by (with_reducible repeat (first | apply Kd.R_alloc | apply Kd.R_drewN | apply Kd.R_drew)); exact HO339.out) (Kd.R_base ho0) hb); have n3_ := Aside0.mk (Kd.R_lower (Kd.R_new' ho0 (Kd.R_lt (by (with_reducible repeat (first | apply Kd.R_alloc | apply Kd.R_drewN | apply Kd.R_drew)); exact HO339.out))) (below_size (by repeat (first | (with_reducible first | exact HB.out | apply below_alloc | apply pw_below_drewN | apply below_drew1 | refine below_set ?_ GE324.out) | exact HB.out)))); have n4_ := Aside0.mk (blk_below (g := gb324) (o := .cells #[.int .i64 t321, .int .i64 t322, .int .i64 t323] 47 (0, 0)) (by (with_reducible repeat (first | refine blk_drewN ?_ _ | refine blk_drew ?_ | refine blk_alloc ?_ _)); exact BK324.out) hb); have n5_ := Aside0.mk (below_step (by repeat (first | (with_reducible first | exact HB.out | apply below_alloc | apply pw_below_drewN | apply below_drew1 | refine below_set ?_ GE324.out) | exact HB.out)) hb); clear HO_16; clear HO_18; clear HO339; clear BK324; clear HB; have HO_16 := n0_; have HO_18 := n1_; have HO339 := n2_; have HO343 := n3_; have BK324 := n4_; have HB := n5_; clear n0_ n1_ n2_ n3_ n4_ n5_; (try clear hb); (try clear hb2); (try clear hk); (try clear hi); (try clear ho0)))
                        (try simp only [Act.put, List.setIfInBounds_toArray, List.set_cons_zero, List.set_cons_succ])
                        go_cut [170] (fun v170 wc => ∃ (kq : Nat) (x170_72 : Bool), v170 = .bool x170_72 ∧ Aside0 (laws_FnStretches.j5 kq l1 t336 t340 x170_72 t321 t322 t323 = some r) ∧ Aside0 (kq ≤ kj48) ∧ Aside0 (Kd.R (Kd.int .i64) 3 wc w.heap.size (fun k_ => some k_ ≠ (v342 : Value).ownBlock) v338 t336) ∧ Aside0 (Kd.R (Kd.int .i64) 3 wc w.heap.size (fun k_ => some k_ ≠ (v338 : Value).ownBlock) v342 t340) ∧ Aside0 (wc.heap[gb324]? = some (.cells #[.int .i64 t321, .int .i64 t322, .int .i64 t323] 47 (0, 0))) ∧ Aside0 (Below w.heap.size w wc))
                        case first => as_aux_lemma =>
                          have H := HC73.out
                          clear HC73
                          replace H := Option.bind_eq_some_iff.mp H
                          obtain ⟨t344, A770, H⟩ := H
                          replace H : (if t344 = true then (if t337 = true then (laws_FnStretches.j5 kj48 l1 t336 t340 (!t341) t321 t322 t323) else (laws_FnStretches.j5 kj48 l1 t336 t340 true t321 t322 t323)) else (laws_FnStretches.j5 kj48 l1 t336 t340 true t321 t322 t323)) = some r := H
                          have A77 := Aside0.mk A770
                          clear A770
                          by_cases c78 : t344 = true
                          · subst c78
                            have H1 : (if t337 = true then (laws_FnStretches.j5 kj48 l1 t336 t340 (!t341) t321 t322 t323) else (laws_FnStretches.j5 kj48 l1 t336 t340 true t321 t322 t323)) = some r := by rw [if_pos rfl] at H; exact H
                            clear H
                            have H := H1
                            clear H1
                            by_cases c79 : t337 = true
                            · subst c79
                              have H1 : (laws_FnStretches.j5 kj48 l1 t336 t340 (!t341) t321 t322 t323) = some r := by rw [if_pos rfl] at H; exact H
                              clear H
                              have H := H1
                              clear H1
                              have H' := Aside0.mk H
                              clear H
                              go_wp2_with (first | (go_at_call 15; (with_reducible refine (impl_GoodMap.calls kj48 _ _ t325 true _ ?side1 ?side2 A77.out).mono ?_); (case side1 => repeat (first | exact (Kd.R_reads' HO_18.out).2.2 | (with_reducible refine Kd.C_alloc ?_ _) | (with_reducible refine Kd.C_drewN ?_ _) | (with_reducible refine Kd.C_drew ?_))); (case side2 => exact (Kd.R_reads' HO_18.out).2.1); rintro e w80 ⟨rfl, hb⟩; have n0_ := Aside0.mk (Kd.R_below (by (with_reducible repeat (first | apply Kd.R_alloc | apply Kd.R_drewN | apply Kd.R_drew)); exact HO_16.out) hb); have n1_ := Aside0.mk (Kd.R_below (by (with_reducible repeat (first | apply Kd.R_alloc | apply Kd.R_drewN | apply Kd.R_drew)); exact HO_18.out) hb); have n2_ := Aside0.mk (Kd.R_below (by (with_reducible repeat (first | apply Kd.R_alloc | apply Kd.R_drewN | apply Kd.R_drew)); exact HO339.out) hb); have n3_ := Aside0.mk (Kd.R_below (by (with_reducible repeat (first | apply Kd.R_alloc | apply Kd.R_drewN | apply Kd.R_drew)); exact HO343.out) hb); have n4_ := Aside0.mk (blk_below (g := gb324) (o := .cells #[.int .i64 t321, .int .i64 t322, .int .i64 t323] 47 (0, 0)) (by (with_reducible repeat (first | refine blk_drewN ?_ _ | refine blk_drew ?_ | refine blk_alloc ?_ _)); exact BK324.out) hb); have n5_ := Aside0.mk (below_step (by repeat (first | (with_reducible first | exact HB.out | apply below_alloc | apply pw_below_drewN | apply below_drew1 | refine below_set ?_ GE324.out) | exact HB.out)) hb); clear HO_16; clear HO_18; clear HO339; clear HO343; clear BK324; clear HB; have HO_16 := n0_; have HO_18 := n1_; have HO339 := n2_; have HO343 := n3_; have BK324 := n4_; have HB := n5_; clear n0_ n1_ n2_ n3_ n4_ n5_; (try clear hb); (try clear hb2); (try clear hk); (try clear hi)))
                              go_meet
                              case rel => exact ⟨_, (!t341), (by first | rfl | (simp; done) | (simp [*]; done)), H', ⟨by have := HJ6.out; have := HJ16.out; have := HJ48.out; first | omega | exact Nat.le_refl _⟩, ⟨by (with_reducible repeat (first | apply Kd.R_alloc | apply Kd.R_drewN | apply Kd.R_drew)); exact Kd.R_mono HO339.out (fun _ hk => hk.2)⟩, ⟨by (with_reducible repeat (first | apply Kd.R_alloc | apply Kd.R_drewN | apply Kd.R_drew)); exact Kd.R_mono HO343.out (fun _ hk => hk.2)⟩, ⟨by (with_reducible repeat (first | refine blk_drewN ?_ _ | refine blk_drew ?_ | refine blk_alloc ?_ _)); exact BK324.out⟩, ⟨by repeat (first | (with_reducible first | exact HB.out | apply below_alloc | apply pw_below_drewN | apply below_drew1 | refine below_set ?_ GE324.out) | exact HB.out)⟩⟩
                            · replace c79 := Bool.eq_false_iff.mpr c79
                              subst c79
                              have H1 : (laws_FnStretches.j5 kj48 l1 t336 t340 true t321 t322 t323) = some r := by rw [if_neg (show ¬ (false = true) by decide)] at H; exact H
                              clear H
                              have H := H1
                              clear H1
                              have H' := Aside0.mk H
                              clear H
                              go_wp2_with (first | (go_at_call 15; (with_reducible refine (impl_GoodMap.calls kj48 _ _ t325 true _ ?side1 ?side2 A77.out).mono ?_); (case side1 => repeat (first | exact (Kd.R_reads' HO_18.out).2.2 | (with_reducible refine Kd.C_alloc ?_ _) | (with_reducible refine Kd.C_drewN ?_ _) | (with_reducible refine Kd.C_drew ?_))); (case side2 => exact (Kd.R_reads' HO_18.out).2.1); rintro e w81 ⟨rfl, hb⟩; have n0_ := Aside0.mk (Kd.R_below (by (with_reducible repeat (first | apply Kd.R_alloc | apply Kd.R_drewN | apply Kd.R_drew)); exact HO_16.out) hb); have n1_ := Aside0.mk (Kd.R_below (by (with_reducible repeat (first | apply Kd.R_alloc | apply Kd.R_drewN | apply Kd.R_drew)); exact HO_18.out) hb); have n2_ := Aside0.mk (Kd.R_below (by (with_reducible repeat (first | apply Kd.R_alloc | apply Kd.R_drewN | apply Kd.R_drew)); exact HO339.out) hb); have n3_ := Aside0.mk (Kd.R_below (by (with_reducible repeat (first | apply Kd.R_alloc | apply Kd.R_drewN | apply Kd.R_drew)); exact HO343.out) hb); have n4_ := Aside0.mk (blk_below (g := gb324) (o := .cells #[.int .i64 t321, .int .i64 t322, .int .i64 t323] 47 (0, 0)) (by (with_reducible repeat (first | refine blk_drewN ?_ _ | refine blk_drew ?_ | refine blk_alloc ?_ _)); exact BK324.out) hb); have n5_ := Aside0.mk (below_step (by repeat (first | (with_reducible first | exact HB.out | apply below_alloc | apply pw_below_drewN | apply below_drew1 | refine below_set ?_ GE324.out) | exact HB.out)) hb); clear HO_16; clear HO_18; clear HO339; clear HO343; clear BK324; clear HB; have HO_16 := n0_; have HO_18 := n1_; have HO339 := n2_; have HO343 := n3_; have BK324 := n4_; have HB := n5_; clear n0_ n1_ n2_ n3_ n4_ n5_; (try clear hb); (try clear hb2); (try clear hk); (try clear hi)))
                              go_meet
                              case rel => exact ⟨_, (true), (by first | rfl | (simp; done) | (simp [*]; done)), H', ⟨by have := HJ6.out; have := HJ16.out; have := HJ48.out; first | omega | exact Nat.le_refl _⟩, ⟨by (with_reducible repeat (first | apply Kd.R_alloc | apply Kd.R_drewN | apply Kd.R_drew)); exact Kd.R_mono HO339.out (fun _ hk => hk.2)⟩, ⟨by (with_reducible repeat (first | apply Kd.R_alloc | apply Kd.R_drewN | apply Kd.R_drew)); exact Kd.R_mono HO343.out (fun _ hk => hk.2)⟩, ⟨by (with_reducible repeat (first | refine blk_drewN ?_ _ | refine blk_drew ?_ | refine blk_alloc ?_ _)); exact BK324.out⟩, ⟨by repeat (first | (with_reducible first | exact HB.out | apply below_alloc | apply pw_below_drewN | apply below_drew1 | refine below_set ?_ GE324.out) | exact HB.out)⟩⟩
                          · replace c78 := Bool.eq_false_iff.mpr c78
                            subst c78
                            have H1 : (laws_FnStretches.j5 kj48 l1 t336 t340 true t321 t322 t323) = some r := by rw [if_neg (show ¬ (false = true) by decide)] at H; exact H
                            clear H
                            have H := H1
                            clear H1
                            have H' := Aside0.mk H
                            clear H
                            go_wp2_with (first | (go_at_call 15; (with_reducible refine (impl_GoodMap.calls kj48 _ _ t325 false _ ?side1 ?side2 A77.out).mono ?_); (case side1 => repeat (first | exact (Kd.R_reads' HO_18.out).2.2 | (with_reducible refine Kd.C_alloc ?_ _) | (with_reducible refine Kd.C_drewN ?_ _) | (with_reducible refine Kd.C_drew ?_))); (case side2 => exact (Kd.R_reads' HO_18.out).2.1); rintro e w82 ⟨rfl, hb⟩; have n0_ := Aside0.mk (Kd.R_below (by (with_reducible repeat (first | apply Kd.R_alloc | apply Kd.R_drewN | apply Kd.R_drew)); exact HO_16.out) hb); have n1_ := Aside0.mk (Kd.R_below (by (with_reducible repeat (first | apply Kd.R_alloc | apply Kd.R_drewN | apply Kd.R_drew)); exact HO_18.out) hb); have n2_ := Aside0.mk (Kd.R_below (by (with_reducible repeat (first | apply Kd.R_alloc | apply Kd.R_drewN | apply Kd.R_drew)); exact HO339.out) hb); have n3_ := Aside0.mk (Kd.R_below (by (with_reducible repeat (first | apply Kd.R_alloc | apply Kd.R_drewN | apply Kd.R_drew)); exact HO343.out) hb); have n4_ := Aside0.mk (blk_below (g := gb324) (o := .cells #[.int .i64 t321, .int .i64 t322, .int .i64 t323] 47 (0, 0)) (by (with_reducible repeat (first | refine blk_drewN ?_ _ | refine blk_drew ?_ | refine blk_alloc ?_ _)); exact BK324.out) hb); have n5_ := Aside0.mk (below_step (by repeat (first | (with_reducible first | exact HB.out | apply below_alloc | apply pw_below_drewN | apply below_drew1 | refine below_set ?_ GE324.out) | exact HB.out)) hb); clear HO_16; clear HO_18; clear HO339; clear HO343; clear BK324; clear HB; have HO_16 := n0_; have HO_18 := n1_; have HO339 := n2_; have HO343 := n3_; have BK324 := n4_; have HB := n5_; clear n0_ n1_ n2_ n3_ n4_ n5_; (try clear hb); (try clear hb2); (try clear hk); (try clear hi)))
                            go_meet
                            case rel => exact ⟨_, (true), (by first | rfl | (simp; done) | (simp [*]; done)), H', ⟨by have := HJ6.out; have := HJ16.out; have := HJ48.out; first | omega | exact Nat.le_refl _⟩, ⟨by (with_reducible repeat (first | apply Kd.R_alloc | apply Kd.R_drewN | apply Kd.R_drew)); exact Kd.R_mono HO339.out (fun _ hk => hk.2)⟩, ⟨by (with_reducible repeat (first | apply Kd.R_alloc | apply Kd.R_drewN | apply Kd.R_drew)); exact Kd.R_mono HO343.out (fun _ hk => hk.2)⟩, ⟨by (with_reducible repeat (first | refine blk_drewN ?_ _ | refine blk_drew ?_ | refine blk_alloc ?_ _)); exact BK324.out⟩, ⟨by repeat (first | (with_reducible first | exact HB.out | apply below_alloc | apply pw_below_drewN | apply below_drew1 | refine below_set ?_ GE324.out) | exact HB.out)⟩⟩
                        case rest => as_aux_lemma =>
                          clear HC73
                          try clear c1
                          try clear c2
                          try clear p2
                          try clear c3
                          try clear c3b0
                          try clear p3
                          try clear q3
                          try clear hx3
                          try clear c4
                          try clear c5
                          try clear c6
                          try clear p6
                          try clear c7
                          try clear c11
                          try clear c12
                          try clear c12b0
                          try clear c12b1
                          try clear c12b2
                          try clear c16
                          try clear c18
                          try clear c24
                          try clear c25
                          try clear c27
                          try clear p31
                          try clear q31
                          try clear hx31
                          try clear c34
                          try clear c35
                          try clear c35b0
                          try clear c36
                          try clear c36b0
                          try clear c37
                          try clear c37b0
                          try clear c39
                          try clear c39b0
                          try clear c39b1
                          try clear c39b2
                          try clear c41
                          try clear c42
                          try clear c42b0
                          try clear c42b1
                          try clear c57
                          try clear c57b0
                          try clear c57b1
                          try clear c57b2
                          try clear c59
                          try clear p64
                          try clear c68
                          try clear c70
                          try clear c78
                          try clear c79
                          try clear hcz52_0
                          try clear hcz52_1
                          try clear hcz52_2
                          try clear hcz55_0
                          try clear hcz55_1
                          try clear hcz55_2
                          try clear hfz52_0
                          try clear hfz52_1
                          try clear hfz52_2
                          try clear hfz55_0
                          try clear hfz55_1
                          try clear hfz55_2
                          try clear hx315_0
                          try clear p2
                          try clear p3
                          try clear p31
                          try clear p315
                          try clear p6
                          try clear p64
                          try clear q3
                          try clear q31
                          try clear q315
                          obtain ⟨kq, x170_72, rfl, HA, HJ72, HO_22, HO_24, BK324, HB⟩ := hcut
                          cases kq with
                          | zero => exact absurd HA.out (by simp [laws_FnStretches.j5])
                          | succ kj72 =>
                            have H := HA.out
                            clear HA
                            simp only [laws_FnStretches.j5] at H
                            by_cases c83 : x170_72 = true
                            · subst c83
                              have H1 : (some false) = some r := by rw [if_pos rfl] at H; exact H
                              clear H
                              have H := H1
                              clear H1
                              obtain rfl := Option.some.inj H
                              go_wp2
                              repeat (go_quiet (fail); try go_wp2)
                              go_ret
                              exact ⟨by first | rfl | (simp [errW_none, errW_some] <;> rfl) | (simp [*, errW_none, errW_some] <;> rfl), by repeat (first | (with_reducible first | exact HB.out | apply below_alloc | apply pw_below_drewN | apply below_drew1 | refine below_set ?_ GE324.out) | exact HB.out)⟩
                            · replace c83 := Bool.eq_false_iff.mpr c83
                              subst c83
                              have H1 : (laws_FnStretches.l1 kj72 l1 t336 t340 (t340.length : Int) 0 t321 t322 t323) = some r := by rw [if_neg (show ¬ (false = true) by decide)] at H; exact H
                              clear H
                              have H := H1
                              clear H1
                              have H' := Aside0.mk H
                              clear H
                              obtain ⟨Ao84, co84, eo84⟩ := Kd.R_slice HO_24.out
                              subst eo84
                              go_wp2
                              repeat (go_quiet (fail); try go_wp2)
                              go_loopg [173] kj72 (fun kq v173 w' => ∃ (x173_5 : Int), v173 = .int .i64 x173_5 ∧ Aside0 (laws_FnStretches.l1 kq l1 t336 t340 (t340.length : Int) x173_5 t321 t322 t323 = some r) ∧ Aside0 (kq ≤ kj72) ∧ Aside0 (Kd.R (Kd.int .i64) 3 w' w.heap.size (fun k_ => some k_ ≠ ((.slice Ao84 t340.length co84) : Value).ownBlock) v338 t336) ∧ Aside0 (Kd.R (Kd.int .i64) 3 w' w.heap.size (fun k_ => some k_ ≠ (v338 : Value).ownBlock) (.slice Ao84 t340.length co84) t340) ∧ Aside0 (w'.heap[gb324]? = some (.cells #[.int .i64 t321, .int .i64 t322, .int .i64 t323] 47 (0, 0))) ∧ Aside0 (Below w.heap.size w w'))
                              case atStart => exact ⟨(0), (by first | rfl | (simp; done) | (simp [*]; done)), H', ⟨Nat.le_refl _⟩, ⟨by (with_reducible repeat (first | apply Kd.R_alloc | apply Kd.R_drewN | apply Kd.R_drew)); exact HO_22.out⟩, ⟨by (with_reducible repeat (first | apply Kd.R_alloc | apply Kd.R_drewN | apply Kd.R_drew)); exact HO_24.out⟩, ⟨by (with_reducible repeat (first | refine blk_drewN ?_ _ | refine blk_drew ?_ | refine blk_alloc ?_ _)); exact BK324.out⟩, ⟨by repeat (first | (with_reducible first | exact HB.out | apply below_alloc | apply pw_below_drewN | apply below_drew1 | refine below_set ?_ GE324.out) | exact HB.out)⟩⟩
                              case round => as_aux_lemma =>
                                clear H'
                                try clear c1
                                try clear c2
                                try clear p2
                                try clear c3
                                try clear c3b0
                                try clear p3
                                try clear q3
                                try clear hx3
                                try clear c4
                                try clear c5
                                try clear c6
                                try clear p6
                                try clear c7
                                try clear c8
                                try clear c11
                                try clear c12
                                try clear c12b0
                                try clear c12b1
                                try clear c12b2
                                try clear c16
                                try clear c18
                                try clear c24
                                try clear c25
                                try clear c27
                                try clear p31
                                try clear q31
                                try clear hx31
                                try clear c34
                                try clear c35
                                try clear c35b0
                                try clear c36
                                try clear c36b0
                                try clear c37
                                try clear c37b0
                                try clear c39
                                try clear c39b0
                                try clear c39b1
                                try clear c39b2
                                try clear c41
                                try clear c42
                                try clear c42b0
                                try clear c42b1
                                try clear c57
                                try clear c57b0
                                try clear c57b1
                                try clear c57b2
                                try clear c59
                                try clear p64
                                try clear c68
                                try clear c70
                                try clear c78
                                try clear c79
                                try clear c83
                                try clear hcz52_0
                                try clear hcz52_1
                                try clear hcz52_2
                                try clear hcz55_0
                                try clear hcz55_1
                                try clear hcz55_2
                                try clear hfz52_0
                                try clear hfz52_1
                                try clear hfz52_2
                                try clear hfz55_0
                                try clear hfz55_1
                                try clear hfz55_2
                                try clear hx315_0
                                try clear p2
                                try clear p3
                                try clear p31
                                try clear p315
                                try clear p6
                                try clear p64
                                try clear q3
                                try clear q31
                                try clear q315
                                obtain ⟨x173_5, rfl, HA, HK5, HO_22, HO_24, BK324, HB⟩ := hrel
                                cases gk with
                                | zero => exact absurd HA.out (by simp [laws_FnStretches.l1])
                                | succ k5 =>
                                  have H := HA.out
                                  clear HA
                                  simp only [laws_FnStretches.l1] at H
                                  by_cases c85 : x173_5 < (t340.length : Int)
                                  · rw [if_pos c85] at H
                                    have c85b0 : decide (x173_5 < (t340.length : Int)) = true := decide_eq_true c85
                                    clear c85
                                    by_cases c86 : x173_5 ≥ t321
                                    · rw [if_pos c86] at H
                                      have c86b0 : decide (t321 ≤ x173_5) = true := decide_eq_true c86
                                      clear c86
                                      by_cases c87 : x173_5 < (wrap64 (t321 + t322))
                                      · rw [if_pos c87] at H
                                        have c87b0 : decide (x173_5 < (wrap64 (t321 + t322))) = true := decide_eq_true c87
                                        clear c87
                                        by_cases c88 : 0 ≤ x173_5
                                        · rw [if_pos c88] at H
                                          have c88b0 : decide (0 ≤ x173_5) = true := decide_eq_true c88
                                          clear c88
                                          by_cases c89 : x173_5 < (t340.length : Int)
                                          · rw [if_pos c89] at H
                                            have c89b0 : decide (x173_5 < (t340.length : Int)) = true := decide_eq_true c89
                                            clear c89
                                            by_cases c90 : (rd t340 x173_5) = (wrap64 ((wrap64 (t323 + x173_5)) - t321))
                                            · rw [if_pos c90] at H
                                              have c90b0 : ((rd t340 x173_5) == (wrap64 ((wrap64 (t323 + x173_5)) - t321))) = true := beq_iff_eq.mpr c90
                                              have c90b1 : ((rd t340 x173_5) != (wrap64 ((wrap64 (t323 + x173_5)) - t321))) = false := bne_eq_false_iff_eq.mpr c90
                                              clear c90
                                              by_cases c91 : (x173_5 < (wrap64 (t321 + t322)))
                                              · rw [if_pos c91] at H
                                                have c91b0 : decide (x173_5 < (wrap64 (t321 + t322))) = true := decide_eq_true c91
                                                clear c91
                                                have H' := Aside0.mk H
                                                clear H
                                                have hcz92_0 : wr.cell? ⟨gb324, 0, none⟩ = some (.int .i64 t321) := (blk_cell BK324.out 0).trans rfl
                                                have hcz92_1 : wr.cell? ⟨gb324, 1, none⟩ = some (.int .i64 t322) := (blk_cell BK324.out 1).trans rfl
                                                have hcz92_2 : wr.cell? ⟨gb324, 2, none⟩ = some (.int .i64 t323) := (blk_cell BK324.out 2).trans rfl
                                                have hfz92_0 := blk_frozen BK324.out 0
                                                have hfz92_1 := blk_frozen BK324.out 1
                                                have hfz92_2 := blk_frozen BK324.out 2
                                                have p345 : 0 ≤ (x173_5 : Int) := of_decide_eq_true (by first | (with_reducible assumption) | assumption)
                                                have q345 : x173_5 < (t340.length : Int) := of_decide_eq_true (by first | (with_reducible assumption) | assumption)
                                                obtain ⟨ad345, e345, hx345_0⟩ := Kd.at_int (Kd.R_reads' HO_24.out).2.2 x173_5 p345 q345
                                                cases e345
                                                replace p345 := eq_true p345
                                                replace q345 := eq_true q345
                                                go_wp2
                                                repeat (go_quiet (fail); try go_wp2)
                                                go_roundg k5
                                                case measure => have := HJ6.out; have := HJ16.out; have := HJ48.out; have := HJ72.out; have := HK5.out; omega
                                                case rel => exact ⟨(wrap64 (x173_5 + 1)), (by first | rfl | (simp; done) | (simp [*]; done)), H', ⟨by have := HJ6.out; have := HJ16.out; have := HJ48.out; have := HJ72.out; have := HK5.out; omega⟩, ⟨by (with_reducible repeat (first | apply Kd.R_alloc | apply Kd.R_drewN | apply Kd.R_drew)); exact HO_22.out⟩, ⟨by (with_reducible repeat (first | apply Kd.R_alloc | apply Kd.R_drewN | apply Kd.R_drew)); exact HO_24.out⟩, ⟨by (with_reducible repeat (first | refine blk_drewN ?_ _ | refine blk_drew ?_ | refine blk_alloc ?_ _)); exact BK324.out⟩, ⟨by repeat (first | (with_reducible first | exact HB.out | apply below_alloc | apply pw_below_drewN | apply below_drew1 | refine below_set ?_ GE324.out) | exact HB.out)⟩⟩
                                              · exact absurd (of_decide_eq_true (show decide (x173_5 < (wrap64 (t321 + t322))) = true by assumption)) c91
                                            · rw [if_neg c90] at H
                                              have c90b0 : ((rd t340 x173_5) == (wrap64 ((wrap64 (t323 + x173_5)) - t321))) = false := beq_eq_false_iff_ne.mpr c90
                                              have c90b1 : ((rd t340 x173_5) != (wrap64 ((wrap64 (t323 + x173_5)) - t321))) = true := bne_iff_ne.mpr c90
                                              obtain rfl := Option.some.inj H
                                              have hcz99_0 : wr.cell? ⟨gb324, 0, none⟩ = some (.int .i64 t321) := (blk_cell BK324.out 0).trans rfl
                                              have hcz99_1 : wr.cell? ⟨gb324, 1, none⟩ = some (.int .i64 t322) := (blk_cell BK324.out 1).trans rfl
                                              have hcz99_2 : wr.cell? ⟨gb324, 2, none⟩ = some (.int .i64 t323) := (blk_cell BK324.out 2).trans rfl
                                              have hfz99_0 := blk_frozen BK324.out 0
                                              have hfz99_1 := blk_frozen BK324.out 1
                                              have hfz99_2 := blk_frozen BK324.out 2
                                              have p345 : 0 ≤ (x173_5 : Int) := of_decide_eq_true (by first | (with_reducible assumption) | assumption)
                                              have q345 : x173_5 < (t340.length : Int) := of_decide_eq_true (by first | (with_reducible assumption) | assumption)
                                              obtain ⟨ad345, e345, hx345_0⟩ := Kd.at_int (Kd.R_reads' HO_24.out).2.2 x173_5 p345 q345
                                              cases e345
                                              replace p345 := eq_true p345
                                              replace q345 := eq_true q345
                                              go_wp2
                                              repeat (go_quiet (fail); try go_wp2)
                                              go_ret
                                              exact ⟨by first | rfl | (simp [errW_none, errW_some] <;> rfl) | (simp [*, errW_none, errW_some] <;> rfl), by repeat (first | (with_reducible first | exact HB.out | apply below_alloc | apply pw_below_drewN | apply below_drew1 | refine below_set ?_ GE324.out) | exact HB.out)⟩
                                          · rw [if_neg c89] at H
                                            exact absurd H (by simp)
                                        · rw [if_neg c88] at H
                                          exact absurd H (by simp)
                                      · rw [if_neg c87] at H
                                        have c87b0 : decide (x173_5 < (wrap64 (t321 + t322))) = false := decide_eq_false c87
                                        clear c87
                                        by_cases c100 : (x173_5 < (wrap64 (t321 + t322)))
                                        · exact absurd c100 (of_decide_eq_false (show decide (x173_5 < (wrap64 (t321 + t322))) = false by assumption))
                                        · rw [if_neg c100] at H
                                          have c100b0 : decide (x173_5 < (wrap64 (t321 + t322))) = false := decide_eq_false c100
                                          clear c100
                                          by_cases c102 : 0 ≤ x173_5
                                          · rw [if_pos c102] at H
                                            have c102b0 : decide (0 ≤ x173_5) = true := decide_eq_true c102
                                            clear c102
                                            by_cases c103 : x173_5 < (t340.length : Int)
                                            · rw [if_pos c103] at H
                                              have c103b0 : decide (x173_5 < (t340.length : Int)) = true := decide_eq_true c103
                                              clear c103
                                              by_cases c104 : x173_5 < (t336.length : Int)
                                              · rw [if_pos c104] at H
                                                have c104b0 : decide (x173_5 < (t336.length : Int)) = true := decide_eq_true c104
                                                clear c104
                                                by_cases c105 : (rd t340 x173_5) = (rd t336 x173_5)
                                                · rw [if_pos c105] at H
                                                  have c105b0 : ((rd t340 x173_5) == (rd t336 x173_5)) = true := beq_iff_eq.mpr c105
                                                  have c105b1 : ((rd t340 x173_5) != (rd t336 x173_5)) = false := bne_eq_false_iff_eq.mpr c105
                                                  clear c105
                                                  have H' := Aside0.mk H
                                                  clear H
                                                  have hcz106_0 : wr.cell? ⟨gb324, 0, none⟩ = some (.int .i64 t321) := (blk_cell BK324.out 0).trans rfl
                                                  have hcz106_1 : wr.cell? ⟨gb324, 1, none⟩ = some (.int .i64 t322) := (blk_cell BK324.out 1).trans rfl
                                                  have hcz106_2 : wr.cell? ⟨gb324, 2, none⟩ = some (.int .i64 t323) := (blk_cell BK324.out 2).trans rfl
                                                  have hfz106_0 := blk_frozen BK324.out 0
                                                  have hfz106_1 := blk_frozen BK324.out 1
                                                  have hfz106_2 := blk_frozen BK324.out 2
                                                  have p348 : 0 ≤ (x173_5 : Int) := of_decide_eq_true (by first | (with_reducible assumption) | assumption)
                                                  have q348 : x173_5 < (t340.length : Int) := of_decide_eq_true (by first | (with_reducible assumption) | assumption)
                                                  obtain ⟨ad348, e348, hx348_0⟩ := Kd.at_int (Kd.R_reads' HO_24.out).2.2 x173_5 p348 q348
                                                  cases e348
                                                  replace p348 := eq_true p348
                                                  replace q348 := eq_true q348
                                                  obtain ⟨Ao107, co107, eo107⟩ := Kd.R_slice HO_22.out
                                                  subst eo107
                                                  have p349 : 0 ≤ (x173_5 : Int) := of_decide_eq_true (by first | (with_reducible assumption) | assumption)
                                                  have q349 : x173_5 < (t336.length : Int) := of_decide_eq_true (by first | (with_reducible assumption) | assumption)
                                                  obtain ⟨ad349, e349, hx349_0⟩ := Kd.at_int (Kd.R_reads' HO_22.out).2.2 x173_5 p349 q349
                                                  cases e349
                                                  replace p349 := eq_true p349
                                                  replace q349 := eq_true q349
                                                  go_wp2
                                                  repeat (go_quiet (fail); try go_wp2)
                                                  go_roundg k5
                                                  case measure => have := HJ6.out; have := HJ16.out; have := HJ48.out; have := HJ72.out; have := HK5.out; omega
                                                  case rel => exact ⟨(wrap64 (x173_5 + 1)), (by first | rfl | (simp; done) | (simp [*]; done)), H', ⟨by have := HJ6.out; have := HJ16.out; have := HJ48.out; have := HJ72.out; have := HK5.out; omega⟩, ⟨by (with_reducible repeat (first | apply Kd.R_alloc | apply Kd.R_drewN | apply Kd.R_drew)); exact HO_22.out⟩, ⟨by (with_reducible repeat (first | apply Kd.R_alloc | apply Kd.R_drewN | apply Kd.R_drew)); exact HO_24.out⟩, ⟨by (with_reducible repeat (first | refine blk_drewN ?_ _ | refine blk_drew ?_ | refine blk_alloc ?_ _)); exact BK324.out⟩, ⟨by repeat (first | (with_reducible first | exact HB.out | apply below_alloc | apply pw_below_drewN | apply below_drew1 | refine below_set ?_ GE324.out) | exact HB.out)⟩⟩
                                                · rw [if_neg c105] at H
                                                  have c105b0 : ((rd t340 x173_5) == (rd t336 x173_5)) = false := beq_eq_false_iff_ne.mpr c105
                                                  have c105b1 : ((rd t340 x173_5) != (rd t336 x173_5)) = true := bne_iff_ne.mpr c105
                                                  obtain rfl := Option.some.inj H
                                                  have hcz108_0 : wr.cell? ⟨gb324, 0, none⟩ = some (.int .i64 t321) := (blk_cell BK324.out 0).trans rfl
                                                  have hcz108_1 : wr.cell? ⟨gb324, 1, none⟩ = some (.int .i64 t322) := (blk_cell BK324.out 1).trans rfl
                                                  have hcz108_2 : wr.cell? ⟨gb324, 2, none⟩ = some (.int .i64 t323) := (blk_cell BK324.out 2).trans rfl
                                                  have hfz108_0 := blk_frozen BK324.out 0
                                                  have hfz108_1 := blk_frozen BK324.out 1
                                                  have hfz108_2 := blk_frozen BK324.out 2
                                                  have p348 : 0 ≤ (x173_5 : Int) := of_decide_eq_true (by first | (with_reducible assumption) | assumption)
                                                  have q348 : x173_5 < (t340.length : Int) := of_decide_eq_true (by first | (with_reducible assumption) | assumption)
                                                  obtain ⟨ad348, e348, hx348_0⟩ := Kd.at_int (Kd.R_reads' HO_24.out).2.2 x173_5 p348 q348
                                                  cases e348
                                                  replace p348 := eq_true p348
                                                  replace q348 := eq_true q348
                                                  obtain ⟨Ao109, co109, eo109⟩ := Kd.R_slice HO_22.out
                                                  subst eo109
                                                  have p349 : 0 ≤ (x173_5 : Int) := of_decide_eq_true (by first | (with_reducible assumption) | assumption)
                                                  have q349 : x173_5 < (t336.length : Int) := of_decide_eq_true (by first | (with_reducible assumption) | assumption)
                                                  obtain ⟨ad349, e349, hx349_0⟩ := Kd.at_int (Kd.R_reads' HO_22.out).2.2 x173_5 p349 q349
                                                  cases e349
                                                  replace p349 := eq_true p349
                                                  replace q349 := eq_true q349
                                                  go_wp2
                                                  repeat (go_quiet (fail); try go_wp2)
                                                  go_ret
                                                  exact ⟨by first | rfl | (simp [errW_none, errW_some] <;> rfl) | (simp [*, errW_none, errW_some] <;> rfl), by repeat (first | (with_reducible first | exact HB.out | apply below_alloc | apply pw_below_drewN | apply below_drew1 | refine below_set ?_ GE324.out) | exact HB.out)⟩
                                              · rw [if_neg c104] at H
                                                exact absurd H (by simp)
                                            · rw [if_neg c103] at H
                                              exact absurd H (by simp)
                                          · rw [if_neg c102] at H
                                            exact absurd H (by simp)
                                    · rw [if_neg c86] at H
                                      have c86b0 : decide (t321 ≤ x173_5) = false := decide_eq_false c86
                                      clear c86
                                      by_cases c110 : 0 ≤ x173_5
                                      · rw [if_pos c110] at H
                                        have c110b0 : decide (0 ≤ x173_5) = true := decide_eq_true c110
                                        clear c110
                                        by_cases c111 : x173_5 < (t340.length : Int)
                                        · rw [if_pos c111] at H
                                          have c111b0 : decide (x173_5 < (t340.length : Int)) = true := decide_eq_true c111
                                          clear c111
                                          by_cases c112 : x173_5 < (t336.length : Int)
                                          · rw [if_pos c112] at H
                                            have c112b0 : decide (x173_5 < (t336.length : Int)) = true := decide_eq_true c112
                                            clear c112
                                            by_cases c113 : (rd t340 x173_5) = (rd t336 x173_5)
                                            · rw [if_pos c113] at H
                                              have c113b0 : ((rd t340 x173_5) == (rd t336 x173_5)) = true := beq_iff_eq.mpr c113
                                              have c113b1 : ((rd t340 x173_5) != (rd t336 x173_5)) = false := bne_eq_false_iff_eq.mpr c113
                                              clear c113
                                              have H' := Aside0.mk H
                                              clear H
                                              have hcz114_0 : wr.cell? ⟨gb324, 0, none⟩ = some (.int .i64 t321) := (blk_cell BK324.out 0).trans rfl
                                              have hcz114_1 : wr.cell? ⟨gb324, 1, none⟩ = some (.int .i64 t322) := (blk_cell BK324.out 1).trans rfl
                                              have hcz114_2 : wr.cell? ⟨gb324, 2, none⟩ = some (.int .i64 t323) := (blk_cell BK324.out 2).trans rfl
                                              have hfz114_0 := blk_frozen BK324.out 0
                                              have hfz114_1 := blk_frozen BK324.out 1
                                              have hfz114_2 := blk_frozen BK324.out 2
                                              have p350 : 0 ≤ (x173_5 : Int) := of_decide_eq_true (by first | (with_reducible assumption) | assumption)
                                              have q350 : x173_5 < (t340.length : Int) := of_decide_eq_true (by first | (with_reducible assumption) | assumption)
                                              obtain ⟨ad350, e350, hx350_0⟩ := Kd.at_int (Kd.R_reads' HO_24.out).2.2 x173_5 p350 q350
                                              cases e350
                                              replace p350 := eq_true p350
                                              replace q350 := eq_true q350
                                              obtain ⟨Ao115, co115, eo115⟩ := Kd.R_slice HO_22.out
                                              subst eo115
                                              have p351 : 0 ≤ (x173_5 : Int) := of_decide_eq_true (by first | (with_reducible assumption) | assumption)
                                              have q351 : x173_5 < (t336.length : Int) := of_decide_eq_true (by first | (with_reducible assumption) | assumption)
                                              obtain ⟨ad351, e351, hx351_0⟩ := Kd.at_int (Kd.R_reads' HO_22.out).2.2 x173_5 p351 q351
                                              cases e351
                                              replace p351 := eq_true p351
                                              replace q351 := eq_true q351
                                              go_wp2
                                              repeat (go_quiet (fail); try go_wp2)
                                              go_roundg k5
                                              case measure => have := HJ6.out; have := HJ16.out; have := HJ48.out; have := HJ72.out; have := HK5.out; omega
                                              case rel => exact ⟨(wrap64 (x173_5 + 1)), (by first | rfl | (simp; done) | (simp [*]; done)), H', ⟨by have := HJ6.out; have := HJ16.out; have := HJ48.out; have := HJ72.out; have := HK5.out; omega⟩, ⟨by (with_reducible repeat (first | apply Kd.R_alloc | apply Kd.R_drewN | apply Kd.R_drew)); exact HO_22.out⟩, ⟨by (with_reducible repeat (first | apply Kd.R_alloc | apply Kd.R_drewN | apply Kd.R_drew)); exact HO_24.out⟩, ⟨by (with_reducible repeat (first | refine blk_drewN ?_ _ | refine blk_drew ?_ | refine blk_alloc ?_ _)); exact BK324.out⟩, ⟨by repeat (first | (with_reducible first | exact HB.out | apply below_alloc | apply pw_below_drewN | apply below_drew1 | refine below_set ?_ GE324.out) | exact HB.out)⟩⟩
                                            · rw [if_neg c113] at H
                                              have c113b0 : ((rd t340 x173_5) == (rd t336 x173_5)) = false := beq_eq_false_iff_ne.mpr c113
                                              have c113b1 : ((rd t340 x173_5) != (rd t336 x173_5)) = true := bne_iff_ne.mpr c113
                                              obtain rfl := Option.some.inj H
                                              have hcz116_0 : wr.cell? ⟨gb324, 0, none⟩ = some (.int .i64 t321) := (blk_cell BK324.out 0).trans rfl
                                              have hcz116_1 : wr.cell? ⟨gb324, 1, none⟩ = some (.int .i64 t322) := (blk_cell BK324.out 1).trans rfl
                                              have hcz116_2 : wr.cell? ⟨gb324, 2, none⟩ = some (.int .i64 t323) := (blk_cell BK324.out 2).trans rfl
                                              have hfz116_0 := blk_frozen BK324.out 0
                                              have hfz116_1 := blk_frozen BK324.out 1
                                              have hfz116_2 := blk_frozen BK324.out 2
                                              have p350 : 0 ≤ (x173_5 : Int) := of_decide_eq_true (by first | (with_reducible assumption) | assumption)
                                              have q350 : x173_5 < (t340.length : Int) := of_decide_eq_true (by first | (with_reducible assumption) | assumption)
                                              obtain ⟨ad350, e350, hx350_0⟩ := Kd.at_int (Kd.R_reads' HO_24.out).2.2 x173_5 p350 q350
                                              cases e350
                                              replace p350 := eq_true p350
                                              replace q350 := eq_true q350
                                              obtain ⟨Ao117, co117, eo117⟩ := Kd.R_slice HO_22.out
                                              subst eo117
                                              have p351 : 0 ≤ (x173_5 : Int) := of_decide_eq_true (by first | (with_reducible assumption) | assumption)
                                              have q351 : x173_5 < (t336.length : Int) := of_decide_eq_true (by first | (with_reducible assumption) | assumption)
                                              obtain ⟨ad351, e351, hx351_0⟩ := Kd.at_int (Kd.R_reads' HO_22.out).2.2 x173_5 p351 q351
                                              cases e351
                                              replace p351 := eq_true p351
                                              replace q351 := eq_true q351
                                              go_wp2
                                              repeat (go_quiet (fail); try go_wp2)
                                              go_ret
                                              exact ⟨by first | rfl | (simp [errW_none, errW_some] <;> rfl) | (simp [*, errW_none, errW_some] <;> rfl), by repeat (first | (with_reducible first | exact HB.out | apply below_alloc | apply pw_below_drewN | apply below_drew1 | refine below_set ?_ GE324.out) | exact HB.out)⟩
                                          · rw [if_neg c112] at H
                                            exact absurd H (by simp)
                                        · rw [if_neg c111] at H
                                          exact absurd H (by simp)
                                      · rw [if_neg c110] at H
                                        exact absurd H (by simp)
                                  · rw [if_neg c85] at H
                                    have c85b0 : decide (x173_5 < (t340.length : Int)) = false := decide_eq_false c85
                                    clear c85
                                    have H' := Aside0.mk H
                                    clear H
                                    go_wp2
                                    repeat (go_quiet (fail); try go_wp2)
                                    go_meet
                                    case rel => exact ⟨_, H', ⟨by have := HJ6.out; have := HJ16.out; have := HJ48.out; have := HJ72.out; have := HK5.out; first | omega | exact Nat.le_refl _⟩, ⟨by (with_reducible repeat (first | refine blk_drewN ?_ _ | refine blk_drew ?_ | refine blk_alloc ?_ _)); exact BK324.out⟩, ⟨by repeat (first | (with_reducible first | exact HB.out | apply below_alloc | apply pw_below_drewN | apply below_drew1 | refine below_set ?_ GE324.out) | exact HB.out)⟩⟩
                      · replace c70 := Bool.eq_false_iff.mpr c70
                        subst c70
                        have H1 : (laws_FnStretches.j7 kj48 l1) = some r := by rw [if_neg (show ¬ (false = true) by decide)] at H; exact H
                        clear H
                        have H := H1
                        clear H1
                        have H' := Aside0.mk H
                        clear H
                        go_wp2
                        repeat (go_quiet (fail); try go_wp2)
                        go_meet
                        case rel => exact ⟨_, H', ⟨by have := HJ6.out; have := HJ16.out; have := HJ48.out; first | omega | exact Nat.le_refl _⟩, ⟨by (with_reducible repeat (first | refine blk_drewN ?_ _ | refine blk_drew ?_ | refine blk_alloc ?_ _)); exact BK324.out⟩, ⟨by repeat (first | (with_reducible first | exact HB.out | apply below_alloc | apply pw_below_drewN | apply below_drew1 | refine below_set ?_ GE324.out) | exact HB.out)⟩⟩
                    case rest => as_aux_lemma =>
                      clear HC69
                      try clear c1
                      try clear c2
                      try clear p2
                      try clear c3
                      try clear c3b0
                      try clear p3
                      try clear q3
                      try clear hx3
                      try clear c4
                      try clear c5
                      try clear c6
                      try clear p6
                      try clear c7
                      try clear c8
                      try clear c9
                      try clear c10
                      try clear c11
                      try clear c12
                      try clear c12b0
                      try clear c12b1
                      try clear c12b2
                      try clear c16
                      try clear c18
                      try clear c24
                      try clear c25
                      try clear c27
                      try clear p31
                      try clear q31
                      try clear hx31
                      try clear c34
                      try clear p34
                      try clear q34
                      try clear hx34
                      try clear c35
                      try clear c35b0
                      try clear p35
                      try clear q35
                      try clear hx35
                      try clear c36
                      try clear c36b0
                      try clear c37
                      try clear c37b0
                      try clear c39
                      try clear c39b0
                      try clear c39b1
                      try clear c39b2
                      try clear c41
                      try clear c42
                      try clear c42b0
                      try clear c42b1
                      try clear c57
                      try clear c57b0
                      try clear c57b1
                      try clear c57b2
                      try clear c59
                      try clear p64
                      try clear c68
                      try clear c70
                      try clear c78
                      try clear c79
                      try clear c83
                      try clear c85
                      try clear c85b0
                      try clear c86
                      try clear c86b0
                      try clear c87
                      try clear c87b0
                      try clear c88
                      try clear c88b0
                      try clear c89
                      try clear c89b0
                      try clear c90
                      try clear c90b0
                      try clear c90b1
                      try clear c91
                      try clear c91b0
                      try clear c93
                      try clear c93b0
                      try clear c94
                      try clear c94b0
                      try clear c94b1
                      try clear c100
                      try clear c100b0
                      try clear c102
                      try clear c102b0
                      try clear c103
                      try clear c103b0
                      try clear c104
                      try clear c104b0
                      try clear c105
                      try clear c105b0
                      try clear c105b1
                      try clear c110
                      try clear c110b0
                      try clear c111
                      try clear c111b0
                      try clear c112
                      try clear c112b0
                      try clear c113
                      try clear c113b0
                      try clear c113b1
                      try clear hcz101_0
                      try clear hcz101_1
                      try clear hcz101_2
                      try clear hcz106_0
                      try clear hcz106_1
                      try clear hcz106_2
                      try clear hcz108_0
                      try clear hcz108_1
                      try clear hcz108_2
                      try clear hcz114_0
                      try clear hcz114_1
                      try clear hcz114_2
                      try clear hcz116_0
                      try clear hcz116_1
                      try clear hcz116_2
                      try clear hcz52_0
                      try clear hcz52_1
                      try clear hcz52_2
                      try clear hcz55_0
                      try clear hcz55_1
                      try clear hcz55_2
                      try clear hcz92_0
                      try clear hcz92_1
                      try clear hcz92_2
                      try clear hcz95_0
                      try clear hcz95_1
                      try clear hcz95_2
                      try clear hcz97_0
                      try clear hcz97_1
                      try clear hcz97_2
                      try clear hcz99_0
                      try clear hcz99_1
                      try clear hcz99_2
                      try clear hfz101_0
                      try clear hfz101_1
                      try clear hfz101_2
                      try clear hfz106_0
                      try clear hfz106_1
                      try clear hfz106_2
                      try clear hfz108_0
                      try clear hfz108_1
                      try clear hfz108_2
                      try clear hfz114_0
                      try clear hfz114_1
                      try clear hfz114_2
                      try clear hfz116_0
                      try clear hfz116_1
                      try clear hfz116_2
                      try clear hfz52_0
                      try clear hfz52_1
                      try clear hfz52_2
                      try clear hfz55_0
                      try clear hfz55_1
                      try clear hfz55_2
                      try clear hfz92_0
                      try clear hfz92_1
                      try clear hfz92_2
                      try clear hfz95_0
                      try clear hfz95_1
                      try clear hfz95_2
                      try clear hfz97_0
                      try clear hfz97_1
                      try clear hfz97_2
                      try clear hfz99_0
                      try clear hfz99_1
                      try clear hfz99_2
                      try clear hx315_0
                      try clear hx345_0
                      try clear hx346_0
                      try clear hx347_0
                      try clear hx348_0
                      try clear hx349_0
                      try clear hx350_0
                      try clear hx351_0
                      try clear p2
                      try clear p3
                      try clear p31
                      try clear p315
                      try clear p345
                      try clear p346
                      try clear p347
                      try clear p348
                      try clear p349
                      try clear p350
                      try clear p351
                      try clear p6
                      try clear p64
                      try clear q3
                      try clear q31
                      try clear q315
                      try clear q345
                      try clear q346
                      try clear q347
                      try clear q348
                      try clear q349
                      try clear q350
                      try clear q351
                      obtain ⟨kq, HA, HJ68, BK324, HB⟩ := hcut
                      cases kq with
                      | zero => exact absurd HA.out (by simp [laws_FnStretches.j7])
                      | succ kj68 =>
                        have H := HA.out
                        clear HA
                        simp only [laws_FnStretches.j7] at H
                        replace H := Option.bind_eq_some_iff.mp H
                        obtain ⟨⟨t352, t353⟩, A1180, H⟩ := H
                        replace H : ((impl_PlaceOf.f kj68 t352 t353).bind fun bt356 => ((spec_PlaceOf.f kj68 t352 t353).bind fun bt358 => ((spec_DrawPlacesOf.f kj68 l1).bind fun t360 => ((impl_PlacesOf.f kj68 t360).bind fun bt363 => ((spec_PlacesOf.f kj68 t360).bind fun bt367 => (if (bt356.2 == bt358.2) = true then (if bt356.1 = bt358.1 then (if (bt363.2 == bt367.2) = true then ((laws_sameInts.f kj68 bt363.1 bt367.1).bind fun t371 => (some t371)) else (some false)) else (some false)) else (some false))))))) = some r := H
                        have A118 := Aside0.mk A1180
                        clear A1180
                        replace H := Option.bind_eq_some_iff.mp H
                        obtain ⟨⟨t356, t357⟩, A1190, H⟩ := H
                        replace H : ((spec_PlaceOf.f kj68 t352 t353).bind fun bt358 => ((spec_DrawPlacesOf.f kj68 l1).bind fun t360 => ((impl_PlacesOf.f kj68 t360).bind fun bt363 => ((spec_PlacesOf.f kj68 t360).bind fun bt367 => (if (t357 == bt358.2) = true then (if t356 = bt358.1 then (if (bt363.2 == bt367.2) = true then ((laws_sameInts.f kj68 bt363.1 bt367.1).bind fun t371 => (some t371)) else (some false)) else (some false)) else (some false)))))) = some r := H
                        have A119 := Aside0.mk A1190
                        clear A1190
                        replace H := Option.bind_eq_some_iff.mp H
                        obtain ⟨⟨t358, t359⟩, A1200, H⟩ := H
                        replace H : ((spec_DrawPlacesOf.f kj68 l1).bind fun t360 => ((impl_PlacesOf.f kj68 t360).bind fun bt363 => ((spec_PlacesOf.f kj68 t360).bind fun bt367 => (if (t357 == t359) = true then (if t356 = t358 then (if (bt363.2 == bt367.2) = true then ((laws_sameInts.f kj68 bt363.1 bt367.1).bind fun t371 => (some t371)) else (some false)) else (some false)) else (some false))))) = some r := H
                        have A120 := Aside0.mk A1200
                        clear A1200
                        replace H := Option.bind_eq_some_iff.mp H
                        obtain ⟨t360, A1210, H⟩ := H
                        replace H : ((impl_PlacesOf.f kj68 t360).bind fun bt363 => ((spec_PlacesOf.f kj68 t360).bind fun bt367 => (if (t357 == t359) = true then (if t356 = t358 then (if (bt363.2 == bt367.2) = true then ((laws_sameInts.f kj68 bt363.1 bt367.1).bind fun t371 => (some t371)) else (some false)) else (some false)) else (some false)))) = some r := H
                        have A121 := Aside0.mk A1210
                        clear A1210
                        replace H := Option.bind_eq_some_iff.mp H
                        obtain ⟨⟨t363, t364⟩, A1220, H⟩ := H
                        replace H : ((spec_PlacesOf.f kj68 t360).bind fun bt367 => (if (t357 == t359) = true then (if t356 = t358 then (if (t364 == bt367.2) = true then ((laws_sameInts.f kj68 t363 bt367.1).bind fun t371 => (some t371)) else (some false)) else (some false)) else (some false))) = some r := H
                        have A122 := Aside0.mk A1220
                        clear A1220
                        replace H := Option.bind_eq_some_iff.mp H
                        obtain ⟨⟨t367, t368⟩, A1230, H⟩ := H
                        replace H : (if (t357 == t359) = true then (if t356 = t358 then (if (t364 == t368) = true then ((laws_sameInts.f kj68 t363 t367).bind fun t371 => (some t371)) else (some false)) else (some false)) else (some false)) = some r := H
                        have A123 := Aside0.mk A1230
                        clear A1230
                        by_cases c124 : (t357 == t359) = true
                        · rw [if_pos c124] at H
                          have c124b0 : (t357 == t359) = true := c124
                          (try (have c124b1 : decide (t357 = t359) = true := by simpa using c124))
                          (try (have c124b2 : (t357 == t359) = true := by simpa using c124))
                          clear c124
                          by_cases c125 : t356 = t358
                          · rw [if_pos c125] at H
                            have c125b0 : (t356 == t358) = true := beq_iff_eq.mpr c125
                            have c125b1 : (t356 != t358) = false := bne_eq_false_iff_eq.mpr c125
                            clear c125
                            by_cases c126 : (t364 == t368) = true
                            · rw [if_pos c126] at H
                              have c126b0 : (t364 == t368) = true := c126
                              (try (have c126b1 : decide (t364 = t368) = true := by simpa using c126))
                              (try (have c126b2 : (t364 == t368) = true := by simpa using c126))
                              clear c126
                              replace H := Option.bind_eq_some_iff.mp H
                              obtain ⟨t371, A1270, H⟩ := H
                              replace H : (some t371) = some r := H
                              have A127 := Aside0.mk A1270
                              clear A1270
                              obtain rfl := Option.some.inj H
                              go_wp2_with (first | (go_at_call 42; (with_reducible refine (spec_DrawPlaceOf.calls kj68 _ _ l1 t352 t353 _ ?side1 ?side2 A118.out).mono ?_); (case side1 => repeat (first | exact (Kd.C_below HR1.out HB.out) | (with_reducible refine Kd.C_alloc ?_ _) | (with_reducible refine Kd.C_drewN ?_ _) | (with_reducible refine Kd.C_drew ?_))); (case side2 => exact HC1.out); rintro e w128 ⟨v354, rfl, ho0, hb⟩; have n0_ := Aside0.mk (Kd.R_lower (Kd.R_newB ho0 (g := gb324) (o := .cells #[.int .i64 t321, .int .i64 t322, .int .i64 t323] 47 (0, 0)) (by (with_reducible repeat (first | refine blk_drewN ?_ _ | refine blk_drew ?_ | refine blk_alloc ?_ _)); exact BK324.out)) (below_size (by repeat (first | (with_reducible first | exact HB.out | apply below_alloc | apply pw_below_drewN | apply below_drew1 | refine below_set ?_ GE324.out) | exact HB.out)))); have n1_ := Aside0.mk (blk_below (g := gb324) (o := .cells #[.int .i64 t321, .int .i64 t322, .int .i64 t323] 47 (0, 0)) (by (with_reducible repeat (first | refine blk_drewN ?_ _ | refine blk_drew ?_ | refine blk_alloc ?_ _)); exact BK324.out) hb); have n2_ := Aside0.mk (below_step (by repeat (first | (with_reducible first | exact HB.out | apply below_alloc | apply pw_below_drewN | apply below_drew1 | refine below_set ?_ GE324.out) | exact HB.out)) hb); clear BK324; clear HB; have HO355 := n0_; have BK324 := n1_; have HB := n2_; clear n0_ n1_ n2_; (try clear hb); (try clear hb2); (try clear hk); (try clear hi); (try clear ho0); obtain ⟨Ao129, co129, eo129⟩ := Kd.R_slice HO355.out; subst eo129) | (go_at_call 25; (with_reducible refine (impl_PlaceOf.calls kj68 _ _ t352 t353 t356 t357 _ ?side1 ?side2 A119.out).mono ?_); (case side1 => repeat (first | exact (Kd.R_reads' HO355.out).2.2 | (with_reducible refine Kd.C_alloc ?_ _) | (with_reducible refine Kd.C_drewN ?_ _) | (with_reducible refine Kd.C_drew ?_))); (case side2 => exact (Kd.R_reads' HO355.out).2.1); rintro e w130 ⟨rfl, hb⟩; have n0_ := Aside0.mk (Kd.R_below (by (with_reducible repeat (first | apply Kd.R_alloc | apply Kd.R_drewN | apply Kd.R_drew)); exact HO355.out) hb); have n1_ := Aside0.mk (blk_below (g := gb324) (o := .cells #[.int .i64 t321, .int .i64 t322, .int .i64 t323] 47 (0, 0)) (by (with_reducible repeat (first | refine blk_drewN ?_ _ | refine blk_drew ?_ | refine blk_alloc ?_ _)); exact BK324.out) hb); have n2_ := Aside0.mk (below_step (by repeat (first | (with_reducible first | exact HB.out | apply below_alloc | apply pw_below_drewN | apply below_drew1 | refine below_set ?_ GE324.out) | exact HB.out)) hb); clear HO355; clear BK324; clear HB; have HO355 := n0_; have BK324 := n1_; have HB := n2_; clear n0_ n1_ n2_; (try clear hb); (try clear hb2); (try clear hk); (try clear hi)) | (go_at_call 24; (with_reducible refine (spec_PlaceOf.calls kj68 _ _ t352 t353 t358 t359 _ ?side1 ?side2 A120.out).mono ?_); (case side1 => repeat (first | exact (Kd.R_reads' HO355.out).2.2 | (with_reducible refine Kd.C_alloc ?_ _) | (with_reducible refine Kd.C_drewN ?_ _) | (with_reducible refine Kd.C_drew ?_))); (case side2 => exact (Kd.R_reads' HO355.out).2.1); rintro e w131 ⟨rfl, hb⟩; have n0_ := Aside0.mk (Kd.R_below (by (with_reducible repeat (first | apply Kd.R_alloc | apply Kd.R_drewN | apply Kd.R_drew)); exact HO355.out) hb); have n1_ := Aside0.mk (blk_below (g := gb324) (o := .cells #[.int .i64 t321, .int .i64 t322, .int .i64 t323] 47 (0, 0)) (by (with_reducible repeat (first | refine blk_drewN ?_ _ | refine blk_drew ?_ | refine blk_alloc ?_ _)); exact BK324.out) hb); have n2_ := Aside0.mk (below_step (by repeat (first | (with_reducible first | exact HB.out | apply below_alloc | apply pw_below_drewN | apply below_drew1 | refine below_set ?_ GE324.out) | exact HB.out)) hb); clear HO355; clear BK324; clear HB; have HO355 := n0_; have BK324 := n1_; have HB := n2_; clear n0_ n1_ n2_; (try clear hb); (try clear hb2); (try clear hk); (try clear hi)) | (go_at_call 43; (with_reducible refine (spec_DrawPlacesOf.calls kj68 _ _ l1 t360 _ ?side1 ?side2 A121.out).mono ?_); (case side1 => repeat (first | exact (Kd.C_below HR1.out HB.out) | (with_reducible refine Kd.C_alloc ?_ _) | (with_reducible refine Kd.C_drewN ?_ _) | (with_reducible refine Kd.C_drew ?_))); (case side2 => exact HC1.out); rintro e w132 ⟨v361, rfl, ho0, hb⟩; have n0_ := Aside0.mk (Kd.R_elder' (by (with_reducible repeat (first | apply Kd.R_alloc | apply Kd.R_drewN | apply Kd.R_drew)); exact HO355.out) (Kd.R_base ho0) hb); have n1_ := Aside0.mk (Kd.R_lower (Kd.R_newB (Kd.R_new' ho0 (Kd.R_lt (by (with_reducible repeat (first | apply Kd.R_alloc | apply Kd.R_drewN | apply Kd.R_drew)); exact HO355.out))) (g := gb324) (o := .cells #[.int .i64 t321, .int .i64 t322, .int .i64 t323] 47 (0, 0)) (by (with_reducible repeat (first | refine blk_drewN ?_ _ | refine blk_drew ?_ | refine blk_alloc ?_ _)); exact BK324.out)) (below_size (by repeat (first | (with_reducible first | exact HB.out | apply below_alloc | apply pw_below_drewN | apply below_drew1 | refine below_set ?_ GE324.out) | exact HB.out)))); have n2_ := Aside0.mk (blk_below (g := gb324) (o := .cells #[.int .i64 t321, .int .i64 t322, .int .i64 t323] 47 (0, 0)) (by (with_reducible repeat (first | refine blk_drewN ?_ _ | refine blk_drew ?_ | refine blk_alloc ?_ _)); exact BK324.out) hb); have n3_ := Aside0.mk (below_step (by repeat (first | (with_reducible first | exact HB.out | apply below_alloc | apply pw_below_drewN | apply below_drew1 | refine below_set ?_ GE324.out) | exact HB.out)) hb); clear HO355; clear BK324; clear HB; have HO355 := n0_; have HO362 := n1_; have BK324 := n2_; have HB := n3_; clear n0_ n1_ n2_ n3_; (try clear hb); (try clear hb2); (try clear hk); (try clear hi); (try clear ho0); obtain ⟨Ao133, co133, eo133⟩ := Kd.R_slice HO362.out; subst eo133) | (go_at_call 27; (with_reducible refine (impl_PlacesOf.calls kj68 _ _ t360 t363 t364 _ ?side1 ?side2 A122.out).mono ?_); (case side1 => repeat (first | exact (Kd.R_reads' HO362.out).2.2 | (with_reducible refine Kd.C_alloc ?_ _) | (with_reducible refine Kd.C_drewN ?_ _) | (with_reducible refine Kd.C_drew ?_))); (case side2 => exact (Kd.R_reads' HO362.out).2.1); rintro e w134 ⟨v365, rfl, ho0, hb⟩; have n0_ := Aside0.mk (Kd.R_below (by (with_reducible repeat (first | apply Kd.R_alloc | apply Kd.R_drewN | apply Kd.R_drew)); exact HO355.out) hb); have n1_ := Aside0.mk (Kd.R_below (by (with_reducible repeat (first | apply Kd.R_alloc | apply Kd.R_drewN | apply Kd.R_drew)); exact HO362.out) hb); have n2_ := Aside0.mk (Kd.R_lower ho0 (below_size (by repeat (first | (with_reducible first | exact HB.out | apply below_alloc | apply pw_below_drewN | apply below_drew1 | refine below_set ?_ GE324.out) | exact HB.out)))); have n3_ := Aside0.mk (blk_below (g := gb324) (o := .cells #[.int .i64 t321, .int .i64 t322, .int .i64 t323] 47 (0, 0)) (by (with_reducible repeat (first | refine blk_drewN ?_ _ | refine blk_drew ?_ | refine blk_alloc ?_ _)); exact BK324.out) hb); have n4_ := Aside0.mk (below_step (by repeat (first | (with_reducible first | exact HB.out | apply below_alloc | apply pw_below_drewN | apply below_drew1 | refine below_set ?_ GE324.out) | exact HB.out)) hb); clear HO355; clear HO362; clear BK324; clear HB; have HO355 := n0_; have HO362 := n1_; have HO366 := n2_; have BK324 := n3_; have HB := n4_; clear n0_ n1_ n2_ n3_ n4_; (try clear hb); (try clear hb2); (try clear hk); (try clear hi); (try clear ho0)) | (go_at_call 26; (with_reducible refine (spec_PlacesOf.calls kj68 _ _ t360 t367 t368 _ ?side1 ?side2 A123.out).mono ?_); (case side1 => repeat (first | exact (Kd.R_reads' HO362.out).2.2 | (with_reducible refine Kd.C_alloc ?_ _) | (with_reducible refine Kd.C_drewN ?_ _) | (with_reducible refine Kd.C_drew ?_))); (case side2 => exact (Kd.R_reads' HO362.out).2.1); rintro e w135 ⟨v369, rfl, ho0, hb⟩; have n0_ := Aside0.mk (Kd.R_below (by (with_reducible repeat (first | apply Kd.R_alloc | apply Kd.R_drewN | apply Kd.R_drew)); exact HO355.out) hb); have n1_ := Aside0.mk (Kd.R_below (by (with_reducible repeat (first | apply Kd.R_alloc | apply Kd.R_drewN | apply Kd.R_drew)); exact HO362.out) hb); have n2_ := Aside0.mk (Kd.R_elder' (by (with_reducible repeat (first | apply Kd.R_alloc | apply Kd.R_drewN | apply Kd.R_drew)); exact HO366.out) (Kd.R_base ho0) hb); have n3_ := Aside0.mk (Kd.R_lower (Kd.R_new' ho0 (Kd.R_lt (by (with_reducible repeat (first | apply Kd.R_alloc | apply Kd.R_drewN | apply Kd.R_drew)); exact HO366.out))) (below_size (by repeat (first | (with_reducible first | exact HB.out | apply below_alloc | apply pw_below_drewN | apply below_drew1 | refine below_set ?_ GE324.out) | exact HB.out)))); have n4_ := Aside0.mk (blk_below (g := gb324) (o := .cells #[.int .i64 t321, .int .i64 t322, .int .i64 t323] 47 (0, 0)) (by (with_reducible repeat (first | refine blk_drewN ?_ _ | refine blk_drew ?_ | refine blk_alloc ?_ _)); exact BK324.out) hb); have n5_ := Aside0.mk (below_step (by repeat (first | (with_reducible first | exact HB.out | apply below_alloc | apply pw_below_drewN | apply below_drew1 | refine below_set ?_ GE324.out) | exact HB.out)) hb); clear HO355; clear HO362; clear HO366; clear BK324; clear HB; have HO355 := n0_; have HO362 := n1_; have HO366 := n2_; have HO370 := n3_; have BK324 := n4_; have HB := n5_; clear n0_ n1_ n2_ n3_ n4_ n5_; (try clear hb); (try clear hb2); (try clear hk); (try clear hi); (try clear ho0); obtain ⟨Ao136, co136, eo136⟩ := Kd.R_slice HO366.out; subst eo136; obtain ⟨Ao137, co137, eo137⟩ := Kd.R_slice HO370.out; subst eo137) | (go_at_call 40; (with_reducible refine (laws_sameInts.calls kj68 _ _ t363 _ _ t367 t371 _ ?side1 ?side2 ?side3 ?side4 A127.out).mono ?_); (case side1 => repeat (first | exact (Kd.R_reads' HO366.out).2.2 | (with_reducible refine Kd.C_alloc ?_ _) | (with_reducible refine Kd.C_drewN ?_ _) | (with_reducible refine Kd.C_drew ?_))); (case side2 => exact (Kd.R_reads' HO366.out).2.1); (case side3 => repeat (first | exact (Kd.R_reads' HO370.out).2.2 | (with_reducible refine Kd.C_alloc ?_ _) | (with_reducible refine Kd.C_drewN ?_ _) | (with_reducible refine Kd.C_drew ?_))); (case side4 => exact (Kd.R_reads' HO370.out).2.1); rintro e w' ⟨rfl, ⟨nd, rfl⟩⟩; (try first | exact ⟨rfl, _, World.drewN_drewN _ _ _⟩ | exact ⟨rfl, _, Eq.trans (World.drewN_drewN _ _ _) (congrArg (World.drewN _) (Nat.add_assoc _ _ _))⟩)))
                              go_ret
                              exact ⟨by first | rfl | (simp [errW_none, errW_some] <;> rfl) | (simp [*, errW_none, errW_some] <;> rfl), by repeat (first | (with_reducible first | exact HB.out | apply below_alloc | apply pw_below_drewN | apply below_drew1 | refine below_set ?_ GE324.out) | exact HB.out)⟩
                            · rw [if_neg c126] at H
                              have c126b0 : (t364 == t368) = false := by simpa using c126
                              (try (have c126b1 : decide (t364 = t368) = false := by simpa using c126))
                              (try (have c126b2 : (t364 == t368) = false := by simpa using c126))
                              (try (have c126b3 : ¬ (t364 = t368) := by simpa using c126))
                              clear c126
                              obtain rfl := Option.some.inj H
                              go_wp2_with (first | (go_at_call 42; (with_reducible refine (spec_DrawPlaceOf.calls kj68 _ _ l1 t352 t353 _ ?side1 ?side2 A118.out).mono ?_); (case side1 => repeat (first | exact (Kd.C_below HR1.out HB.out) | (with_reducible refine Kd.C_alloc ?_ _) | (with_reducible refine Kd.C_drewN ?_ _) | (with_reducible refine Kd.C_drew ?_))); (case side2 => exact HC1.out); rintro e w138 ⟨v354, rfl, ho0, hb⟩; have n0_ := Aside0.mk (Kd.R_lower (Kd.R_newB ho0 (g := gb324) (o := .cells #[.int .i64 t321, .int .i64 t322, .int .i64 t323] 47 (0, 0)) (by (with_reducible repeat (first | refine blk_drewN ?_ _ | refine blk_drew ?_ | refine blk_alloc ?_ _)); exact BK324.out)) (below_size (by repeat (first | (with_reducible first | exact HB.out | apply below_alloc | apply pw_below_drewN | apply below_drew1 | refine below_set ?_ GE324.out) | exact HB.out)))); have n1_ := Aside0.mk (blk_below (g := gb324) (o := .cells #[.int .i64 t321, .int .i64 t322, .int .i64 t323] 47 (0, 0)) (by (with_reducible repeat (first | refine blk_drewN ?_ _ | refine blk_drew ?_ | refine blk_alloc ?_ _)); exact BK324.out) hb); have n2_ := Aside0.mk (below_step (by repeat (first | (with_reducible first | exact HB.out | apply below_alloc | apply pw_below_drewN | apply below_drew1 | refine below_set ?_ GE324.out) | exact HB.out)) hb); clear BK324; clear HB; have HO355 := n0_; have BK324 := n1_; have HB := n2_; clear n0_ n1_ n2_; (try clear hb); (try clear hb2); (try clear hk); (try clear hi); (try clear ho0); obtain ⟨Ao139, co139, eo139⟩ := Kd.R_slice HO355.out; subst eo139) | (go_at_call 25; (with_reducible refine (impl_PlaceOf.calls kj68 _ _ t352 t353 t356 t357 _ ?side1 ?side2 A119.out).mono ?_); (case side1 => repeat (first | exact (Kd.R_reads' HO355.out).2.2 | (with_reducible refine Kd.C_alloc ?_ _) | (with_reducible refine Kd.C_drewN ?_ _) | (with_reducible refine Kd.C_drew ?_))); (case side2 => exact (Kd.R_reads' HO355.out).2.1); rintro e w140 ⟨rfl, hb⟩; have n0_ := Aside0.mk (Kd.R_below (by (with_reducible repeat (first | apply Kd.R_alloc | apply Kd.R_drewN | apply Kd.R_drew)); exact HO355.out) hb); have n1_ := Aside0.mk (blk_below (g := gb324) (o := .cells #[.int .i64 t321, .int .i64 t322, .int .i64 t323] 47 (0, 0)) (by (with_reducible repeat (first | refine blk_drewN ?_ _ | refine blk_drew ?_ | refine blk_alloc ?_ _)); exact BK324.out) hb); have n2_ := Aside0.mk (below_step (by repeat (first | (with_reducible first | exact HB.out | apply below_alloc | apply pw_below_drewN | apply below_drew1 | refine below_set ?_ GE324.out) | exact HB.out)) hb); clear HO355; clear BK324; clear HB; have HO355 := n0_; have BK324 := n1_; have HB := n2_; clear n0_ n1_ n2_; (try clear hb); (try clear hb2); (try clear hk); (try clear hi)) | (go_at_call 24; (with_reducible refine (spec_PlaceOf.calls kj68 _ _ t352 t353 t358 t359 _ ?side1 ?side2 A120.out).mono ?_); (case side1 => repeat (first | exact (Kd.R_reads' HO355.out).2.2 | (with_reducible refine Kd.C_alloc ?_ _) | (with_reducible refine Kd.C_drewN ?_ _) | (with_reducible refine Kd.C_drew ?_))); (case side2 => exact (Kd.R_reads' HO355.out).2.1); rintro e w141 ⟨rfl, hb⟩; have n0_ := Aside0.mk (Kd.R_below (by (with_reducible repeat (first | apply Kd.R_alloc | apply Kd.R_drewN | apply Kd.R_drew)); exact HO355.out) hb); have n1_ := Aside0.mk (blk_below (g := gb324) (o := .cells #[.int .i64 t321, .int .i64 t322, .int .i64 t323] 47 (0, 0)) (by (with_reducible repeat (first | refine blk_drewN ?_ _ | refine blk_drew ?_ | refine blk_alloc ?_ _)); exact BK324.out) hb); have n2_ := Aside0.mk (below_step (by repeat (first | (with_reducible first | exact HB.out | apply below_alloc | apply pw_below_drewN | apply below_drew1 | refine below_set ?_ GE324.out) | exact HB.out)) hb); clear HO355; clear BK324; clear HB; have HO355 := n0_; have BK324 := n1_; have HB := n2_; clear n0_ n1_ n2_; (try clear hb); (try clear hb2); (try clear hk); (try clear hi)) | (go_at_call 43; (with_reducible refine (spec_DrawPlacesOf.calls kj68 _ _ l1 t360 _ ?side1 ?side2 A121.out).mono ?_); (case side1 => repeat (first | exact (Kd.C_below HR1.out HB.out) | (with_reducible refine Kd.C_alloc ?_ _) | (with_reducible refine Kd.C_drewN ?_ _) | (with_reducible refine Kd.C_drew ?_))); (case side2 => exact HC1.out); rintro e w142 ⟨v361, rfl, ho0, hb⟩; have n0_ := Aside0.mk (Kd.R_elder' (by (with_reducible repeat (first | apply Kd.R_alloc | apply Kd.R_drewN | apply Kd.R_drew)); exact HO355.out) (Kd.R_base ho0) hb); have n1_ := Aside0.mk (Kd.R_lower (Kd.R_newB (Kd.R_new' ho0 (Kd.R_lt (by (with_reducible repeat (first | apply Kd.R_alloc | apply Kd.R_drewN | apply Kd.R_drew)); exact HO355.out))) (g := gb324) (o := .cells #[.int .i64 t321, .int .i64 t322, .int .i64 t323] 47 (0, 0)) (by (with_reducible repeat (first | refine blk_drewN ?_ _ | refine blk_drew ?_ | refine blk_alloc ?_ _)); exact BK324.out)) (below_size (by repeat (first | (with_reducible first | exact HB.out | apply below_alloc | apply pw_below_drewN | apply below_drew1 | refine below_set ?_ GE324.out) | exact HB.out)))); have n2_ := Aside0.mk (blk_below (g := gb324) (o := .cells #[.int .i64 t321, .int .i64 t322, .int .i64 t323] 47 (0, 0)) (by (with_reducible repeat (first | refine blk_drewN ?_ _ | refine blk_drew ?_ | refine blk_alloc ?_ _)); exact BK324.out) hb); have n3_ := Aside0.mk (below_step (by repeat (first | (with_reducible first | exact HB.out | apply below_alloc | apply pw_below_drewN | apply below_drew1 | refine below_set ?_ GE324.out) | exact HB.out)) hb); clear HO355; clear BK324; clear HB; have HO355 := n0_; have HO362 := n1_; have BK324 := n2_; have HB := n3_; clear n0_ n1_ n2_ n3_; (try clear hb); (try clear hb2); (try clear hk); (try clear hi); (try clear ho0); obtain ⟨Ao143, co143, eo143⟩ := Kd.R_slice HO362.out; subst eo143) | (go_at_call 27; (with_reducible refine (impl_PlacesOf.calls kj68 _ _ t360 t363 t364 _ ?side1 ?side2 A122.out).mono ?_); (case side1 => repeat (first | exact (Kd.R_reads' HO362.out).2.2 | (with_reducible refine Kd.C_alloc ?_ _) | (with_reducible refine Kd.C_drewN ?_ _) | (with_reducible refine Kd.C_drew ?_))); (case side2 => exact (Kd.R_reads' HO362.out).2.1); rintro e w144 ⟨v365, rfl, ho0, hb⟩; have n0_ := Aside0.mk (Kd.R_below (by (with_reducible repeat (first | apply Kd.R_alloc | apply Kd.R_drewN | apply Kd.R_drew)); exact HO355.out) hb); have n1_ := Aside0.mk (Kd.R_below (by (with_reducible repeat (first | apply Kd.R_alloc | apply Kd.R_drewN | apply Kd.R_drew)); exact HO362.out) hb); have n2_ := Aside0.mk (Kd.R_lower ho0 (below_size (by repeat (first | (with_reducible first | exact HB.out | apply below_alloc | apply pw_below_drewN | apply below_drew1 | refine below_set ?_ GE324.out) | exact HB.out)))); have n3_ := Aside0.mk (blk_below (g := gb324) (o := .cells #[.int .i64 t321, .int .i64 t322, .int .i64 t323] 47 (0, 0)) (by (with_reducible repeat (first | refine blk_drewN ?_ _ | refine blk_drew ?_ | refine blk_alloc ?_ _)); exact BK324.out) hb); have n4_ := Aside0.mk (below_step (by repeat (first | (with_reducible first | exact HB.out | apply below_alloc | apply pw_below_drewN | apply below_drew1 | refine below_set ?_ GE324.out) | exact HB.out)) hb); clear HO355; clear HO362; clear BK324; clear HB; have HO355 := n0_; have HO362 := n1_; have HO366 := n2_; have BK324 := n3_; have HB := n4_; clear n0_ n1_ n2_ n3_ n4_; (try clear hb); (try clear hb2); (try clear hk); (try clear hi); (try clear ho0)) | (go_at_call 26; (with_reducible refine (spec_PlacesOf.calls kj68 _ _ t360 t367 t368 _ ?side1 ?side2 A123.out).mono ?_); (case side1 => repeat (first | exact (Kd.R_reads' HO362.out).2.2 | (with_reducible refine Kd.C_alloc ?_ _) | (with_reducible refine Kd.C_drewN ?_ _) | (with_reducible refine Kd.C_drew ?_))); (case side2 => exact (Kd.R_reads' HO362.out).2.1); rintro e w145 ⟨v369, rfl, ho0, hb⟩; have n0_ := Aside0.mk (Kd.R_below (by (with_reducible repeat (first | apply Kd.R_alloc | apply Kd.R_drewN | apply Kd.R_drew)); exact HO355.out) hb); have n1_ := Aside0.mk (Kd.R_below (by (with_reducible repeat (first | apply Kd.R_alloc | apply Kd.R_drewN | apply Kd.R_drew)); exact HO362.out) hb); have n2_ := Aside0.mk (Kd.R_elder' (by (with_reducible repeat (first | apply Kd.R_alloc | apply Kd.R_drewN | apply Kd.R_drew)); exact HO366.out) (Kd.R_base ho0) hb); have n3_ := Aside0.mk (Kd.R_lower (Kd.R_new' ho0 (Kd.R_lt (by (with_reducible repeat (first | apply Kd.R_alloc | apply Kd.R_drewN | apply Kd.R_drew)); exact HO366.out))) (below_size (by repeat (first | (with_reducible first | exact HB.out | apply below_alloc | apply pw_below_drewN | apply below_drew1 | refine below_set ?_ GE324.out) | exact HB.out)))); have n4_ := Aside0.mk (blk_below (g := gb324) (o := .cells #[.int .i64 t321, .int .i64 t322, .int .i64 t323] 47 (0, 0)) (by (with_reducible repeat (first | refine blk_drewN ?_ _ | refine blk_drew ?_ | refine blk_alloc ?_ _)); exact BK324.out) hb); have n5_ := Aside0.mk (below_step (by repeat (first | (with_reducible first | exact HB.out | apply below_alloc | apply pw_below_drewN | apply below_drew1 | refine below_set ?_ GE324.out) | exact HB.out)) hb); clear HO355; clear HO362; clear HO366; clear BK324; clear HB; have HO355 := n0_; have HO362 := n1_; have HO366 := n2_; have HO370 := n3_; have BK324 := n4_; have HB := n5_; clear n0_ n1_ n2_ n3_ n4_ n5_; (try clear hb); (try clear hb2); (try clear hk); (try clear hi); (try clear ho0)))
                              go_ret
                              exact ⟨by first | rfl | (simp [errW_none, errW_some] <;> rfl) | (simp [*, errW_none, errW_some] <;> rfl), by repeat (first | (with_reducible first | exact HB.out | apply below_alloc | apply pw_below_drewN | apply below_drew1 | refine below_set ?_ GE324.out) | exact HB.out)⟩
                          · rw [if_neg c125] at H
                            have c125b0 : (t356 == t358) = false := beq_eq_false_iff_ne.mpr c125
                            have c125b1 : (t356 != t358) = true := bne_iff_ne.mpr c125
                            obtain rfl := Option.some.inj H
                            go_wp2_with (first | (go_at_call 42; (with_reducible refine (spec_DrawPlaceOf.calls kj68 _ _ l1 t352 t353 _ ?side1 ?side2 A118.out).mono ?_); (case side1 => repeat (first | exact (Kd.C_below HR1.out HB.out) | (with_reducible refine Kd.C_alloc ?_ _) | (with_reducible refine Kd.C_drewN ?_ _) | (with_reducible refine Kd.C_drew ?_))); (case side2 => exact HC1.out); rintro e w146 ⟨v354, rfl, ho0, hb⟩; have n0_ := Aside0.mk (Kd.R_lower (Kd.R_newB ho0 (g := gb324) (o := .cells #[.int .i64 t321, .int .i64 t322, .int .i64 t323] 47 (0, 0)) (by (with_reducible repeat (first | refine blk_drewN ?_ _ | refine blk_drew ?_ | refine blk_alloc ?_ _)); exact BK324.out)) (below_size (by repeat (first | (with_reducible first | exact HB.out | apply below_alloc | apply pw_below_drewN | apply below_drew1 | refine below_set ?_ GE324.out) | exact HB.out)))); have n1_ := Aside0.mk (blk_below (g := gb324) (o := .cells #[.int .i64 t321, .int .i64 t322, .int .i64 t323] 47 (0, 0)) (by (with_reducible repeat (first | refine blk_drewN ?_ _ | refine blk_drew ?_ | refine blk_alloc ?_ _)); exact BK324.out) hb); have n2_ := Aside0.mk (below_step (by repeat (first | (with_reducible first | exact HB.out | apply below_alloc | apply pw_below_drewN | apply below_drew1 | refine below_set ?_ GE324.out) | exact HB.out)) hb); clear BK324; clear HB; have HO355 := n0_; have BK324 := n1_; have HB := n2_; clear n0_ n1_ n2_; (try clear hb); (try clear hb2); (try clear hk); (try clear hi); (try clear ho0); obtain ⟨Ao147, co147, eo147⟩ := Kd.R_slice HO355.out; subst eo147) | (go_at_call 25; (with_reducible refine (impl_PlaceOf.calls kj68 _ _ t352 t353 t356 t357 _ ?side1 ?side2 A119.out).mono ?_); (case side1 => repeat (first | exact (Kd.R_reads' HO355.out).2.2 | (with_reducible refine Kd.C_alloc ?_ _) | (with_reducible refine Kd.C_drewN ?_ _) | (with_reducible refine Kd.C_drew ?_))); (case side2 => exact (Kd.R_reads' HO355.out).2.1); rintro e w148 ⟨rfl, hb⟩; have n0_ := Aside0.mk (Kd.R_below (by (with_reducible repeat (first | apply Kd.R_alloc | apply Kd.R_drewN | apply Kd.R_drew)); exact HO355.out) hb); have n1_ := Aside0.mk (blk_below (g := gb324) (o := .cells #[.int .i64 t321, .int .i64 t322, .int .i64 t323] 47 (0, 0)) (by (with_reducible repeat (first | refine blk_drewN ?_ _ | refine blk_drew ?_ | refine blk_alloc ?_ _)); exact BK324.out) hb); have n2_ := Aside0.mk (below_step (by repeat (first | (with_reducible first | exact HB.out | apply below_alloc | apply pw_below_drewN | apply below_drew1 | refine below_set ?_ GE324.out) | exact HB.out)) hb); clear HO355; clear BK324; clear HB; have HO355 := n0_; have BK324 := n1_; have HB := n2_; clear n0_ n1_ n2_; (try clear hb); (try clear hb2); (try clear hk); (try clear hi)) | (go_at_call 24; (with_reducible refine (spec_PlaceOf.calls kj68 _ _ t352 t353 t358 t359 _ ?side1 ?side2 A120.out).mono ?_); (case side1 => repeat (first | exact (Kd.R_reads' HO355.out).2.2 | (with_reducible refine Kd.C_alloc ?_ _) | (with_reducible refine Kd.C_drewN ?_ _) | (with_reducible refine Kd.C_drew ?_))); (case side2 => exact (Kd.R_reads' HO355.out).2.1); rintro e w149 ⟨rfl, hb⟩; have n0_ := Aside0.mk (Kd.R_below (by (with_reducible repeat (first | apply Kd.R_alloc | apply Kd.R_drewN | apply Kd.R_drew)); exact HO355.out) hb); have n1_ := Aside0.mk (blk_below (g := gb324) (o := .cells #[.int .i64 t321, .int .i64 t322, .int .i64 t323] 47 (0, 0)) (by (with_reducible repeat (first | refine blk_drewN ?_ _ | refine blk_drew ?_ | refine blk_alloc ?_ _)); exact BK324.out) hb); have n2_ := Aside0.mk (below_step (by repeat (first | (with_reducible first | exact HB.out | apply below_alloc | apply pw_below_drewN | apply below_drew1 | refine below_set ?_ GE324.out) | exact HB.out)) hb); clear HO355; clear BK324; clear HB; have HO355 := n0_; have BK324 := n1_; have HB := n2_; clear n0_ n1_ n2_; (try clear hb); (try clear hb2); (try clear hk); (try clear hi)) | (go_at_call 43; (with_reducible refine (spec_DrawPlacesOf.calls kj68 _ _ l1 t360 _ ?side1 ?side2 A121.out).mono ?_); (case side1 => repeat (first | exact (Kd.C_below HR1.out HB.out) | (with_reducible refine Kd.C_alloc ?_ _) | (with_reducible refine Kd.C_drewN ?_ _) | (with_reducible refine Kd.C_drew ?_))); (case side2 => exact HC1.out); rintro e w150 ⟨v361, rfl, ho0, hb⟩; have n0_ := Aside0.mk (Kd.R_elder' (by (with_reducible repeat (first | apply Kd.R_alloc | apply Kd.R_drewN | apply Kd.R_drew)); exact HO355.out) (Kd.R_base ho0) hb); have n1_ := Aside0.mk (Kd.R_lower (Kd.R_newB (Kd.R_new' ho0 (Kd.R_lt (by (with_reducible repeat (first | apply Kd.R_alloc | apply Kd.R_drewN | apply Kd.R_drew)); exact HO355.out))) (g := gb324) (o := .cells #[.int .i64 t321, .int .i64 t322, .int .i64 t323] 47 (0, 0)) (by (with_reducible repeat (first | refine blk_drewN ?_ _ | refine blk_drew ?_ | refine blk_alloc ?_ _)); exact BK324.out)) (below_size (by repeat (first | (with_reducible first | exact HB.out | apply below_alloc | apply pw_below_drewN | apply below_drew1 | refine below_set ?_ GE324.out) | exact HB.out)))); have n2_ := Aside0.mk (blk_below (g := gb324) (o := .cells #[.int .i64 t321, .int .i64 t322, .int .i64 t323] 47 (0, 0)) (by (with_reducible repeat (first | refine blk_drewN ?_ _ | refine blk_drew ?_ | refine blk_alloc ?_ _)); exact BK324.out) hb); have n3_ := Aside0.mk (below_step (by repeat (first | (with_reducible first | exact HB.out | apply below_alloc | apply pw_below_drewN | apply below_drew1 | refine below_set ?_ GE324.out) | exact HB.out)) hb); clear HO355; clear BK324; clear HB; have HO355 := n0_; have HO362 := n1_; have BK324 := n2_; have HB := n3_; clear n0_ n1_ n2_ n3_; (try clear hb); (try clear hb2); (try clear hk); (try clear hi); (try clear ho0); obtain ⟨Ao151, co151, eo151⟩ := Kd.R_slice HO362.out; subst eo151) | (go_at_call 27; (with_reducible refine (impl_PlacesOf.calls kj68 _ _ t360 t363 t364 _ ?side1 ?side2 A122.out).mono ?_); (case side1 => repeat (first | exact (Kd.R_reads' HO362.out).2.2 | (with_reducible refine Kd.C_alloc ?_ _) | (with_reducible refine Kd.C_drewN ?_ _) | (with_reducible refine Kd.C_drew ?_))); (case side2 => exact (Kd.R_reads' HO362.out).2.1); rintro e w152 ⟨v365, rfl, ho0, hb⟩; have n0_ := Aside0.mk (Kd.R_below (by (with_reducible repeat (first | apply Kd.R_alloc | apply Kd.R_drewN | apply Kd.R_drew)); exact HO355.out) hb); have n1_ := Aside0.mk (Kd.R_below (by (with_reducible repeat (first | apply Kd.R_alloc | apply Kd.R_drewN | apply Kd.R_drew)); exact HO362.out) hb); have n2_ := Aside0.mk (Kd.R_lower ho0 (below_size (by repeat (first | (with_reducible first | exact HB.out | apply below_alloc | apply pw_below_drewN | apply below_drew1 | refine below_set ?_ GE324.out) | exact HB.out)))); have n3_ := Aside0.mk (blk_below (g := gb324) (o := .cells #[.int .i64 t321, .int .i64 t322, .int .i64 t323] 47 (0, 0)) (by (with_reducible repeat (first | refine blk_drewN ?_ _ | refine blk_drew ?_ | refine blk_alloc ?_ _)); exact BK324.out) hb); have n4_ := Aside0.mk (below_step (by repeat (first | (with_reducible first | exact HB.out | apply below_alloc | apply pw_below_drewN | apply below_drew1 | refine below_set ?_ GE324.out) | exact HB.out)) hb); clear HO355; clear HO362; clear BK324; clear HB; have HO355 := n0_; have HO362 := n1_; have HO366 := n2_; have BK324 := n3_; have HB := n4_; clear n0_ n1_ n2_ n3_ n4_; (try clear hb); (try clear hb2); (try clear hk); (try clear hi); (try clear ho0)) | (go_at_call 26; (with_reducible refine (spec_PlacesOf.calls kj68 _ _ t360 t367 t368 _ ?side1 ?side2 A123.out).mono ?_); (case side1 => repeat (first | exact (Kd.R_reads' HO362.out).2.2 | (with_reducible refine Kd.C_alloc ?_ _) | (with_reducible refine Kd.C_drewN ?_ _) | (with_reducible refine Kd.C_drew ?_))); (case side2 => exact (Kd.R_reads' HO362.out).2.1); rintro e w153 ⟨v369, rfl, ho0, hb⟩; have n0_ := Aside0.mk (Kd.R_below (by (with_reducible repeat (first | apply Kd.R_alloc | apply Kd.R_drewN | apply Kd.R_drew)); exact HO355.out) hb); have n1_ := Aside0.mk (Kd.R_below (by (with_reducible repeat (first | apply Kd.R_alloc | apply Kd.R_drewN | apply Kd.R_drew)); exact HO362.out) hb); have n2_ := Aside0.mk (Kd.R_elder' (by (with_reducible repeat (first | apply Kd.R_alloc | apply Kd.R_drewN | apply Kd.R_drew)); exact HO366.out) (Kd.R_base ho0) hb); have n3_ := Aside0.mk (Kd.R_lower (Kd.R_new' ho0 (Kd.R_lt (by (with_reducible repeat (first | apply Kd.R_alloc | apply Kd.R_drewN | apply Kd.R_drew)); exact HO366.out))) (below_size (by repeat (first | (with_reducible first | exact HB.out | apply below_alloc | apply pw_below_drewN | apply below_drew1 | refine below_set ?_ GE324.out) | exact HB.out)))); have n4_ := Aside0.mk (blk_below (g := gb324) (o := .cells #[.int .i64 t321, .int .i64 t322, .int .i64 t323] 47 (0, 0)) (by (with_reducible repeat (first | refine blk_drewN ?_ _ | refine blk_drew ?_ | refine blk_alloc ?_ _)); exact BK324.out) hb); have n5_ := Aside0.mk (below_step (by repeat (first | (with_reducible first | exact HB.out | apply below_alloc | apply pw_below_drewN | apply below_drew1 | refine below_set ?_ GE324.out) | exact HB.out)) hb); clear HO355; clear HO362; clear HO366; clear BK324; clear HB; have HO355 := n0_; have HO362 := n1_; have HO366 := n2_; have HO370 := n3_; have BK324 := n4_; have HB := n5_; clear n0_ n1_ n2_ n3_ n4_ n5_; (try clear hb); (try clear hb2); (try clear hk); (try clear hi); (try clear ho0)))
                            go_ret
                            exact ⟨by first | rfl | (simp [errW_none, errW_some] <;> rfl) | (simp [*, errW_none, errW_some] <;> rfl), by repeat (first | (with_reducible first | exact HB.out | apply below_alloc | apply pw_below_drewN | apply below_drew1 | refine below_set ?_ GE324.out) | exact HB.out)⟩
                        · rw [if_neg c124] at H
                          have c124b0 : (t357 == t359) = false := by simpa using c124
                          (try (have c124b1 : decide (t357 = t359) = false := by simpa using c124))
                          (try (have c124b2 : (t357 == t359) = false := by simpa using c124))
                          (try (have c124b3 : ¬ (t357 = t359) := by simpa using c124))
                          clear c124
                          obtain rfl := Option.some.inj H
                          go_wp2_with (first | (go_at_call 42; (with_reducible refine (spec_DrawPlaceOf.calls kj68 _ _ l1 t352 t353 _ ?side1 ?side2 A118.out).mono ?_); (case side1 => repeat (first | exact (Kd.C_below HR1.out HB.out) | (with_reducible refine Kd.C_alloc ?_ _) | (with_reducible refine Kd.C_drewN ?_ _) | (with_reducible refine Kd.C_drew ?_))); (case side2 => exact HC1.out); rintro e w154 ⟨v354, rfl, ho0, hb⟩; have n0_ := Aside0.mk (Kd.R_lower (Kd.R_newB ho0 (g := gb324) (o := .cells #[.int .i64 t321, .int .i64 t322, .int .i64 t323] 47 (0, 0)) (by (with_reducible repeat (first | refine blk_drewN ?_ _ | refine blk_drew ?_ | refine blk_alloc ?_ _)); exact BK324.out)) (below_size (by repeat (first | (with_reducible first | exact HB.out | apply below_alloc | apply pw_below_drewN | apply below_drew1 | refine below_set ?_ GE324.out) | exact HB.out)))); have n1_ := Aside0.mk (blk_below (g := gb324) (o := .cells #[.int .i64 t321, .int .i64 t322, .int .i64 t323] 47 (0, 0)) (by (with_reducible repeat (first | refine blk_drewN ?_ _ | refine blk_drew ?_ | refine blk_alloc ?_ _)); exact BK324.out) hb); have n2_ := Aside0.mk (below_step (by repeat (first | (with_reducible first | exact HB.out | apply below_alloc | apply pw_below_drewN | apply below_drew1 | refine below_set ?_ GE324.out) | exact HB.out)) hb); clear BK324; clear HB; have HO355 := n0_; have BK324 := n1_; have HB := n2_; clear n0_ n1_ n2_; (try clear hb); (try clear hb2); (try clear hk); (try clear hi); (try clear ho0); obtain ⟨Ao155, co155, eo155⟩ := Kd.R_slice HO355.out; subst eo155) | (go_at_call 25; (with_reducible refine (impl_PlaceOf.calls kj68 _ _ t352 t353 t356 t357 _ ?side1 ?side2 A119.out).mono ?_); (case side1 => repeat (first | exact (Kd.R_reads' HO355.out).2.2 | (with_reducible refine Kd.C_alloc ?_ _) | (with_reducible refine Kd.C_drewN ?_ _) | (with_reducible refine Kd.C_drew ?_))); (case side2 => exact (Kd.R_reads' HO355.out).2.1); rintro e w156 ⟨rfl, hb⟩; have n0_ := Aside0.mk (Kd.R_below (by (with_reducible repeat (first | apply Kd.R_alloc | apply Kd.R_drewN | apply Kd.R_drew)); exact HO355.out) hb); have n1_ := Aside0.mk (blk_below (g := gb324) (o := .cells #[.int .i64 t321, .int .i64 t322, .int .i64 t323] 47 (0, 0)) (by (with_reducible repeat (first | refine blk_drewN ?_ _ | refine blk_drew ?_ | refine blk_alloc ?_ _)); exact BK324.out) hb); have n2_ := Aside0.mk (below_step (by repeat (first | (with_reducible first | exact HB.out | apply below_alloc | apply pw_below_drewN | apply below_drew1 | refine below_set ?_ GE324.out) | exact HB.out)) hb); clear HO355; clear BK324; clear HB; have HO355 := n0_; have BK324 := n1_; have HB := n2_; clear n0_ n1_ n2_; (try clear hb); (try clear hb2); (try clear hk); (try clear hi)) | (go_at_call 24; (with_reducible refine (spec_PlaceOf.calls kj68 _ _ t352 t353 t358 t359 _ ?side1 ?side2 A120.out).mono ?_); (case side1 => repeat (first | exact (Kd.R_reads' HO355.out).2.2 | (with_reducible refine Kd.C_alloc ?_ _) | (with_reducible refine Kd.C_drewN ?_ _) | (with_reducible refine Kd.C_drew ?_))); (case side2 => exact (Kd.R_reads' HO355.out).2.1); rintro e w157 ⟨rfl, hb⟩; have n0_ := Aside0.mk (Kd.R_below (by (with_reducible repeat (first | apply Kd.R_alloc | apply Kd.R_drewN | apply Kd.R_drew)); exact HO355.out) hb); have n1_ := Aside0.mk (blk_below (g := gb324) (o := .cells #[.int .i64 t321, .int .i64 t322, .int .i64 t323] 47 (0, 0)) (by (with_reducible repeat (first | refine blk_drewN ?_ _ | refine blk_drew ?_ | refine blk_alloc ?_ _)); exact BK324.out) hb); have n2_ := Aside0.mk (below_step (by repeat (first | (with_reducible first | exact HB.out | apply below_alloc | apply pw_below_drewN | apply below_drew1 | refine below_set ?_ GE324.out) | exact HB.out)) hb); clear HO355; clear BK324; clear HB; have HO355 := n0_; have BK324 := n1_; have HB := n2_; clear n0_ n1_ n2_; (try clear hb); (try clear hb2); (try clear hk); (try clear hi)) | (go_at_call 43; (with_reducible refine (spec_DrawPlacesOf.calls kj68 _ _ l1 t360 _ ?side1 ?side2 A121.out).mono ?_); (case side1 => repeat (first | exact (Kd.C_below HR1.out HB.out) | (with_reducible refine Kd.C_alloc ?_ _) | (with_reducible refine Kd.C_drewN ?_ _) | (with_reducible refine Kd.C_drew ?_))); (case side2 => exact HC1.out); rintro e w158 ⟨v361, rfl, ho0, hb⟩; have n0_ := Aside0.mk (Kd.R_elder' (by (with_reducible repeat (first | apply Kd.R_alloc | apply Kd.R_drewN | apply Kd.R_drew)); exact HO355.out) (Kd.R_base ho0) hb); have n1_ := Aside0.mk (Kd.R_lower (Kd.R_newB (Kd.R_new' ho0 (Kd.R_lt (by (with_reducible repeat (first | apply Kd.R_alloc | apply Kd.R_drewN | apply Kd.R_drew)); exact HO355.out))) (g := gb324) (o := .cells #[.int .i64 t321, .int .i64 t322, .int .i64 t323] 47 (0, 0)) (by (with_reducible repeat (first | refine blk_drewN ?_ _ | refine blk_drew ?_ | refine blk_alloc ?_ _)); exact BK324.out)) (below_size (by repeat (first | (with_reducible first | exact HB.out | apply below_alloc | apply pw_below_drewN | apply below_drew1 | refine below_set ?_ GE324.out) | exact HB.out)))); have n2_ := Aside0.mk (blk_below (g := gb324) (o := .cells #[.int .i64 t321, .int .i64 t322, .int .i64 t323] 47 (0, 0)) (by (with_reducible repeat (first | refine blk_drewN ?_ _ | refine blk_drew ?_ | refine blk_alloc ?_ _)); exact BK324.out) hb); have n3_ := Aside0.mk (below_step (by repeat (first | (with_reducible first | exact HB.out | apply below_alloc | apply pw_below_drewN | apply below_drew1 | refine below_set ?_ GE324.out) | exact HB.out)) hb); clear HO355; clear BK324; clear HB; have HO355 := n0_; have HO362 := n1_; have BK324 := n2_; have HB := n3_; clear n0_ n1_ n2_ n3_; (try clear hb); (try clear hb2); (try clear hk); (try clear hi); (try clear ho0); obtain ⟨Ao159, co159, eo159⟩ := Kd.R_slice HO362.out; subst eo159) | (go_at_call 27; (with_reducible refine (impl_PlacesOf.calls kj68 _ _ t360 t363 t364 _ ?side1 ?side2 A122.out).mono ?_); (case side1 => repeat (first | exact (Kd.R_reads' HO362.out).2.2 | (with_reducible refine Kd.C_alloc ?_ _) | (with_reducible refine Kd.C_drewN ?_ _) | (with_reducible refine Kd.C_drew ?_))); (case side2 => exact (Kd.R_reads' HO362.out).2.1); rintro e w160 ⟨v365, rfl, ho0, hb⟩; have n0_ := Aside0.mk (Kd.R_below (by (with_reducible repeat (first | apply Kd.R_alloc | apply Kd.R_drewN | apply Kd.R_drew)); exact HO355.out) hb); have n1_ := Aside0.mk (Kd.R_below (by (with_reducible repeat (first | apply Kd.R_alloc | apply Kd.R_drewN | apply Kd.R_drew)); exact HO362.out) hb); have n2_ := Aside0.mk (Kd.R_lower ho0 (below_size (by repeat (first | (with_reducible first | exact HB.out | apply below_alloc | apply pw_below_drewN | apply below_drew1 | refine below_set ?_ GE324.out) | exact HB.out)))); have n3_ := Aside0.mk (blk_below (g := gb324) (o := .cells #[.int .i64 t321, .int .i64 t322, .int .i64 t323] 47 (0, 0)) (by (with_reducible repeat (first | refine blk_drewN ?_ _ | refine blk_drew ?_ | refine blk_alloc ?_ _)); exact BK324.out) hb); have n4_ := Aside0.mk (below_step (by repeat (first | (with_reducible first | exact HB.out | apply below_alloc | apply pw_below_drewN | apply below_drew1 | refine below_set ?_ GE324.out) | exact HB.out)) hb); clear HO355; clear HO362; clear BK324; clear HB; have HO355 := n0_; have HO362 := n1_; have HO366 := n2_; have BK324 := n3_; have HB := n4_; clear n0_ n1_ n2_ n3_ n4_; (try clear hb); (try clear hb2); (try clear hk); (try clear hi); (try clear ho0)) | (go_at_call 26; (with_reducible refine (spec_PlacesOf.calls kj68 _ _ t360 t367 t368 _ ?side1 ?side2 A123.out).mono ?_); (case side1 => repeat (first | exact (Kd.R_reads' HO362.out).2.2 | (with_reducible refine Kd.C_alloc ?_ _) | (with_reducible refine Kd.C_drewN ?_ _) | (with_reducible refine Kd.C_drew ?_))); (case side2 => exact (Kd.R_reads' HO362.out).2.1); rintro e w161 ⟨v369, rfl, ho0, hb⟩; have n0_ := Aside0.mk (Kd.R_below (by (with_reducible repeat (first | apply Kd.R_alloc | apply Kd.R_drewN | apply Kd.R_drew)); exact HO355.out) hb); have n1_ := Aside0.mk (Kd.R_below (by (with_reducible repeat (first | apply Kd.R_alloc | apply Kd.R_drewN | apply Kd.R_drew)); exact HO362.out) hb); have n2_ := Aside0.mk (Kd.R_elder' (by (with_reducible repeat (first | apply Kd.R_alloc | apply Kd.R_drewN | apply Kd.R_drew)); exact HO366.out) (Kd.R_base ho0) hb); have n3_ := Aside0.mk (Kd.R_lower (Kd.R_new' ho0 (Kd.R_lt (by (with_reducible repeat (first | apply Kd.R_alloc | apply Kd.R_drewN | apply Kd.R_drew)); exact HO366.out))) (below_size (by repeat (first | (with_reducible first | exact HB.out | apply below_alloc | apply pw_below_drewN | apply below_drew1 | refine below_set ?_ GE324.out) | exact HB.out)))); have n4_ := Aside0.mk (blk_below (g := gb324) (o := .cells #[.int .i64 t321, .int .i64 t322, .int .i64 t323] 47 (0, 0)) (by (with_reducible repeat (first | refine blk_drewN ?_ _ | refine blk_drew ?_ | refine blk_alloc ?_ _)); exact BK324.out) hb); have n5_ := Aside0.mk (below_step (by repeat (first | (with_reducible first | exact HB.out | apply below_alloc | apply pw_below_drewN | apply below_drew1 | refine below_set ?_ GE324.out) | exact HB.out)) hb); clear HO355; clear HO362; clear HO366; clear BK324; clear HB; have HO355 := n0_; have HO362 := n1_; have HO366 := n2_; have HO370 := n3_; have BK324 := n4_; have HB := n5_; clear n0_ n1_ n2_ n3_ n4_ n5_; (try clear hb); (try clear hb2); (try clear hk); (try clear hi); (try clear ho0)))
                          go_ret
                          exact ⟨by first | rfl | (simp [errW_none, errW_some] <;> rfl) | (simp [*, errW_none, errW_some] <;> rfl), by repeat (first | (with_reducible first | exact HB.out | apply below_alloc | apply pw_below_drewN | apply below_drew1 | refine below_set ?_ GE324.out) | exact HB.out)⟩

/-- THE ONE PURE STATEMENT of laws_FnStretches: yours. -/
def laws_FnStretches.Pure : Prop := ∀ (l0 : List Int) (l1 : List Int), l0.length ≤ maxLen → l0.length * 1 ≤ 140737488351232 → (∀ x ∈ l0, (Lit.int .u8 x).wf = true) → l1.length ≤ maxLen → l1.length * 1 ≤ 140737488351232 → (∀ x ∈ l1, (Lit.int .u8 x).wf = true) → ∃ k, laws_FnStretches.f k l0 l1 = some true
theorem laws_FnStretches.walk (P : laws_FnStretches.Pure) (a0 : Option Addr) (len0 cap0 : Nat) (z0 : List Int) (a1 : Option Addr) (len1 cap1 : Nat) (z1 : List Int) (w : World) (w0 : (a0 = none ∧ len0 = 0 ∧ cap0 = 0 ∧ z0 = []) ∨ ∃ x, a0 = some x ∧ len0 ≤ cap0 ∧ cap0 ≤ maxLen ∧ z0.length = cap0 ∧ (∀ i, i < z0.length → w.cell? (x.add i) = some (.int .u8 (z0.getD i 0))) ∧ ∀ n ∈ z0, (Lit.int .u8 n).wf = true) (y0 : len0 * 1 ≤ 140737488351232) (w1 : (a1 = none ∧ len1 = 0 ∧ cap1 = 0 ∧ z1 = []) ∨ ∃ x, a1 = some x ∧ len1 ≤ cap1 ∧ cap1 ≤ maxLen ∧ z1.length = cap1 ∧ (∀ i, i < z1.length → w.cell? (x.add i) = some (.int .u8 (z1.getD i 0))) ∧ ∀ n ∈ z1, (Lit.int .u8 n).wf = true) (y1 : len1 * 1 ≤ 140737488351232) :
    Calls Try.prog 11 #[.slice a0 len0 cap0, .slice a1 len1 cap1] w fun e w' => e = .returned (.bool true) ∧ Below w.heap.size w w' := by
  obtain ⟨l0, rfl, hr0, hm0, hw0, hc0⟩ := ReadsInt.ofRowC w0
  obtain ⟨l1, rfl, hr1, hm1, hw1, hc1⟩ := ReadsInt.ofRowC w1
  obtain ⟨k, h⟩ := P l0 l1 hm0 y0 hw0 hm1 y1 hw1
  refine (laws_FnStretches.calls k _ _ l0 _ _ l1 true w (Kd.C_of_reads (d := (0 : Int)) (h1 := fun _ => rfl) hr0) hc0 (Kd.C_of_reads (d := (0 : Int)) (h1 := fun _ => rfl) hr1) hc1 h).mono ?_
  rintro e w' ⟨rfl, hd⟩
  exact ⟨rfl, hd⟩

end Go.Proofs.Ytcoceoplnehmcaa.PFnStretches

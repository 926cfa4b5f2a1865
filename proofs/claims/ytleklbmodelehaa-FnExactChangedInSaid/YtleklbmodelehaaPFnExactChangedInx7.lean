/- Lean functions with the same answers as the Go functions that one law reaches, and for each a proof that its call comes to just these answers. No condition. Written by pr.py, a program of this session. -/
import Derived.Test.YtleklbmodelehaaCutFnExactChangedIn
import Derived.Test.YtleklbmodelehaaPFnExactChangedInx0
import Derived.Test.YtleklbmodelehaaPFnExactChangedInx5
import Derived.Test.YtleklbmodelehaaPFnExactChangedInx6
namespace Go.Proofs.Ytleklbmodelehaa.PFnExactChangedIn
open Go.RowKit Go.Proofs.YtleklbmodelehaaW.PrintWords Go.Proofs.YtleklbmodelehaaW.PrintLast Go.Proofs.YtleklbmodelehaaW.PrintMore Go.Proofs.Ytleklbmodelehaa.Sq
attribute [local go_sem] max2_int min2_int max_two min_two max_three min_three max_four min_four   -- for this text's walks alone
set_option linter.unusedVariables false
set_option linter.unusedSimpArgs false

/-! ### spec_ChangedIn: function 42 -/
mutual
def spec_ChangedIn.j0 : Nat → Int → Int → Bool → List (S94) → Option (List Int × Bool)
  | 0, _, _, _, _ => none
  | k + 1, x1, x2, x26, x193000 => if x26 = true then (some (([] : List Int), false)) else ((spec_l7Find.f k x193000 x1).bind fun t196 => ((spec_l7Find.f k x193000 x2).bind fun t197 => (spec_ChangedIn.l0 k t196 t197 ([] : List Int) 0 x193000)))
def spec_ChangedIn.l0 : Nat → Int → Int → List Int → Int → List (S94) → Option (List Int × Bool)
  | 0, _, _, _, _, _ => none
  | k + 1, x8, x9, x10, x11, x193000 => if x11 < 16 then ((spec_l7At.f k x193000 x8 x11).bind fun t198 => ((spec_l7At.f k x193000 x9 x11).bind fun t199 => (if t198.toList = t199.toList then (spec_ChangedIn.l0 k x8 x9 x10 (wrap64 (x11 + 1)) x193000) else (if x10.length < 17592186044416 then (spec_ChangedIn.l0 k x8 x9 (x10 ++ [x11]) (wrap64 (x11 + 1)) x193000) else (none))))) else (some (x10, true))
end
def spec_ChangedIn.f (k : Nat) (l0_0 : List (S94)) (a1 : Int) (a2 : Int) : Option (List Int × Bool) := (spec_GoodMarks.f k l0_0).bind fun t193 => (if t193 = true then ((spec_l7Find.f k l0_0 a1).bind fun t194 => (if t194 < 0 then (spec_ChangedIn.j0 k a1 a2 true l0_0) else ((spec_l7Find.f k l0_0 a2).bind fun t195 => (spec_ChangedIn.j0 k a1 a2 (decide (t195 < 0)) l0_0)))) else (spec_ChangedIn.j0 k a1 a2 true l0_0))
theorem spec_ChangedIn.mono_l : ∀ k, (∀ y0 y1 y2 y3, LeO (spec_ChangedIn.j0 k y0 y1 y2 y3) (spec_ChangedIn.j0 (k + 1) y0 y1 y2 y3)) ∧ (∀ y0 y1 y2 y3 y4, LeO (spec_ChangedIn.l0 k y0 y1 y2 y3 y4) (spec_ChangedIn.l0 (k + 1) y0 y1 y2 y3 y4))
  | 0 => ⟨fun _ _ _ _ r h => by simp [spec_ChangedIn.j0] at h, fun _ _ _ _ _ r h => by simp [spec_ChangedIn.l0] at h⟩
  | k + 1 => by
    obtain ⟨ih0, ih1⟩ := spec_ChangedIn.mono_l k
    refine ⟨?_, ?_⟩
    · intro y0 y1 y2 y3
      unfold spec_ChangedIn.j0
      repeat' first
      | (with_reducible exact ih0 _ _ _ _)
      | (with_reducible exact ih1 _ _ _ _ _)
      | (with_reducible exact spec_GoodMarks.mono _ _)
      | (with_reducible exact spec_l7At.mono _ _ _ _)
      | (with_reducible exact spec_l7Find.mono _ _ _)
      | (with_reducible exact LeO.refl _)
      | (with_reducible exact LeO.none _)
      | (with_reducible refine LeO.ite ?_ ?_)
      | (with_reducible refine LeO.bind ?_ (fun _ => ?_))
      | exact ih0 _ _ _ _
      | exact ih1 _ _ _ _ _
      | exact spec_GoodMarks.mono _ _
      | exact spec_l7At.mono _ _ _ _
      | exact spec_l7Find.mono _ _ _
      | exact LeO.none _
      | refine LeO.ite ?_ ?_
      | refine LeO.bind ?_ (fun _ => ?_)
    · intro y0 y1 y2 y3 y4
      unfold spec_ChangedIn.l0
      repeat' first
      | (with_reducible exact ih0 _ _ _ _)
      | (with_reducible exact ih1 _ _ _ _ _)
      | (with_reducible exact spec_GoodMarks.mono _ _)
      | (with_reducible exact spec_l7At.mono _ _ _ _)
      | (with_reducible exact spec_l7Find.mono _ _ _)
      | (with_reducible exact LeO.refl _)
      | (with_reducible exact LeO.none _)
      | (with_reducible refine LeO.ite ?_ ?_)
      | (with_reducible refine LeO.bind ?_ (fun _ => ?_))
      | exact ih0 _ _ _ _
      | exact ih1 _ _ _ _ _
      | exact spec_GoodMarks.mono _ _
      | exact spec_l7At.mono _ _ _ _
      | exact spec_l7Find.mono _ _ _
      | exact LeO.none _
      | refine LeO.ite ?_ ?_
      | refine LeO.bind ?_ (fun _ => ?_)
theorem spec_ChangedIn.mono : ∀ a0 a1 a2 k, LeO (spec_ChangedIn.f k a0 a1 a2) (spec_ChangedIn.f (k + 1) a0 a1 a2) := by
  intro a0 a1 a2 k
  obtain ⟨ih0, ih1⟩ := spec_ChangedIn.mono_l k
  unfold spec_ChangedIn.f
  repeat' first
      | (with_reducible exact ih0 _ _ _ _)
      | (with_reducible exact ih1 _ _ _ _ _)
      | (with_reducible exact spec_GoodMarks.mono _ _)
      | (with_reducible exact spec_l7At.mono _ _ _ _)
      | (with_reducible exact spec_l7Find.mono _ _ _)
      | (with_reducible exact LeO.refl _)
      | (with_reducible exact LeO.none _)
      | (with_reducible refine LeO.ite ?_ ?_)
      | (with_reducible refine LeO.bind ?_ (fun _ => ?_))
      | exact ih0 _ _ _ _
      | exact ih1 _ _ _ _ _
      | exact spec_GoodMarks.mono _ _
      | exact spec_l7At.mono _ _ _ _
      | exact spec_l7Find.mono _ _ _
      | exact LeO.none _
      | refine LeO.ite ?_ ?_
      | refine LeO.bind ?_ (fun _ => ?_)
def spec_ChangedIn.T9 : Bool × List (List Nat × List Nat) := (true, [([], []), ([], []), ([], []), ([0, 1, 2], [0, 1, 2]), ([], []), ([], []), ([], []), ([4, 5, 6, 3], [4, 5, 6]), ([3, 7], [3, 7])])
def spec_ChangedIn.B9 : List Nat := [0, 0, 0, 7, 0, 0, 0, 127, 255]
theorem spec_ChangedIn.tab9 : rtab .any (opsOf Try.f42 9) = spec_ChangedIn.T9 := by kernel_rfl
theorem spec_ChangedIn.bits9 : waitsOk spec_ChangedIn.T9.2 spec_ChangedIn.B9 = true := by kernel_rfl
set_option maxHeartbeats 8000000 in
set_option maxRecDepth 100000 in
theorem spec_ChangedIn.calls (k : Nat) (A0_0 : Option Addr) (c0_0 : Nat) (l0_0 : List (S94)) (a1 : Int) (a2 : Int) (r1 : List Int) (r2 : Bool) (w : World) (hr0_0 : Kd.C k94 w A0_0 l0_0.length l0_0) (hc0_0 : l0_0.length ≤ c0_0) (h : spec_ChangedIn.f k l0_0 a1 a2 = some (r1, r2)) :
    Calls Try.prog 42 #[.agg #[.slice A0_0 l0_0.length c0_0], .int .i64 a1, .int .i64 a2] w fun e w' => ∃ v0_ : Value, e = .returned (.tuple #[v0_, .bool r2]) ∧ Kd.R (Kd.int .i64) 3 w' w.heap.size (fun _ => True) v0_ r1 ∧ Below w.heap.size w w' := by
 have hu47 := Try.underlying47
 have HR0_0 := Aside0.mk hr0_0
 have HC0_0 := Aside0.mk hc0_0
 clear hr0_0 hc0_0
 have HB := Aside0.mk (Below.refl w.heap.size w)
 have H : ((spec_GoodMarks.f k l0_0).bind fun t193 => (if t193 = true then ((spec_l7Find.f k l0_0 a1).bind fun t194 => (if t194 < 0 then (spec_ChangedIn.j0 k a1 a2 true l0_0) else ((spec_l7Find.f k l0_0 a2).bind fun t195 => (spec_ChangedIn.j0 k a1 a2 (decide (t195 < 0)) l0_0)))) else (spec_ChangedIn.j0 k a1 a2 true l0_0))) = some (r1, r2) := h
 clear h
 have HC4 := Aside0.mk H
 clear H
 go_enter Try.func42, Try.ntmps42
 go_upto_region 1 with (first | ((with_reducible refine gate_dst (N := 3) rfl ?_); refine box_event ?hg (N := 3) ?hd (cs := #[.slice A0_0 l0_0.length c0_0]) (t := 47) ?hr ?_; (case hd => rfl); (case hg => rfl); (case hr => first | (go_simp; done) | (go_simp; rfl)); intro gb192 hg w5 hbox hb; have n0_ := Aside0.mk (below_step (by repeat (first | (with_reducible first | exact HB.out | apply below_alloc | apply pw_below_drewN | apply below_drew1) | exact HB.out)) hb); have n1_ := Aside0.mk (hbox); have n2_ := Aside0.mk ((by rw [hg]; exact (below_size (by repeat (first | (with_reducible first | exact HB.out | apply below_alloc | apply pw_below_drewN | apply below_drew1) | exact HB.out))) : w.heap.size ≤ gb192)); have n3_ := Aside0.mk ((by rw [hg]; exact (below_size (by repeat (first | (with_reducible first | exact HB.out | apply below_alloc | apply pw_below_drewN | apply below_drew1) | exact HB.out))) : w.heap.size ≤ gb192)); clear HB; have HB := n0_; have BK192 := n1_; have GW192 := n2_; have GE192 := n3_; clear n0_ n1_ n2_ n3_; clear hb hbox hg))
 (try simp only [Act.put, List.setIfInBounds_toArray, List.set_cons_zero, List.set_cons_succ])
 go_cut [26] (fun v26 wc => ∃ (kq : Nat) (x26_3 : Bool), v26 = .bool x26_3 ∧ Aside0 (spec_ChangedIn.j0 kq a1 a2 x26_3 l0_0 = some (r1, r2)) ∧ Aside0 (kq ≤ k) ∧ Aside0 (wc.heap[gb192]? = some (.cells #[(.slice A0_0 l0_0.length c0_0)] 47 (0, 0))) ∧ Aside0 (Below w.heap.size w wc))
 case first =>
  have H := HC4.out
  clear HC4
  replace H := Option.bind_eq_some_iff.mp H
  obtain ⟨t193, A60, H⟩ := H
  replace H : (if t193 = true then ((spec_l7Find.f k l0_0 a1).bind fun t194 => (if t194 < 0 then (spec_ChangedIn.j0 k a1 a2 true l0_0) else ((spec_l7Find.f k l0_0 a2).bind fun t195 => (spec_ChangedIn.j0 k a1 a2 (decide (t195 < 0)) l0_0)))) else (spec_ChangedIn.j0 k a1 a2 true l0_0)) = some (r1, r2) := H
  have A6 := Aside0.mk A60
  clear A60
  by_cases c7 : t193 = true
  ·subst c7
   have H1 : ((spec_l7Find.f k l0_0 a1).bind fun t194 => (if t194 < 0 then (spec_ChangedIn.j0 k a1 a2 true l0_0) else ((spec_l7Find.f k l0_0 a2).bind fun t195 => (spec_ChangedIn.j0 k a1 a2 (decide (t195 < 0)) l0_0)))) = some (r1, r2) := by rw [if_pos rfl] at H; exact H
   clear H
   have H := H1
   clear H1
   replace H := Option.bind_eq_some_iff.mp H
   obtain ⟨t194, A80, H⟩ := H
   replace H : (if t194 < 0 then (spec_ChangedIn.j0 k a1 a2 true l0_0) else ((spec_l7Find.f k l0_0 a2).bind fun t195 => (spec_ChangedIn.j0 k a1 a2 (decide (t195 < 0)) l0_0))) = some (r1, r2) := H
   have A8 := Aside0.mk A80
   clear A80
   by_cases c9 : t194 < 0
   ·rw [if_pos c9] at H
    have c9b0 : decide (t194 < 0) = true := decide_eq_true c9
    clear c9
    (first | rw [c9b0] | (simp only [i64_w, i32_w]; rw [c9b0]) | skip)
    have H' := Aside0.mk H
    clear H
    have hcz10_0 : w5.cell? ⟨gb192, 0, none⟩ = some (.slice A0_0 l0_0.length c0_0) := (blk_cell BK192.out 0).trans rfl
    have hfz10_0 := blk_frozen BK192.out 0
    go_wp2_with (first | ((with_reducible refine gate_callee (f := 37) rfl ?_); refine goesL_ (some 13) rfl rfl Try.func37 (by kernel_rfl) rfl #[.agg #[.slice A0_0 l0_0.length c0_0]] rfl (by (try simp only [List.map_toArray, List.map_cons, List.map_nil]); first | done | rfl | (simp only [List.length_drop, List.length_take]; rfl)) ?_; (with_reducible refine (spec_GoodMarks.calls k _ _ l0_0 true _ ?side1 ?side2 A6.out).mono ?_); (case side1 => repeat (first | exact (Kd.C_below HR0_0.out HB.out) | (with_reducible refine Kd.C_alloc ?_ _) | (with_reducible refine Kd.C_drewN ?_ _) | (with_reducible refine Kd.C_drew ?_))); (case side2 => exact HC0_0.out); rintro e w11 ⟨rfl, hb⟩; refine ⟨_, rfl, ?_⟩; have n0_ := Aside0.mk (blk_below (g := gb192) (o := .cells #[.slice A0_0 l0_0.length c0_0] 47 (0, 0)) (by (with_reducible repeat (first | refine blk_drewN ?_ _ | refine blk_drew ?_ | refine blk_alloc ?_ _)); exact BK192.out) hb); have n1_ := Aside0.mk (below_step (by repeat (first | (with_reducible first | exact HB.out | apply below_alloc | apply pw_below_drewN | apply below_drew1 | refine below_set ?_ GE192.out) | exact HB.out)) hb); clear BK192; clear HB; have BK192 := n0_; have HB := n1_; clear n0_ n1_; (try clear hb); (try clear hb2); (try clear hk); (try clear hi); have hcz12_0 : w11.cell? ⟨gb192, 0, none⟩ = some (.slice A0_0 l0_0.length c0_0) := (blk_cell BK192.out 0).trans rfl; have hfz12_0 := blk_frozen BK192.out 0) | (go_at_call 84; (with_reducible refine (spec_l7Find.calls k _ _ l0_0 a1 t194 _ ?side1 ?side2 A8.out).mono ?_); (case side1 => repeat (first | exact (Kd.C_below HR0_0.out HB.out) | (with_reducible refine Kd.C_alloc ?_ _) | (with_reducible refine Kd.C_drewN ?_ _) | (with_reducible refine Kd.C_drew ?_))); (case side2 => exact HC0_0.out); rintro e w13 ⟨rfl, hb⟩; have n0_ := Aside0.mk (blk_below (g := gb192) (o := .cells #[.slice A0_0 l0_0.length c0_0] 47 (0, 0)) (by (with_reducible repeat (first | refine blk_drewN ?_ _ | refine blk_drew ?_ | refine blk_alloc ?_ _)); exact BK192.out) hb); have n1_ := Aside0.mk (below_step (by repeat (first | (with_reducible first | exact HB.out | apply below_alloc | apply pw_below_drewN | apply below_drew1 | refine below_set ?_ GE192.out) | exact HB.out)) hb); clear BK192; clear HB; have BK192 := n0_; have HB := n1_; clear n0_ n1_; (try clear hb); (try clear hb2); (try clear hk); (try clear hi)))
    go_meet
    case rel => exact ⟨_, (true), (by first | rfl | (simp; done) | (simp [*]; done)), H', ⟨by first | omega | exact Nat.le_refl _⟩, ⟨by (with_reducible repeat (first | refine blk_drewN ?_ _ | refine blk_drew ?_ | refine blk_alloc ?_ _)); exact BK192.out⟩, ⟨by repeat (first | (with_reducible first | exact HB.out | apply below_alloc | apply pw_below_drewN | apply below_drew1 | refine below_set ?_ GE192.out) | exact HB.out)⟩⟩
   ·rw [if_neg c9] at H
    have c9b0 : decide (t194 < 0) = false := decide_eq_false c9
    clear c9
    (first | rw [c9b0] | (simp only [i64_w, i32_w]; rw [c9b0]) | skip)
    replace H := Option.bind_eq_some_iff.mp H
    obtain ⟨t195, A140, H⟩ := H
    replace H : (spec_ChangedIn.j0 k a1 a2 (decide (t195 < 0)) l0_0) = some (r1, r2) := H
    have A14 := Aside0.mk A140
    clear A140
    have H' := Aside0.mk H
    clear H
    have hcz15_0 : w5.cell? ⟨gb192, 0, none⟩ = some (.slice A0_0 l0_0.length c0_0) := (blk_cell BK192.out 0).trans rfl
    have hfz15_0 := blk_frozen BK192.out 0
    go_wp2_with (first | ((with_reducible refine gate_callee (f := 37) rfl ?_); refine goesL_ (some 13) rfl rfl Try.func37 (by kernel_rfl) rfl #[.agg #[.slice A0_0 l0_0.length c0_0]] rfl (by (try simp only [List.map_toArray, List.map_cons, List.map_nil]); first | done | rfl | (simp only [List.length_drop, List.length_take]; rfl)) ?_; (with_reducible refine (spec_GoodMarks.calls k _ _ l0_0 true _ ?side1 ?side2 A6.out).mono ?_); (case side1 => repeat (first | exact (Kd.C_below HR0_0.out HB.out) | (with_reducible refine Kd.C_alloc ?_ _) | (with_reducible refine Kd.C_drewN ?_ _) | (with_reducible refine Kd.C_drew ?_))); (case side2 => exact HC0_0.out); rintro e w16 ⟨rfl, hb⟩; refine ⟨_, rfl, ?_⟩; have n0_ := Aside0.mk (blk_below (g := gb192) (o := .cells #[.slice A0_0 l0_0.length c0_0] 47 (0, 0)) (by (with_reducible repeat (first | refine blk_drewN ?_ _ | refine blk_drew ?_ | refine blk_alloc ?_ _)); exact BK192.out) hb); have n1_ := Aside0.mk (below_step (by repeat (first | (with_reducible first | exact HB.out | apply below_alloc | apply pw_below_drewN | apply below_drew1 | refine below_set ?_ GE192.out) | exact HB.out)) hb); clear BK192; clear HB; have BK192 := n0_; have HB := n1_; clear n0_ n1_; (try clear hb); (try clear hb2); (try clear hk); (try clear hi); have hcz17_0 : w16.cell? ⟨gb192, 0, none⟩ = some (.slice A0_0 l0_0.length c0_0) := (blk_cell BK192.out 0).trans rfl; have hfz17_0 := blk_frozen BK192.out 0) | (go_at_call 84; (with_reducible refine (spec_l7Find.calls k _ _ l0_0 a1 t194 _ ?side1 ?side2 A8.out).mono ?_); (case side1 => repeat (first | exact (Kd.C_below HR0_0.out HB.out) | (with_reducible refine Kd.C_alloc ?_ _) | (with_reducible refine Kd.C_drewN ?_ _) | (with_reducible refine Kd.C_drew ?_))); (case side2 => exact HC0_0.out); rintro e w18 ⟨rfl, hb⟩; have n0_ := Aside0.mk (blk_below (g := gb192) (o := .cells #[.slice A0_0 l0_0.length c0_0] 47 (0, 0)) (by (with_reducible repeat (first | refine blk_drewN ?_ _ | refine blk_drew ?_ | refine blk_alloc ?_ _)); exact BK192.out) hb); have n1_ := Aside0.mk (below_step (by repeat (first | (with_reducible first | exact HB.out | apply below_alloc | apply pw_below_drewN | apply below_drew1 | refine below_set ?_ GE192.out) | exact HB.out)) hb); clear BK192; clear HB; have BK192 := n0_; have HB := n1_; clear n0_ n1_; (try clear hb); (try clear hb2); (try clear hk); (try clear hi); have hcz19_0 : w18.cell? ⟨gb192, 0, none⟩ = some (.slice A0_0 l0_0.length c0_0) := (blk_cell BK192.out 0).trans rfl; have hfz19_0 := blk_frozen BK192.out 0) | (go_at_call 84; (with_reducible refine (spec_l7Find.calls k _ _ l0_0 a2 t195 _ ?side1 ?side2 A14.out).mono ?_); (case side1 => repeat (first | exact (Kd.C_below HR0_0.out HB.out) | (with_reducible refine Kd.C_alloc ?_ _) | (with_reducible refine Kd.C_drewN ?_ _) | (with_reducible refine Kd.C_drew ?_))); (case side2 => exact HC0_0.out); rintro e w20 ⟨rfl, hb⟩; have n0_ := Aside0.mk (blk_below (g := gb192) (o := .cells #[.slice A0_0 l0_0.length c0_0] 47 (0, 0)) (by (with_reducible repeat (first | refine blk_drewN ?_ _ | refine blk_drew ?_ | refine blk_alloc ?_ _)); exact BK192.out) hb); have n1_ := Aside0.mk (below_step (by repeat (first | (with_reducible first | exact HB.out | apply below_alloc | apply pw_below_drewN | apply below_drew1 | refine below_set ?_ GE192.out) | exact HB.out)) hb); clear BK192; clear HB; have BK192 := n0_; have HB := n1_; clear n0_ n1_; (try clear hb); (try clear hb2); (try clear hk); (try clear hi)))
    go_meet
    case rel => exact ⟨_, (decide (t195 < 0)), (by first | rfl | (simp; done) | (simp [*]; done)), H', ⟨by first | omega | exact Nat.le_refl _⟩, ⟨by (with_reducible repeat (first | refine blk_drewN ?_ _ | refine blk_drew ?_ | refine blk_alloc ?_ _)); exact BK192.out⟩, ⟨by repeat (first | (with_reducible first | exact HB.out | apply below_alloc | apply pw_below_drewN | apply below_drew1 | refine below_set ?_ GE192.out) | exact HB.out)⟩⟩
  ·replace c7 := Bool.eq_false_iff.mpr c7
   subst c7
   have H1 : (spec_ChangedIn.j0 k a1 a2 true l0_0) = some (r1, r2) := by rw [if_neg (show ¬ (false = true) by decide)] at H; exact H
   clear H
   have H := H1
   clear H1
   have H' := Aside0.mk H
   clear H
   have hcz21_0 : w5.cell? ⟨gb192, 0, none⟩ = some (.slice A0_0 l0_0.length c0_0) := (blk_cell BK192.out 0).trans rfl
   have hfz21_0 := blk_frozen BK192.out 0
   go_wp2_with (first | ((with_reducible refine gate_callee (f := 37) rfl ?_); refine goesL_ (some 13) rfl rfl Try.func37 (by kernel_rfl) rfl #[.agg #[.slice A0_0 l0_0.length c0_0]] rfl (by (try simp only [List.map_toArray, List.map_cons, List.map_nil]); first | done | rfl | (simp only [List.length_drop, List.length_take]; rfl)) ?_; (with_reducible refine (spec_GoodMarks.calls k _ _ l0_0 false _ ?side1 ?side2 A6.out).mono ?_); (case side1 => repeat (first | exact (Kd.C_below HR0_0.out HB.out) | (with_reducible refine Kd.C_alloc ?_ _) | (with_reducible refine Kd.C_drewN ?_ _) | (with_reducible refine Kd.C_drew ?_))); (case side2 => exact HC0_0.out); rintro e w22 ⟨rfl, hb⟩; refine ⟨_, rfl, ?_⟩; have n0_ := Aside0.mk (blk_below (g := gb192) (o := .cells #[.slice A0_0 l0_0.length c0_0] 47 (0, 0)) (by (with_reducible repeat (first | refine blk_drewN ?_ _ | refine blk_drew ?_ | refine blk_alloc ?_ _)); exact BK192.out) hb); have n1_ := Aside0.mk (below_step (by repeat (first | (with_reducible first | exact HB.out | apply below_alloc | apply pw_below_drewN | apply below_drew1 | refine below_set ?_ GE192.out) | exact HB.out)) hb); clear BK192; clear HB; have BK192 := n0_; have HB := n1_; clear n0_ n1_; (try clear hb); (try clear hb2); (try clear hk); (try clear hi)))
   go_meet
   case rel => exact ⟨_, (true), (by first | rfl | (simp; done) | (simp [*]; done)), H', ⟨by first | omega | exact Nat.le_refl _⟩, ⟨by (with_reducible repeat (first | refine blk_drewN ?_ _ | refine blk_drew ?_ | refine blk_alloc ?_ _)); exact BK192.out⟩, ⟨by repeat (first | (with_reducible first | exact HB.out | apply below_alloc | apply pw_below_drewN | apply below_drew1 | refine below_set ?_ GE192.out) | exact HB.out)⟩⟩
 case rest =>
  clear HC4
  try clear p2
  try clear c3
  try clear c4
  try clear c7
  try clear c9
  try clear c9b0
  try clear hcz10_0
  try clear hcz12_0
  try clear hcz15_0
  try clear hcz17_0
  try clear hcz19_0
  try clear hcz21_0
  try clear hfz10_0
  try clear hfz12_0
  try clear hfz15_0
  try clear hfz17_0
  try clear hfz19_0
  try clear hfz21_0
  obtain ⟨kq, x26_3, rfl, HA, HJ3, BK192, HB⟩ := hcut
  cases kq with
  | zero => exact absurd HA.out (by simp [spec_ChangedIn.j0])
  | succ kj3 =>
   have H := HA.out
   clear HA
   simp only [spec_ChangedIn.j0] at H
   by_cases c23 : x26_3 = true
   ·subst c23
    have H1 : (some (([] : List Int), false)) = some (r1, r2) := by rw [if_pos rfl] at H; exact H
    clear H
    have H := H1
    clear H1
    simp only [Option.some.injEq, Prod.mk.injEq] at H
    obtain ⟨rfl, rfl⟩ := H
    go_wp2
    go_ret2
    exact ⟨_, by first | rfl | (simp [errW_none, errW_some] <;> rfl) | (simp [*, errW_none, errW_some] <;> rfl), by first | exact Kd.R_nil _ _ _ _ _ | exact Kd.N_nil _ _ _ _ _ | exact Kd.V_nil _ _ _ _ _ | exact Kd.Q_nil _ _ _ _ _ | exact Kd.S_nil _ _ _ _ _, by repeat (first | (with_reducible first | exact HB.out | apply below_alloc | apply pw_below_drewN | apply below_drew1 | refine below_set ?_ GE192.out) | exact HB.out)⟩
   ·replace c23 := Bool.eq_false_iff.mpr c23
    subst c23
    have H1 : ((spec_l7Find.f kj3 l0_0 a1).bind fun t196 => ((spec_l7Find.f kj3 l0_0 a2).bind fun t197 => (spec_ChangedIn.l0 kj3 t196 t197 ([] : List Int) 0 l0_0))) = some (r1, r2) := by rw [if_neg (show ¬ (false = true) by decide)] at H; exact H
    clear H
    have H := H1
    clear H1
    replace H := Option.bind_eq_some_iff.mp H
    obtain ⟨t196, A240, H⟩ := H
    replace H : ((spec_l7Find.f kj3 l0_0 a2).bind fun t197 => (spec_ChangedIn.l0 kj3 t196 t197 ([] : List Int) 0 l0_0)) = some (r1, r2) := H
    have A24 := Aside0.mk A240
    clear A240
    replace H := Option.bind_eq_some_iff.mp H
    obtain ⟨t197, A250, H⟩ := H
    replace H : (spec_ChangedIn.l0 kj3 t196 t197 ([] : List Int) 0 l0_0) = some (r1, r2) := H
    have A25 := Aside0.mk A250
    clear A250
    have H' := Aside0.mk H
    clear H
    have hcz26_0 : wc.cell? ⟨gb192, 0, none⟩ = some (.slice A0_0 l0_0.length c0_0) := (blk_cell BK192.out 0).trans rfl
    have hfz26_0 := blk_frozen BK192.out 0
    go_wp2_with (first | ((with_reducible refine gate_callee (f := 84) rfl ?_); refine goesL_ (some 29) rfl rfl Try.func84 (by kernel_rfl) rfl #[.agg #[.slice A0_0 l0_0.length c0_0], .int .i64 a1] rfl (by (try simp only [List.map_toArray, List.map_cons, List.map_nil]); first | done | rfl | (simp only [List.length_drop, List.length_take]; rfl)) ?_; (with_reducible refine (spec_l7Find.calls kj3 _ _ l0_0 a1 t196 _ ?side1 ?side2 A24.out).mono ?_); (case side1 => repeat (first | exact (Kd.C_below HR0_0.out HB.out) | (with_reducible refine Kd.C_alloc ?_ _) | (with_reducible refine Kd.C_drewN ?_ _) | (with_reducible refine Kd.C_drew ?_))); (case side2 => exact HC0_0.out); rintro e w27 ⟨rfl, hb⟩; refine ⟨_, rfl, ?_⟩; have n0_ := Aside0.mk (blk_below (g := gb192) (o := .cells #[.slice A0_0 l0_0.length c0_0] 47 (0, 0)) (by (with_reducible repeat (first | refine blk_drewN ?_ _ | refine blk_drew ?_ | refine blk_alloc ?_ _)); exact BK192.out) hb); have n1_ := Aside0.mk (below_step (by repeat (first | (with_reducible first | exact HB.out | apply below_alloc | apply pw_below_drewN | apply below_drew1 | refine below_set ?_ GE192.out) | exact HB.out)) hb); clear BK192; clear HB; have BK192 := n0_; have HB := n1_; clear n0_ n1_; (try clear hb); (try clear hb2); (try clear hk); (try clear hi); have hcz28_0 : w27.cell? ⟨gb192, 0, none⟩ = some (.slice A0_0 l0_0.length c0_0) := (blk_cell BK192.out 0).trans rfl; have hfz28_0 := blk_frozen BK192.out 0) | ((with_reducible refine gate_callee (f := 84) rfl ?_); refine goesL_ (some 32) rfl rfl Try.func84 (by kernel_rfl) rfl #[.agg #[.slice A0_0 l0_0.length c0_0], .int .i64 a2] rfl (by (try simp only [List.map_toArray, List.map_cons, List.map_nil]); first | done | rfl | (simp only [List.length_drop, List.length_take]; rfl)) ?_; (with_reducible refine (spec_l7Find.calls kj3 _ _ l0_0 a2 t197 _ ?side1 ?side2 A25.out).mono ?_); (case side1 => repeat (first | exact (Kd.C_below HR0_0.out HB.out) | (with_reducible refine Kd.C_alloc ?_ _) | (with_reducible refine Kd.C_drewN ?_ _) | (with_reducible refine Kd.C_drew ?_))); (case side2 => exact HC0_0.out); rintro e w29 ⟨rfl, hb⟩; refine ⟨_, rfl, ?_⟩; have n0_ := Aside0.mk (blk_below (g := gb192) (o := .cells #[.slice A0_0 l0_0.length c0_0] 47 (0, 0)) (by (with_reducible repeat (first | refine blk_drewN ?_ _ | refine blk_drew ?_ | refine blk_alloc ?_ _)); exact BK192.out) hb); have n1_ := Aside0.mk (below_step (by repeat (first | (with_reducible first | exact HB.out | apply below_alloc | apply pw_below_drewN | apply below_drew1 | refine below_set ?_ GE192.out) | exact HB.out)) hb); clear BK192; clear HB; have BK192 := n0_; have HB := n1_; clear n0_ n1_; (try clear hb); (try clear hb2); (try clear hk); (try clear hi)))
    go_loopg [10, 11] kj3 (fun kq v10 v11 w' => ∃ (x10_2 : List Int) (x11_2 : Int), v11 = .int .i64 x11_2 ∧ Aside0 (spec_ChangedIn.l0 kq t196 t197 x10_2 x11_2 l0_0 = some (r1, r2)) ∧ Aside0 (kq ≤ kj3) ∧ Aside0 (Kd.R (Kd.int .i64) 3 w' w.heap.size (fun _ => True) v10 x10_2) ∧ Aside0 (w'.heap[gb192]? = some (.cells #[(.slice A0_0 l0_0.length c0_0)] 47 (0, 0))) ∧ Aside0 (Below w.heap.size w w'))
    case atStart => exact ⟨(([] : List Int)), (0), (by first | rfl | (simp; done) | (simp [*]; done)), H', ⟨Nat.le_refl _⟩, ⟨by first | exact Kd.R_nil _ _ _ _ _ | exact Kd.N_nil _ _ _ _ _ | exact Kd.V_nil _ _ _ _ _ | exact Kd.Q_nil _ _ _ _ _ | exact Kd.S_nil _ _ _ _ _⟩, ⟨by (with_reducible repeat (first | refine blk_drewN ?_ _ | refine blk_drew ?_ | refine blk_alloc ?_ _)); exact BK192.out⟩, ⟨by repeat (first | (with_reducible first | exact HB.out | apply below_alloc | apply pw_below_drewN | apply below_drew1 | refine below_set ?_ GE192.out) | exact HB.out)⟩⟩
    case round =>
     clear H'
     try clear c2
     try clear p2
     try clear c3
     try clear c4
     try clear c7
     try clear c8
     try clear c9
     try clear c9b0
     try clear c23
     try clear hcz10_0
     try clear hcz12_0
     try clear hcz15_0
     try clear hcz17_0
     try clear hcz19_0
     try clear hcz21_0
     try clear hcz26_0
     try clear hcz28_0
     try clear hfz10_0
     try clear hfz12_0
     try clear hfz15_0
     try clear hfz17_0
     try clear hfz19_0
     try clear hfz21_0
     try clear hfz26_0
     try clear hfz28_0
     try clear p2
     obtain ⟨x10_2, x11_2, rfl, HA, HK2, HO_10, BK192, HB⟩ := hrel
     cases gk with
     | zero => exact absurd HA.out (by simp [spec_ChangedIn.l0])
     | succ k2 =>
      have H := HA.out
      clear HA
      simp only [spec_ChangedIn.l0] at H
      by_cases c30 : x11_2 < 16
      ·rw [if_pos c30] at H
       have c30b0 : decide (x11_2 < 16) = true := decide_eq_true c30
       clear c30
       replace H := Option.bind_eq_some_iff.mp H
       obtain ⟨t198, A310, H⟩ := H
       replace H : ((spec_l7At.f k2 l0_0 t197 x11_2).bind fun t199 => (if t198.toList = t199.toList then (spec_ChangedIn.l0 k2 t196 t197 x10_2 (wrap64 (x11_2 + 1)) l0_0) else (if x10_2.length < 17592186044416 then (spec_ChangedIn.l0 k2 t196 t197 (x10_2 ++ [x11_2]) (wrap64 (x11_2 + 1)) l0_0) else (none)))) = some (r1, r2) := H
       have A31 := Aside0.mk A310
       clear A310
       replace H := Option.bind_eq_some_iff.mp H
       obtain ⟨t199, A320, H⟩ := H
       replace H : (if t198.toList = t199.toList then (spec_ChangedIn.l0 k2 t196 t197 x10_2 (wrap64 (x11_2 + 1)) l0_0) else (if x10_2.length < 17592186044416 then (spec_ChangedIn.l0 k2 t196 t197 (x10_2 ++ [x11_2]) (wrap64 (x11_2 + 1)) l0_0) else (none))) = some (r1, r2) := H
       have A32 := Aside0.mk A320
       clear A320
       by_cases c33 : t198.toList = t199.toList
       ·rw [if_pos c33] at H
        have c33b0 : (t198.toList == t199.toList) = true := beq_iff_eq.mpr c33
        have c33b1 : (t198.toList != t199.toList) = false := bne_eq_false_iff_eq.mpr c33
        clear c33
        have H' := Aside0.mk H
        clear H
        try go_wp2
        have n0_ := Aside0.mk (Kd.R_drew HO_10.out)
        have n1_ := Aside0.mk (blk_drew BK192.out)
        have n2_ := Aside0.mk (below_drew1 HB.out)
        clear HO_10
        clear BK192
        clear HB
        have HO_10 := n0_
        have BK192 := n1_
        have HB := n2_
        clear n0_ n1_ n2_
        refine start_ (n := 9) (S := fun w' => w'.cell? ⟨gb192, 0, none⟩ = some (.slice A0_0 l0_0.length c0_0)) (ds := []) (pz 9 0) (by kernel_rfl) rfl rfl ((blk_cell BK192.out 0).trans rfl) (fun hHeld => ?_); refine with_tabW spec_ChangedIn.tab9 spec_ChangedIn.bits9 (fun HT_ HW_ => ?_)
        generalize wr.drew = w34 at HO_10 BK192 HB hHeld ⊢
        refine sR 1 38 #[false, true, false, false, false, false, false, false, false] HT_ ?_
        refine sR 2 39 #[false, true, true, false, false, false, false, false, false] HT_ ?_
        refine sR 5 42 #[false, true, true, false, false, true, false, false, false] HT_ ?_
        refine sR 6 43 #[false, true, true, false, false, true, true, false, false] HT_ ?_
        refine sT 0 37 #[true, true, true, false, false, true, true, false, false] rfl rfl HT_ HW_ hHeld (by intro w' s0; go_simp; with_reducible rfl) ?_
        refine sT 4 41 #[true, true, true, false, true, true, true, false, false] rfl rfl HT_ HW_ hHeld (by intro w' s0; go_simp; with_reducible rfl) ?_
        refine one_ (i := 3) (N := some 40) (pz 9 7) rfl rfl (one_of HT_.out (by kernel_rfl)) (by decide) (fun K hK => ?_)
        refine goes_ Try.func85 (by kernel_rfl) rfl #[.agg #[.slice A0_0 l0_0.length c0_0], .int .i64 t196, .int .i64 x11_2] (by rfl) rfl rfl (by (try simp only [List.map_toArray, List.map_cons, List.map_nil]); first | done | rfl | (simp only [List.length_drop, List.length_take]; rfl)) ?_
        with_reducible refine (spec_l7At.calls k2 _ _ l0_0 t196 x11_2 t198 _ ?side1 ?side2 A31.out).mono ?_
        (case side1 => repeat (first | exact (Kd.C_below HR0_0.out HB.out) | (with_reducible refine Kd.C_alloc ?_ _) | (with_reducible refine Kd.C_drewN ?_ _) | (with_reducible refine Kd.C_drew ?_)))
        (case side2 => exact HC0_0.out)
        rintro e w35 ⟨rfl, hb⟩
        refine ⟨_, rfl, ?_⟩
        have n0_ := Aside0.mk (Kd.R_below (by (with_reducible repeat (first | apply Kd.R_alloc | apply Kd.R_drewN | apply Kd.R_drew)); exact HO_10.out) hb)
        have n1_ := Aside0.mk (blk_below (g := gb192) (o := .cells #[.slice A0_0 l0_0.length c0_0] 47 (0, 0)) (by (with_reducible repeat (first | refine blk_drewN ?_ _ | refine blk_drew ?_ | refine blk_alloc ?_ _)); exact BK192.out) hb)
        have n2_ := Aside0.mk (below_step (by repeat (first | (with_reducible first | exact HB.out | apply below_alloc | apply pw_below_drewN | apply below_drew1 | refine below_set ?_ GE192.out) | exact HB.out)) hb)
        clear HO_10
        clear BK192
        clear HB
        have HO_10 := n0_
        have BK192 := n1_
        have HB := n2_
        clear n0_ n1_ n2_
        (try clear hb)
        (try clear hb2)
        (try clear hk)
        (try clear hi)
        refine hK.out _ _ ((blk_cell BK192.out 0).trans rfl) (fun hHeld => ?_)
        clear hK K
        refine norm_ (a' := ?_) ?_ ?_
        rotate_left
        ·show Act.put _ (some 40) _ = _
         simp only [Act.put, List.setIfInBounds_toArray, List.set_cons_zero, List.set_cons_succ, i64_w, i32_w]
         rfl
        refine one_ (i := 7) (N := some 44) (pz 9 8) rfl rfl (one_of HT_.out (by kernel_rfl)) (by decide) (fun K hK => ?_)
        refine goes_ Try.func85 (by kernel_rfl) rfl #[.agg #[.slice A0_0 l0_0.length c0_0], .int .i64 t197, .int .i64 x11_2] (by rfl) rfl rfl (by (try simp only [List.map_toArray, List.map_cons, List.map_nil]); first | done | rfl | (simp only [List.length_drop, List.length_take]; rfl)) ?_
        with_reducible refine (spec_l7At.calls k2 _ _ l0_0 t197 x11_2 t199 _ ?side1 ?side2 A32.out).mono ?_
        (case side1 => repeat (first | exact (Kd.C_below HR0_0.out HB.out) | (with_reducible refine Kd.C_alloc ?_ _) | (with_reducible refine Kd.C_drewN ?_ _) | (with_reducible refine Kd.C_drew ?_)))
        (case side2 => exact HC0_0.out)
        rintro e w36 ⟨rfl, hb⟩
        refine ⟨_, rfl, ?_⟩
        have n0_ := Aside0.mk (Kd.R_below (by (with_reducible repeat (first | apply Kd.R_alloc | apply Kd.R_drewN | apply Kd.R_drew)); exact HO_10.out) hb)
        have n1_ := Aside0.mk (blk_below (g := gb192) (o := .cells #[.slice A0_0 l0_0.length c0_0] 47 (0, 0)) (by (with_reducible repeat (first | refine blk_drewN ?_ _ | refine blk_drew ?_ | refine blk_alloc ?_ _)); exact BK192.out) hb)
        have n2_ := Aside0.mk (below_step (by repeat (first | (with_reducible first | exact HB.out | apply below_alloc | apply pw_below_drewN | apply below_drew1 | refine below_set ?_ GE192.out) | exact HB.out)) hb)
        clear HO_10
        clear BK192
        clear HB
        have HO_10 := n0_
        have BK192 := n1_
        have HB := n2_
        clear n0_ n1_ n2_
        (try clear hb)
        (try clear hb2)
        (try clear hk)
        (try clear hi)
        refine hK.out _ _ ((blk_cell BK192.out 0).trans rfl) (fun hHeld => ?_)
        clear hK K
        refine norm_ (a' := ?_) ?_ ?_
        rotate_left
        ·show Act.put _ (some 44) _ = _
         simp only [Act.put, List.setIfInBounds_toArray, List.set_cons_zero, List.set_cons_succ, i64_w, i32_w]
         rfl
        refine sR 8 45 (pz 9 9) HT_ ?_
        refine done_ (done_of HT_.out (by kernel_rfl)) ?_
        try go_wp2
        go_roundg k2
        case measure => have := HJ3.out; have := HK2.out; omega
        case rel => exact ⟨(x10_2), (wrap64 (x11_2 + 1)), (by first | rfl | (simp; done) | (simp [*]; done)), H', ⟨by have := HJ3.out; have := HK2.out; omega⟩, ⟨by (with_reducible repeat (first | apply Kd.R_alloc | apply Kd.R_drewN | apply Kd.R_drew)); exact HO_10.out⟩, ⟨by (with_reducible repeat (first | refine blk_drewN ?_ _ | refine blk_drew ?_ | refine blk_alloc ?_ _)); exact BK192.out⟩, ⟨by repeat (first | (with_reducible first | exact HB.out | apply below_alloc | apply pw_below_drewN | apply below_drew1 | refine below_set ?_ GE192.out) | exact HB.out)⟩⟩
       ·rw [if_neg c33] at H
        have c33b0 : (t198.toList == t199.toList) = false := beq_eq_false_iff_ne.mpr c33
        have c33b1 : (t198.toList != t199.toList) = true := bne_iff_ne.mpr c33
        by_cases c37 : x10_2.length < 17592186044416
        ·rw [if_pos c37] at H
         have LMc37 := Aside0.mk c37
         clear c37
         obtain ⟨y200, hy200⟩ : ∃ y_ : List Int, y_ = (x10_2 ++ [x11_2]) := ⟨_, rfl⟩
         replace H : (spec_ChangedIn.l0 k2 t196 t197 y200 (wrap64 (x11_2 + 1)) l0_0) = some (r1, r2) := by first | (rw [hy200]; with_reducible exact H) | (have H2_ := (Option.bind_some _ _).symm.trans H; rw [hy200]; with_reducible exact H2_) | (have H2_ := (Option.bind_some _ _).symm.trans H; with_reducible exact H2_) | with_reducible exact H | (rw [hy200]; exact H) | exact H
         have Ny200 := Aside0.mk hy200
         clear hy200
         have H' := Aside0.mk H
         clear H
         try go_wp2
         have n0_ := Aside0.mk (Kd.R_drew HO_10.out)
         have n1_ := Aside0.mk (blk_drew BK192.out)
         have n2_ := Aside0.mk (below_drew1 HB.out)
         clear HO_10
         clear BK192
         clear HB
         have HO_10 := n0_
         have BK192 := n1_
         have HB := n2_
         clear n0_ n1_ n2_
         refine start_ (n := 9) (S := fun w' => w'.cell? ⟨gb192, 0, none⟩ = some (.slice A0_0 l0_0.length c0_0)) (ds := []) (pz 9 0) (by kernel_rfl) rfl rfl ((blk_cell BK192.out 0).trans rfl) (fun hHeld => ?_); refine with_tabW spec_ChangedIn.tab9 spec_ChangedIn.bits9 (fun HT_ HW_ => ?_)
         generalize wr.drew = w38 at HO_10 BK192 HB hHeld ⊢
         refine sR 1 38 #[false, true, false, false, false, false, false, false, false] HT_ ?_
         refine sR 2 39 #[false, true, true, false, false, false, false, false, false] HT_ ?_
         refine sR 5 42 #[false, true, true, false, false, true, false, false, false] HT_ ?_
         refine sR 6 43 #[false, true, true, false, false, true, true, false, false] HT_ ?_
         refine sT 0 37 #[true, true, true, false, false, true, true, false, false] rfl rfl HT_ HW_ hHeld (by intro w' s0; go_simp; with_reducible rfl) ?_
         refine sT 4 41 #[true, true, true, false, true, true, true, false, false] rfl rfl HT_ HW_ hHeld (by intro w' s0; go_simp; with_reducible rfl) ?_
         refine one_ (i := 3) (N := some 40) (pz 9 7) rfl rfl (one_of HT_.out (by kernel_rfl)) (by decide) (fun K hK => ?_)
         refine goes_ Try.func85 (by kernel_rfl) rfl #[.agg #[.slice A0_0 l0_0.length c0_0], .int .i64 t196, .int .i64 x11_2] (by rfl) rfl rfl (by (try simp only [List.map_toArray, List.map_cons, List.map_nil]); first | done | rfl | (simp only [List.length_drop, List.length_take]; rfl)) ?_
         with_reducible refine (spec_l7At.calls k2 _ _ l0_0 t196 x11_2 t198 _ ?side1 ?side2 A31.out).mono ?_
         (case side1 => repeat (first | exact (Kd.C_below HR0_0.out HB.out) | (with_reducible refine Kd.C_alloc ?_ _) | (with_reducible refine Kd.C_drewN ?_ _) | (with_reducible refine Kd.C_drew ?_)))
         (case side2 => exact HC0_0.out)
         rintro e w39 ⟨rfl, hb⟩
         refine ⟨_, rfl, ?_⟩
         have n0_ := Aside0.mk (Kd.R_below (by (with_reducible repeat (first | apply Kd.R_alloc | apply Kd.R_drewN | apply Kd.R_drew)); exact HO_10.out) hb)
         have n1_ := Aside0.mk (blk_below (g := gb192) (o := .cells #[.slice A0_0 l0_0.length c0_0] 47 (0, 0)) (by (with_reducible repeat (first | refine blk_drewN ?_ _ | refine blk_drew ?_ | refine blk_alloc ?_ _)); exact BK192.out) hb)
         have n2_ := Aside0.mk (below_step (by repeat (first | (with_reducible first | exact HB.out | apply below_alloc | apply pw_below_drewN | apply below_drew1 | refine below_set ?_ GE192.out) | exact HB.out)) hb)
         clear HO_10
         clear BK192
         clear HB
         have HO_10 := n0_
         have BK192 := n1_
         have HB := n2_
         clear n0_ n1_ n2_
         (try clear hb)
         (try clear hb2)
         (try clear hk)
         (try clear hi)
         refine hK.out _ _ ((blk_cell BK192.out 0).trans rfl) (fun hHeld => ?_)
         clear hK K
         refine norm_ (a' := ?_) ?_ ?_
         rotate_left
         ·show Act.put _ (some 40) _ = _
          simp only [Act.put, List.setIfInBounds_toArray, List.set_cons_zero, List.set_cons_succ, i64_w, i32_w]
          rfl
         refine one_ (i := 7) (N := some 44) (pz 9 8) rfl rfl (one_of HT_.out (by kernel_rfl)) (by decide) (fun K hK => ?_)
         refine goes_ Try.func85 (by kernel_rfl) rfl #[.agg #[.slice A0_0 l0_0.length c0_0], .int .i64 t197, .int .i64 x11_2] (by rfl) rfl rfl (by (try simp only [List.map_toArray, List.map_cons, List.map_nil]); first | done | rfl | (simp only [List.length_drop, List.length_take]; rfl)) ?_
         with_reducible refine (spec_l7At.calls k2 _ _ l0_0 t197 x11_2 t199 _ ?side1 ?side2 A32.out).mono ?_
         (case side1 => repeat (first | exact (Kd.C_below HR0_0.out HB.out) | (with_reducible refine Kd.C_alloc ?_ _) | (with_reducible refine Kd.C_drewN ?_ _) | (with_reducible refine Kd.C_drew ?_)))
         (case side2 => exact HC0_0.out)
         rintro e w40 ⟨rfl, hb⟩
         refine ⟨_, rfl, ?_⟩
         have n0_ := Aside0.mk (Kd.R_below (by (with_reducible repeat (first | apply Kd.R_alloc | apply Kd.R_drewN | apply Kd.R_drew)); exact HO_10.out) hb)
         have n1_ := Aside0.mk (blk_below (g := gb192) (o := .cells #[.slice A0_0 l0_0.length c0_0] 47 (0, 0)) (by (with_reducible repeat (first | refine blk_drewN ?_ _ | refine blk_drew ?_ | refine blk_alloc ?_ _)); exact BK192.out) hb)
         have n2_ := Aside0.mk (below_step (by repeat (first | (with_reducible first | exact HB.out | apply below_alloc | apply pw_below_drewN | apply below_drew1 | refine below_set ?_ GE192.out) | exact HB.out)) hb)
         clear HO_10
         clear BK192
         clear HB
         have HO_10 := n0_
         have BK192 := n1_
         have HB := n2_
         clear n0_ n1_ n2_
         (try clear hb)
         (try clear hb2)
         (try clear hk)
         (try clear hi)
         refine hK.out _ _ ((blk_cell BK192.out 0).trans rfl) (fun hHeld => ?_)
         clear hK K
         refine norm_ (a' := ?_) ?_ ?_
         rotate_left
         ·show Act.put _ (some 44) _ = _
          simp only [Act.put, List.setIfInBounds_toArray, List.set_cons_zero, List.set_cons_succ, i64_w, i32_w]
          rfl
         refine sR 8 45 (pz 9 9) HT_ ?_
         refine done_ (done_of HT_.out (by kernel_rfl)) ?_
         try go_wp2_with (first | ((with_reducible refine gate_builtin (b := .append) (xs := #[.tmp 46, .tmp 48]) rfl ?_); at_builtin; refine Kd.R_append (Kd.int .i64) (w0 := w) w.heap.size rfl (.tmp 46) (.tmp 48) 40 3 (.int .i64 0) 8 rfl Try.underlying40 info3 rfl (by decide) (by omega) u10 x10_2 x11_2 [.int .i64 x11_2] (fun _ => True) (fun _ => False) rfl rfl ?aP (fun _ hk => hk.elim) ?aF ?aO ?aB ?aS ?aL ?_; (case aP => exact rfl); (case aB => exact (by repeat (first | (with_reducible first | exact HB.out | apply below_alloc | apply pw_below_drewN | apply below_drew1 | refine below_set ?_ GE192.out) | exact HB.out))); (case aF => exact (fun _ _ => trivial)); (case aO => exact (by (with_reducible repeat (first | apply Kd.R_alloc | apply Kd.R_drewN | apply Kd.R_drew)); exact HO_10.out)); (case aS => exact (below_size (by repeat (first | (with_reducible first | exact HB.out | apply below_alloc | apply pw_below_drewN | apply below_drew1 | refine below_set ?_ GE192.out) | exact HB.out)))); (case aL => have := LMc37.out; omega); intro v201 w41 ho hb hg hat; rw [← Ny200.out] at ho; have n0_ := Aside0.mk (blk_grown (g := gb192) (o := .cells #[.slice A0_0 l0_0.length c0_0] 47 (0, 0)) (by (with_reducible repeat (first | refine blk_drewN ?_ _ | refine blk_drew ?_ | refine blk_alloc ?_ _)); exact BK192.out) hg (Kd.R_ne HO_10.out BK192.out (by decide))); have n1_ := Aside0.mk (hb); have n2_ := Aside0.mk (ho); clear BK192; clear HB; clear HO_10; have BK192 := n0_; have HB := n1_; have HO202 := n2_; clear n0_ n1_ n2_; clear ho hb hg hat))
         go_roundg k2
         case measure => have := HJ3.out; have := HK2.out; omega
         case rel => exact ⟨(y200), (wrap64 (x11_2 + 1)), (by first | rfl | (simp; done) | (simp [*]; done)), H', ⟨by have := HJ3.out; have := HK2.out; omega⟩, ⟨by (with_reducible repeat (first | apply Kd.R_alloc | apply Kd.R_drewN | apply Kd.R_drew)); exact HO202.out⟩, ⟨by (with_reducible repeat (first | refine blk_drewN ?_ _ | refine blk_drew ?_ | refine blk_alloc ?_ _)); exact BK192.out⟩, ⟨by repeat (first | (with_reducible first | exact HB.out | apply below_alloc | apply pw_below_drewN | apply below_drew1 | refine below_set ?_ GE192.out) | exact HB.out)⟩⟩
        ·rw [if_neg c37] at H
         exact absurd H (by simp)
      ·rw [if_neg c30] at H
       have c30b0 : decide (x11_2 < 16) = false := decide_eq_false c30
       clear c30
       simp only [Option.some.injEq, Prod.mk.injEq] at H
       obtain ⟨rfl, rfl⟩ := H
       go_wp2
       go_ret2
       exact ⟨_, by first | rfl | (simp [errW_none, errW_some] <;> rfl) | (simp [*, errW_none, errW_some] <;> rfl), by (with_reducible repeat (first | apply Kd.R_alloc | apply Kd.R_drewN | apply Kd.R_drew)); exact HO_10.out, by repeat (first | (with_reducible first | exact HB.out | apply below_alloc | apply pw_below_drewN | apply below_drew1 | refine below_set ?_ GE192.out) | exact HB.out)⟩

/-! ### impl_within: function 60 -/
def impl_within.f (a0 : Int) (a1 : Int) (a2 : Int) : Option (Bool) := if a1 ≤ a0 then (some (decide (a0 ≤ a2))) else (some false)
set_option maxHeartbeats 8000000 in
set_option maxRecDepth 100000 in
theorem impl_within.calls (a0 : Int) (a1 : Int) (a2 : Int) (r : Bool) (w : World) (h : impl_within.f a0 a1 a2 = some r) :
    Calls Try.prog 60 #[.int .i64 a0, .int .i64 a1, .int .i64 a2] w fun e w' => e = .returned (.bool r) ∧ Drawn0 w w' := by
 have H : (if a1 ≤ a0 then (some (decide (a0 ≤ a2))) else (some false)) = some r := h
 clear h
 by_cases c4 : a1 ≤ a0
 ·rw [if_pos c4] at H
  have c4b0 : decide (a1 ≤ a0) = true := decide_eq_true c4
  clear c4
  obtain rfl := Option.some.inj H
  go_enter Try.func60, Try.ntmps60
  go_wp2
  go_ret
  exact ⟨by first | rfl | (simp; done) | (simp [*]; done), by repeat (first | exact Drawn0.refl _ | apply Drawn0.step)⟩
 ·rw [if_neg c4] at H
  have c4b0 : decide (a1 ≤ a0) = false := decide_eq_false c4
  clear c4
  obtain rfl := Option.some.inj H
  go_enter Try.func60, Try.ntmps60
  go_wp2
  go_ret
  exact ⟨by first | rfl | (simp; done) | (simp [*]; done), by repeat (first | exact Drawn0.refl _ | apply Drawn0.step)⟩

/-! ### impl_Layer_119: function 119 (ours) -/
def idxOf_Layer (p : S94 → Bool) : List S94 → Int
  | [] => -1
  | x :: l => if p x = true then 0 else if idxOf_Layer p l = -1 then -1 else idxOf_Layer p l + 1
theorem idxOf_Layer_ge (p : S94 → Bool) : ∀ l : List S94, -1 ≤ idxOf_Layer p l
  | [] => by simp [idxOf_Layer]
  | x :: l => by
    have := idxOf_Layer_ge p l
    simp only [idxOf_Layer]
    split
    · omega
    · split <;> omega
theorem idxOf_Layer_any (p : S94 → Bool) : ∀ l : List S94, decide (0 ≤ idxOf_Layer p l) = l.any p
  | [] => by simp [idxOf_Layer]
  | x :: l => by
    have ih := idxOf_Layer_any p l
    have hge := idxOf_Layer_ge p l
    by_cases h : p x = true
    · simp [idxOf_Layer, h]
    · have hf : p x = false := by simpa using h
      rw [List.any_cons, hf, Bool.false_or, ← ih]
      by_cases h2 : idxOf_Layer p l = -1
      · have e : idxOf_Layer p (x :: l) = -1 := by simp [idxOf_Layer, h, h2]
        rw [e, h2]
      · have e : idxOf_Layer p (x :: l) = idxOf_Layer p l + 1 := by simp [idxOf_Layer, h, h2]
        rw [e, decide_eq_decide]; omega
theorem idxOf_Layer_at (p : S94 → Bool) : ∀ (a b : List S94) (x : S94), (∀ y ∈ a, p y = false) → p x = true → idxOf_Layer p (a ++ x :: b) = a.length
  | [], b, x, _, hx => by simp [idxOf_Layer, hx]
  | y :: a, b, x, ha, hx => by
    have hy := ha y (by simp)
    have ih := idxOf_Layer_at p a b x (fun z hz => ha z (by simp [hz])) hx
    simp only [List.cons_append, idxOf_Layer, hy, ih, List.length_cons]
    rw [if_neg (by decide), if_neg (by omega)]
    omega
theorem idxOf_Layer_none (p : S94 → Bool) : ∀ (a : List S94), (∀ y ∈ a, p y = false) → idxOf_Layer p a = -1
  | [], _ => rfl
  | y :: a, ha => by
    have hy := ha y (by simp)
    have ih := idxOf_Layer_none p a (fun z hz => ha z (by simp [hz]))
    simp [idxOf_Layer, hy, ih]
set_option maxHeartbeats 4000000 in
set_option maxRecDepth 100000 in
theorem fx_index_Layer (p : S94 → Bool) (g : Nat) (lb : Array Value) (eg : ∀ args w, (callFunc g args).run Try.prog w = .ok (.enter g args) w) (A : Option Addr) (c : Nat) (l : List S94) (w : World) (hC : Kd.C k94 w A l.length l)
    (hp : ∀ x ∈ l, ∀ W, Below w.heap.size w W → ∀ cs, k94.K W x cs → Calls Try.prog g (#[(.agg cs.toArray)] ++ lb) W fun e w' => e = .returned (.bool (p x)) ∧ Below W.heap.size W w') :
    Calls Try.prog 119 #[.slice A l.length c, .func (.func g) #[] lb] w fun e w' => e = .returned (.int .i64 (idxOf_Layer p l)) ∧ Below w.heap.size w w' := by
  by_cases hn : l.length = 0
  · obtain rfl := List.eq_nil_of_length_eq_zero hn
    simp only [List.length_nil, idxOf_Layer]
    clear hp hC hn
    go_enter Try.func119, Try.ntmps119
    go_wp2
    go_loopg [5, 8] 0 (fun _ _ s8 wr => s8 = .int .i64 0 ∧ wr = w)
    case atStart => exact ⟨rfl, rfl⟩
    case round =>
      obtain ⟨rfl, rfl⟩ := hrel
      go_wp2
      go_ret
      exact ⟨rfl, Below.refl _ _⟩
  · obtain ⟨ad, rfl, hcells⟩ := hC.2.2 (by omega)
    have hbig : l.length ≤ 9223372036854775807 := hC.2.1
    clear hC
    have HP := Aside0.mk hp
    have HCL := Aside0.mk hcells
    clear hp hcells
    obtain ⟨n, hN⟩ : ∃ n, l.length = n := ⟨_, rfl⟩
    rw [hN] at hbig hn ⊢
    have HN := Aside0.mk hN
    clear hN
    go_enter Try.func119, Try.ntmps119
    go_wp2
    go_loopg [5, 8] n (fun gk _ s8 wr => ∃ i : Nat, i + gk = n ∧ s8 = .int .i64 i ∧ Aside0 (Below w.heap.size w wr) ∧ Aside0 (∀ y ∈ l.take i, p y = false))
    case atStart => exact ⟨0, by omega, rfl, ⟨Below.refl _ _⟩, ⟨fun y hy => by simp at hy⟩⟩
    case round =>
      obtain ⟨i, hi, rfl, HB, HF⟩ := hrel
      by_cases hlt : i < n
      · have hlt' : decide ((i : Int) < (n : Int)) = true := decide_eq_true (by omega)
        have hli : i < l.length := by rw [HN.out]; exact hlt
        obtain ⟨x, hx⟩ : ∃ x, l[i]? = some x := ⟨_, List.getElem?_eq_getElem hli⟩
        obtain ⟨cs, hcl, hk, hcell0⟩ := HCL.out i x hx
        have hcall := HP.out x (List.mem_of_getElem? hx) wr HB.out cs (k94.K_below HB.out hk)
        obtain ⟨v0, v1, v2, rfl⟩ : ∃ v0 v1 v2 : Value, cs = [v0, v1, v2] := by
          have hl : cs.length = 3 := hcl
          match cs, hl with | [v0, v1, v2], _ => exact ⟨v0, v1, v2, rfl⟩
        have hx0 : wr.cell? (ad.add (i * 3)) = some v0 := pw_cell_below HB.out (hcell0 0 _ rfl)
        have hx1 : wr.cell? ⟨(ad.add (i * 3)).block, (ad.add (i * 3)).off + 1, none⟩ = some v1 := by
          rw [← add_field _ _ 1 (by omega)]
          exact pw_cell_below HB.out (hcell0 1 _ rfl)
        have hx2 : wr.cell? ⟨(ad.add (i * 3)).block, (ad.add (i * 3)).off + 2, none⟩ = some v2 := by
          rw [← add_field _ _ 2 (by omega)]
          exact pw_cell_below HB.out (hcell0 2 _ rfl)
        have HX := Aside0.mk hx
        have hgk : gk = (n - (i + 1)) + 1 := by omega
        have HGK := Aside0.mk hgk
        clear hx hli hgk hcell0 hcl
        cases hq : p x with
        | true =>
          rw [hq] at hcall
          have HQ := Aside0.mk hq
          clear hq
          go_wp2_with (go_at_fn g; refine hcall.mono ?_; rintro e w' ⟨rfl, hb'⟩)
          go_ret
          refine ⟨?_, HB.out.trans (hb'.mono HB.out.size)⟩
          have hsp : l = l.take i ++ x :: l.drop (i + 1) := by
            obtain ⟨hlt2, hg⟩ := List.getElem?_eq_some_iff.1 HX.out
            rw [← hg, ← List.drop_eq_getElem_cons hlt2, List.take_append_drop]
          have e : idxOf_Layer p l = (i : Int) := by
            rw [hsp, idxOf_Layer_at p _ _ x HF.out HQ.out, List.length_take]
            have := HN.out
            congr 1
            omega
          rw [e]
          rfl
        | false =>
          rw [hq] at hcall
          have HQ := Aside0.mk hq
          clear hq
          go_wp2_with (go_at_fn g; refine hcall.mono ?_; rintro e w' ⟨rfl, hb'⟩)
          go_roundg (n - (i + 1))
          case measure => omega
          case rel =>
            refine ⟨i + 1, by omega, by go_num, ⟨HB.out.trans (hb'.mono HB.out.size)⟩, ⟨fun y hy => ?_⟩⟩
            obtain ⟨hlt2, hg⟩ := List.getElem?_eq_some_iff.1 HX.out
            rw [List.take_succ_eq_append_getElem hlt2, List.mem_append, List.mem_singleton] at hy
            rcases hy with hy | rfl
            · exact HF.out y hy
            · rw [hg]; exact HQ.out
      · have hlt' : decide ((i : Int) < (n : Int)) = false := decide_eq_false (by omega)
        obtain rfl : gk = 0 := by omega
        have e : idxOf_Layer p l = -1 := idxOf_Layer_none p l (fun y hy => HF.out y (by rw [List.take_of_length_le (by rw [HN.out]; omega)]; exact hy))
        have E := Aside0.mk e
        clear e
        go_wp2
        go_ret
        exact ⟨by rw [E.out]; rfl, HB.out⟩

/-! ### impl_Layer_113: function 113 (ours) -/
set_option maxHeartbeats 4000000 in
set_option maxRecDepth 100000 in
theorem fx_contains_Layer (p : S94 → Bool) (g : Nat) (lb : Array Value) (eg : ∀ args w, (callFunc g args).run Try.prog w = .ok (.enter g args) w) (A : Option Addr) (c : Nat) (l : List S94) (w : World) (hC : Kd.C k94 w A l.length l)
    (hp : ∀ x ∈ l, ∀ W, Below w.heap.size w W → ∀ cs, k94.K W x cs → Calls Try.prog g (#[(.agg cs.toArray)] ++ lb) W fun e w' => e = .returned (.bool (p x)) ∧ Below W.heap.size W w') :
    Calls Try.prog 113 #[.slice A l.length c, .func (.func g) #[] lb] w fun e w' => e = .returned (.bool (l.any p)) ∧ Below w.heap.size w w' := by
  have hc := fx_index_Layer p g lb eg A c l w hC hp
  clear hp hC
  rw [← idxOf_Layer_any p l]
  generalize idxOf_Layer p l = r at *
  generalize l.length = n at *
  go_enter Try.func113, Try.ntmps113
  go_wp2_with (go_at_call 119; refine hc.mono ?_; rintro e w' ⟨rfl, hb'⟩)
  go_ret
  exact ⟨rfl, hb'⟩

/-! ### impl_Layer_1: function 114 (ours) -/
set_option maxHeartbeats 4000000 in
set_option maxRecDepth 100000 in
theorem fx_areall1_Layer (g : Nat) (lb : Array Value) (eg : ∀ args w, (callFunc g args).run Try.prog w = .ok (.enter g args) w) (b : Bool) (v0 v1 v2 : Value) (B : Nat) (W : World) (hB : W.cell? ⟨B, 0, none⟩ = some (.func (.func g) #[] lb)) (hBW : B < W.heap.size)
    (hp : ∀ W', Below W.heap.size W W' → Calls Try.prog g (#[(.agg #[v0, v1, v2])] ++ lb) W' fun e w' => e = .returned (.bool b) ∧ Below W'.heap.size W' w') :
    Calls Try.prog 114 #[(.agg #[v0, v1, v2]), .pointer (some ⟨B, 0, none⟩)] W fun e w' => e = .returned (.bool (!b)) ∧ Below W.heap.size W w' := by
  have hw1 : Below W.heap.size W (W.alloc (.cells #[v0, v1, v2] 94)) := (Below.refl _ W).alloc (Nat.le_refl _) _
  have hcall := hp _ hw1
  have hBc : (W.alloc (.cells #[v0, v1, v2] 94)).cell? ⟨B, 0, none⟩ = some (.func (.func g) #[] lb) := (hw1.cell (p := ⟨B, 0, none⟩) hBW).trans hB
  have hne : B ≠ W.heap.size := by omega
  clear hp
  go_enter Try.func114, Try.ntmps114
  go_wp2_with (go_at_fn g; refine hcall.mono ?_; rintro e w' ⟨rfl, hb'⟩)
  go_ret
  exact ⟨rfl, hw1.trans (hb'.mono (by simp))⟩

/-! ### impl_Layer_80: function 80 (ours) -/
set_option maxHeartbeats 4000000 in
set_option maxRecDepth 100000 in
theorem fx_areall_Layer (p : S94 → Bool) (g : Nat) (lb : Array Value) (eg : ∀ args w, (callFunc g args).run Try.prog w = .ok (.enter g args) w) (A : Option Addr) (c : Nat) (l : List S94) (w : World) (hC : Kd.C k94 w A l.length l)
    (hp : ∀ x ∈ l, ∀ W, Below w.heap.size w W → ∀ cs, k94.K W x cs → Calls Try.prog g (#[(.agg cs.toArray)] ++ lb) W fun e w' => e = .returned (.bool (p x)) ∧ Below W.heap.size W w') :
    Calls Try.prog 80 #[.slice A l.length c, .func (.func g) #[] lb] w fun e w' => e = .returned (.bool (l.all p)) ∧ Below w.heap.size w w' := by
  have e1 : ∀ args w, (callFunc 114 args).run Try.prog w = .ok (.enter 114 args) w := enters_of Try.func114 (by kernel_rfl) rfl
  have hw1 : Below w.heap.size w (w.alloc (.cells #[.func (.func g) #[] lb] 103)) := (Below.refl _ w).alloc (Nat.le_refl _) _
  have hbox : (w.alloc (.cells #[.func (.func g) #[] lb] 103)).cell? ⟨w.heap.size, 0, none⟩ = some (.func (.func g) #[] lb) := by simp
  have hc := fx_contains_Layer (fun x => !p x) 114 #[.pointer (some ⟨w.heap.size, 0, none⟩)] e1 A c l (w.alloc (.cells #[.func (.func g) #[] lb] 103)) (Kd.C_below hC hw1) (fun x hx W hW cs hk => by
    have hlt : w.heap.size < W.heap.size := Nat.lt_of_lt_of_le (by simp) hW.size
    have hww : Below w.heap.size w W := hw1.trans (hW.mono (by simp))
    have hBW : W.cell? ⟨w.heap.size, 0, none⟩ = some (.func (.func g) #[] lb) := (hW.cell (p := ⟨w.heap.size, 0, none⟩) (by simp)).trans hbox
    obtain ⟨v0, v1, v2, rfl⟩ : ∃ v0 v1 v2 : Value, cs = [v0, v1, v2] := by
      have hl : cs.length = 3 := (k94).K_len hk
      match cs, hl with | [v0, v1, v2], _ => exact ⟨v0, v1, v2, rfl⟩
    exact fx_areall1_Layer g lb eg (p x) v0 v1 v2 w.heap.size W hBW hlt (fun W' hW' => hp x hx W' (hww.trans (hW'.mono hww.size)) _ ((k94).K_below hW' hk)))
  have e2 : (l.any fun x => !p x) = !(l.all p) := by rw [List.all_eq_not_any_not, Bool.not_not]
  rw [e2] at hc
  clear hp hC e2 e1 hbox
  generalize l.all p = r at *
  generalize l.length = n at *
  go_enter Try.func80, Try.ntmps80
  go_wp2_with (go_at_call 113; refine hc.mono ?_; rintro e w' ⟨rfl, hb'⟩)
  go_ret
  exact ⟨by simp, hw1.trans (hb'.mono (by simp))⟩

end Go.Proofs.Ytleklbmodelehaa.PFnExactChangedIn

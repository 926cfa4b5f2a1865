/- Lean functions with the same answers as the Go functions that one law reaches, and for each a proof that its call comes to just these answers. No condition. Written by pr.py, a program of this session. -/
import Derived.Test.YtleklbmodelehaaPFnExactNewMarksx0
import Derived.Test.YtleklbmodelehaaPFnExactNewMarksx1
import Derived.Test.YtleklbmodelehaaPFnExactNewMarksx2
import Derived.Test.YtleklbmodelehaaPFnExactNewMarksx3
import Derived.Test.YtleklbmodelehaaPFnExactNewMarksx4
namespace Go.Proofs.Ytleklbmodelehaa.PFnExactNewMarks
open Go.RowKit Go.Proofs.YtleklbmodelehaaW.PrintWords Go.Proofs.YtleklbmodelehaaW.PrintLast Go.Proofs.YtleklbmodelehaaW.PrintMore
attribute [local go_sem] max2_int min2_int max_two min_two max_three min_three max_four min_four   -- for this text's walks alone
set_option linter.unusedVariables false
set_option linter.unusedSimpArgs false

/-! ### impl_GoodMarks: function 39 -/
def impl_GoodMarks.l0 : Nat → List Int → List (S94) → Int → Int → List (S94) → Option (Bool)
  | 0, _, _, _, _, _ => none
  | k + 1, x3, x7, x8, x9, x146000 => if x9 < x8 then (if 0 ≤ x9 then (if x9 < (x7.length : Int) then (if x3.length < 17592186044416 then (impl_GoodMarks.l0 k (x3 ++ [(rd_T94 x7 x9).f0]) x7 x8 (wrap64 (x9 + 1)) x146000) else (none)) else (none)) else (none)) else ((impl_within.f (x146000.length : Int) 1 8).bind fun t151 => (if t151 = true then ((impl_areAll_Layer_at_impl_Layer_isGood.f k x146000).bind fun t152 => (if t152 = true then ((impl_areRising.f k x3).bind fun t153 => (some t153)) else (some false))) else (some false)))
def impl_GoodMarks.f (k : Nat) (l0_0 : List (S94)) : Option (Bool) := impl_GoodMarks.l0 k ([] : List Int) l0_0 (l0_0.length : Int) 0 l0_0
theorem impl_GoodMarks.mono_l : ∀ k, (∀ y0 y1 y2 y3 y4, LeO (impl_GoodMarks.l0 k y0 y1 y2 y3 y4) (impl_GoodMarks.l0 (k + 1) y0 y1 y2 y3 y4))
  | 0 => fun _ _ _ _ _ r h => by simp [impl_GoodMarks.l0] at h
  | k + 1 => by
    have ih0 := impl_GoodMarks.mono_l k
    · intro y0 y1 y2 y3 y4
      unfold impl_GoodMarks.l0
      repeat' first
      | (with_reducible exact ih0 _ _ _ _ _)
      | (with_reducible exact impl_areAll_Layer_at_impl_Layer_isGood.mono _ _)
      | (with_reducible exact impl_areRising.mono _ _)
      | (with_reducible exact LeO.refl _)
      | (with_reducible exact LeO.none _)
      | (with_reducible refine LeO.ite ?_ ?_)
      | (with_reducible refine LeO.bind ?_ (fun _ => ?_))
      | exact ih0 _ _ _ _ _
      | exact impl_areAll_Layer_at_impl_Layer_isGood.mono _ _
      | exact impl_areRising.mono _ _
      | exact LeO.none _
      | refine LeO.ite ?_ ?_
      | refine LeO.bind ?_ (fun _ => ?_)
theorem impl_GoodMarks.mono : ∀ a0 k, LeO (impl_GoodMarks.f k a0) (impl_GoodMarks.f (k + 1) a0) := by
  intro a0 k
  have ih0 := impl_GoodMarks.mono_l k
  unfold impl_GoodMarks.f
  repeat' first
      | (with_reducible exact ih0 _ _ _ _ _)
      | (with_reducible exact impl_areAll_Layer_at_impl_Layer_isGood.mono _ _)
      | (with_reducible exact impl_areRising.mono _ _)
      | (with_reducible exact LeO.refl _)
      | (with_reducible exact LeO.none _)
      | (with_reducible refine LeO.ite ?_ ?_)
      | (with_reducible refine LeO.bind ?_ (fun _ => ?_))
      | exact ih0 _ _ _ _ _
      | exact impl_areAll_Layer_at_impl_Layer_isGood.mono _ _
      | exact impl_areRising.mono _ _
      | exact LeO.none _
      | refine LeO.ite ?_ ?_
      | refine LeO.bind ?_ (fun _ => ?_)
set_option maxHeartbeats 8000000 in
set_option maxRecDepth 100000 in
theorem impl_GoodMarks.calls (k : Nat) (A0_0 : Option Addr) (c0_0 : Nat) (l0_0 : List (S94)) (r : Bool) (w : World) (hr0_0 : Kd.C k94 w A0_0 l0_0.length l0_0) (hc0_0 : l0_0.length ≤ c0_0) (h : impl_GoodMarks.f k l0_0 = some r) :
    Calls Try.prog 39 #[.agg #[.slice A0_0 l0_0.length c0_0]] w fun e w' => e = .returned (.bool r) ∧ Below w.heap.size w w' := by
  have hu47 := Try.underlying47
  have hu94 := Try.underlying94
  have HR0_0 := Aside0.mk hr0_0
  have HC0_0 := Aside0.mk hc0_0
  clear hr0_0 hc0_0
  have HB := Aside0.mk (Below.refl w.heap.size w)
  have H : (impl_GoodMarks.l0 k ([] : List Int) l0_0 (l0_0.length : Int) 0 l0_0) = some r := h
  clear h
  have H' := Aside0.mk H
  clear H
  go_enter Try.func39, Try.ntmps39
  go_wp2_with (first | ((with_reducible refine gate_dst (N := 1) rfl ?_); refine box_event ?hg (N := 1) ?hd (cs := #[.slice A0_0 l0_0.length c0_0]) (t := 47) ?hr ?_; (case hd => rfl); (case hg => rfl); (case hr => first | (go_simp; done) | (go_simp; rfl)); intro gb145 hg w2 hbox hb; have n0_ := Aside0.mk (below_step (by repeat (first | (with_reducible first | exact HB.out | apply below_alloc | apply pw_below_drewN | apply below_drew1) | exact HB.out)) hb); have n1_ := Aside0.mk (hbox); have n2_ := Aside0.mk ((by rw [hg]; exact (below_size (by repeat (first | (with_reducible first | exact HB.out | apply below_alloc | apply pw_below_drewN | apply below_drew1) | exact HB.out))) : w.heap.size ≤ gb145)); have n3_ := Aside0.mk ((by rw [hg]; exact (below_size (by repeat (first | (with_reducible first | exact HB.out | apply below_alloc | apply pw_below_drewN | apply below_drew1) | exact HB.out))) : w.heap.size ≤ gb145)); clear HB; have HB := n0_; have BK145 := n1_; have GW145 := n2_; have GE145 := n3_; clear n0_ n1_ n2_ n3_; clear hb hbox hg; have hcz3_0 : w2.cell? ⟨gb145, 0, none⟩ = some (.slice A0_0 l0_0.length c0_0) := (blk_cell BK145.out 0).trans rfl; have hfz3_0 := blk_frozen BK145.out 0))
  go_loopg [3, 9] k (fun kq v3 v9 w' => ∃ (x3_1 : List Int) (x9_1 : Int), v9 = .int .i64 x9_1 ∧ Aside0 (impl_GoodMarks.l0 kq x3_1 l0_0 (l0_0.length : Int) x9_1 l0_0 = some r) ∧ Aside0 (kq ≤ k) ∧ Aside0 (Kd.R (Kd.int .i64) 3 w' w.heap.size (fun _ => True) v3 x3_1) ∧ Aside0 (w'.heap[gb145]? = some (.cells #[(.slice A0_0 l0_0.length c0_0)] 47 (0, 0))) ∧ Aside0 (Below w.heap.size w w'))
  case atStart => exact ⟨(([] : List Int)), (0), (by first | rfl | (simp; done) | (simp [*]; done)), H', ⟨Nat.le_refl _⟩, ⟨by first | exact Kd.R_nil _ _ _ _ _ | exact Kd.N_nil _ _ _ _ _ | exact Kd.V_nil _ _ _ _ _ | exact Kd.Q_nil _ _ _ _ _ | exact Kd.S_nil _ _ _ _ _⟩, ⟨by (with_reducible repeat (first | refine blk_drewN ?_ _ | refine blk_drew ?_ | refine blk_alloc ?_ _)); exact BK145.out⟩, ⟨by repeat (first | (with_reducible first | exact HB.out | apply below_alloc | apply pw_below_drewN | apply below_drew1 | refine below_set ?_ GE145.out) | exact HB.out)⟩⟩
  case round =>
    clear H'
    try clear p2
    try clear c3
    try clear hcz3_0
    try clear hfz3_0
    obtain ⟨x3_1, x9_1, rfl, HA, HK1, HO_3, BK145, HB⟩ := hrel
    cases gk with
    | zero => exact absurd HA.out (by simp [impl_GoodMarks.l0])
    | succ k1 =>
      have H := HA.out
      clear HA
      simp only [impl_GoodMarks.l0] at H
      by_cases c4 : x9_1 < (l0_0.length : Int)
      · rw [if_pos c4] at H
        have c4b0 : decide (x9_1 < (l0_0.length : Int)) = true := decide_eq_true c4
        clear c4
        by_cases c5 : 0 ≤ x9_1
        · rw [if_pos c5] at H
          have c5b0 : decide (0 ≤ x9_1) = true := decide_eq_true c5
          clear c5
          by_cases c6 : x9_1 < (l0_0.length : Int)
          · rw [if_pos c6] at H
            have c6b0 : decide (x9_1 < (l0_0.length : Int)) = true := decide_eq_true c6
            clear c6
            by_cases c7 : x3_1.length < 17592186044416
            · rw [if_pos c7] at H
              have LMc7 := Aside0.mk c7
              clear c7
              obtain ⟨y148, hy148⟩ : ∃ y_ : List Int, y_ = (x3_1 ++ [(rd_T94 l0_0 x9_1).f0]) := ⟨_, rfl⟩
              replace H : (impl_GoodMarks.l0 k1 y148 l0_0 (l0_0.length : Int) (wrap64 (x9_1 + 1)) l0_0) = some r := by first | (rw [hy148]; with_reducible exact H) | (have H2_ := (Option.bind_some _ _).symm.trans H; rw [hy148]; with_reducible exact H2_) | (have H2_ := (Option.bind_some _ _).symm.trans H; with_reducible exact H2_) | with_reducible exact H | (rw [hy148]; exact H) | exact H
              have Ny148 := Aside0.mk hy148
              clear hy148
              have H' := Aside0.mk H
              clear H
              have p146 : 0 ≤ (x9_1 : Int) := of_decide_eq_true (by first | (with_reducible assumption) | assumption)
              have q146 : x9_1 < (l0_0.length : Int) := of_decide_eq_true (by first | (with_reducible assumption) | assumption)
              obtain ⟨ad146, A146_1, c146_1, A146_2, c146_2, e146, hx146_0, hx146_1, hx146_2, hl146_1, hi146_1, hl146_2, hi146_2⟩ := at_T94 HR0_0.out x9_1 p146 q146
              cases e146
              replace hx146_0 := (HB.out.cell (World.block_lt_of_cell? w _ hx146_0)).trans hx146_0
              replace hx146_1 := (HB.out.cell (World.block_lt_of_cell? w _ hx146_1)).trans hx146_1
              replace hx146_2 := (HB.out.cell (World.block_lt_of_cell? w _ hx146_2)).trans hx146_2
              have HR146_1 := Aside0.mk hi146_1
              have HC146_1 := Aside0.mk hl146_1
              clear hi146_1 hl146_1
              have HR146_2 := Aside0.mk hi146_2
              have HC146_2 := Aside0.mk hl146_2
              clear hi146_2 hl146_2
              replace p146 := eq_true p146
              replace q146 := eq_true q146
              go_wp2_with (first | ((with_reducible refine gate_dst (N := 5) rfl ?_); refine box_event ?hg (N := 5) ?hd (cs := #[.int .i64 0, .slice none 0 0, .slice none 0 0]) (t := 94) ?hr ?_; (case hd => rfl); (case hg => rfl); (case hr => first | (go_simp; done) | (go_simp; rfl)); intro gb147 hg w8 hbox hb; have n0_ := Aside0.mk (Kd.R_below (by (with_reducible repeat (first | apply Kd.R_alloc | apply Kd.R_drewN | apply Kd.R_drew)); exact HO_3.out) hb); have n1_ := Aside0.mk (blk_below (g := gb145) (o := .cells #[.slice (some ad146) l0_0.length c0_0] 47 (0, 0)) (by (with_reducible repeat (first | refine blk_drewN ?_ _ | refine blk_drew ?_ | refine blk_alloc ?_ _)); exact BK145.out) hb); have n2_ := Aside0.mk (below_step (by repeat (first | (with_reducible first | exact HB.out | apply below_alloc | apply pw_below_drewN | apply below_drew1 | refine below_set ?_ GE145.out) | exact HB.out)) hb); have n3_ := Aside0.mk (hbox); have n4_ := Aside0.mk ((by rw [hg]; exact (below_size (by repeat (first | (with_reducible first | exact HB.out | apply below_alloc | apply pw_below_drewN | apply below_drew1 | refine below_set ?_ GE145.out) | exact HB.out))) : w.heap.size ≤ gb147)); have n5_ := Aside0.mk ((by rw [hg]; exact (below_size (by repeat (first | (with_reducible first | exact HB.out | apply below_alloc | apply pw_below_drewN | apply below_drew1 | refine below_set ?_ GE145.out) | exact HB.out))) : w.heap.size ≤ gb147)); have n6_ := Aside0.mk ((by rw [hg]; exact Nat.ne_of_lt (blk_lt (g := gb145) (o := .cells #[.slice (some ad146) l0_0.length c0_0] 47 (0, 0)) (by (with_reducible repeat (first | refine blk_drewN ?_ _ | refine blk_drew ?_ | refine blk_alloc ?_ _)); exact BK145.out)) : gb145 ≠ gb147)); have n7_ := Aside0.mk ((by rw [hg]; exact Nat.ne_of_gt (blk_lt (g := gb145) (o := .cells #[.slice (some ad146) l0_0.length c0_0] 47 (0, 0)) (by (with_reducible repeat (first | refine blk_drewN ?_ _ | refine blk_drew ?_ | refine blk_alloc ?_ _)); exact BK145.out)) : gb147 ≠ gb145)); clear HO_3; clear BK145; clear HB; have HO_3 := n0_; have BK145 := n1_; have HB := n2_; have BK147 := n3_; have GW147 := n4_; have GE147 := n5_; have NB145_147 := n6_; have NB147_145 := n7_; clear n0_ n1_ n2_ n3_ n4_ n5_ n6_ n7_; clear hb hbox hg; have hnb9 := NB147_145.out; have hnc9 := NB145_147.out; have hcz10_0 : w8.cell? ⟨gb147, 0, none⟩ = some (.int .i64 0) := (blk_cell BK147.out 0).trans rfl; have hcz10_1 : w8.cell? ⟨gb147, 1, none⟩ = some (.slice none 0 0) := (blk_cell BK147.out 1).trans rfl; have hcz10_2 : w8.cell? ⟨gb147, 2, none⟩ = some (.slice none 0 0) := (blk_cell BK147.out 2).trans rfl; have hfz10_0 := blk_frozen BK147.out 0; have hfz10_1 := blk_frozen BK147.out 1; have hfz10_2 := blk_frozen BK147.out 2) | ((with_reducible refine gate_builtin (b := .append) (xs := #[.tmp 13, .tmp 16]) rfl ?_); at_builtin; refine Kd.R_append (Kd.int .i64) (w0 := w) w.heap.size rfl (.tmp 13) (.tmp 16) 40 3 (.int .i64 0) 8 rfl Try.underlying40 info3 rfl (by decide) (by omega) u3 x3_1 ((rd_T94 l0_0 x9_1).f0) [.int .i64 ((rd_T94 l0_0 x9_1).f0)] (fun _ => True) (fun _ => False) rfl (by first | (go_simp; done) | (go_simp; rfl)) ?aP (fun _ hk => hk.elim) ?aF ?aO ?aB ?aS ?aL ?_; (case aP => exact rfl); (case aB => exact (by repeat (first | (with_reducible first | exact HB.out | apply below_alloc | apply pw_below_drewN | apply below_drew1 | refine below_set ?_ GE145.out | refine below_set ?_ GE147.out) | exact HB.out))); (case aF => exact (fun _ _ => trivial)); (case aO => exact (by (with_reducible repeat (first | apply Kd.R_alloc | apply Kd.R_drewN | apply Kd.R_drew)); exact Kd.R_mono (Kd.R_far (p := ⟨gb147, 2, none⟩) (Kd.R_far (p := ⟨gb147, 1, none⟩) (Kd.R_far (p := ⟨gb147, 0, none⟩) (Kd.R_types HO_3.out BK147.out (by decide)) (fun _ hk => hk.2) (.int .i64 ((rd_T94 l0_0 x9_1).f0))) (fun _ hk => hk.2) (.slice A146_1 ((rd_T94 l0_0 x9_1).f1).length c146_1)) (fun _ hk => hk.2) (.slice A146_2 ((rd_T94 l0_0 x9_1).f2).length c146_2)) (fun _ hk => trivial))); (case aS => exact (below_size (by repeat (first | (with_reducible first | exact HB.out | apply below_alloc | apply pw_below_drewN | apply below_drew1 | refine below_set ?_ GE145.out | refine below_set ?_ GE147.out) | exact HB.out)))); (case aL => have := LMc7.out; omega); intro v149 w11 ho hb hg hat; rw [← Ny148.out] at ho; have n0_ := Aside0.mk (blk_grown (g := gb145) (o := .cells #[.slice (some ad146) l0_0.length c0_0] 47 (0, 0)) (by (with_reducible repeat (first | refine blk_drewN ?_ _ | refine blk_drew ?_ | refine blk_alloc ?_ _)); refine blk_far ?_ NB145_147.out _; (with_reducible repeat (first | refine blk_drewN ?_ _ | refine blk_drew ?_ | refine blk_alloc ?_ _)); refine blk_far ?_ NB145_147.out _; (with_reducible repeat (first | refine blk_drewN ?_ _ | refine blk_drew ?_ | refine blk_alloc ?_ _)); refine blk_far ?_ NB145_147.out _; (with_reducible repeat (first | refine blk_drewN ?_ _ | refine blk_drew ?_ | refine blk_alloc ?_ _)); exact BK145.out) hg (Kd.R_ne HO_3.out BK145.out (by decide))); have n1_ := Aside0.mk (blk_grown (g := gb147) (o := .cells #[.int .i64 ((rd_T94 l0_0 x9_1).f0), .slice A146_1 ((rd_T94 l0_0 x9_1).f1).length c146_1, .slice A146_2 ((rd_T94 l0_0 x9_1).f2).length c146_2] 94 (0, 0)) (by (with_reducible repeat (first | refine blk_drewN ?_ _ | refine blk_drew ?_ | refine blk_alloc ?_ _)); refine blk_put (cs := #[.int .i64 ((rd_T94 l0_0 x9_1).f0), .slice A146_1 ((rd_T94 l0_0 x9_1).f1).length c146_1, .slice none 0 0]) ?_ 2 _ rfl; (with_reducible repeat (first | refine blk_drewN ?_ _ | refine blk_drew ?_ | refine blk_alloc ?_ _)); refine blk_put (cs := #[.int .i64 ((rd_T94 l0_0 x9_1).f0), .slice none 0 0, .slice none 0 0]) ?_ 1 _ rfl; (with_reducible repeat (first | refine blk_drewN ?_ _ | refine blk_drew ?_ | refine blk_alloc ?_ _)); refine blk_put (cs := #[.int .i64 0, .slice none 0 0, .slice none 0 0]) ?_ 0 _ rfl; (with_reducible repeat (first | refine blk_drewN ?_ _ | refine blk_drew ?_ | refine blk_alloc ?_ _)); exact BK147.out) hg (Kd.R_ne HO_3.out BK147.out (by decide))); have n2_ := Aside0.mk (hb); have n3_ := Aside0.mk (ho); clear BK145; clear BK147; clear HB; clear HO_3; have BK145 := n0_; have BK147 := n1_; have HB := n2_; have HO150 := n3_; clear n0_ n1_ n2_ n3_; clear ho hb hg hat))
              go_roundg k1
              case measure => have := HK1.out; omega
              case rel => exact ⟨(y148), (wrap64 (x9_1 + 1)), (by first | rfl | (simp; done) | (simp [*]; done)), H', ⟨by have := HK1.out; omega⟩, ⟨by (with_reducible repeat (first | apply Kd.R_alloc | apply Kd.R_drewN | apply Kd.R_drew)); exact HO150.out⟩, ⟨by (with_reducible repeat (first | refine blk_drewN ?_ _ | refine blk_drew ?_ | refine blk_alloc ?_ _)); exact BK145.out⟩, ⟨by repeat (first | (with_reducible first | exact HB.out | apply below_alloc | apply pw_below_drewN | apply below_drew1 | refine below_set ?_ GE145.out | refine below_set ?_ GE147.out) | exact HB.out)⟩⟩
            · rw [if_neg c7] at H
              exact absurd H (by simp)
          · rw [if_neg c6] at H
            exact absurd H (by simp)
        · rw [if_neg c5] at H
          exact absurd H (by simp)
      · rw [if_neg c4] at H
        have c4b0 : decide (x9_1 < (l0_0.length : Int)) = false := decide_eq_false c4
        clear c4
        replace H := Option.bind_eq_some_iff.mp H
        obtain ⟨t151, A120, H⟩ := H
        replace H : (if t151 = true then ((impl_areAll_Layer_at_impl_Layer_isGood.f k1 l0_0).bind fun t152 => (if t152 = true then ((impl_areRising.f k1 x3_1).bind fun t153 => (some t153)) else (some false))) else (some false)) = some r := H
        have A12 := Aside0.mk A120
        clear A120
        by_cases c13 : t151 = true
        · subst c13
          have H1 : ((impl_areAll_Layer_at_impl_Layer_isGood.f k1 l0_0).bind fun t152 => (if t152 = true then ((impl_areRising.f k1 x3_1).bind fun t153 => (some t153)) else (some false))) = some r := by rw [if_pos rfl] at H; exact H
          clear H
          have H := H1
          clear H1
          replace H := Option.bind_eq_some_iff.mp H
          obtain ⟨t152, A140, H⟩ := H
          replace H : (if t152 = true then ((impl_areRising.f k1 x3_1).bind fun t153 => (some t153)) else (some false)) = some r := H
          have A14 := Aside0.mk A140
          clear A140
          by_cases c15 : t152 = true
          · subst c15
            have H1 : ((impl_areRising.f k1 x3_1).bind fun t153 => (some t153)) = some r := by rw [if_pos rfl] at H; exact H
            clear H
            have H := H1
            clear H1
            replace H := Option.bind_eq_some_iff.mp H
            obtain ⟨t153, A160, H⟩ := H
            replace H : (some t153) = some r := H
            have A16 := Aside0.mk A160
            clear A160
            obtain rfl := Option.some.inj H
            have hcz17_0 : wr.cell? ⟨gb145, 0, none⟩ = some (.slice A0_0 l0_0.length c0_0) := (blk_cell BK145.out 0).trans rfl
            have hfz17_0 := blk_frozen BK145.out 0
            go_wp2_with (first | ((with_reducible refine gate_callee (f := 60) rfl ?_); refine goesL_ (some 22) rfl rfl Try.func60 (by kernel_rfl) rfl #[.int .i64 (l0_0.length : Int), .int .i64 1, .int .i64 8] rfl (by (try simp only [List.map_toArray, List.map_cons, List.map_nil]); first | done | rfl | (simp only [List.length_drop, List.length_take]; rfl)) ?_; (with_reducible refine (impl_within.calls (l0_0.length : Int) 1 8 true _ A12.out).mono ?_); rintro e w' ⟨rfl, ⟨nd, rfl⟩⟩; refine ⟨_, rfl, ?_⟩) | (go_at_call 80; (with_reducible refine (impl_areAll_Layer_at_impl_Layer_isGood.calls k1 _ _ l0_0 true _ ?side1 ?side2 A14.out).mono ?_); (case side1 => repeat (first | exact (Kd.C_below HR0_0.out (by repeat (first | (with_reducible first | exact HB.out | apply below_alloc | apply pw_below_drewN | apply below_drew1 | refine below_set ?_ GE145.out) | exact HB.out))) | (with_reducible refine Kd.C_alloc ?_ _) | (with_reducible refine Kd.C_drewN ?_ _) | (with_reducible refine Kd.C_drew ?_))); (case side2 => exact HC0_0.out); rintro e w18 ⟨rfl, hb⟩; have n0_ := Aside0.mk (Kd.R_below (by (with_reducible repeat (first | apply Kd.R_alloc | apply Kd.R_drewN | apply Kd.R_drew)); exact HO_3.out) hb); have n1_ := Aside0.mk (blk_below (g := gb145) (o := .cells #[.slice A0_0 l0_0.length c0_0] 47 (0, 0)) (by (with_reducible repeat (first | refine blk_drewN ?_ _ | refine blk_drew ?_ | refine blk_alloc ?_ _)); exact BK145.out) hb); have n2_ := Aside0.mk (below_step (by repeat (first | (with_reducible first | exact HB.out | apply below_alloc | apply pw_below_drewN | apply below_drew1 | refine below_set ?_ GE145.out) | exact HB.out)) hb); clear HO_3; clear BK145; clear HB; have HO_3 := n0_; have BK145 := n1_; have HB := n2_; clear n0_ n1_ n2_; (try clear hb); (try clear hb2); (try clear hk); (try clear hi); obtain ⟨Ao19, co19, eo19⟩ := Kd.R_slice HO_3.out; subst eo19) | (go_at_call 82; (with_reducible refine (impl_areRising.calls k1 _ _ x3_1 t153 _ ?side1 ?side2 A16.out).mono ?_); (case side1 => repeat (first | exact (Kd.R_reads' HO_3.out).2.2 | (with_reducible refine Kd.C_alloc ?_ _) | (with_reducible refine Kd.C_drewN ?_ _) | (with_reducible refine Kd.C_drew ?_))); (case side2 => exact (Kd.R_reads' HO_3.out).2.1); rintro e w' ⟨rfl, ⟨nd, rfl⟩⟩))
            go_ret
            exact ⟨by first | rfl | (simp [errW_none, errW_some] <;> rfl) | (simp [*, errW_none, errW_some] <;> rfl), by repeat (first | (with_reducible first | exact HB.out | apply below_alloc | apply pw_below_drewN | apply below_drew1 | refine below_set ?_ GE145.out) | exact HB.out)⟩
          · replace c15 := Bool.eq_false_iff.mpr c15
            subst c15
            have H1 : (some false) = some r := by rw [if_neg (show ¬ (false = true) by decide)] at H; exact H
            clear H
            have H := H1
            clear H1
            obtain rfl := Option.some.inj H
            have hcz20_0 : wr.cell? ⟨gb145, 0, none⟩ = some (.slice A0_0 l0_0.length c0_0) := (blk_cell BK145.out 0).trans rfl
            have hfz20_0 := blk_frozen BK145.out 0
            go_wp2_with (first | ((with_reducible refine gate_callee (f := 60) rfl ?_); refine goesL_ (some 22) rfl rfl Try.func60 (by kernel_rfl) rfl #[.int .i64 (l0_0.length : Int), .int .i64 1, .int .i64 8] rfl (by (try simp only [List.map_toArray, List.map_cons, List.map_nil]); first | done | rfl | (simp only [List.length_drop, List.length_take]; rfl)) ?_; (with_reducible refine (impl_within.calls (l0_0.length : Int) 1 8 true _ A12.out).mono ?_); rintro e w' ⟨rfl, ⟨nd, rfl⟩⟩; refine ⟨_, rfl, ?_⟩) | (go_at_call 80; (with_reducible refine (impl_areAll_Layer_at_impl_Layer_isGood.calls k1 _ _ l0_0 false _ ?side1 ?side2 A14.out).mono ?_); (case side1 => repeat (first | exact (Kd.C_below HR0_0.out (by repeat (first | (with_reducible first | exact HB.out | apply below_alloc | apply pw_below_drewN | apply below_drew1 | refine below_set ?_ GE145.out) | exact HB.out))) | (with_reducible refine Kd.C_alloc ?_ _) | (with_reducible refine Kd.C_drewN ?_ _) | (with_reducible refine Kd.C_drew ?_))); (case side2 => exact HC0_0.out); rintro e w21 ⟨rfl, hb⟩; have n0_ := Aside0.mk (Kd.R_below (by (with_reducible repeat (first | apply Kd.R_alloc | apply Kd.R_drewN | apply Kd.R_drew)); exact HO_3.out) hb); have n1_ := Aside0.mk (blk_below (g := gb145) (o := .cells #[.slice A0_0 l0_0.length c0_0] 47 (0, 0)) (by (with_reducible repeat (first | refine blk_drewN ?_ _ | refine blk_drew ?_ | refine blk_alloc ?_ _)); exact BK145.out) hb); have n2_ := Aside0.mk (below_step (by repeat (first | (with_reducible first | exact HB.out | apply below_alloc | apply pw_below_drewN | apply below_drew1 | refine below_set ?_ GE145.out) | exact HB.out)) hb); clear HO_3; clear BK145; clear HB; have HO_3 := n0_; have BK145 := n1_; have HB := n2_; clear n0_ n1_ n2_; (try clear hb); (try clear hb2); (try clear hk); (try clear hi)))
            go_ret
            exact ⟨by first | rfl | (simp [errW_none, errW_some] <;> rfl) | (simp [*, errW_none, errW_some] <;> rfl), by repeat (first | (with_reducible first | exact HB.out | apply below_alloc | apply pw_below_drewN | apply below_drew1 | refine below_set ?_ GE145.out) | exact HB.out)⟩
        · replace c13 := Bool.eq_false_iff.mpr c13
          subst c13
          have H1 : (some false) = some r := by rw [if_neg (show ¬ (false = true) by decide)] at H; exact H
          clear H
          have H := H1
          clear H1
          obtain rfl := Option.some.inj H
          have hcz22_0 : wr.cell? ⟨gb145, 0, none⟩ = some (.slice A0_0 l0_0.length c0_0) := (blk_cell BK145.out 0).trans rfl
          have hfz22_0 := blk_frozen BK145.out 0
          go_wp2_with (first | ((with_reducible refine gate_callee (f := 60) rfl ?_); refine goesL_ (some 22) rfl rfl Try.func60 (by kernel_rfl) rfl #[.int .i64 (l0_0.length : Int), .int .i64 1, .int .i64 8] rfl (by (try simp only [List.map_toArray, List.map_cons, List.map_nil]); first | done | rfl | (simp only [List.length_drop, List.length_take]; rfl)) ?_; (with_reducible refine (impl_within.calls (l0_0.length : Int) 1 8 false _ A12.out).mono ?_); rintro e w' ⟨rfl, ⟨nd, rfl⟩⟩; refine ⟨_, rfl, ?_⟩))
          go_ret
          exact ⟨by first | rfl | (simp [errW_none, errW_some] <;> rfl) | (simp [*, errW_none, errW_some] <;> rfl), by repeat (first | (with_reducible first | exact HB.out | apply below_alloc | apply pw_below_drewN | apply below_drew1 | refine below_set ?_ GE145.out) | exact HB.out)⟩

/-! ### laws_FnExactNewMarks: function 7 (ours) -/
set_option maxHeartbeats 8000000 in
set_option maxRecDepth 100000 in
theorem nm_good (k : Nat) (A : Option Addr) (c : Nat) (l : List S94) (b : Bool) (w : World) (hr : Kd.C k94 w A l.length l) (hc : l.length ≤ c) (h : impl_GoodMarks.f k l = some b) :
    Calls Try.prog 72 #[.agg #[.slice A l.length c]] w fun e w' => e = .returned (.tuple #[.agg #[if b = true then .slice A l.length c else .slice none 0 0], .bool b]) ∧ Below w.heap.size w w' := by
  have hu47 := Try.underlying47
  have HR := Aside0.mk hr
  have HC := Aside0.mk hc
  have HG := Aside0.mk h
  have HB := Aside0.mk (Below.refl w.heap.size w)
  clear hr hc h
  cases b with
  | true =>
    go_enter Try.func72, Try.ntmps72
    go_wp2_with (first
      | ((with_reducible refine gate_dst (N := 1) rfl ?_); refine box_event ?hg (N := 1) ?hd (cs := #[.slice A l.length c]) (t := 47) ?hr ?_; (case hd => rfl); (case hg => rfl); (case hr => first | (go_simp; done) | (go_simp; rfl)); intro gb1 hg w4 hbox hb; have HB1 := Aside0.mk (below_step HB.out hb); have BK1 := Aside0.mk hbox; clear hb hbox hg)
      | ((with_reducible refine gate_dst (N := 2) rfl ?_); refine box_event ?hg (N := 2) ?hd (cs := #[.slice none 0 0]) (t := 47) ?hr ?_; (case hd => rfl); (case hg => rfl); (case hr => first | (go_simp; done) | (go_simp; rfl)); intro gb2 hg w5 hbox hb; have GE2 := Aside0.mk (show w.heap.size ≤ gb2 by rw [hg]; exact below_size HB1.out); have HB2 := Aside0.mk (below_step HB1.out hb); have BK1' := Aside0.mk (blk_below BK1.out hb); have BK2 := Aside0.mk hbox; clear hb hbox hg; have hcz1 : w5.cell? ⟨gb1, 0, none⟩ = some (.slice A l.length c) := (blk_cell BK1'.out 0).trans rfl)
      | (go_at_call 39; refine (impl_GoodMarks.calls k _ _ l true _ (Kd.C_below HR.out HB2.out) HC.out HG.out).mono ?_; rintro e w7 ⟨rfl, hb⟩; have HB3 := Aside0.mk (below_step HB2.out hb); have BK1'' := Aside0.mk (blk_below BK1'.out hb); have BK2' := Aside0.mk (blk_below BK2.out hb); clear hb; have hcz3 : w7.cell? ⟨gb1, 0, none⟩ = some (.slice A l.length c) := (blk_cell BK1''.out 0).trans rfl; have hcz4 : w7.cell? ⟨gb2, 0, none⟩ = some (.slice none 0 0) := (blk_cell BK2'.out 0).trans rfl; have hfz4 := blk_frozen BK2'.out 0))
    refine bodyPost_ret (results_ct rfl _ _ gb2 47 #[.slice A l.length c] (0, 0) _ rfl (blk_put (cs := #[.slice none 0 0]) BK2'.out 0 _ rfl) Try.underlying47 rfl (by kernel_rfl)) rfl ?_
    exact ⟨by first | rfl | (simp [errW_none, errW_some] <;> rfl), below_set HB3.out GE2.out⟩
  | false =>
    go_enter Try.func72, Try.ntmps72
    go_wp2_with (first
      | ((with_reducible refine gate_dst (N := 1) rfl ?_); refine box_event ?hg (N := 1) ?hd (cs := #[.slice A l.length c]) (t := 47) ?hr ?_; (case hd => rfl); (case hg => rfl); (case hr => first | (go_simp; done) | (go_simp; rfl)); intro gb1 hg w4 hbox hb; have HB1 := Aside0.mk (below_step HB.out hb); have BK1 := Aside0.mk hbox; clear hb hbox hg)
      | ((with_reducible refine gate_dst (N := 2) rfl ?_); refine box_event ?hg (N := 2) ?hd (cs := #[.slice none 0 0]) (t := 47) ?hr ?_; (case hd => rfl); (case hg => rfl); (case hr => first | (go_simp; done) | (go_simp; rfl)); intro gb2 hg w5 hbox hb; have GE2 := Aside0.mk (show w.heap.size ≤ gb2 by rw [hg]; exact below_size HB1.out); have HB2 := Aside0.mk (below_step HB1.out hb); have BK1' := Aside0.mk (blk_below BK1.out hb); have BK2 := Aside0.mk hbox; clear hb hbox hg; have hcz1 : w5.cell? ⟨gb1, 0, none⟩ = some (.slice A l.length c) := (blk_cell BK1'.out 0).trans rfl)
      | (go_at_call 39; refine (impl_GoodMarks.calls k _ _ l false _ (Kd.C_below HR.out HB2.out) HC.out HG.out).mono ?_; rintro e w7 ⟨rfl, hb⟩; have HB3 := Aside0.mk (below_step HB2.out hb); have BK2' := Aside0.mk (blk_below BK2.out hb); clear hb; have hcz4 : w7.cell? ⟨gb2, 0, none⟩ = some (.slice none 0 0) := (blk_cell BK2'.out 0).trans rfl; have hfz4 := blk_frozen BK2'.out 0))
    refine bodyPost_ret (results_ct rfl _ _ gb2 47 #[.slice none 0 0] (0, 0) _ rfl (blk_put (cs := #[.slice none 0 0]) BK2'.out 0 _ rfl) Try.underlying47 rfl (by kernel_rfl)) rfl ?_
    exact ⟨by first | rfl | (simp [errW_none, errW_some] <;> rfl), below_set HB3.out GE2.out⟩
def nmL (a : Int) (g : Bool) : List S94 := if g = true then [⟨a, [], []⟩] else []
set_option maxHeartbeats 8000000 in
set_option maxRecDepth 100000 in
theorem nm_impl (k : Nat) (a : Int) (g : Bool) (w : World) (h : impl_GoodMarks.f k [(⟨a, [], []⟩ : S94)] = some g) :
    Calls Try.prog 32 #[.int .i64 a] w fun e w' => ∃ v : Value, e = .returned (.tuple #[.agg #[v], .bool g]) ∧ Kd.S k94 94 w' w.heap.size (fun _ => True) v (nmL a g) ∧ Below w.heap.size w w' := by
  have hu47 := Try.underlying47
  have hu94 := Try.underlying94
  have HG := Aside0.mk h
  have HB := Aside0.mk (Below.refl w.heap.size w)
  clear h
  go_enter Try.func32, Try.ntmps32
  go_wp2_with (first
    | ((with_reducible refine gate_dst (N := 2) rfl ?_); refine box_event ?hg (N := 2) ?hd (cs := #[.slice none 0 0]) (t := 47) ?hr ?_; (case hd => rfl); (case hg => rfl); (case hr => first | (go_simp; done) | (go_simp; rfl)); intro gb hg w3 hbox hb; have GE := Aside0.mk (show w.heap.size ≤ gb by rw [hg]; exact Nat.le_refl _); have HB1 := Aside0.mk (below_step HB.out hb); have BK := Aside0.mk hbox; clear hb hbox hg)
    | ((with_reducible refine gate_dst (N := 6) rfl ?_); refine Kd.S_lit k94 _ 94 ?hg (N := 6) ?hd (xs := ([(⟨a, ([] : List Int), ([] : List ByteArray)⟩ : S94)] : List (S94))) (inner := [.int .i64 a, .slice none 0 0, .slice none 0 0]) (ok := fun _ => True) (okp := fun _ => True) ?hr ?hp (fun _ hk => hk) trivial (Below.refl _ _) (Nat.le_refl _) (by simp) ?_; (case hd => rfl); (case hg => rfl); (case hr => first | (go_simp; done) | (go_simp; rfl)); (case hp => exact (Reps.c3 (show Kd.M k94 _ _ _ (⟨a, ([] : List Int), ([] : List ByteArray)⟩ : S94) [.int .i64 a, .slice none 0 0, .slice none 0 0] from (k94_mkM _ _ _ (⟨a, ([] : List Int), ([] : List ByteArray)⟩ : S94) (Kd.R_nil _ _ _ _ _) (Kd.R_nil _ _ _ _ _))) (Reps.none _ _))); intro v4 w4 ho5 hb hg_ hnew_; clear hg_ hnew_; have HS := Aside0.mk (Kd.S_lower ho5 (below_size HB1.out)); have BK' := Aside0.mk (blk_below BK.out hb); have HB2 := Aside0.mk (below_step HB1.out hb); clear hb ho5; obtain ⟨A6, c6, e6⟩ := Kd.S_slice HS.out; subst e6)
    | (go_at_call 72; refine (nm_good k A6 c6 [(⟨a, [], []⟩ : S94)] g _ (Kd.S_reads' HS.out).2.2 (Kd.S_reads' HS.out).2.1 HG.out).mono ?_; rintro e w7 ⟨rfl, hb⟩; have HS' := Aside0.mk (Kd.S_below HS.out hb); have BK'' := Aside0.mk (blk_below BK'.out hb); have HB3 := Aside0.mk (below_step HB2.out hb); clear hb; have hcz4 : w7.cell? ⟨gb, 0, none⟩ = some (.slice none 0 0) := (blk_cell BK''.out 0).trans rfl; have hfz4 := blk_frozen BK''.out 0; cases g))
  · refine bodyPost_ret (results_ct rfl _ _ gb 47 #[.slice none 0 0] (0, 0) _ rfl (blk_put (cs := #[.slice none 0 0]) BK''.out 0 _ rfl) Try.underlying47 rfl (by kernel_rfl)) rfl ?_
    exact ⟨_, by first | rfl | (simp [errW_none, errW_some] <;> rfl), Kd.S_nil _ _ _ _ _, below_set HB3.out GE.out⟩
  · refine bodyPost_ret (results_ct rfl _ _ gb 47 #[.slice A6 1 c6] (0, 0) _ rfl (blk_put (cs := #[.slice none 0 0]) BK''.out 0 _ rfl) Try.underlying47 rfl (by kernel_rfl)) rfl ?_
    exact ⟨_, by first | rfl | (simp [errW_none, errW_some] <;> rfl), Kd.S_mono (Kd.S_far (p := ⟨gb, 0, none⟩) (Kd.S_types HS'.out BK''.out (by decide)) (fun _ hk => hk.2) (.slice A6 1 c6)) (fun _ _ => trivial), below_set HB3.out GE.out⟩
theorem mk_two (k : Nat) (P0 : Nat → Prop) (A0 : Option Addr) (c0 : Nat) (l0 l2 : List S94) (a1 r1 : Int) (w0 w : World) (hB : Below w0.heap.size w0 w) (h0 : Kd.S k94 94 w w0.heap.size P0 (.slice A0 l0.length c0) l0) (h : laws_markLayerS.f k l0 a1 = some (r1, l2)) :
    Calls Try.prog 34 #[.agg #[.slice A0 l0.length c0], .int .i64 a1] w fun e w' => e = .returned (.int .i64 r1) ∧ Below w0.heap.size w0 w' ∧ Kd.S k94 94 w' w0.heap.size P0 (.slice A0 l0.length c0) l2 ∧
      Kept w w' (fun k_ => laws_markMarks.In k94 94 w w0.heap.size P0 k_) := laws_markMarks.calls2 k P0 A0 c0 l0 a1 r1 l2 w0 w hB h0 h
/-- What stands: the two marks in their boxes, the one older than n0. -/
def nmSt (w Wb W : World) (n0 g1 g2 : Nat) (A0 : Option Addr) (c0 : Nat) (ls : List S94) (A1 : Option Addr) (n1 c1 : Nat) (l1 : List S94) : Prop :=
  Below Wb.heap.size Wb W ∧ Kd.S k94 94 W w.heap.size (fun k => k < n0) (.slice A0 ls.length c0) ls ∧ W.heap[g1]? = some (.cells #[.slice A0 ls.length c0] 47 (0, 0)) ∧
    Kd.S k94 94 W Wb.heap.size (fun k => n0 ≤ k) (.slice A1 n1 c1) l1 ∧ W.heap[g2]? = some (.cells #[.slice A1 n1 c1] 47 (0, 0))
theorem nmSt.below {w Wb W W' : World} {n0 g1 g2 : Nat} {A0 : Option Addr} {c0 : Nat} {ls : List S94} {A1 : Option Addr} {n1 c1 : Nat} {l1 : List S94} (h : nmSt w Wb W n0 g1 g2 A0 c0 ls A1 n1 c1 l1) (hb : Below W.heap.size W W') : nmSt w Wb W' n0 g1 g2 A0 c0 ls A1 n1 c1 l1 :=
  ⟨below_step h.1 hb, Kd.S_below h.2.1 hb, blk_below h.2.2.1 hb, Kd.S_below h.2.2.2.1 hb, blk_below h.2.2.2.2 hb⟩
theorem nmSt.marked {w Wb W W' : World} {n0 g1 g2 : Nat} {A0 : Option Addr} {c0 : Nat} {ls : List S94} {A1 : Option Addr} {n1 c1 : Nat} {l1 l2 : List S94} (h : nmSt w Wb W n0 g1 g2 A0 c0 ls A1 n1 c1 l1) (hb : Below Wb.heap.size Wb W') (hs : Kd.S k94 94 W' Wb.heap.size (fun k => n0 ≤ k) (.slice A1 n1 c1) l2)
    (hk : Kept W W' (fun k_ => laws_markMarks.In k94 94 W Wb.heap.size (fun k => n0 ≤ k) k_)) : nmSt w Wb W' n0 g1 g2 A0 c0 ls A1 n1 c1 l2 :=
  ⟨hb, Kd.S_kept h.2.1 hk (fun k ho hi => Nat.not_le.2 ho hi.1), laws_markMarks.keepB h.2.2.1 hk (by decide), hs, laws_markMarks.keepB h.2.2.2.2 hk (by decide)⟩
def laws_FnExactNewMarks.f (k : Nat) (a : Int) : Option Bool :=
  (spec_NewMarks.f a).bind fun s => (impl_GoodMarks.f k [(⟨a, [], []⟩ : S94)]).bind fun g => (laws_eqMarks.f k (nmL a g) s.1).bind fun e => (laws_markLayerS.f k (nmL a g) 1).bind fun m => (laws_heldMarks.f k m.2 1).bind fun q => if e = true ∧ g = s.2 ∧ ¬ q < 0 ∧ q = m.1 ∧ m.2.length = (nmL a g).length then some true else none
set_option maxHeartbeats 8000000 in
set_option maxRecDepth 100000 in
theorem laws_FnExactNewMarks.calls (k : Nat) (a : Int) (r : Bool) (w : World) (h : laws_FnExactNewMarks.f k a = some r) :
    Calls Try.prog 7 #[.int .i64 a] w fun e w' => e = .returned (.bool r) ∧ Below w.heap.size w w' := by
  have hu47 := Try.underlying47
  unfold laws_FnExactNewMarks.f at h
  obtain ⟨⟨ls, os⟩, hs, h⟩ := Option.bind_eq_some_iff.mp h
  obtain ⟨g, hg, h⟩ := Option.bind_eq_some_iff.mp h
  obtain ⟨e, he, h⟩ := Option.bind_eq_some_iff.mp h
  obtain ⟨⟨mI, l2⟩, hm, h⟩ := Option.bind_eq_some_iff.mp h
  obtain ⟨q, hq, h⟩ := Option.bind_eq_some_iff.mp h
  by_cases c : e = true ∧ g = os ∧ ¬ q < 0 ∧ q = mI ∧ l2.length = (nmL a g).length
  · rw [if_pos c] at h
    obtain rfl := Option.some.inj h
    obtain ⟨rfl, rfl, c3, rfl, c5⟩ := c
    have c3b : decide (q < 0) = false := decide_eq_false c3
    generalize hl : nmL a g = l at *
    have hI : ∀ W, Calls Try.prog 32 #[.int .i64 a] W fun e w' => ∃ v : Value, e = .returned (.tuple #[.agg #[v], .bool g]) ∧ Kd.S k94 94 w' W.heap.size (fun _ => True) v l ∧ Below W.heap.size W w' := fun W => by
      rw [← hl]
      exact nm_impl k a g W hg
    have HS := Aside0.mk hs
    have HE := Aside0.mk he
    have HM := Aside0.mk hm
    have HQ := Aside0.mk hq
    have C5 := Aside0.mk c5
    have HI := Aside0.mk hI
    clear h hs hg he hm hq c3 c5 hI hl
    go_enter Try.func7, Try.ntmps7
    go_wp2_with (first
      | (go_at_call 31; refine (spec_NewMarks.calls a ls g _ HS.out).mono ?_; rintro e w1 ⟨v0, rfl, hs, hb⟩; obtain ⟨A0, c0, e0⟩ := Kd.S_slice hs; subst e0; have W0 := Aside0.mk (show Kd.S k94 94 w1 w.heap.size (fun k => k < w1.heap.size) (.slice A0 ls.length c0) ls from Kd.S_mono (Kd.S_bound hs) (fun _ h_ => h_.2.2.1)); have B1 := Aside0.mk hb; clear hs hb)
      | ((with_reducible refine gate_dst (N := 3) rfl ?_); refine box_event ?hg (N := 3) ?hd (cs := #[.slice none 0 0]) (t := 47) ?hr ?_; (case hd => rfl); (case hg => rfl); (case hr => first | (go_simp; done) | (go_simp; rfl)); intro g1 hg w2 hbox hb; have G1 := Aside0.mk (show w1.heap.size ≤ g1 by rw [hg]; exact Nat.le_refl _); have T2 := Aside0.mk (below_set (g := g1) (j := 0) (v := .slice A0 ls.length c0) hb G1.out); have K1 := Aside0.mk (blk_put (cs := #[.slice none 0 0]) hbox 0 (.slice A0 ls.length c0) rfl); have hcz1 : w2.cell? ⟨g1, 0, none⟩ = some (.slice none 0 0) := (blk_cell hbox 0).trans rfl; have hfz1 := blk_frozen hbox 0; clear hb hg hbox)
      | (go_at_call 32; refine (HI.out (w2.setCell ⟨g1, 0, none⟩ (.slice A0 ls.length c0))).mono ?_; rintro e w3 ⟨v1, rfl, hs, hb⟩; obtain ⟨A1, c1, e1⟩ := Kd.S_slice hs; subst e1; have BW := Aside0.mk (show Below w.heap.size w (w2.setCell ⟨g1, 0, none⟩ (.slice A0 ls.length c0)) from below_step B1.out T2.out); have ST := Aside0.mk (show Below (w2.setCell ⟨g1, 0, none⟩ (.slice A0 ls.length c0)).heap.size (w2.setCell ⟨g1, 0, none⟩ (.slice A0 ls.length c0)) w3 ∧ Kd.S k94 94 w3 w.heap.size (fun k => k < w1.heap.size) (.slice A0 ls.length c0) ls ∧ w3.heap[g1]? = some (.cells #[.slice A0 ls.length c0] 47 (0, 0)) ∧ Kd.S k94 94 w3 (w2.setCell ⟨g1, 0, none⟩ (.slice A0 ls.length c0)).heap.size (fun k => w1.heap.size ≤ k) (.slice A1 l.length c1) l from ⟨hb, Kd.S_below (Kd.S_below W0.out T2.out) hb, blk_below K1.out hb, Kd.S_mono (Kd.S_bound hs) (fun _ h_ => Nat.le_trans (below_size T2.out) h_.2.1)⟩); clear hs hb)
      | ((with_reducible refine gate_dst (N := 5) rfl ?_); refine box_event ?hg (N := 5) ?hd (cs := #[.slice none 0 0]) (t := 47) ?hr ?_; (case hd => rfl); (case hg => rfl); (case hr => first | (go_simp; done) | (go_simp; rfl)); intro g2 hg w4 hbox hb; have G2 := Aside0.mk (show w3.heap.size ≤ g2 by rw [hg]; exact Nat.le_refl _); have T4 := Aside0.mk (below_set (g := g2) (j := 0) (v := .slice A1 l.length c1) hb G2.out); have K2 := Aside0.mk (blk_put (cs := #[.slice none 0 0]) hbox 0 (.slice A1 l.length c1) rfl); have X4 := Aside0.mk (show nmSt w (w2.setCell ⟨g1, 0, none⟩ (.slice A0 ls.length c0)) (w4.setCell ⟨g2, 0, none⟩ (.slice A1 l.length c1)) w1.heap.size g1 g2 A0 c0 ls A1 l.length c1 l from ⟨below_step ST.out.1 T4.out, Kd.S_below ST.out.2.1 T4.out, blk_below ST.out.2.2.1 T4.out, Kd.S_below ST.out.2.2.2 T4.out, K2.out⟩); have hcz2 : w4.cell? ⟨g2, 0, none⟩ = some (.slice none 0 0) := (blk_cell hbox 0).trans rfl; have hfz2 := blk_frozen hbox 0; have hcz3 : (w4.setCell ⟨g2, 0, none⟩ (.slice A1 l.length c1)).cell? ⟨g2, 0, none⟩ = some (.slice A1 l.length c1) := (blk_cell X4.out.2.2.2.2 0).trans rfl; have hcz4 : (w4.setCell ⟨g2, 0, none⟩ (.slice A1 l.length c1)).cell? ⟨g1, 0, none⟩ = some (.slice A0 ls.length c0) := (blk_cell X4.out.2.2.1 0).trans rfl; clear hb hg hbox)
      | (go_at_call 33; refine (laws_eqMarks.calls k A1 c1 l A0 c0 ls true (w4.setCell ⟨g2, 0, none⟩ (.slice A1 l.length c1)) (Kd.S_reads' X4.out.2.2.2.1).2.2 (Kd.S_reads' X4.out.2.2.2.1).2.1 (Kd.S_reads' X4.out.2.1).2.2 (Kd.S_reads' X4.out.2.1).2.1 HE.out).mono ?_; rintro e w5 ⟨rfl, hb⟩; have X5 := Aside0.mk (X4.out.below hb); clear hb; have hcz5a : w5.cell? ⟨g2, 0, none⟩ = some (.slice A1 l.length c1) := (blk_cell X5.out.2.2.2.2 0).trans rfl; have hcz5b : w5.cell? ⟨g1, 0, none⟩ = some (.slice A0 ls.length c0) := (blk_cell X5.out.2.2.1 0).trans rfl)
      | (go_at_call 34; refine (mk_two k (fun k => w1.heap.size ≤ k) A1 c1 l l2 1 q (w2.setCell ⟨g1, 0, none⟩ (.slice A0 ls.length c0)) w5 X5.out.1 X5.out.2.2.2.1 HM.out).mono ?_; rintro e w6 ⟨rfl, hb, hs, hk⟩; have X6 := Aside0.mk (X5.out.marked hb hs hk); clear hb hs hk; have hcz6a : w6.cell? ⟨g2, 0, none⟩ = some (.slice A1 l.length c1) := (blk_cell X6.out.2.2.2.2 0).trans rfl; have hcz6b : w6.cell? ⟨g1, 0, none⟩ = some (.slice A0 ls.length c0) := (blk_cell X6.out.2.2.1 0).trans rfl)
      | (go_at_call 35; refine (show Calls Try.prog 35 #[.agg #[.slice A1 l.length c1], .int .i64 1] w6 _ from C5.out ▸ laws_heldMarks.calls k A1 c1 l2 1 q w6 (by have h_ := Kd.S_reads' X6.out.2.2.2.1; rw [← C5.out] at h_; exact h_.2.2) (by have h_ := Kd.S_reads' X6.out.2.2.2.1; rw [← C5.out] at h_; exact h_.2.1) HQ.out).mono ?_; rintro e w7 ⟨rfl, hb⟩; have X7 := Aside0.mk (X6.out.below hb); clear hb; have hcz7a : w7.cell? ⟨g2, 0, none⟩ = some (.slice A1 l.length c1) := (blk_cell X7.out.2.2.2.2 0).trans rfl; have hcz7b : w7.cell? ⟨g1, 0, none⟩ = some (.slice A0 ls.length c0) := (blk_cell X7.out.2.2.1 0).trans rfl)
      | (go_at_call 32; refine (HI.out w7).mono ?_; rintro e w8 ⟨v2, rfl, hs, hb⟩; obtain ⟨A2, c2, e2⟩ := Kd.S_slice hs; subst e2; have X8 := Aside0.mk (X7.out.below hb); have S8 := Aside0.mk hs; clear hb hs)
      | ((with_reducible refine gate_dst (N := 9) rfl ?_); refine box_event ?hg (N := 9) ?hd (cs := #[.slice none 0 0]) (t := 47) ?hr ?_; (case hd => rfl); (case hg => rfl); (case hr => first | (go_simp; done) | (go_simp; rfl)); intro g3 hg w9 hbox hb; have G3 := Aside0.mk (show w8.heap.size ≤ g3 by rw [hg]; exact Nat.le_refl _); have T9 := Aside0.mk (below_set (g := g3) (j := 0) (v := .slice A2 l.length c2) hb G3.out); have K3 := Aside0.mk (blk_put (cs := #[.slice none 0 0]) hbox 0 (.slice A2 l.length c2) rfl); have X9 := Aside0.mk (X8.out.below T9.out); have S9 := Aside0.mk (Kd.S_below S8.out T9.out); have hcz8 : w9.cell? ⟨g3, 0, none⟩ = some (.slice none 0 0) := (blk_cell hbox 0).trans rfl; have hfz8 := blk_frozen hbox 0; have hcz9 : (w9.setCell ⟨g3, 0, none⟩ (.slice A2 l.length c2)).cell? ⟨g3, 0, none⟩ = some (.slice A2 l.length c2) := (blk_cell K3.out 0).trans rfl; have hcz9a : (w9.setCell ⟨g3, 0, none⟩ (.slice A2 l.length c2)).cell? ⟨g2, 0, none⟩ = some (.slice A1 l.length c1) := (blk_cell X9.out.2.2.2.2 0).trans rfl; have hcz9b : (w9.setCell ⟨g3, 0, none⟩ (.slice A2 l.length c2)).cell? ⟨g1, 0, none⟩ = some (.slice A0 ls.length c0) := (blk_cell X9.out.2.2.1 0).trans rfl; clear hb hg hbox)
      | (go_at_call 33; refine (laws_eqMarks.calls k A2 c2 l A0 c0 ls true (w9.setCell ⟨g3, 0, none⟩ (.slice A2 l.length c2)) (Kd.S_reads' S9.out).2.2 (Kd.S_reads' S9.out).2.1 (Kd.S_reads' X9.out.2.1).2.2 (Kd.S_reads' X9.out.2.1).2.1 HE.out).mono ?_; rintro e w10 ⟨rfl, hb⟩; have X10 := Aside0.mk (X9.out.below hb); clear hb; have hcz10a : w10.cell? ⟨g2, 0, none⟩ = some (.slice A1 l.length c1) := (blk_cell X10.out.2.2.2.2 0).trans rfl; have hcz10b : w10.cell? ⟨g1, 0, none⟩ = some (.slice A0 ls.length c0) := (blk_cell X10.out.2.2.1 0).trans rfl)
      | (go_at_call 35; refine (show Calls Try.prog 35 #[.agg #[.slice A1 l.length c1], .int .i64 1] w10 _ from C5.out ▸ laws_heldMarks.calls k A1 c1 l2 1 q w10 (by have h_ := Kd.S_reads' X10.out.2.2.2.1; rw [← C5.out] at h_; exact h_.2.2) (by have h_ := Kd.S_reads' X10.out.2.2.2.1; rw [← C5.out] at h_; exact h_.2.1) HQ.out).mono ?_; rintro e w11 ⟨rfl, hb⟩; have X11 := Aside0.mk (X10.out.below hb); clear hb))
    go_ret
    exact ⟨by first | rfl | simp, BW.out.trans (X11.out.1.mono (below_size BW.out))⟩
  · rw [if_neg c] at h
    cases h
def laws_FnExactNewMarks.Pure : Prop := ∀ (a0 : Int), (Lit.int .i64 a0).wf = true → ∃ k, laws_FnExactNewMarks.f k a0 = some true

end Go.Proofs.Ytleklbmodelehaa.PFnExactNewMarks

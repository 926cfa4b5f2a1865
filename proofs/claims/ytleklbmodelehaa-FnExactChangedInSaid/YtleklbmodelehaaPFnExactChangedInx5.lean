/- Lean functions with the same answers as the Go functions that one law reaches, and for each a proof that its call comes to just these answers. No condition. Written by pr.py, a program of this session. -/
import Derived.Test.YtleklbmodelehaaCutFnExactChangedIn
import Derived.Test.YtleklbmodelehaaPFnExactChangedInx0
import Derived.Test.YtleklbmodelehaaPFnExactChangedInx4
namespace Go.Proofs.Ytleklbmodelehaa.PFnExactChangedIn
open Go.RowKit Go.Proofs.YtleklbmodelehaaW.PrintWords Go.Proofs.YtleklbmodelehaaW.PrintLast Go.Proofs.YtleklbmodelehaaW.PrintMore Go.Proofs.Ytleklbmodelehaa.Sq
attribute [local go_sem] max2_int min2_int max_two min_two max_three min_three max_four min_four   -- for this text's walks alone
set_option linter.unusedVariables false
set_option linter.unusedSimpArgs false

/-! ### spec_GoodMarks: function 37 -/
mutual
def spec_GoodMarks.l0 : Nat → List (S94) → Int → Int → List (S94) → Option (Bool)
  | 0, _, _, _, _ => none
  | k + 1, x8, x9, x10, x171000 => if x10 < x9 then (if 0 ≤ x10 then (if x10 < (x8.length : Int) then ((spec_l1In.f ((rd_T94 x8 x10).f0) 0 200).bind fun t174 => (if t174 = true then (if x10 > 0 then (if 0 ≤ (wrap64 (x10 - 1)) then (if (wrap64 (x10 - 1)) < (x171000.length : Int) then (if ((rd_T94 x171000 (wrap64 (x10 - 1))).f0) ≥ ((rd_T94 x8 x10).f0) then (spec_GoodMarks.j1 k x8 x9 x10 true x171000 ((rd_T94 x8 x10).f0) ((rd_T94 x8 x10).f1) ((rd_T94 x8 x10).f2)) else ((spec_l1Rising.f k ((rd_T94 x8 x10).f1) 0 15).bind fun t176 => (if t176 = true then (spec_GoodMarks.j1 k x8 x9 x10 ((((rd_T94 x8 x10).f2).length : Int) != (((rd_T94 x8 x10).f1).length : Int)) x171000 ((rd_T94 x8 x10).f0) ((rd_T94 x8 x10).f1) ((rd_T94 x8 x10).f2)) else (spec_GoodMarks.j1 k x8 x9 x10 true x171000 ((rd_T94 x8 x10).f0) ((rd_T94 x8 x10).f1) ((rd_T94 x8 x10).f2))))) else (none)) else (none)) else ((spec_l1Rising.f k ((rd_T94 x8 x10).f1) 0 15).bind fun t177 => (if t177 = true then (spec_GoodMarks.j1 k x8 x9 x10 ((((rd_T94 x8 x10).f2).length : Int) != (((rd_T94 x8 x10).f1).length : Int)) x171000 ((rd_T94 x8 x10).f0) ((rd_T94 x8 x10).f1) ((rd_T94 x8 x10).f2)) else (spec_GoodMarks.j1 k x8 x9 x10 true x171000 ((rd_T94 x8 x10).f0) ((rd_T94 x8 x10).f1) ((rd_T94 x8 x10).f2))))) else (spec_GoodMarks.j1 k x8 x9 x10 true x171000 ((rd_T94 x8 x10).f0) ((rd_T94 x8 x10).f1) ((rd_T94 x8 x10).f2)))) else (none)) else (none)) else ((spec_l1In.f (x171000.length : Int) 1 8).bind fun t171 => (some t171))
def spec_GoodMarks.j1 : Nat → List (S94) → Int → Int → Bool → List (S94) → Int → List Int → List ByteArray → Option (Bool)
  | 0, _, _, _, _, _, _, _, _ => none
  | k + 1, x8, x9, x10, x49, x171000, x174000, x174001, x174002 => if x49 = true then (some false) else (spec_GoodMarks.l1 k x8 x9 x10 x174002 (x174002.length : Int) 0 x171000)
def spec_GoodMarks.l1 : Nat → List (S94) → Int → Int → List ByteArray → Int → Int → List (S94) → Option (Bool)
  | 0, _, _, _, _, _, _, _ => none
  | k + 1, x8, x9, x10, x51, x52, x53, x171000 => if x53 < x52 then (if 0 ≤ x53 then (if x53 < (x51.length : Int) then ((spec_l7Data.f (rdOf ByteArray.empty x51 x53)).bind fun t179 => (if t179 = true then (spec_GoodMarks.l1 k x8 x9 x10 x51 x52 (wrap64 (x53 + 1)) x171000) else (some false))) else (none)) else (none)) else (spec_GoodMarks.l0 k x8 x9 (wrap64 (x10 + 1)) x171000)
end
def spec_GoodMarks.f (k : Nat) (l0_0 : List (S94)) : Option (Bool) := spec_GoodMarks.l0 k l0_0 (l0_0.length : Int) 0 l0_0
theorem spec_GoodMarks.mono_l : ∀ k, (∀ y0 y1 y2 y3, LeO (spec_GoodMarks.l0 k y0 y1 y2 y3) (spec_GoodMarks.l0 (k + 1) y0 y1 y2 y3)) ∧ (∀ y0 y1 y2 y3 y4 y5 y6 y7, LeO (spec_GoodMarks.j1 k y0 y1 y2 y3 y4 y5 y6 y7) (spec_GoodMarks.j1 (k + 1) y0 y1 y2 y3 y4 y5 y6 y7)) ∧ (∀ y0 y1 y2 y3 y4 y5 y6, LeO (spec_GoodMarks.l1 k y0 y1 y2 y3 y4 y5 y6) (spec_GoodMarks.l1 (k + 1) y0 y1 y2 y3 y4 y5 y6))
  | 0 => ⟨fun _ _ _ _ r h => by simp [spec_GoodMarks.l0] at h, fun _ _ _ _ _ _ _ _ r h => by simp [spec_GoodMarks.j1] at h, fun _ _ _ _ _ _ _ r h => by simp [spec_GoodMarks.l1] at h⟩
  | k + 1 => by
    obtain ⟨ih0, ih1, ih2⟩ := spec_GoodMarks.mono_l k
    refine ⟨?_, ?_, ?_⟩
    · intro y0 y1 y2 y3
      unfold spec_GoodMarks.l0
      repeat' first
      | (with_reducible exact ih0 _ _ _ _)
      | (with_reducible exact ih1 _ _ _ _ _ _ _ _)
      | (with_reducible exact ih2 _ _ _ _ _ _ _)
      | (with_reducible exact spec_l1Rising.mono _ _ _ _)
      | (with_reducible exact LeO.refl _)
      | (with_reducible exact LeO.none _)
      | (with_reducible refine LeO.ite ?_ ?_)
      | (with_reducible refine LeO.bind ?_ (fun _ => ?_))
      | exact ih0 _ _ _ _
      | exact ih1 _ _ _ _ _ _ _ _
      | exact ih2 _ _ _ _ _ _ _
      | exact spec_l1Rising.mono _ _ _ _
      | exact LeO.none _
      | refine LeO.ite ?_ ?_
      | refine LeO.bind ?_ (fun _ => ?_)
    · intro y0 y1 y2 y3 y4 y5 y6 y7
      unfold spec_GoodMarks.j1
      repeat' first
      | (with_reducible exact ih0 _ _ _ _)
      | (with_reducible exact ih1 _ _ _ _ _ _ _ _)
      | (with_reducible exact ih2 _ _ _ _ _ _ _)
      | (with_reducible exact spec_l1Rising.mono _ _ _ _)
      | (with_reducible exact LeO.refl _)
      | (with_reducible exact LeO.none _)
      | (with_reducible refine LeO.ite ?_ ?_)
      | (with_reducible refine LeO.bind ?_ (fun _ => ?_))
      | exact ih0 _ _ _ _
      | exact ih1 _ _ _ _ _ _ _ _
      | exact ih2 _ _ _ _ _ _ _
      | exact spec_l1Rising.mono _ _ _ _
      | exact LeO.none _
      | refine LeO.ite ?_ ?_
      | refine LeO.bind ?_ (fun _ => ?_)
    · intro y0 y1 y2 y3 y4 y5 y6
      unfold spec_GoodMarks.l1
      repeat' first
      | (with_reducible exact ih0 _ _ _ _)
      | (with_reducible exact ih1 _ _ _ _ _ _ _ _)
      | (with_reducible exact ih2 _ _ _ _ _ _ _)
      | (with_reducible exact spec_l1Rising.mono _ _ _ _)
      | (with_reducible exact LeO.refl _)
      | (with_reducible exact LeO.none _)
      | (with_reducible refine LeO.ite ?_ ?_)
      | (with_reducible refine LeO.bind ?_ (fun _ => ?_))
      | exact ih0 _ _ _ _
      | exact ih1 _ _ _ _ _ _ _ _
      | exact ih2 _ _ _ _ _ _ _
      | exact spec_l1Rising.mono _ _ _ _
      | exact LeO.none _
      | refine LeO.ite ?_ ?_
      | refine LeO.bind ?_ (fun _ => ?_)
theorem spec_GoodMarks.mono : ∀ a0 k, LeO (spec_GoodMarks.f k a0) (spec_GoodMarks.f (k + 1) a0) := by
  intro a0 k
  obtain ⟨ih0, ih1, ih2⟩ := spec_GoodMarks.mono_l k
  unfold spec_GoodMarks.f
  repeat' first
      | (with_reducible exact ih0 _ _ _ _)
      | (with_reducible exact ih1 _ _ _ _ _ _ _ _)
      | (with_reducible exact ih2 _ _ _ _ _ _ _)
      | (with_reducible exact spec_l1Rising.mono _ _ _ _)
      | (with_reducible exact LeO.refl _)
      | (with_reducible exact LeO.none _)
      | (with_reducible refine LeO.ite ?_ ?_)
      | (with_reducible refine LeO.bind ?_ (fun _ => ?_))
      | exact ih0 _ _ _ _
      | exact ih1 _ _ _ _ _ _ _ _
      | exact ih2 _ _ _ _ _ _ _
      | exact spec_l1Rising.mono _ _ _ _
      | exact LeO.none _
      | refine LeO.ite ?_ ?_
      | refine LeO.bind ?_ (fun _ => ?_)
def spec_GoodMarks.T4 : Bool × List (List Nat × List Nat) := (true, [([], []), ([0], [0]), ([1], [1]), ([2], [2]), ([3, 2], [3]), ([4], [4]), ([5, 4], [4, 5]), ([6, 4, 4], [4, 6]), ([7], [7]), ([8, 7], [7, 8]), ([7], [7]), ([10, 7], [7, 10]), ([9, 11, 7], [7, 9, 11]), ([12, 7], [7, 12]), ([13, 7], [7, 13]), ([7], [7]), ([15, 7], [7, 15]), ([14, 16, 7], [7, 14, 16]), ([7, 17, 4], [4, 7, 17]), ([4, 18], [4, 18]), ([19, 7], [19]), ([20], [20]), ([21, 20], [20, 21]), ([22, 20, 20], [20, 22]), ([23, 20], [20, 23]), ([20, 24], [20, 24]), ([25, 23], [25]), ([26], [26]), ([27, 26], [26, 27]), ([28, 26], [26, 28]), ([26], [26]), ([30, 26], [26, 30]), ([31, 26], [26, 31]), ([29, 32, 26], [26, 29, 32]), ([26, 33], [26, 33])])
def spec_GoodMarks.B4 : List Nat := [0, 1, 3, 7, 15, 31, 63, 127, 255, 511, 255, 1279, 4095, 8191, 16383, 255, 33023, 131071, 262143, 524287, 1048575, 2097151, 4194303, 8388607, 16777215, 33554431, 67108863, 134217727, 268435455, 536870911, 134217727, 1207959551, 3355443199, 8589934591, 17179869183]
theorem spec_GoodMarks.tab4 : rtab .any (opsOf Try.f37 4) = spec_GoodMarks.T4 := by kernel_rfl
theorem spec_GoodMarks.bits4 : waitsOk spec_GoodMarks.T4.2 spec_GoodMarks.B4 = true := by kernel_rfl
set_option maxHeartbeats 8000000 in
set_option maxRecDepth 100000 in
theorem spec_GoodMarks.calls (k : Nat) (A0_0 : Option Addr) (c0_0 : Nat) (l0_0 : List (S94)) (r : Bool) (w : World) (hr0_0 : Kd.C k94 w A0_0 l0_0.length l0_0) (hc0_0 : l0_0.length ≤ c0_0) (h : spec_GoodMarks.f k l0_0 = some r) :
    Calls Try.prog 37 #[.agg #[.slice A0_0 l0_0.length c0_0]] w fun e w' => e = .returned (.bool r) ∧ Below w.heap.size w w' := by
 have hu47 := Try.underlying47
 have hu94 := Try.underlying94
 have HR0_0 := Aside0.mk hr0_0
 have HC0_0 := Aside0.mk hc0_0
 clear hr0_0 hc0_0
 have HB := Aside0.mk (Below.refl w.heap.size w)
 have H : (spec_GoodMarks.l0 k l0_0 (l0_0.length : Int) 0 l0_0) = some r := h
 clear h
 have H' := Aside0.mk H
 clear H
 go_enter Try.func37, Try.ntmps37
 go_wp2_with (first | ((with_reducible refine gate_dst (N := 1) rfl ?_); (try (refine gate_guard (by rfl) ?_; dsimp only)); refine box_event ?hg (N := 1) ?hd (cs := #[.slice A0_0 l0_0.length c0_0]) (t := 47) ?hr ?_; (case hd => rfl); (case hg => rfl); (case hr => first | (go_simp; done) | (go_simp; rfl)); intro gb170 hg w2 hbox hb; have n0_ := Aside0.mk (below_step (by repeat (first | (with_reducible first | exact HB.out | apply below_alloc | apply pw_below_drewN | apply below_drew1) | exact HB.out)) hb); have n1_ := Aside0.mk (hbox); have n2_ := Aside0.mk ((by rw [hg]; exact (below_size (by repeat (first | (with_reducible first | exact HB.out | apply below_alloc | apply pw_below_drewN | apply below_drew1) | exact HB.out))) : w.heap.size ≤ gb170)); have n3_ := Aside0.mk ((by rw [hg]; exact (below_size (by repeat (first | (with_reducible first | exact HB.out | apply below_alloc | apply pw_below_drewN | apply below_drew1) | exact HB.out))) : w.heap.size ≤ gb170)); clear HB; have HB := n0_; have BK170 := n1_; have GW170 := n2_; have GE170 := n3_; clear n0_ n1_ n2_ n3_; clear hb hbox hg; have hcz3_0 : w2.cell? ⟨gb170, 0, none⟩ = some (.slice A0_0 l0_0.length c0_0) := (blk_cell BK170.out 0).trans rfl; have hfz3_0 := blk_frozen BK170.out 0))
 go_loopg [10] k (fun kq v10 w' => ∃ (x10_1 : Int), v10 = .int .i64 x10_1 ∧ Aside0 (spec_GoodMarks.l0 kq l0_0 (l0_0.length : Int) x10_1 l0_0 = some r) ∧ Aside0 (kq ≤ k) ∧ Aside0 (w'.heap[gb170]? = some (.cells #[(.slice A0_0 l0_0.length c0_0)] 47 (0, 0))) ∧ Aside0 (Below w.heap.size w w'))
 case atStart => exact ⟨(0), (by first | rfl | (simp; done) | (simp [*]; done)), H', ⟨Nat.le_refl _⟩, ⟨by (with_reducible repeat (first | refine blk_drewN ?_ _ | refine blk_drew ?_ | refine blk_alloc ?_ _)); exact BK170.out⟩, ⟨by repeat (first | (with_reducible first | exact HB.out | apply below_alloc | apply pw_below_drewN | apply below_drew1 | refine below_set ?_ GE170.out) | exact HB.out)⟩⟩
 case round =>
  clear H'
  try clear p2
  try clear c3
  try clear hcz3_0
  try clear hfz3_0
  obtain ⟨x10_1, rfl, HA, HK1, BK170, HB⟩ := hrel
  cases gk with
  | zero => exact absurd HA.out (by simp [spec_GoodMarks.l0])
  | succ k1 =>
   have H := HA.out
   clear HA
   simp only [spec_GoodMarks.l0] at H
   by_cases c4 : x10_1 < (l0_0.length : Int)
   ·rw [if_pos c4] at H
    have c4b0 : decide (x10_1 < (l0_0.length : Int)) = true := decide_eq_true c4
    clear c4
    by_cases c5 : 0 ≤ x10_1
    ·rw [if_pos c5] at H
     have c5b0 : decide (0 ≤ x10_1) = true := decide_eq_true c5
     clear c5
     by_cases c6 : x10_1 < (l0_0.length : Int)
     ·rw [if_pos c6] at H
      have c6b0 : decide (x10_1 < (l0_0.length : Int)) = true := decide_eq_true c6
      clear c6
      have HC7 := Aside0.mk H
      clear H
      have p172 : 0 ≤ (x10_1 : Int) := of_decide_eq_true (by first | (with_reducible assumption) | assumption)
      have q172 : x10_1 < (l0_0.length : Int) := of_decide_eq_true (by first | (with_reducible assumption) | assumption)
      obtain ⟨ad172, A172_1, c172_1, A172_2, c172_2, e172, hx172_0, hx172_1, hx172_2, hl172_1, hi172_1, hl172_2, hi172_2⟩ := at_T94 HR0_0.out x10_1 p172 q172
      cases e172
      replace hx172_0 := (HB.out.cell (World.block_lt_of_cell? w _ hx172_0)).trans hx172_0
      replace hx172_1 := (HB.out.cell (World.block_lt_of_cell? w _ hx172_1)).trans hx172_1
      replace hx172_2 := (HB.out.cell (World.block_lt_of_cell? w _ hx172_2)).trans hx172_2
      have HR172_1 := Aside0.mk hi172_1
      have HC172_1 := Aside0.mk hl172_1
      clear hi172_1 hl172_1
      have HR172_2 := Aside0.mk hi172_2
      have HC172_2 := Aside0.mk hl172_2
      clear hi172_2 hl172_2
      replace p172 := eq_true p172
      replace q172 := eq_true q172
      go_upto_region 4 with (first | ((with_reducible refine gate_dst (N := 4) rfl ?_); (try (refine gate_guard (by rfl) ?_; dsimp only)); refine box_event ?hg (N := 4) ?hd (cs := #[.int .i64 0, .slice none 0 0, .slice none 0 0]) (t := 94) ?hr ?_; (case hd => rfl); (case hg => rfl); (case hr => first | (go_simp; done) | (go_simp; rfl)); intro gb173 hg w8 hbox hb; have n0_ := Aside0.mk (blk_below (g := gb170) (o := .cells #[.slice (some ad172) l0_0.length c0_0] 47 (0, 0)) (by (with_reducible repeat (first | refine blk_drewN ?_ _ | refine blk_drew ?_ | refine blk_alloc ?_ _)); exact BK170.out) hb); have n1_ := Aside0.mk (below_step (by repeat (first | (with_reducible first | exact HB.out | apply below_alloc | apply pw_below_drewN | apply below_drew1 | refine below_set ?_ GE170.out) | exact HB.out)) hb); have n2_ := Aside0.mk (hbox); have n3_ := Aside0.mk ((by rw [hg]; exact (below_size (by repeat (first | (with_reducible first | exact HB.out | apply below_alloc | apply pw_below_drewN | apply below_drew1 | refine below_set ?_ GE170.out) | exact HB.out))) : w.heap.size ≤ gb173)); have n4_ := Aside0.mk ((by rw [hg]; exact (below_size (by repeat (first | (with_reducible first | exact HB.out | apply below_alloc | apply pw_below_drewN | apply below_drew1 | refine below_set ?_ GE170.out) | exact HB.out))) : w.heap.size ≤ gb173)); have n5_ := Aside0.mk ((by rw [hg]; exact Nat.ne_of_lt (blk_lt (g := gb170) (o := .cells #[.slice (some ad172) l0_0.length c0_0] 47 (0, 0)) (by (with_reducible repeat (first | refine blk_drewN ?_ _ | refine blk_drew ?_ | refine blk_alloc ?_ _)); exact BK170.out)) : gb170 ≠ gb173)); have n6_ := Aside0.mk ((by rw [hg]; exact Nat.ne_of_gt (blk_lt (g := gb170) (o := .cells #[.slice (some ad172) l0_0.length c0_0] 47 (0, 0)) (by (with_reducible repeat (first | refine blk_drewN ?_ _ | refine blk_drew ?_ | refine blk_alloc ?_ _)); exact BK170.out)) : gb173 ≠ gb170)); clear BK170; clear HB; have BK170 := n0_; have HB := n1_; have BK173 := n2_; have GW173 := n3_; have GE173 := n4_; have NB170_173 := n5_; have NB173_170 := n6_; clear n0_ n1_ n2_ n3_ n4_ n5_ n6_; clear hb hbox hg; have hnb9 := NB173_170.out; have hnc9 := NB170_173.out; have hcz10_0 : w8.cell? ⟨gb173, 0, none⟩ = some (.int .i64 0) := (blk_cell BK173.out 0).trans rfl; have hcz10_1 : w8.cell? ⟨gb173, 1, none⟩ = some (.slice none 0 0) := (blk_cell BK173.out 1).trans rfl; have hcz10_2 : w8.cell? ⟨gb173, 2, none⟩ = some (.slice none 0 0) := (blk_cell BK173.out 2).trans rfl; have hfz10_0 := blk_frozen BK173.out 0; have hfz10_1 := blk_frozen BK173.out 1; have hfz10_2 := blk_frozen BK173.out 2))
      (try simp only [Act.put, List.setIfInBounds_toArray, List.set_cons_zero, List.set_cons_succ])
      go_cut [49] (fun v49 wc => ∃ (kq : Nat) (x49_6 : Bool), v49 = .bool x49_6 ∧ Aside0 (spec_GoodMarks.j1 kq l0_0 (l0_0.length : Int) x10_1 x49_6 l0_0 ((rd_T94 l0_0 x10_1).f0) ((rd_T94 l0_0 x10_1).f1) ((rd_T94 l0_0 x10_1).f2) = some r) ∧ Aside0 (kq ≤ k1) ∧ Aside0 (wc.heap[gb170]? = some (.cells #[(.slice (some ad172) l0_0.length c0_0)] 47 (0, 0))) ∧ Aside0 (wc.heap[gb173]? = some (.cells #[.int .i64 ((rd_T94 l0_0 x10_1).f0), (.slice A172_1 ((rd_T94 l0_0 x10_1).f1).length c172_1), (.slice A172_2 ((rd_T94 l0_0 x10_1).f2).length c172_2)] 94 (0, 0))) ∧ Aside0 (Below w.heap.size w wc))
      case first =>
       have H := HC7.out
       clear HC7
       replace H := Option.bind_eq_some_iff.mp H
       obtain ⟨t174, A110, H⟩ := H
       replace H : (if t174 = true then (if x10_1 > 0 then (if 0 ≤ (wrap64 (x10_1 - 1)) then (if (wrap64 (x10_1 - 1)) < (l0_0.length : Int) then (if ((rd_T94 l0_0 (wrap64 (x10_1 - 1))).f0) ≥ ((rd_T94 l0_0 x10_1).f0) then (spec_GoodMarks.j1 k1 l0_0 (l0_0.length : Int) x10_1 true l0_0 ((rd_T94 l0_0 x10_1).f0) ((rd_T94 l0_0 x10_1).f1) ((rd_T94 l0_0 x10_1).f2)) else ((spec_l1Rising.f k1 ((rd_T94 l0_0 x10_1).f1) 0 15).bind fun t176 => (if t176 = true then (spec_GoodMarks.j1 k1 l0_0 (l0_0.length : Int) x10_1 ((((rd_T94 l0_0 x10_1).f2).length : Int) != (((rd_T94 l0_0 x10_1).f1).length : Int)) l0_0 ((rd_T94 l0_0 x10_1).f0) ((rd_T94 l0_0 x10_1).f1) ((rd_T94 l0_0 x10_1).f2)) else (spec_GoodMarks.j1 k1 l0_0 (l0_0.length : Int) x10_1 true l0_0 ((rd_T94 l0_0 x10_1).f0) ((rd_T94 l0_0 x10_1).f1) ((rd_T94 l0_0 x10_1).f2))))) else (none)) else (none)) else ((spec_l1Rising.f k1 ((rd_T94 l0_0 x10_1).f1) 0 15).bind fun t177 => (if t177 = true then (spec_GoodMarks.j1 k1 l0_0 (l0_0.length : Int) x10_1 ((((rd_T94 l0_0 x10_1).f2).length : Int) != (((rd_T94 l0_0 x10_1).f1).length : Int)) l0_0 ((rd_T94 l0_0 x10_1).f0) ((rd_T94 l0_0 x10_1).f1) ((rd_T94 l0_0 x10_1).f2)) else (spec_GoodMarks.j1 k1 l0_0 (l0_0.length : Int) x10_1 true l0_0 ((rd_T94 l0_0 x10_1).f0) ((rd_T94 l0_0 x10_1).f1) ((rd_T94 l0_0 x10_1).f2))))) else (spec_GoodMarks.j1 k1 l0_0 (l0_0.length : Int) x10_1 true l0_0 ((rd_T94 l0_0 x10_1).f0) ((rd_T94 l0_0 x10_1).f1) ((rd_T94 l0_0 x10_1).f2))) = some r := H
       have A11 := Aside0.mk A110
       clear A110
       by_cases c12 : t174 = true
       ·subst c12
        have H1 : (if x10_1 > 0 then (if 0 ≤ (wrap64 (x10_1 - 1)) then (if (wrap64 (x10_1 - 1)) < (l0_0.length : Int) then (if ((rd_T94 l0_0 (wrap64 (x10_1 - 1))).f0) ≥ ((rd_T94 l0_0 x10_1).f0) then (spec_GoodMarks.j1 k1 l0_0 (l0_0.length : Int) x10_1 true l0_0 ((rd_T94 l0_0 x10_1).f0) ((rd_T94 l0_0 x10_1).f1) ((rd_T94 l0_0 x10_1).f2)) else ((spec_l1Rising.f k1 ((rd_T94 l0_0 x10_1).f1) 0 15).bind fun t176 => (if t176 = true then (spec_GoodMarks.j1 k1 l0_0 (l0_0.length : Int) x10_1 ((((rd_T94 l0_0 x10_1).f2).length : Int) != (((rd_T94 l0_0 x10_1).f1).length : Int)) l0_0 ((rd_T94 l0_0 x10_1).f0) ((rd_T94 l0_0 x10_1).f1) ((rd_T94 l0_0 x10_1).f2)) else (spec_GoodMarks.j1 k1 l0_0 (l0_0.length : Int) x10_1 true l0_0 ((rd_T94 l0_0 x10_1).f0) ((rd_T94 l0_0 x10_1).f1) ((rd_T94 l0_0 x10_1).f2))))) else (none)) else (none)) else ((spec_l1Rising.f k1 ((rd_T94 l0_0 x10_1).f1) 0 15).bind fun t177 => (if t177 = true then (spec_GoodMarks.j1 k1 l0_0 (l0_0.length : Int) x10_1 ((((rd_T94 l0_0 x10_1).f2).length : Int) != (((rd_T94 l0_0 x10_1).f1).length : Int)) l0_0 ((rd_T94 l0_0 x10_1).f0) ((rd_T94 l0_0 x10_1).f1) ((rd_T94 l0_0 x10_1).f2)) else (spec_GoodMarks.j1 k1 l0_0 (l0_0.length : Int) x10_1 true l0_0 ((rd_T94 l0_0 x10_1).f0) ((rd_T94 l0_0 x10_1).f1) ((rd_T94 l0_0 x10_1).f2))))) = some r := by rw [if_pos rfl] at H; exact H
        clear H
        have H := H1
        clear H1
        by_cases c13 : x10_1 > 0
        ·rw [if_pos c13] at H
         have c13b0 : decide (0 < x10_1) = true := decide_eq_true c13
         clear c13
         (first | rw [c13b0] | (simp only [i64_w, i32_w]; rw [c13b0]) | skip)
         obtain ⟨ji14, hji14⟩ : ∃ j_ : Int, (wrap64 (x10_1 - 1)) = j_ := ⟨_, rfl⟩
         replace H : (if 0 ≤ (ji14) then (if (ji14) < (l0_0.length : Int) then (if ((rd_T94 l0_0 (ji14)).f0) ≥ ((rd_T94 l0_0 x10_1).f0) then (spec_GoodMarks.j1 k1 l0_0 (l0_0.length : Int) x10_1 true l0_0 ((rd_T94 l0_0 x10_1).f0) ((rd_T94 l0_0 x10_1).f1) ((rd_T94 l0_0 x10_1).f2)) else ((spec_l1Rising.f k1 ((rd_T94 l0_0 x10_1).f1) 0 15).bind fun t176 => (if t176 = true then (spec_GoodMarks.j1 k1 l0_0 (l0_0.length : Int) x10_1 ((((rd_T94 l0_0 x10_1).f2).length : Int) != (((rd_T94 l0_0 x10_1).f1).length : Int)) l0_0 ((rd_T94 l0_0 x10_1).f0) ((rd_T94 l0_0 x10_1).f1) ((rd_T94 l0_0 x10_1).f2)) else (spec_GoodMarks.j1 k1 l0_0 (l0_0.length : Int) x10_1 true l0_0 ((rd_T94 l0_0 x10_1).f0) ((rd_T94 l0_0 x10_1).f1) ((rd_T94 l0_0 x10_1).f2))))) else (none)) else (none)) = some r := by first | (rw [hji14] at H; exact H) | (simp only [hji14] at H ⊢; exact H)
         (try rw [hji14] at A11)
         have hji14w : (IntKind.i64.wrap (x10_1 - 1)) = ji14 := (i64_w _).trans hji14
         by_cases c15 : 0 ≤ (ji14)
         ·rw [if_pos c15] at H
          have c15b0 : decide (0 ≤ (ji14)) = true := decide_eq_true c15
          clear c15
          by_cases c16 : (ji14) < (l0_0.length : Int)
          ·rw [if_pos c16] at H
           have c16b0 : decide ((ji14) < (l0_0.length : Int)) = true := decide_eq_true c16
           clear c16
           by_cases c17 : ((rd_T94 l0_0 (ji14)).f0) ≥ ((rd_T94 l0_0 x10_1).f0)
           ·rw [if_pos c17] at H
            have c17b0 : decide (((rd_T94 l0_0 x10_1).f0) ≤ ((rd_T94 l0_0 (ji14)).f0)) = true := decide_eq_true c17
            clear c17
            have H' := Aside0.mk H
            clear H
            try go_wp2
            have n0_ : Aside0 ((((w8.setCell ⟨gb173, 0, none⟩ (.int .i64 ((rd_T94 l0_0 x10_1).f0))).setCell ⟨gb173, 1, none⟩ (.slice A172_1 ((rd_T94 l0_0 x10_1).f1).length c172_1)).setCell ⟨gb173, 2, none⟩ (.slice A172_2 ((rd_T94 l0_0 x10_1).f2).length c172_2)).heap[gb170]? = some (.cells #[.slice (some ad172) l0_0.length c0_0] 47 (0, 0))) := ⟨by (with_reducible repeat (first | refine blk_drewN ?_ _ | refine blk_drew ?_ | refine blk_alloc ?_ _)); refine blk_far ?_ NB170_173.out _; (with_reducible repeat (first | refine blk_drewN ?_ _ | refine blk_drew ?_ | refine blk_alloc ?_ _)); refine blk_far ?_ NB170_173.out _; (with_reducible repeat (first | refine blk_drewN ?_ _ | refine blk_drew ?_ | refine blk_alloc ?_ _)); refine blk_far ?_ NB170_173.out _; (with_reducible repeat (first | refine blk_drewN ?_ _ | refine blk_drew ?_ | refine blk_alloc ?_ _)); exact BK170.out⟩
            have n1_ : Aside0 ((((w8.setCell ⟨gb173, 0, none⟩ (.int .i64 ((rd_T94 l0_0 x10_1).f0))).setCell ⟨gb173, 1, none⟩ (.slice A172_1 ((rd_T94 l0_0 x10_1).f1).length c172_1)).setCell ⟨gb173, 2, none⟩ (.slice A172_2 ((rd_T94 l0_0 x10_1).f2).length c172_2)).heap[gb173]? = some (.cells #[.int .i64 ((rd_T94 l0_0 x10_1).f0), .slice A172_1 ((rd_T94 l0_0 x10_1).f1).length c172_1, .slice A172_2 ((rd_T94 l0_0 x10_1).f2).length c172_2] 94 (0, 0))) := ⟨by (with_reducible repeat (first | refine blk_drewN ?_ _ | refine blk_drew ?_ | refine blk_alloc ?_ _)); refine blk_put (cs := #[.int .i64 ((rd_T94 l0_0 x10_1).f0), .slice A172_1 ((rd_T94 l0_0 x10_1).f1).length c172_1, .slice none 0 0]) ?_ 2 _ rfl; (with_reducible repeat (first | refine blk_drewN ?_ _ | refine blk_drew ?_ | refine blk_alloc ?_ _)); refine blk_put (cs := #[.int .i64 ((rd_T94 l0_0 x10_1).f0), .slice none 0 0, .slice none 0 0]) ?_ 1 _ rfl; (with_reducible repeat (first | refine blk_drewN ?_ _ | refine blk_drew ?_ | refine blk_alloc ?_ _)); refine blk_put (cs := #[.int .i64 0, .slice none 0 0, .slice none 0 0]) ?_ 0 _ rfl; (with_reducible repeat (first | refine blk_drewN ?_ _ | refine blk_drew ?_ | refine blk_alloc ?_ _)); exact BK173.out⟩
            have n2_ : Aside0 (Below w.heap.size w (((w8.setCell ⟨gb173, 0, none⟩ (.int .i64 ((rd_T94 l0_0 x10_1).f0))).setCell ⟨gb173, 1, none⟩ (.slice A172_1 ((rd_T94 l0_0 x10_1).f1).length c172_1)).setCell ⟨gb173, 2, none⟩ (.slice A172_2 ((rd_T94 l0_0 x10_1).f2).length c172_2))) := ⟨by repeat (first | (with_reducible first | exact HB.out | apply below_alloc | apply pw_below_drewN | apply below_drew1 | refine below_set ?_ GE170.out | refine below_set ?_ GE173.out) | exact HB.out)⟩
            (try clear BK170)
            (try clear BK173)
            (try clear HB)
            generalize (((w8.setCell ⟨gb173, 0, none⟩ (.int .i64 ((rd_T94 l0_0 x10_1).f0))).setCell ⟨gb173, 1, none⟩ (.slice A172_1 ((rd_T94 l0_0 x10_1).f1).length c172_1)).setCell ⟨gb173, 2, none⟩ (.slice A172_2 ((rd_T94 l0_0 x10_1).f2).length c172_2)) = w18 at n0_ n1_ n2_ ⊢
            have BK170 := n0_
            have BK173 := n1_
            have HB := n2_
            clear n0_ n1_ n2_
            have n0_ := Aside0.mk (blk_drew BK170.out)
            have n1_ := Aside0.mk (blk_drew BK173.out)
            have n2_ := Aside0.mk (below_drew1 HB.out)
            clear BK170
            clear BK173
            clear HB
            have BK170 := n0_
            have BK173 := n1_
            have HB := n2_
            clear n0_ n1_ n2_
            have p175 : 0 ≤ ((ji14) : Int) := of_decide_eq_true (by first | (with_reducible assumption) | assumption)
            have q175 : (ji14) < (l0_0.length : Int) := of_decide_eq_true (by first | (with_reducible assumption) | assumption)
            obtain ⟨ad175, A175_1, c175_1, A175_2, c175_2, e175, hx175_0, hx175_1, hx175_2, hl175_1, hi175_1, hl175_2, hi175_2⟩ := at_T94 HR0_0.out (ji14) p175 q175
            have hw175_2 := hx175_2
            have hw175_1 := hx175_1
            have hw175_0 := hx175_0
            obtain rfl : ad172 = ad175 := (by injection e175)
            replace hx175_0 := (HB.out.cell (World.block_lt_of_cell? w _ hx175_0)).trans hx175_0
            replace hx175_1 := (HB.out.cell (World.block_lt_of_cell? w _ hx175_1)).trans hx175_1
            replace hx175_2 := (HB.out.cell (World.block_lt_of_cell? w _ hx175_2)).trans hx175_2
            have HR175_1 := Aside0.mk hi175_1
            have HC175_1 := Aside0.mk hl175_1
            clear hi175_1 hl175_1
            have HR175_2 := Aside0.mk hi175_2
            have HC175_2 := Aside0.mk hl175_2
            clear hi175_2 hl175_2
            replace p175 := eq_true p175
            replace q175 := eq_true q175
            refine start_ (n := 35) (S := fun w' => w'.cell? ⟨gb173, 0, none⟩ = some (.int .i64 ((rd_T94 l0_0 x10_1).f0)) ∧ w'.cell? ⟨gb173, 1, none⟩ = some (.slice A172_1 ((rd_T94 l0_0 x10_1).f1).length c172_1) ∧ w'.cell? ⟨gb173, 2, none⟩ = some (.slice A172_2 ((rd_T94 l0_0 x10_1).f2).length c172_2) ∧ w'.cell? ⟨gb170, 0, none⟩ = some (.slice (some ad172) l0_0.length c0_0) ∧ w'.cell? (ad172.add (((ji14)).toNat * 3)) = some (.int .i64 ((rd_T94 l0_0 (ji14)).f0)) ∧ w'.cell? ⟨(ad172.add (((ji14)).toNat * 3)).block, (ad172.add (((ji14)).toNat * 3)).off + 1, none⟩ = some (.slice A175_1 ((rd_T94 l0_0 (ji14)).f1).length c175_1) ∧ w'.cell? ⟨(ad172.add (((ji14)).toNat * 3)).block, (ad172.add (((ji14)).toNat * 3)).off + 2, none⟩ = some (.slice A175_2 ((rd_T94 l0_0 (ji14)).f2).length c175_2)) (ds := []) (pz 35 0) (by kernel_rfl) rfl rfl ⟨(blk_cell BK173.out 0).trans rfl, (blk_cell BK173.out 1).trans rfl, (blk_cell BK173.out 2).trans rfl, (blk_cell BK170.out 0).trans rfl, ((HB.out.cell (World.block_lt_of_cell? w _ hw175_0)).trans hw175_0), ((HB.out.cell (World.block_lt_of_cell? w _ hw175_1)).trans hw175_1), ((HB.out.cell (World.block_lt_of_cell? w _ hw175_2)).trans hw175_2)⟩ (fun hHeld => ?_); refine with_tabW spec_GoodMarks.tab4 spec_GoodMarks.bits4 (fun HT_ HW_ => ?_)
            generalize w18.drew = w19 at BK170 BK173 HB HR175_1 HR175_2 hx175_0 hx175_1 hx175_2 hHeld ⊢
            refine sR 0 15 (pz 35 1) HT_ ?_
            refine sT 1 16 (pz 35 2) rfl rfl HT_ HW_ hHeld (by rintro w' ⟨s0, s1, s2, s3, s4, s5, s6⟩; go_simp; with_reducible rfl) ?_
            refine one_ (i := 2) (N := some 17) (pz 35 3) rfl rfl (one_of HT_.out (by kernel_rfl)) (by decide) (fun K hK => ?_)
            refine goes_ Try.func59 (by kernel_rfl) rfl #[.int .i64 ((rd_T94 l0_0 x10_1).f0), .int .i64 0, .int .i64 200] (by rfl) rfl rfl (by (try simp only [List.map_toArray, List.map_cons, List.map_nil]); first | done | rfl | (simp only [List.length_drop, List.length_take]; rfl)) ?_
            with_reducible refine (spec_l1In.calls ((rd_T94 l0_0 x10_1).f0) 0 200 true _ A11.out).mono ?_
            rintro e w' ⟨rfl, ⟨nd, rfl⟩⟩
            refine ⟨_, rfl, ?_⟩
            refine hK.out _ _ ⟨(blk_cell BK173.out 0).trans rfl, (blk_cell BK173.out 1).trans rfl, (blk_cell BK173.out 2).trans rfl, (blk_cell BK170.out 0).trans rfl, ((HB.out.cell (World.block_lt_of_cell? w _ hw175_0)).trans hw175_0), ((HB.out.cell (World.block_lt_of_cell? w _ hw175_1)).trans hw175_1), ((HB.out.cell (World.block_lt_of_cell? w _ hw175_2)).trans hw175_2)⟩ (fun hHeld => ?_)
            clear hK K
            refine norm_ (a' := ?_) ?_ ?_
            rotate_left
            ·show Act.put _ (some 17) _ = _
             simp only [Act.put, List.setIfInBounds_toArray, List.set_cons_zero, List.set_cons_succ, i64_w, i32_w]
             rfl
            refine sR 3 18 (pz 35 4) HT_ ?_
            refine sR 4 19 (pz 35 5) HT_ ?_
            refine sR 5 20 (pz 35 6) HT_ ?_
            refine sR 6 21 (pz 35 7) HT_ ?_
            refine sR 7 22 (pz 35 8) HT_ ?_
            refine sR 8 23 (pz 35 9) HT_ ?_
            refine sR 10 25 #[true, true, true, true, true, true, true, true, true, false, true, false, false, false, false, false, false, false, false, false, false, false, false, false, false, false, false, false, false, false, false, false, false, false, false] HT_ ?_
            refine sR 11 26 #[true, true, true, true, true, true, true, true, true, false, true, true, false, false, false, false, false, false, false, false, false, false, false, false, false, false, false, false, false, false, false, false, false, false, false] HT_ ?_
            refine sR 15 30 #[true, true, true, true, true, true, true, true, true, false, true, true, false, false, false, true, false, false, false, false, false, false, false, false, false, false, false, false, false, false, false, false, false, false, false] HT_ ?_
            refine sT 9 24 #[true, true, true, true, true, true, true, true, true, true, true, true, false, false, false, true, false, false, false, false, false, false, false, false, false, false, false, false, false, false, false, false, false, false, false] rfl rfl HT_ HW_ hHeld (by rintro w' ⟨s0, s1, s2, s3, s4, s5, s6⟩; go_simp; with_reducible rfl) ?_
            refine sR 12 27 #[true, true, true, true, true, true, true, true, true, true, true, true, true, false, false, true, false, false, false, false, false, false, false, false, false, false, false, false, false, false, false, false, false, false, false] HT_ ?_
            refine sR 13 28 #[true, true, true, true, true, true, true, true, true, true, true, true, true, true, false, true, false, false, false, false, false, false, false, false, false, false, false, false, false, false, false, false, false, false, false] HT_ ?_
            refine sT 14 29 (pz 35 16) rfl rfl HT_ HW_ hHeld (by rintro w' ⟨s0, s1, s2, s3, s4, s5, s6⟩; go_simp; with_reducible rfl) ?_
            refine sT 16 31 (pz 35 17) rfl rfl HT_ HW_ hHeld (by rintro w' ⟨s0, s1, s2, s3, s4, s5, s6⟩; go_simp; with_reducible rfl) ?_
            refine sR 17 32 (pz 35 18) HT_ ?_
            refine sR 18 33 (pz 35 19) HT_ ?_
            refine sR 19 34 (pz 35 20) HT_ ?_
            refine sR 20 35 (pz 35 21) HT_ ?_
            refine sU 21 36 (pz 35 22) HT_ ?_
            refine sU 22 37 (pz 35 23) HT_ ?_
            refine sU 23 38 (pz 35 24) HT_ ?_
            refine sU 24 39 (pz 35 25) HT_ ?_
            refine sR 25 40 (pz 35 26) HT_ ?_
            refine sR 26 41 (pz 35 27) HT_ ?_
            refine sU 27 42 (pz 35 28) HT_ ?_
            refine sU 28 43 (pz 35 29) HT_ ?_
            refine sU 29 44 (pz 35 30) HT_ ?_
            refine sU 30 45 (pz 35 31) HT_ ?_
            refine sU 31 46 (pz 35 32) HT_ ?_
            refine sU 32 47 (pz 35 33) HT_ ?_
            refine sU 33 48 (pz 35 34) HT_ ?_
            refine sR 34 49 (pz 35 35) HT_ ?_
            refine done_ (done_of HT_.out (by kernel_rfl)) ?_
            try go_wp2
            go_meet
            case rel => exact ⟨_, (true), (by first | rfl | (simp; done) | (simp [*]; done)), H', ⟨by have := HK1.out; first | omega | exact Nat.le_refl _⟩, ⟨by (with_reducible repeat (first | refine blk_drewN ?_ _ | refine blk_drew ?_ | refine blk_alloc ?_ _)); exact BK170.out⟩, ⟨by (with_reducible repeat (first | refine blk_drewN ?_ _ | refine blk_drew ?_ | refine blk_alloc ?_ _)); exact BK173.out⟩, ⟨by repeat (first | (with_reducible first | exact HB.out | apply below_alloc | apply pw_below_drewN | apply below_drew1 | refine below_set ?_ GE170.out | refine below_set ?_ GE173.out) | exact HB.out)⟩⟩
           ·rw [if_neg c17] at H
            have c17b0 : decide (((rd_T94 l0_0 x10_1).f0) ≤ ((rd_T94 l0_0 (ji14)).f0)) = false := decide_eq_false c17
            clear c17
            replace H := Option.bind_eq_some_iff.mp H
            obtain ⟨t176, A200, H⟩ := H
            replace H : (if t176 = true then (spec_GoodMarks.j1 k1 l0_0 (l0_0.length : Int) x10_1 ((((rd_T94 l0_0 x10_1).f2).length : Int) != (((rd_T94 l0_0 x10_1).f1).length : Int)) l0_0 ((rd_T94 l0_0 x10_1).f0) ((rd_T94 l0_0 x10_1).f1) ((rd_T94 l0_0 x10_1).f2)) else (spec_GoodMarks.j1 k1 l0_0 (l0_0.length : Int) x10_1 true l0_0 ((rd_T94 l0_0 x10_1).f0) ((rd_T94 l0_0 x10_1).f1) ((rd_T94 l0_0 x10_1).f2))) = some r := H
            have A20 := Aside0.mk A200
            clear A200
            by_cases c21 : t176 = true
            ·subst c21
             have H1 : (spec_GoodMarks.j1 k1 l0_0 (l0_0.length : Int) x10_1 ((((rd_T94 l0_0 x10_1).f2).length : Int) != (((rd_T94 l0_0 x10_1).f1).length : Int)) l0_0 ((rd_T94 l0_0 x10_1).f0) ((rd_T94 l0_0 x10_1).f1) ((rd_T94 l0_0 x10_1).f2)) = some r := by rw [if_pos rfl] at H; exact H
             clear H
             have H := H1
             clear H1
             have H' := Aside0.mk H
             clear H
             try go_wp2
             have n0_ : Aside0 ((((w8.setCell ⟨gb173, 0, none⟩ (.int .i64 ((rd_T94 l0_0 x10_1).f0))).setCell ⟨gb173, 1, none⟩ (.slice A172_1 ((rd_T94 l0_0 x10_1).f1).length c172_1)).setCell ⟨gb173, 2, none⟩ (.slice A172_2 ((rd_T94 l0_0 x10_1).f2).length c172_2)).heap[gb170]? = some (.cells #[.slice (some ad172) l0_0.length c0_0] 47 (0, 0))) := ⟨by (with_reducible repeat (first | refine blk_drewN ?_ _ | refine blk_drew ?_ | refine blk_alloc ?_ _)); refine blk_far ?_ NB170_173.out _; (with_reducible repeat (first | refine blk_drewN ?_ _ | refine blk_drew ?_ | refine blk_alloc ?_ _)); refine blk_far ?_ NB170_173.out _; (with_reducible repeat (first | refine blk_drewN ?_ _ | refine blk_drew ?_ | refine blk_alloc ?_ _)); refine blk_far ?_ NB170_173.out _; (with_reducible repeat (first | refine blk_drewN ?_ _ | refine blk_drew ?_ | refine blk_alloc ?_ _)); exact BK170.out⟩
             have n1_ : Aside0 ((((w8.setCell ⟨gb173, 0, none⟩ (.int .i64 ((rd_T94 l0_0 x10_1).f0))).setCell ⟨gb173, 1, none⟩ (.slice A172_1 ((rd_T94 l0_0 x10_1).f1).length c172_1)).setCell ⟨gb173, 2, none⟩ (.slice A172_2 ((rd_T94 l0_0 x10_1).f2).length c172_2)).heap[gb173]? = some (.cells #[.int .i64 ((rd_T94 l0_0 x10_1).f0), .slice A172_1 ((rd_T94 l0_0 x10_1).f1).length c172_1, .slice A172_2 ((rd_T94 l0_0 x10_1).f2).length c172_2] 94 (0, 0))) := ⟨by (with_reducible repeat (first | refine blk_drewN ?_ _ | refine blk_drew ?_ | refine blk_alloc ?_ _)); refine blk_put (cs := #[.int .i64 ((rd_T94 l0_0 x10_1).f0), .slice A172_1 ((rd_T94 l0_0 x10_1).f1).length c172_1, .slice none 0 0]) ?_ 2 _ rfl; (with_reducible repeat (first | refine blk_drewN ?_ _ | refine blk_drew ?_ | refine blk_alloc ?_ _)); refine blk_put (cs := #[.int .i64 ((rd_T94 l0_0 x10_1).f0), .slice none 0 0, .slice none 0 0]) ?_ 1 _ rfl; (with_reducible repeat (first | refine blk_drewN ?_ _ | refine blk_drew ?_ | refine blk_alloc ?_ _)); refine blk_put (cs := #[.int .i64 0, .slice none 0 0, .slice none 0 0]) ?_ 0 _ rfl; (with_reducible repeat (first | refine blk_drewN ?_ _ | refine blk_drew ?_ | refine blk_alloc ?_ _)); exact BK173.out⟩
             have n2_ : Aside0 (Below w.heap.size w (((w8.setCell ⟨gb173, 0, none⟩ (.int .i64 ((rd_T94 l0_0 x10_1).f0))).setCell ⟨gb173, 1, none⟩ (.slice A172_1 ((rd_T94 l0_0 x10_1).f1).length c172_1)).setCell ⟨gb173, 2, none⟩ (.slice A172_2 ((rd_T94 l0_0 x10_1).f2).length c172_2))) := ⟨by repeat (first | (with_reducible first | exact HB.out | apply below_alloc | apply pw_below_drewN | apply below_drew1 | refine below_set ?_ GE170.out | refine below_set ?_ GE173.out) | exact HB.out)⟩
             (try clear BK170)
             (try clear BK173)
             (try clear HB)
             generalize (((w8.setCell ⟨gb173, 0, none⟩ (.int .i64 ((rd_T94 l0_0 x10_1).f0))).setCell ⟨gb173, 1, none⟩ (.slice A172_1 ((rd_T94 l0_0 x10_1).f1).length c172_1)).setCell ⟨gb173, 2, none⟩ (.slice A172_2 ((rd_T94 l0_0 x10_1).f2).length c172_2)) = w22 at n0_ n1_ n2_ ⊢
             have BK170 := n0_
             have BK173 := n1_
             have HB := n2_
             clear n0_ n1_ n2_
             have n0_ := Aside0.mk (blk_drew BK170.out)
             have n1_ := Aside0.mk (blk_drew BK173.out)
             have n2_ := Aside0.mk (below_drew1 HB.out)
             clear BK170
             clear BK173
             clear HB
             have BK170 := n0_
             have BK173 := n1_
             have HB := n2_
             clear n0_ n1_ n2_
             have p175 : 0 ≤ ((ji14) : Int) := of_decide_eq_true (by first | (with_reducible assumption) | assumption)
             have q175 : (ji14) < (l0_0.length : Int) := of_decide_eq_true (by first | (with_reducible assumption) | assumption)
             obtain ⟨ad175, A175_1, c175_1, A175_2, c175_2, e175, hx175_0, hx175_1, hx175_2, hl175_1, hi175_1, hl175_2, hi175_2⟩ := at_T94 HR0_0.out (ji14) p175 q175
             have hw175_2 := hx175_2
             have hw175_1 := hx175_1
             have hw175_0 := hx175_0
             obtain rfl : ad172 = ad175 := (by injection e175)
             replace hx175_0 := (HB.out.cell (World.block_lt_of_cell? w _ hx175_0)).trans hx175_0
             replace hx175_1 := (HB.out.cell (World.block_lt_of_cell? w _ hx175_1)).trans hx175_1
             replace hx175_2 := (HB.out.cell (World.block_lt_of_cell? w _ hx175_2)).trans hx175_2
             have HR175_1 := Aside0.mk hi175_1
             have HC175_1 := Aside0.mk hl175_1
             clear hi175_1 hl175_1
             have HR175_2 := Aside0.mk hi175_2
             have HC175_2 := Aside0.mk hl175_2
             clear hi175_2 hl175_2
             replace p175 := eq_true p175
             replace q175 := eq_true q175
             refine start_ (n := 35) (S := fun w' => w'.cell? ⟨gb173, 0, none⟩ = some (.int .i64 ((rd_T94 l0_0 x10_1).f0)) ∧ w'.cell? ⟨gb173, 1, none⟩ = some (.slice A172_1 ((rd_T94 l0_0 x10_1).f1).length c172_1) ∧ w'.cell? ⟨gb173, 2, none⟩ = some (.slice A172_2 ((rd_T94 l0_0 x10_1).f2).length c172_2) ∧ w'.cell? ⟨gb170, 0, none⟩ = some (.slice (some ad172) l0_0.length c0_0) ∧ w'.cell? (ad172.add (((ji14)).toNat * 3)) = some (.int .i64 ((rd_T94 l0_0 (ji14)).f0)) ∧ w'.cell? ⟨(ad172.add (((ji14)).toNat * 3)).block, (ad172.add (((ji14)).toNat * 3)).off + 1, none⟩ = some (.slice A175_1 ((rd_T94 l0_0 (ji14)).f1).length c175_1) ∧ w'.cell? ⟨(ad172.add (((ji14)).toNat * 3)).block, (ad172.add (((ji14)).toNat * 3)).off + 2, none⟩ = some (.slice A175_2 ((rd_T94 l0_0 (ji14)).f2).length c175_2)) (ds := []) (pz 35 0) (by kernel_rfl) rfl rfl ⟨(blk_cell BK173.out 0).trans rfl, (blk_cell BK173.out 1).trans rfl, (blk_cell BK173.out 2).trans rfl, (blk_cell BK170.out 0).trans rfl, ((HB.out.cell (World.block_lt_of_cell? w _ hw175_0)).trans hw175_0), ((HB.out.cell (World.block_lt_of_cell? w _ hw175_1)).trans hw175_1), ((HB.out.cell (World.block_lt_of_cell? w _ hw175_2)).trans hw175_2)⟩ (fun hHeld => ?_); refine with_tabW spec_GoodMarks.tab4 spec_GoodMarks.bits4 (fun HT_ HW_ => ?_)
             generalize w22.drew = w23 at BK170 BK173 HB HR175_1 HR175_2 hx175_0 hx175_1 hx175_2 hHeld ⊢
             refine sR 0 15 (pz 35 1) HT_ ?_
             refine sT 1 16 (pz 35 2) rfl rfl HT_ HW_ hHeld (by rintro w' ⟨s0, s1, s2, s3, s4, s5, s6⟩; go_simp; with_reducible rfl) ?_
             refine one_ (i := 2) (N := some 17) (pz 35 3) rfl rfl (one_of HT_.out (by kernel_rfl)) (by decide) (fun K hK => ?_)
             refine goes_ Try.func59 (by kernel_rfl) rfl #[.int .i64 ((rd_T94 l0_0 x10_1).f0), .int .i64 0, .int .i64 200] (by rfl) rfl rfl (by (try simp only [List.map_toArray, List.map_cons, List.map_nil]); first | done | rfl | (simp only [List.length_drop, List.length_take]; rfl)) ?_
             with_reducible refine (spec_l1In.calls ((rd_T94 l0_0 x10_1).f0) 0 200 true _ A11.out).mono ?_
             rintro e w' ⟨rfl, ⟨nd, rfl⟩⟩
             refine ⟨_, rfl, ?_⟩
             refine hK.out _ _ ⟨(blk_cell BK173.out 0).trans rfl, (blk_cell BK173.out 1).trans rfl, (blk_cell BK173.out 2).trans rfl, (blk_cell BK170.out 0).trans rfl, ((HB.out.cell (World.block_lt_of_cell? w _ hw175_0)).trans hw175_0), ((HB.out.cell (World.block_lt_of_cell? w _ hw175_1)).trans hw175_1), ((HB.out.cell (World.block_lt_of_cell? w _ hw175_2)).trans hw175_2)⟩ (fun hHeld => ?_)
             clear hK K
             refine norm_ (a' := ?_) ?_ ?_
             rotate_left
             ·show Act.put _ (some 17) _ = _
              simp only [Act.put, List.setIfInBounds_toArray, List.set_cons_zero, List.set_cons_succ, i64_w, i32_w]
              rfl
             refine sR 3 18 (pz 35 4) HT_ ?_
             refine sR 4 19 (pz 35 5) HT_ ?_
             refine sR 5 20 (pz 35 6) HT_ ?_
             refine sR 6 21 (pz 35 7) HT_ ?_
             refine sR 7 22 (pz 35 8) HT_ ?_
             refine sR 8 23 (pz 35 9) HT_ ?_
             refine sR 10 25 #[true, true, true, true, true, true, true, true, true, false, true, false, false, false, false, false, false, false, false, false, false, false, false, false, false, false, false, false, false, false, false, false, false, false, false] HT_ ?_
             refine sR 11 26 #[true, true, true, true, true, true, true, true, true, false, true, true, false, false, false, false, false, false, false, false, false, false, false, false, false, false, false, false, false, false, false, false, false, false, false] HT_ ?_
             refine sR 15 30 #[true, true, true, true, true, true, true, true, true, false, true, true, false, false, false, true, false, false, false, false, false, false, false, false, false, false, false, false, false, false, false, false, false, false, false] HT_ ?_
             refine sT 9 24 #[true, true, true, true, true, true, true, true, true, true, true, true, false, false, false, true, false, false, false, false, false, false, false, false, false, false, false, false, false, false, false, false, false, false, false] rfl rfl HT_ HW_ hHeld (by rintro w' ⟨s0, s1, s2, s3, s4, s5, s6⟩; go_simp; with_reducible rfl) ?_
             refine sR 12 27 #[true, true, true, true, true, true, true, true, true, true, true, true, true, false, false, true, false, false, false, false, false, false, false, false, false, false, false, false, false, false, false, false, false, false, false] HT_ ?_
             refine sR 13 28 #[true, true, true, true, true, true, true, true, true, true, true, true, true, true, false, true, false, false, false, false, false, false, false, false, false, false, false, false, false, false, false, false, false, false, false] HT_ ?_
             refine sT 14 29 (pz 35 16) rfl rfl HT_ HW_ hHeld (by rintro w' ⟨s0, s1, s2, s3, s4, s5, s6⟩; go_simp; with_reducible rfl) ?_
             refine sT 16 31 (pz 35 17) rfl rfl HT_ HW_ hHeld (by rintro w' ⟨s0, s1, s2, s3, s4, s5, s6⟩; go_simp; with_reducible rfl) ?_
             refine sR 17 32 (pz 35 18) HT_ ?_
             refine sR 18 33 (pz 35 19) HT_ ?_
             refine sR 19 34 (pz 35 20) HT_ ?_
             refine sR 20 35 (pz 35 21) HT_ ?_
             refine sR 21 36 (pz 35 22) HT_ ?_
             refine sT 22 37 (pz 35 23) rfl rfl HT_ HW_ hHeld (by rintro w' ⟨s0, s1, s2, s3, s4, s5, s6⟩; go_simp; with_reducible rfl) ?_
             refine one_ (i := 23) (N := some 38) (pz 35 24) rfl rfl (one_of HT_.out (by kernel_rfl)) (by decide) (fun K hK => ?_)
             refine goes_ Try.func77 (by kernel_rfl) rfl #[.slice A172_1 ((rd_T94 l0_0 x10_1).f1).length c172_1, .int .i64 0, .int .i64 15] (by rfl) rfl rfl (by (try simp only [List.map_toArray, List.map_cons, List.map_nil]); first | done | rfl | (simp only [List.length_drop, List.length_take]; rfl)) ?_
             with_reducible refine (spec_l1Rising.calls k1 _ _ ((rd_T94 l0_0 x10_1).f1) 0 15 true _ ?side1 ?side2 A20.out).mono ?_
             (case side1 => repeat (first | exact (Kd.C_below HR172_1.out (by repeat (first | (with_reducible first | exact HB.out | apply below_alloc | apply pw_below_drewN | apply below_drew1 | refine below_set ?_ GE170.out | refine below_set ?_ GE173.out) | exact HB.out))) | (with_reducible refine Kd.C_alloc ?_ _) | (with_reducible refine Kd.C_drewN ?_ _) | (with_reducible refine Kd.C_drew ?_)))
             (case side2 => exact HC172_1.out)
             rintro e w' ⟨rfl, ⟨nd, rfl⟩⟩
             refine ⟨_, rfl, ?_⟩
             refine hK.out _ _ ⟨(blk_cell BK173.out 0).trans rfl, (blk_cell BK173.out 1).trans rfl, (blk_cell BK173.out 2).trans rfl, (blk_cell BK170.out 0).trans rfl, ((HB.out.cell (World.block_lt_of_cell? w _ hw175_0)).trans hw175_0), ((HB.out.cell (World.block_lt_of_cell? w _ hw175_1)).trans hw175_1), ((HB.out.cell (World.block_lt_of_cell? w _ hw175_2)).trans hw175_2)⟩ (fun hHeld => ?_)
             clear hK K
             refine norm_ (a' := ?_) ?_ ?_
             rotate_left
             ·show Act.put _ (some 38) _ = _
              simp only [Act.put, List.setIfInBounds_toArray, List.set_cons_zero, List.set_cons_succ, i64_w, i32_w]
              rfl
             refine sR 24 39 (pz 35 25) HT_ ?_
             refine sR 25 40 (pz 35 26) HT_ ?_
             refine sR 26 41 (pz 35 27) HT_ ?_
             refine sR 27 42 (pz 35 28) HT_ ?_
             refine sR 30 45 #[true, true, true, true, true, true, true, true, true, true, true, true, true, true, true, true, true, true, true, true, true, true, true, true, true, true, true, true, false, false, true, false, false, false, false] HT_ ?_
             refine sT 28 43 #[true, true, true, true, true, true, true, true, true, true, true, true, true, true, true, true, true, true, true, true, true, true, true, true, true, true, true, true, true, false, true, false, false, false, false] rfl rfl HT_ HW_ hHeld (by rintro w' ⟨s0, s1, s2, s3, s4, s5, s6⟩; go_simp; with_reducible rfl) ?_
             refine sR 29 44 (pz 35 31) HT_ ?_
             refine sT 31 46 (pz 35 32) rfl rfl HT_ HW_ hHeld (by rintro w' ⟨s0, s1, s2, s3, s4, s5, s6⟩; go_simp; with_reducible rfl) ?_
             refine sR 32 47 (pz 35 33) HT_ ?_
             refine sR 33 48 (pz 35 34) HT_ ?_
             refine sR 34 49 (pz 35 35) HT_ ?_
             refine done_ (done_of HT_.out (by kernel_rfl)) ?_
             try go_wp2
             go_meet
             case rel => exact ⟨_, (((((rd_T94 l0_0 x10_1).f2).length : Int) != (((rd_T94 l0_0 x10_1).f1).length : Int))), (by first | rfl | (simp; done) | (simp [*]; done)), H', ⟨by have := HK1.out; first | omega | exact Nat.le_refl _⟩, ⟨by (with_reducible repeat (first | refine blk_drewN ?_ _ | refine blk_drew ?_ | refine blk_alloc ?_ _)); exact BK170.out⟩, ⟨by (with_reducible repeat (first | refine blk_drewN ?_ _ | refine blk_drew ?_ | refine blk_alloc ?_ _)); exact BK173.out⟩, ⟨by repeat (first | (with_reducible first | exact HB.out | apply below_alloc | apply pw_below_drewN | apply below_drew1 | refine below_set ?_ GE170.out | refine below_set ?_ GE173.out) | exact HB.out)⟩⟩
            ·replace c21 := Bool.eq_false_iff.mpr c21
             subst c21
             have H1 : (spec_GoodMarks.j1 k1 l0_0 (l0_0.length : Int) x10_1 true l0_0 ((rd_T94 l0_0 x10_1).f0) ((rd_T94 l0_0 x10_1).f1) ((rd_T94 l0_0 x10_1).f2)) = some r := by rw [if_neg (show ¬ (false = true) by decide)] at H; exact H
             clear H
             have H := H1
             clear H1
             have H' := Aside0.mk H
             clear H
             try go_wp2
             have n0_ : Aside0 ((((w8.setCell ⟨gb173, 0, none⟩ (.int .i64 ((rd_T94 l0_0 x10_1).f0))).setCell ⟨gb173, 1, none⟩ (.slice A172_1 ((rd_T94 l0_0 x10_1).f1).length c172_1)).setCell ⟨gb173, 2, none⟩ (.slice A172_2 ((rd_T94 l0_0 x10_1).f2).length c172_2)).heap[gb170]? = some (.cells #[.slice (some ad172) l0_0.length c0_0] 47 (0, 0))) := ⟨by (with_reducible repeat (first | refine blk_drewN ?_ _ | refine blk_drew ?_ | refine blk_alloc ?_ _)); refine blk_far ?_ NB170_173.out _; (with_reducible repeat (first | refine blk_drewN ?_ _ | refine blk_drew ?_ | refine blk_alloc ?_ _)); refine blk_far ?_ NB170_173.out _; (with_reducible repeat (first | refine blk_drewN ?_ _ | refine blk_drew ?_ | refine blk_alloc ?_ _)); refine blk_far ?_ NB170_173.out _; (with_reducible repeat (first | refine blk_drewN ?_ _ | refine blk_drew ?_ | refine blk_alloc ?_ _)); exact BK170.out⟩
             have n1_ : Aside0 ((((w8.setCell ⟨gb173, 0, none⟩ (.int .i64 ((rd_T94 l0_0 x10_1).f0))).setCell ⟨gb173, 1, none⟩ (.slice A172_1 ((rd_T94 l0_0 x10_1).f1).length c172_1)).setCell ⟨gb173, 2, none⟩ (.slice A172_2 ((rd_T94 l0_0 x10_1).f2).length c172_2)).heap[gb173]? = some (.cells #[.int .i64 ((rd_T94 l0_0 x10_1).f0), .slice A172_1 ((rd_T94 l0_0 x10_1).f1).length c172_1, .slice A172_2 ((rd_T94 l0_0 x10_1).f2).length c172_2] 94 (0, 0))) := ⟨by (with_reducible repeat (first | refine blk_drewN ?_ _ | refine blk_drew ?_ | refine blk_alloc ?_ _)); refine blk_put (cs := #[.int .i64 ((rd_T94 l0_0 x10_1).f0), .slice A172_1 ((rd_T94 l0_0 x10_1).f1).length c172_1, .slice none 0 0]) ?_ 2 _ rfl; (with_reducible repeat (first | refine blk_drewN ?_ _ | refine blk_drew ?_ | refine blk_alloc ?_ _)); refine blk_put (cs := #[.int .i64 ((rd_T94 l0_0 x10_1).f0), .slice none 0 0, .slice none 0 0]) ?_ 1 _ rfl; (with_reducible repeat (first | refine blk_drewN ?_ _ | refine blk_drew ?_ | refine blk_alloc ?_ _)); refine blk_put (cs := #[.int .i64 0, .slice none 0 0, .slice none 0 0]) ?_ 0 _ rfl; (with_reducible repeat (first | refine blk_drewN ?_ _ | refine blk_drew ?_ | refine blk_alloc ?_ _)); exact BK173.out⟩
             have n2_ : Aside0 (Below w.heap.size w (((w8.setCell ⟨gb173, 0, none⟩ (.int .i64 ((rd_T94 l0_0 x10_1).f0))).setCell ⟨gb173, 1, none⟩ (.slice A172_1 ((rd_T94 l0_0 x10_1).f1).length c172_1)).setCell ⟨gb173, 2, none⟩ (.slice A172_2 ((rd_T94 l0_0 x10_1).f2).length c172_2))) := ⟨by repeat (first | (with_reducible first | exact HB.out | apply below_alloc | apply pw_below_drewN | apply below_drew1 | refine below_set ?_ GE170.out | refine below_set ?_ GE173.out) | exact HB.out)⟩
             (try clear BK170)
             (try clear BK173)
             (try clear HB)
             generalize (((w8.setCell ⟨gb173, 0, none⟩ (.int .i64 ((rd_T94 l0_0 x10_1).f0))).setCell ⟨gb173, 1, none⟩ (.slice A172_1 ((rd_T94 l0_0 x10_1).f1).length c172_1)).setCell ⟨gb173, 2, none⟩ (.slice A172_2 ((rd_T94 l0_0 x10_1).f2).length c172_2)) = w24 at n0_ n1_ n2_ ⊢
             have BK170 := n0_
             have BK173 := n1_
             have HB := n2_
             clear n0_ n1_ n2_
             have n0_ := Aside0.mk (blk_drew BK170.out)
             have n1_ := Aside0.mk (blk_drew BK173.out)
             have n2_ := Aside0.mk (below_drew1 HB.out)
             clear BK170
             clear BK173
             clear HB
             have BK170 := n0_
             have BK173 := n1_
             have HB := n2_
             clear n0_ n1_ n2_
             have p175 : 0 ≤ ((ji14) : Int) := of_decide_eq_true (by first | (with_reducible assumption) | assumption)
             have q175 : (ji14) < (l0_0.length : Int) := of_decide_eq_true (by first | (with_reducible assumption) | assumption)
             obtain ⟨ad175, A175_1, c175_1, A175_2, c175_2, e175, hx175_0, hx175_1, hx175_2, hl175_1, hi175_1, hl175_2, hi175_2⟩ := at_T94 HR0_0.out (ji14) p175 q175
             have hw175_2 := hx175_2
             have hw175_1 := hx175_1
             have hw175_0 := hx175_0
             obtain rfl : ad172 = ad175 := (by injection e175)
             replace hx175_0 := (HB.out.cell (World.block_lt_of_cell? w _ hx175_0)).trans hx175_0
             replace hx175_1 := (HB.out.cell (World.block_lt_of_cell? w _ hx175_1)).trans hx175_1
             replace hx175_2 := (HB.out.cell (World.block_lt_of_cell? w _ hx175_2)).trans hx175_2
             have HR175_1 := Aside0.mk hi175_1
             have HC175_1 := Aside0.mk hl175_1
             clear hi175_1 hl175_1
             have HR175_2 := Aside0.mk hi175_2
             have HC175_2 := Aside0.mk hl175_2
             clear hi175_2 hl175_2
             replace p175 := eq_true p175
             replace q175 := eq_true q175
             refine start_ (n := 35) (S := fun w' => w'.cell? ⟨gb173, 0, none⟩ = some (.int .i64 ((rd_T94 l0_0 x10_1).f0)) ∧ w'.cell? ⟨gb173, 1, none⟩ = some (.slice A172_1 ((rd_T94 l0_0 x10_1).f1).length c172_1) ∧ w'.cell? ⟨gb173, 2, none⟩ = some (.slice A172_2 ((rd_T94 l0_0 x10_1).f2).length c172_2) ∧ w'.cell? ⟨gb170, 0, none⟩ = some (.slice (some ad172) l0_0.length c0_0) ∧ w'.cell? (ad172.add (((ji14)).toNat * 3)) = some (.int .i64 ((rd_T94 l0_0 (ji14)).f0)) ∧ w'.cell? ⟨(ad172.add (((ji14)).toNat * 3)).block, (ad172.add (((ji14)).toNat * 3)).off + 1, none⟩ = some (.slice A175_1 ((rd_T94 l0_0 (ji14)).f1).length c175_1) ∧ w'.cell? ⟨(ad172.add (((ji14)).toNat * 3)).block, (ad172.add (((ji14)).toNat * 3)).off + 2, none⟩ = some (.slice A175_2 ((rd_T94 l0_0 (ji14)).f2).length c175_2)) (ds := []) (pz 35 0) (by kernel_rfl) rfl rfl ⟨(blk_cell BK173.out 0).trans rfl, (blk_cell BK173.out 1).trans rfl, (blk_cell BK173.out 2).trans rfl, (blk_cell BK170.out 0).trans rfl, ((HB.out.cell (World.block_lt_of_cell? w _ hw175_0)).trans hw175_0), ((HB.out.cell (World.block_lt_of_cell? w _ hw175_1)).trans hw175_1), ((HB.out.cell (World.block_lt_of_cell? w _ hw175_2)).trans hw175_2)⟩ (fun hHeld => ?_); refine with_tabW spec_GoodMarks.tab4 spec_GoodMarks.bits4 (fun HT_ HW_ => ?_)
             generalize w24.drew = w25 at BK170 BK173 HB HR175_1 HR175_2 hx175_0 hx175_1 hx175_2 hHeld ⊢
             refine sR 0 15 (pz 35 1) HT_ ?_
             refine sT 1 16 (pz 35 2) rfl rfl HT_ HW_ hHeld (by rintro w' ⟨s0, s1, s2, s3, s4, s5, s6⟩; go_simp; with_reducible rfl) ?_
             refine one_ (i := 2) (N := some 17) (pz 35 3) rfl rfl (one_of HT_.out (by kernel_rfl)) (by decide) (fun K hK => ?_)
             refine goes_ Try.func59 (by kernel_rfl) rfl #[.int .i64 ((rd_T94 l0_0 x10_1).f0), .int .i64 0, .int .i64 200] (by rfl) rfl rfl (by (try simp only [List.map_toArray, List.map_cons, List.map_nil]); first | done | rfl | (simp only [List.length_drop, List.length_take]; rfl)) ?_
             with_reducible refine (spec_l1In.calls ((rd_T94 l0_0 x10_1).f0) 0 200 true _ A11.out).mono ?_
             rintro e w' ⟨rfl, ⟨nd, rfl⟩⟩
             refine ⟨_, rfl, ?_⟩
             refine hK.out _ _ ⟨(blk_cell BK173.out 0).trans rfl, (blk_cell BK173.out 1).trans rfl, (blk_cell BK173.out 2).trans rfl, (blk_cell BK170.out 0).trans rfl, ((HB.out.cell (World.block_lt_of_cell? w _ hw175_0)).trans hw175_0), ((HB.out.cell (World.block_lt_of_cell? w _ hw175_1)).trans hw175_1), ((HB.out.cell (World.block_lt_of_cell? w _ hw175_2)).trans hw175_2)⟩ (fun hHeld => ?_)
             clear hK K
             refine norm_ (a' := ?_) ?_ ?_
             rotate_left
             ·show Act.put _ (some 17) _ = _
              simp only [Act.put, List.setIfInBounds_toArray, List.set_cons_zero, List.set_cons_succ, i64_w, i32_w]
              rfl
             refine sR 3 18 (pz 35 4) HT_ ?_
             refine sR 4 19 (pz 35 5) HT_ ?_
             refine sR 5 20 (pz 35 6) HT_ ?_
             refine sR 6 21 (pz 35 7) HT_ ?_
             refine sR 7 22 (pz 35 8) HT_ ?_
             refine sR 8 23 (pz 35 9) HT_ ?_
             refine sR 10 25 #[true, true, true, true, true, true, true, true, true, false, true, false, false, false, false, false, false, false, false, false, false, false, false, false, false, false, false, false, false, false, false, false, false, false, false] HT_ ?_
             refine sR 11 26 #[true, true, true, true, true, true, true, true, true, false, true, true, false, false, false, false, false, false, false, false, false, false, false, false, false, false, false, false, false, false, false, false, false, false, false] HT_ ?_
             refine sR 15 30 #[true, true, true, true, true, true, true, true, true, false, true, true, false, false, false, true, false, false, false, false, false, false, false, false, false, false, false, false, false, false, false, false, false, false, false] HT_ ?_
             refine sT 9 24 #[true, true, true, true, true, true, true, true, true, true, true, true, false, false, false, true, false, false, false, false, false, false, false, false, false, false, false, false, false, false, false, false, false, false, false] rfl rfl HT_ HW_ hHeld (by rintro w' ⟨s0, s1, s2, s3, s4, s5, s6⟩; go_simp; with_reducible rfl) ?_
             refine sR 12 27 #[true, true, true, true, true, true, true, true, true, true, true, true, true, false, false, true, false, false, false, false, false, false, false, false, false, false, false, false, false, false, false, false, false, false, false] HT_ ?_
             refine sR 13 28 #[true, true, true, true, true, true, true, true, true, true, true, true, true, true, false, true, false, false, false, false, false, false, false, false, false, false, false, false, false, false, false, false, false, false, false] HT_ ?_
             refine sT 14 29 (pz 35 16) rfl rfl HT_ HW_ hHeld (by rintro w' ⟨s0, s1, s2, s3, s4, s5, s6⟩; go_simp; with_reducible rfl) ?_
             refine sT 16 31 (pz 35 17) rfl rfl HT_ HW_ hHeld (by rintro w' ⟨s0, s1, s2, s3, s4, s5, s6⟩; go_simp; with_reducible rfl) ?_
             refine sR 17 32 (pz 35 18) HT_ ?_
             refine sR 18 33 (pz 35 19) HT_ ?_
             refine sR 19 34 (pz 35 20) HT_ ?_
             refine sR 20 35 (pz 35 21) HT_ ?_
             refine sR 21 36 (pz 35 22) HT_ ?_
             refine sT 22 37 (pz 35 23) rfl rfl HT_ HW_ hHeld (by rintro w' ⟨s0, s1, s2, s3, s4, s5, s6⟩; go_simp; with_reducible rfl) ?_
             refine one_ (i := 23) (N := some 38) (pz 35 24) rfl rfl (one_of HT_.out (by kernel_rfl)) (by decide) (fun K hK => ?_)
             refine goes_ Try.func77 (by kernel_rfl) rfl #[.slice A172_1 ((rd_T94 l0_0 x10_1).f1).length c172_1, .int .i64 0, .int .i64 15] (by rfl) rfl rfl (by (try simp only [List.map_toArray, List.map_cons, List.map_nil]); first | done | rfl | (simp only [List.length_drop, List.length_take]; rfl)) ?_
             with_reducible refine (spec_l1Rising.calls k1 _ _ ((rd_T94 l0_0 x10_1).f1) 0 15 false _ ?side1 ?side2 A20.out).mono ?_
             (case side1 => repeat (first | exact (Kd.C_below HR172_1.out (by repeat (first | (with_reducible first | exact HB.out | apply below_alloc | apply pw_below_drewN | apply below_drew1 | refine below_set ?_ GE170.out | refine below_set ?_ GE173.out) | exact HB.out))) | (with_reducible refine Kd.C_alloc ?_ _) | (with_reducible refine Kd.C_drewN ?_ _) | (with_reducible refine Kd.C_drew ?_)))
             (case side2 => exact HC172_1.out)
             rintro e w' ⟨rfl, ⟨nd, rfl⟩⟩
             refine ⟨_, rfl, ?_⟩
             refine hK.out _ _ ⟨(blk_cell BK173.out 0).trans rfl, (blk_cell BK173.out 1).trans rfl, (blk_cell BK173.out 2).trans rfl, (blk_cell BK170.out 0).trans rfl, ((HB.out.cell (World.block_lt_of_cell? w _ hw175_0)).trans hw175_0), ((HB.out.cell (World.block_lt_of_cell? w _ hw175_1)).trans hw175_1), ((HB.out.cell (World.block_lt_of_cell? w _ hw175_2)).trans hw175_2)⟩ (fun hHeld => ?_)
             clear hK K
             refine norm_ (a' := ?_) ?_ ?_
             rotate_left
             ·show Act.put _ (some 38) _ = _
              simp only [Act.put, List.setIfInBounds_toArray, List.set_cons_zero, List.set_cons_succ, i64_w, i32_w]
              rfl
             refine sR 24 39 (pz 35 25) HT_ ?_
             refine sR 25 40 (pz 35 26) HT_ ?_
             refine sR 26 41 (pz 35 27) HT_ ?_
             refine sU 27 42 (pz 35 28) HT_ ?_
             refine sU 28 43 (pz 35 29) HT_ ?_
             refine sU 29 44 (pz 35 30) HT_ ?_
             refine sU 30 45 (pz 35 31) HT_ ?_
             refine sU 31 46 (pz 35 32) HT_ ?_
             refine sU 32 47 (pz 35 33) HT_ ?_
             refine sU 33 48 (pz 35 34) HT_ ?_
             refine sR 34 49 (pz 35 35) HT_ ?_
             refine done_ (done_of HT_.out (by kernel_rfl)) ?_
             try go_wp2
             go_meet
             case rel => exact ⟨_, (true), (by first | rfl | (simp; done) | (simp [*]; done)), H', ⟨by have := HK1.out; first | omega | exact Nat.le_refl _⟩, ⟨by (with_reducible repeat (first | refine blk_drewN ?_ _ | refine blk_drew ?_ | refine blk_alloc ?_ _)); exact BK170.out⟩, ⟨by (with_reducible repeat (first | refine blk_drewN ?_ _ | refine blk_drew ?_ | refine blk_alloc ?_ _)); exact BK173.out⟩, ⟨by repeat (first | (with_reducible first | exact HB.out | apply below_alloc | apply pw_below_drewN | apply below_drew1 | refine below_set ?_ GE170.out | refine below_set ?_ GE173.out) | exact HB.out)⟩⟩
          ·rw [if_neg c16] at H
           exact absurd H (by simp)
         ·rw [if_neg c15] at H
          exact absurd H (by simp)
        ·rw [if_neg c13] at H
         have c13b0 : decide (0 < x10_1) = false := decide_eq_false c13
         clear c13
         (first | rw [c13b0] | (simp only [i64_w, i32_w]; rw [c13b0]) | skip)
         replace H := Option.bind_eq_some_iff.mp H
         obtain ⟨t177, A260, H⟩ := H
         replace H : (if t177 = true then (spec_GoodMarks.j1 k1 l0_0 (l0_0.length : Int) x10_1 ((((rd_T94 l0_0 x10_1).f2).length : Int) != (((rd_T94 l0_0 x10_1).f1).length : Int)) l0_0 ((rd_T94 l0_0 x10_1).f0) ((rd_T94 l0_0 x10_1).f1) ((rd_T94 l0_0 x10_1).f2)) else (spec_GoodMarks.j1 k1 l0_0 (l0_0.length : Int) x10_1 true l0_0 ((rd_T94 l0_0 x10_1).f0) ((rd_T94 l0_0 x10_1).f1) ((rd_T94 l0_0 x10_1).f2))) = some r := H
         have A26 := Aside0.mk A260
         clear A260
         by_cases c27 : t177 = true
         ·subst c27
          have H1 : (spec_GoodMarks.j1 k1 l0_0 (l0_0.length : Int) x10_1 ((((rd_T94 l0_0 x10_1).f2).length : Int) != (((rd_T94 l0_0 x10_1).f1).length : Int)) l0_0 ((rd_T94 l0_0 x10_1).f0) ((rd_T94 l0_0 x10_1).f1) ((rd_T94 l0_0 x10_1).f2)) = some r := by rw [if_pos rfl] at H; exact H
          clear H
          have H := H1
          clear H1
          have H' := Aside0.mk H
          clear H
          try go_wp2
          have n0_ : Aside0 ((((w8.setCell ⟨gb173, 0, none⟩ (.int .i64 ((rd_T94 l0_0 x10_1).f0))).setCell ⟨gb173, 1, none⟩ (.slice A172_1 ((rd_T94 l0_0 x10_1).f1).length c172_1)).setCell ⟨gb173, 2, none⟩ (.slice A172_2 ((rd_T94 l0_0 x10_1).f2).length c172_2)).heap[gb170]? = some (.cells #[.slice (some ad172) l0_0.length c0_0] 47 (0, 0))) := ⟨by (with_reducible repeat (first | refine blk_drewN ?_ _ | refine blk_drew ?_ | refine blk_alloc ?_ _)); refine blk_far ?_ NB170_173.out _; (with_reducible repeat (first | refine blk_drewN ?_ _ | refine blk_drew ?_ | refine blk_alloc ?_ _)); refine blk_far ?_ NB170_173.out _; (with_reducible repeat (first | refine blk_drewN ?_ _ | refine blk_drew ?_ | refine blk_alloc ?_ _)); refine blk_far ?_ NB170_173.out _; (with_reducible repeat (first | refine blk_drewN ?_ _ | refine blk_drew ?_ | refine blk_alloc ?_ _)); exact BK170.out⟩
          have n1_ : Aside0 ((((w8.setCell ⟨gb173, 0, none⟩ (.int .i64 ((rd_T94 l0_0 x10_1).f0))).setCell ⟨gb173, 1, none⟩ (.slice A172_1 ((rd_T94 l0_0 x10_1).f1).length c172_1)).setCell ⟨gb173, 2, none⟩ (.slice A172_2 ((rd_T94 l0_0 x10_1).f2).length c172_2)).heap[gb173]? = some (.cells #[.int .i64 ((rd_T94 l0_0 x10_1).f0), .slice A172_1 ((rd_T94 l0_0 x10_1).f1).length c172_1, .slice A172_2 ((rd_T94 l0_0 x10_1).f2).length c172_2] 94 (0, 0))) := ⟨by (with_reducible repeat (first | refine blk_drewN ?_ _ | refine blk_drew ?_ | refine blk_alloc ?_ _)); refine blk_put (cs := #[.int .i64 ((rd_T94 l0_0 x10_1).f0), .slice A172_1 ((rd_T94 l0_0 x10_1).f1).length c172_1, .slice none 0 0]) ?_ 2 _ rfl; (with_reducible repeat (first | refine blk_drewN ?_ _ | refine blk_drew ?_ | refine blk_alloc ?_ _)); refine blk_put (cs := #[.int .i64 ((rd_T94 l0_0 x10_1).f0), .slice none 0 0, .slice none 0 0]) ?_ 1 _ rfl; (with_reducible repeat (first | refine blk_drewN ?_ _ | refine blk_drew ?_ | refine blk_alloc ?_ _)); refine blk_put (cs := #[.int .i64 0, .slice none 0 0, .slice none 0 0]) ?_ 0 _ rfl; (with_reducible repeat (first | refine blk_drewN ?_ _ | refine blk_drew ?_ | refine blk_alloc ?_ _)); exact BK173.out⟩
          have n2_ : Aside0 (Below w.heap.size w (((w8.setCell ⟨gb173, 0, none⟩ (.int .i64 ((rd_T94 l0_0 x10_1).f0))).setCell ⟨gb173, 1, none⟩ (.slice A172_1 ((rd_T94 l0_0 x10_1).f1).length c172_1)).setCell ⟨gb173, 2, none⟩ (.slice A172_2 ((rd_T94 l0_0 x10_1).f2).length c172_2))) := ⟨by repeat (first | (with_reducible first | exact HB.out | apply below_alloc | apply pw_below_drewN | apply below_drew1 | refine below_set ?_ GE170.out | refine below_set ?_ GE173.out) | exact HB.out)⟩
          (try clear BK170)
          (try clear BK173)
          (try clear HB)
          generalize (((w8.setCell ⟨gb173, 0, none⟩ (.int .i64 ((rd_T94 l0_0 x10_1).f0))).setCell ⟨gb173, 1, none⟩ (.slice A172_1 ((rd_T94 l0_0 x10_1).f1).length c172_1)).setCell ⟨gb173, 2, none⟩ (.slice A172_2 ((rd_T94 l0_0 x10_1).f2).length c172_2)) = w28 at n0_ n1_ n2_ ⊢
          have BK170 := n0_
          have BK173 := n1_
          have HB := n2_
          clear n0_ n1_ n2_
          have n0_ := Aside0.mk (blk_drew BK170.out)
          have n1_ := Aside0.mk (blk_drew BK173.out)
          have n2_ := Aside0.mk (below_drew1 HB.out)
          clear BK170
          clear BK173
          clear HB
          have BK170 := n0_
          have BK173 := n1_
          have HB := n2_
          clear n0_ n1_ n2_
          refine start_ (n := 35) (S := fun w' => w'.cell? ⟨gb173, 0, none⟩ = some (.int .i64 ((rd_T94 l0_0 x10_1).f0)) ∧ w'.cell? ⟨gb173, 1, none⟩ = some (.slice A172_1 ((rd_T94 l0_0 x10_1).f1).length c172_1) ∧ w'.cell? ⟨gb173, 2, none⟩ = some (.slice A172_2 ((rd_T94 l0_0 x10_1).f2).length c172_2)) (ds := []) (pz 35 0) (by kernel_rfl) rfl rfl ⟨(blk_cell BK173.out 0).trans rfl, (blk_cell BK173.out 1).trans rfl, (blk_cell BK173.out 2).trans rfl⟩ (fun hHeld => ?_); refine with_tabW spec_GoodMarks.tab4 spec_GoodMarks.bits4 (fun HT_ HW_ => ?_)
          generalize w28.drew = w29 at BK170 BK173 HB hHeld ⊢
          refine sR 0 15 (pz 35 1) HT_ ?_
          refine sT 1 16 (pz 35 2) rfl rfl HT_ HW_ hHeld (by rintro w' ⟨s0, s1, s2⟩; go_simp; with_reducible rfl) ?_
          refine one_ (i := 2) (N := some 17) (pz 35 3) rfl rfl (one_of HT_.out (by kernel_rfl)) (by decide) (fun K hK => ?_)
          refine goes_ Try.func59 (by kernel_rfl) rfl #[.int .i64 ((rd_T94 l0_0 x10_1).f0), .int .i64 0, .int .i64 200] (by rfl) rfl rfl (by (try simp only [List.map_toArray, List.map_cons, List.map_nil]); first | done | rfl | (simp only [List.length_drop, List.length_take]; rfl)) ?_
          with_reducible refine (spec_l1In.calls ((rd_T94 l0_0 x10_1).f0) 0 200 true _ A11.out).mono ?_
          rintro e w' ⟨rfl, ⟨nd, rfl⟩⟩
          refine ⟨_, rfl, ?_⟩
          refine hK.out _ _ ⟨(blk_cell BK173.out 0).trans rfl, (blk_cell BK173.out 1).trans rfl, (blk_cell BK173.out 2).trans rfl⟩ (fun hHeld => ?_)
          clear hK K
          refine norm_ (a' := ?_) ?_ ?_
          rotate_left
          ·show Act.put _ (some 17) _ = _
           simp only [Act.put, List.setIfInBounds_toArray, List.set_cons_zero, List.set_cons_succ, i64_w, i32_w]
           rfl
          refine sR 3 18 (pz 35 4) HT_ ?_
          refine sR 4 19 (pz 35 5) HT_ ?_
          refine sR 5 20 (pz 35 6) HT_ ?_
          refine sR 6 21 (pz 35 7) HT_ ?_
          refine sR 7 22 (pz 35 8) HT_ ?_
          refine sU 8 23 (pz 35 9) HT_ ?_
          refine sU 9 24 (pz 35 10) HT_ ?_
          refine sU 10 25 (pz 35 11) HT_ ?_
          refine sU 11 26 (pz 35 12) HT_ ?_
          refine sU 12 27 (pz 35 13) HT_ ?_
          refine sU 13 28 (pz 35 14) HT_ ?_
          refine sU 14 29 (pz 35 15) HT_ ?_
          refine sU 15 30 (pz 35 16) HT_ ?_
          refine sU 16 31 (pz 35 17) HT_ ?_
          refine sU 17 32 (pz 35 18) HT_ ?_
          refine sR 18 33 (pz 35 19) HT_ ?_
          refine sR 19 34 (pz 35 20) HT_ ?_
          refine sR 20 35 (pz 35 21) HT_ ?_
          refine sR 21 36 (pz 35 22) HT_ ?_
          refine sT 22 37 (pz 35 23) rfl rfl HT_ HW_ hHeld (by rintro w' ⟨s0, s1, s2⟩; go_simp; with_reducible rfl) ?_
          refine one_ (i := 23) (N := some 38) (pz 35 24) rfl rfl (one_of HT_.out (by kernel_rfl)) (by decide) (fun K hK => ?_)
          refine goes_ Try.func77 (by kernel_rfl) rfl #[.slice A172_1 ((rd_T94 l0_0 x10_1).f1).length c172_1, .int .i64 0, .int .i64 15] (by rfl) rfl rfl (by (try simp only [List.map_toArray, List.map_cons, List.map_nil]); first | done | rfl | (simp only [List.length_drop, List.length_take]; rfl)) ?_
          with_reducible refine (spec_l1Rising.calls k1 _ _ ((rd_T94 l0_0 x10_1).f1) 0 15 true _ ?side1 ?side2 A26.out).mono ?_
          (case side1 => repeat (first | exact (Kd.C_below HR172_1.out (by repeat (first | (with_reducible first | exact HB.out | apply below_alloc | apply pw_below_drewN | apply below_drew1 | refine below_set ?_ GE170.out | refine below_set ?_ GE173.out) | exact HB.out))) | (with_reducible refine Kd.C_alloc ?_ _) | (with_reducible refine Kd.C_drewN ?_ _) | (with_reducible refine Kd.C_drew ?_)))
          (case side2 => exact HC172_1.out)
          rintro e w' ⟨rfl, ⟨nd, rfl⟩⟩
          refine ⟨_, rfl, ?_⟩
          refine hK.out _ _ ⟨(blk_cell BK173.out 0).trans rfl, (blk_cell BK173.out 1).trans rfl, (blk_cell BK173.out 2).trans rfl⟩ (fun hHeld => ?_)
          clear hK K
          refine norm_ (a' := ?_) ?_ ?_
          rotate_left
          ·show Act.put _ (some 38) _ = _
           simp only [Act.put, List.setIfInBounds_toArray, List.set_cons_zero, List.set_cons_succ, i64_w, i32_w]
           rfl
          refine sR 24 39 (pz 35 25) HT_ ?_
          refine sR 25 40 (pz 35 26) HT_ ?_
          refine sR 26 41 (pz 35 27) HT_ ?_
          refine sR 27 42 (pz 35 28) HT_ ?_
          refine sR 30 45 #[true, true, true, true, true, true, true, true, true, true, true, true, true, true, true, true, true, true, true, true, true, true, true, true, true, true, true, true, false, false, true, false, false, false, false] HT_ ?_
          refine sT 28 43 #[true, true, true, true, true, true, true, true, true, true, true, true, true, true, true, true, true, true, true, true, true, true, true, true, true, true, true, true, true, false, true, false, false, false, false] rfl rfl HT_ HW_ hHeld (by rintro w' ⟨s0, s1, s2⟩; go_simp; with_reducible rfl) ?_
          refine sR 29 44 (pz 35 31) HT_ ?_
          refine sT 31 46 (pz 35 32) rfl rfl HT_ HW_ hHeld (by rintro w' ⟨s0, s1, s2⟩; go_simp; with_reducible rfl) ?_
          refine sR 32 47 (pz 35 33) HT_ ?_
          refine sR 33 48 (pz 35 34) HT_ ?_
          refine sR 34 49 (pz 35 35) HT_ ?_
          refine done_ (done_of HT_.out (by kernel_rfl)) ?_
          try go_wp2
          go_meet
          case rel => exact ⟨_, (((((rd_T94 l0_0 x10_1).f2).length : Int) != (((rd_T94 l0_0 x10_1).f1).length : Int))), (by first | rfl | (simp; done) | (simp [*]; done)), H', ⟨by have := HK1.out; first | omega | exact Nat.le_refl _⟩, ⟨by (with_reducible repeat (first | refine blk_drewN ?_ _ | refine blk_drew ?_ | refine blk_alloc ?_ _)); exact BK170.out⟩, ⟨by (with_reducible repeat (first | refine blk_drewN ?_ _ | refine blk_drew ?_ | refine blk_alloc ?_ _)); exact BK173.out⟩, ⟨by repeat (first | (with_reducible first | exact HB.out | apply below_alloc | apply pw_below_drewN | apply below_drew1 | refine below_set ?_ GE170.out | refine below_set ?_ GE173.out) | exact HB.out)⟩⟩
         ·replace c27 := Bool.eq_false_iff.mpr c27
          subst c27
          have H1 : (spec_GoodMarks.j1 k1 l0_0 (l0_0.length : Int) x10_1 true l0_0 ((rd_T94 l0_0 x10_1).f0) ((rd_T94 l0_0 x10_1).f1) ((rd_T94 l0_0 x10_1).f2)) = some r := by rw [if_neg (show ¬ (false = true) by decide)] at H; exact H
          clear H
          have H := H1
          clear H1
          have H' := Aside0.mk H
          clear H
          try go_wp2
          have n0_ : Aside0 ((((w8.setCell ⟨gb173, 0, none⟩ (.int .i64 ((rd_T94 l0_0 x10_1).f0))).setCell ⟨gb173, 1, none⟩ (.slice A172_1 ((rd_T94 l0_0 x10_1).f1).length c172_1)).setCell ⟨gb173, 2, none⟩ (.slice A172_2 ((rd_T94 l0_0 x10_1).f2).length c172_2)).heap[gb170]? = some (.cells #[.slice (some ad172) l0_0.length c0_0] 47 (0, 0))) := ⟨by (with_reducible repeat (first | refine blk_drewN ?_ _ | refine blk_drew ?_ | refine blk_alloc ?_ _)); refine blk_far ?_ NB170_173.out _; (with_reducible repeat (first | refine blk_drewN ?_ _ | refine blk_drew ?_ | refine blk_alloc ?_ _)); refine blk_far ?_ NB170_173.out _; (with_reducible repeat (first | refine blk_drewN ?_ _ | refine blk_drew ?_ | refine blk_alloc ?_ _)); refine blk_far ?_ NB170_173.out _; (with_reducible repeat (first | refine blk_drewN ?_ _ | refine blk_drew ?_ | refine blk_alloc ?_ _)); exact BK170.out⟩
          have n1_ : Aside0 ((((w8.setCell ⟨gb173, 0, none⟩ (.int .i64 ((rd_T94 l0_0 x10_1).f0))).setCell ⟨gb173, 1, none⟩ (.slice A172_1 ((rd_T94 l0_0 x10_1).f1).length c172_1)).setCell ⟨gb173, 2, none⟩ (.slice A172_2 ((rd_T94 l0_0 x10_1).f2).length c172_2)).heap[gb173]? = some (.cells #[.int .i64 ((rd_T94 l0_0 x10_1).f0), .slice A172_1 ((rd_T94 l0_0 x10_1).f1).length c172_1, .slice A172_2 ((rd_T94 l0_0 x10_1).f2).length c172_2] 94 (0, 0))) := ⟨by (with_reducible repeat (first | refine blk_drewN ?_ _ | refine blk_drew ?_ | refine blk_alloc ?_ _)); refine blk_put (cs := #[.int .i64 ((rd_T94 l0_0 x10_1).f0), .slice A172_1 ((rd_T94 l0_0 x10_1).f1).length c172_1, .slice none 0 0]) ?_ 2 _ rfl; (with_reducible repeat (first | refine blk_drewN ?_ _ | refine blk_drew ?_ | refine blk_alloc ?_ _)); refine blk_put (cs := #[.int .i64 ((rd_T94 l0_0 x10_1).f0), .slice none 0 0, .slice none 0 0]) ?_ 1 _ rfl; (with_reducible repeat (first | refine blk_drewN ?_ _ | refine blk_drew ?_ | refine blk_alloc ?_ _)); refine blk_put (cs := #[.int .i64 0, .slice none 0 0, .slice none 0 0]) ?_ 0 _ rfl; (with_reducible repeat (first | refine blk_drewN ?_ _ | refine blk_drew ?_ | refine blk_alloc ?_ _)); exact BK173.out⟩
          have n2_ : Aside0 (Below w.heap.size w (((w8.setCell ⟨gb173, 0, none⟩ (.int .i64 ((rd_T94 l0_0 x10_1).f0))).setCell ⟨gb173, 1, none⟩ (.slice A172_1 ((rd_T94 l0_0 x10_1).f1).length c172_1)).setCell ⟨gb173, 2, none⟩ (.slice A172_2 ((rd_T94 l0_0 x10_1).f2).length c172_2))) := ⟨by repeat (first | (with_reducible first | exact HB.out | apply below_alloc | apply pw_below_drewN | apply below_drew1 | refine below_set ?_ GE170.out | refine below_set ?_ GE173.out) | exact HB.out)⟩
          (try clear BK170)
          (try clear BK173)
          (try clear HB)
          generalize (((w8.setCell ⟨gb173, 0, none⟩ (.int .i64 ((rd_T94 l0_0 x10_1).f0))).setCell ⟨gb173, 1, none⟩ (.slice A172_1 ((rd_T94 l0_0 x10_1).f1).length c172_1)).setCell ⟨gb173, 2, none⟩ (.slice A172_2 ((rd_T94 l0_0 x10_1).f2).length c172_2)) = w30 at n0_ n1_ n2_ ⊢
          have BK170 := n0_
          have BK173 := n1_
          have HB := n2_
          clear n0_ n1_ n2_
          have n0_ := Aside0.mk (blk_drew BK170.out)
          have n1_ := Aside0.mk (blk_drew BK173.out)
          have n2_ := Aside0.mk (below_drew1 HB.out)
          clear BK170
          clear BK173
          clear HB
          have BK170 := n0_
          have BK173 := n1_
          have HB := n2_
          clear n0_ n1_ n2_
          refine start_ (n := 35) (S := fun w' => w'.cell? ⟨gb173, 0, none⟩ = some (.int .i64 ((rd_T94 l0_0 x10_1).f0)) ∧ w'.cell? ⟨gb173, 1, none⟩ = some (.slice A172_1 ((rd_T94 l0_0 x10_1).f1).length c172_1) ∧ w'.cell? ⟨gb173, 2, none⟩ = some (.slice A172_2 ((rd_T94 l0_0 x10_1).f2).length c172_2)) (ds := []) (pz 35 0) (by kernel_rfl) rfl rfl ⟨(blk_cell BK173.out 0).trans rfl, (blk_cell BK173.out 1).trans rfl, (blk_cell BK173.out 2).trans rfl⟩ (fun hHeld => ?_); refine with_tabW spec_GoodMarks.tab4 spec_GoodMarks.bits4 (fun HT_ HW_ => ?_)
          generalize w30.drew = w31 at BK170 BK173 HB hHeld ⊢
          refine sR 0 15 (pz 35 1) HT_ ?_
          refine sT 1 16 (pz 35 2) rfl rfl HT_ HW_ hHeld (by rintro w' ⟨s0, s1, s2⟩; go_simp; with_reducible rfl) ?_
          refine one_ (i := 2) (N := some 17) (pz 35 3) rfl rfl (one_of HT_.out (by kernel_rfl)) (by decide) (fun K hK => ?_)
          refine goes_ Try.func59 (by kernel_rfl) rfl #[.int .i64 ((rd_T94 l0_0 x10_1).f0), .int .i64 0, .int .i64 200] (by rfl) rfl rfl (by (try simp only [List.map_toArray, List.map_cons, List.map_nil]); first | done | rfl | (simp only [List.length_drop, List.length_take]; rfl)) ?_
          with_reducible refine (spec_l1In.calls ((rd_T94 l0_0 x10_1).f0) 0 200 true _ A11.out).mono ?_
          rintro e w' ⟨rfl, ⟨nd, rfl⟩⟩
          refine ⟨_, rfl, ?_⟩
          refine hK.out _ _ ⟨(blk_cell BK173.out 0).trans rfl, (blk_cell BK173.out 1).trans rfl, (blk_cell BK173.out 2).trans rfl⟩ (fun hHeld => ?_)
          clear hK K
          refine norm_ (a' := ?_) ?_ ?_
          rotate_left
          ·show Act.put _ (some 17) _ = _
           simp only [Act.put, List.setIfInBounds_toArray, List.set_cons_zero, List.set_cons_succ, i64_w, i32_w]
           rfl
          refine sR 3 18 (pz 35 4) HT_ ?_
          refine sR 4 19 (pz 35 5) HT_ ?_
          refine sR 5 20 (pz 35 6) HT_ ?_
          refine sR 6 21 (pz 35 7) HT_ ?_
          refine sR 7 22 (pz 35 8) HT_ ?_
          refine sU 8 23 (pz 35 9) HT_ ?_
          refine sU 9 24 (pz 35 10) HT_ ?_
          refine sU 10 25 (pz 35 11) HT_ ?_
          refine sU 11 26 (pz 35 12) HT_ ?_
          refine sU 12 27 (pz 35 13) HT_ ?_
          refine sU 13 28 (pz 35 14) HT_ ?_
          refine sU 14 29 (pz 35 15) HT_ ?_
          refine sU 15 30 (pz 35 16) HT_ ?_
          refine sU 16 31 (pz 35 17) HT_ ?_
          refine sU 17 32 (pz 35 18) HT_ ?_
          refine sR 18 33 (pz 35 19) HT_ ?_
          refine sR 19 34 (pz 35 20) HT_ ?_
          refine sR 20 35 (pz 35 21) HT_ ?_
          refine sR 21 36 (pz 35 22) HT_ ?_
          refine sT 22 37 (pz 35 23) rfl rfl HT_ HW_ hHeld (by rintro w' ⟨s0, s1, s2⟩; go_simp; with_reducible rfl) ?_
          refine one_ (i := 23) (N := some 38) (pz 35 24) rfl rfl (one_of HT_.out (by kernel_rfl)) (by decide) (fun K hK => ?_)
          refine goes_ Try.func77 (by kernel_rfl) rfl #[.slice A172_1 ((rd_T94 l0_0 x10_1).f1).length c172_1, .int .i64 0, .int .i64 15] (by rfl) rfl rfl (by (try simp only [List.map_toArray, List.map_cons, List.map_nil]); first | done | rfl | (simp only [List.length_drop, List.length_take]; rfl)) ?_
          with_reducible refine (spec_l1Rising.calls k1 _ _ ((rd_T94 l0_0 x10_1).f1) 0 15 false _ ?side1 ?side2 A26.out).mono ?_
          (case side1 => repeat (first | exact (Kd.C_below HR172_1.out (by repeat (first | (with_reducible first | exact HB.out | apply below_alloc | apply pw_below_drewN | apply below_drew1 | refine below_set ?_ GE170.out | refine below_set ?_ GE173.out) | exact HB.out))) | (with_reducible refine Kd.C_alloc ?_ _) | (with_reducible refine Kd.C_drewN ?_ _) | (with_reducible refine Kd.C_drew ?_)))
          (case side2 => exact HC172_1.out)
          rintro e w' ⟨rfl, ⟨nd, rfl⟩⟩
          refine ⟨_, rfl, ?_⟩
          refine hK.out _ _ ⟨(blk_cell BK173.out 0).trans rfl, (blk_cell BK173.out 1).trans rfl, (blk_cell BK173.out 2).trans rfl⟩ (fun hHeld => ?_)
          clear hK K
          refine norm_ (a' := ?_) ?_ ?_
          rotate_left
          ·show Act.put _ (some 38) _ = _
           simp only [Act.put, List.setIfInBounds_toArray, List.set_cons_zero, List.set_cons_succ, i64_w, i32_w]
           rfl
          refine sR 24 39 (pz 35 25) HT_ ?_
          refine sR 25 40 (pz 35 26) HT_ ?_
          refine sR 26 41 (pz 35 27) HT_ ?_
          refine sU 27 42 (pz 35 28) HT_ ?_
          refine sU 28 43 (pz 35 29) HT_ ?_
          refine sU 29 44 (pz 35 30) HT_ ?_
          refine sU 30 45 (pz 35 31) HT_ ?_
          refine sU 31 46 (pz 35 32) HT_ ?_
          refine sU 32 47 (pz 35 33) HT_ ?_
          refine sU 33 48 (pz 35 34) HT_ ?_
          refine sR 34 49 (pz 35 35) HT_ ?_
          refine done_ (done_of HT_.out (by kernel_rfl)) ?_
          try go_wp2
          go_meet
          case rel => exact ⟨_, (true), (by first | rfl | (simp; done) | (simp [*]; done)), H', ⟨by have := HK1.out; first | omega | exact Nat.le_refl _⟩, ⟨by (with_reducible repeat (first | refine blk_drewN ?_ _ | refine blk_drew ?_ | refine blk_alloc ?_ _)); exact BK170.out⟩, ⟨by (with_reducible repeat (first | refine blk_drewN ?_ _ | refine blk_drew ?_ | refine blk_alloc ?_ _)); exact BK173.out⟩, ⟨by repeat (first | (with_reducible first | exact HB.out | apply below_alloc | apply pw_below_drewN | apply below_drew1 | refine below_set ?_ GE170.out | refine below_set ?_ GE173.out) | exact HB.out)⟩⟩
       ·replace c12 := Bool.eq_false_iff.mpr c12
        subst c12
        have H1 : (spec_GoodMarks.j1 k1 l0_0 (l0_0.length : Int) x10_1 true l0_0 ((rd_T94 l0_0 x10_1).f0) ((rd_T94 l0_0 x10_1).f1) ((rd_T94 l0_0 x10_1).f2)) = some r := by rw [if_neg (show ¬ (false = true) by decide)] at H; exact H
        clear H
        have H := H1
        clear H1
        have H' := Aside0.mk H
        clear H
        try go_wp2
        have n0_ : Aside0 ((((w8.setCell ⟨gb173, 0, none⟩ (.int .i64 ((rd_T94 l0_0 x10_1).f0))).setCell ⟨gb173, 1, none⟩ (.slice A172_1 ((rd_T94 l0_0 x10_1).f1).length c172_1)).setCell ⟨gb173, 2, none⟩ (.slice A172_2 ((rd_T94 l0_0 x10_1).f2).length c172_2)).heap[gb170]? = some (.cells #[.slice (some ad172) l0_0.length c0_0] 47 (0, 0))) := ⟨by (with_reducible repeat (first | refine blk_drewN ?_ _ | refine blk_drew ?_ | refine blk_alloc ?_ _)); refine blk_far ?_ NB170_173.out _; (with_reducible repeat (first | refine blk_drewN ?_ _ | refine blk_drew ?_ | refine blk_alloc ?_ _)); refine blk_far ?_ NB170_173.out _; (with_reducible repeat (first | refine blk_drewN ?_ _ | refine blk_drew ?_ | refine blk_alloc ?_ _)); refine blk_far ?_ NB170_173.out _; (with_reducible repeat (first | refine blk_drewN ?_ _ | refine blk_drew ?_ | refine blk_alloc ?_ _)); exact BK170.out⟩
        have n1_ : Aside0 ((((w8.setCell ⟨gb173, 0, none⟩ (.int .i64 ((rd_T94 l0_0 x10_1).f0))).setCell ⟨gb173, 1, none⟩ (.slice A172_1 ((rd_T94 l0_0 x10_1).f1).length c172_1)).setCell ⟨gb173, 2, none⟩ (.slice A172_2 ((rd_T94 l0_0 x10_1).f2).length c172_2)).heap[gb173]? = some (.cells #[.int .i64 ((rd_T94 l0_0 x10_1).f0), .slice A172_1 ((rd_T94 l0_0 x10_1).f1).length c172_1, .slice A172_2 ((rd_T94 l0_0 x10_1).f2).length c172_2] 94 (0, 0))) := ⟨by (with_reducible repeat (first | refine blk_drewN ?_ _ | refine blk_drew ?_ | refine blk_alloc ?_ _)); refine blk_put (cs := #[.int .i64 ((rd_T94 l0_0 x10_1).f0), .slice A172_1 ((rd_T94 l0_0 x10_1).f1).length c172_1, .slice none 0 0]) ?_ 2 _ rfl; (with_reducible repeat (first | refine blk_drewN ?_ _ | refine blk_drew ?_ | refine blk_alloc ?_ _)); refine blk_put (cs := #[.int .i64 ((rd_T94 l0_0 x10_1).f0), .slice none 0 0, .slice none 0 0]) ?_ 1 _ rfl; (with_reducible repeat (first | refine blk_drewN ?_ _ | refine blk_drew ?_ | refine blk_alloc ?_ _)); refine blk_put (cs := #[.int .i64 0, .slice none 0 0, .slice none 0 0]) ?_ 0 _ rfl; (with_reducible repeat (first | refine blk_drewN ?_ _ | refine blk_drew ?_ | refine blk_alloc ?_ _)); exact BK173.out⟩
        have n2_ : Aside0 (Below w.heap.size w (((w8.setCell ⟨gb173, 0, none⟩ (.int .i64 ((rd_T94 l0_0 x10_1).f0))).setCell ⟨gb173, 1, none⟩ (.slice A172_1 ((rd_T94 l0_0 x10_1).f1).length c172_1)).setCell ⟨gb173, 2, none⟩ (.slice A172_2 ((rd_T94 l0_0 x10_1).f2).length c172_2))) := ⟨by repeat (first | (with_reducible first | exact HB.out | apply below_alloc | apply pw_below_drewN | apply below_drew1 | refine below_set ?_ GE170.out | refine below_set ?_ GE173.out) | exact HB.out)⟩
        (try clear BK170)
        (try clear BK173)
        (try clear HB)
        generalize (((w8.setCell ⟨gb173, 0, none⟩ (.int .i64 ((rd_T94 l0_0 x10_1).f0))).setCell ⟨gb173, 1, none⟩ (.slice A172_1 ((rd_T94 l0_0 x10_1).f1).length c172_1)).setCell ⟨gb173, 2, none⟩ (.slice A172_2 ((rd_T94 l0_0 x10_1).f2).length c172_2)) = w32 at n0_ n1_ n2_ ⊢
        have BK170 := n0_
        have BK173 := n1_
        have HB := n2_
        clear n0_ n1_ n2_
        have n0_ := Aside0.mk (blk_drew BK170.out)
        have n1_ := Aside0.mk (blk_drew BK173.out)
        have n2_ := Aside0.mk (below_drew1 HB.out)
        clear BK170
        clear BK173
        clear HB
        have BK170 := n0_
        have BK173 := n1_
        have HB := n2_
        clear n0_ n1_ n2_
        refine start_ (n := 35) (S := fun w' => w'.cell? ⟨gb173, 0, none⟩ = some (.int .i64 ((rd_T94 l0_0 x10_1).f0)) ∧ w'.cell? ⟨gb173, 1, none⟩ = some (.slice A172_1 ((rd_T94 l0_0 x10_1).f1).length c172_1) ∧ w'.cell? ⟨gb173, 2, none⟩ = some (.slice A172_2 ((rd_T94 l0_0 x10_1).f2).length c172_2)) (ds := []) (pz 35 0) (by kernel_rfl) rfl rfl ⟨(blk_cell BK173.out 0).trans rfl, (blk_cell BK173.out 1).trans rfl, (blk_cell BK173.out 2).trans rfl⟩ (fun hHeld => ?_); refine with_tabW spec_GoodMarks.tab4 spec_GoodMarks.bits4 (fun HT_ HW_ => ?_)
        generalize w32.drew = w33 at BK170 BK173 HB hHeld ⊢
        refine sR 0 15 (pz 35 1) HT_ ?_
        refine sT 1 16 (pz 35 2) rfl rfl HT_ HW_ hHeld (by rintro w' ⟨s0, s1, s2⟩; go_simp; with_reducible rfl) ?_
        refine one_ (i := 2) (N := some 17) (pz 35 3) rfl rfl (one_of HT_.out (by kernel_rfl)) (by decide) (fun K hK => ?_)
        refine goes_ Try.func59 (by kernel_rfl) rfl #[.int .i64 ((rd_T94 l0_0 x10_1).f0), .int .i64 0, .int .i64 200] (by rfl) rfl rfl (by (try simp only [List.map_toArray, List.map_cons, List.map_nil]); first | done | rfl | (simp only [List.length_drop, List.length_take]; rfl)) ?_
        with_reducible refine (spec_l1In.calls ((rd_T94 l0_0 x10_1).f0) 0 200 false _ A11.out).mono ?_
        rintro e w' ⟨rfl, ⟨nd, rfl⟩⟩
        refine ⟨_, rfl, ?_⟩
        refine hK.out _ _ ⟨(blk_cell BK173.out 0).trans rfl, (blk_cell BK173.out 1).trans rfl, (blk_cell BK173.out 2).trans rfl⟩ (fun hHeld => ?_)
        clear hK K
        refine norm_ (a' := ?_) ?_ ?_
        rotate_left
        ·show Act.put _ (some 17) _ = _
         simp only [Act.put, List.setIfInBounds_toArray, List.set_cons_zero, List.set_cons_succ, i64_w, i32_w]
         rfl
        refine sR 3 18 (pz 35 4) HT_ ?_
        refine sR 4 19 (pz 35 5) HT_ ?_
        refine sU 5 20 (pz 35 6) HT_ ?_
        refine sU 6 21 (pz 35 7) HT_ ?_
        refine sU 7 22 (pz 35 8) HT_ ?_
        refine sU 8 23 (pz 35 9) HT_ ?_
        refine sU 9 24 (pz 35 10) HT_ ?_
        refine sU 10 25 (pz 35 11) HT_ ?_
        refine sU 11 26 (pz 35 12) HT_ ?_
        refine sU 12 27 (pz 35 13) HT_ ?_
        refine sU 13 28 (pz 35 14) HT_ ?_
        refine sU 14 29 (pz 35 15) HT_ ?_
        refine sU 15 30 (pz 35 16) HT_ ?_
        refine sU 16 31 (pz 35 17) HT_ ?_
        refine sU 17 32 (pz 35 18) HT_ ?_
        refine sU 18 33 (pz 35 19) HT_ ?_
        refine sR 19 34 (pz 35 20) HT_ ?_
        refine sR 20 35 (pz 35 21) HT_ ?_
        refine sU 21 36 (pz 35 22) HT_ ?_
        refine sU 22 37 (pz 35 23) HT_ ?_
        refine sU 23 38 (pz 35 24) HT_ ?_
        refine sU 24 39 (pz 35 25) HT_ ?_
        refine sR 25 40 (pz 35 26) HT_ ?_
        refine sR 26 41 (pz 35 27) HT_ ?_
        refine sU 27 42 (pz 35 28) HT_ ?_
        refine sU 28 43 (pz 35 29) HT_ ?_
        refine sU 29 44 (pz 35 30) HT_ ?_
        refine sU 30 45 (pz 35 31) HT_ ?_
        refine sU 31 46 (pz 35 32) HT_ ?_
        refine sU 32 47 (pz 35 33) HT_ ?_
        refine sU 33 48 (pz 35 34) HT_ ?_
        refine sR 34 49 (pz 35 35) HT_ ?_
        refine done_ (done_of HT_.out (by kernel_rfl)) ?_
        try go_wp2
        go_meet
        case rel => exact ⟨_, (true), (by first | rfl | (simp; done) | (simp [*]; done)), H', ⟨by have := HK1.out; first | omega | exact Nat.le_refl _⟩, ⟨by (with_reducible repeat (first | refine blk_drewN ?_ _ | refine blk_drew ?_ | refine blk_alloc ?_ _)); exact BK170.out⟩, ⟨by (with_reducible repeat (first | refine blk_drewN ?_ _ | refine blk_drew ?_ | refine blk_alloc ?_ _)); exact BK173.out⟩, ⟨by repeat (first | (with_reducible first | exact HB.out | apply below_alloc | apply pw_below_drewN | apply below_drew1 | refine below_set ?_ GE170.out | refine below_set ?_ GE173.out) | exact HB.out)⟩⟩
      case rest =>
       clear HC7
       try clear c1
       try clear c2
       try clear p2
       try clear c5
       try clear c7
       try clear c12
       try clear c17
       try clear c27
       obtain ⟨kq, x49_6, rfl, HA, HJ6, BK170, BK173, HB⟩ := hcut
       cases kq with
       | zero => exact absurd HA.out (by simp [spec_GoodMarks.j1])
       | succ kj6 =>
        have H := HA.out
        clear HA
        simp only [spec_GoodMarks.j1] at H
        by_cases c34 : x49_6 = true
        ·subst c34
         have H1 : (some false) = some r := by rw [if_pos rfl] at H; exact H
         clear H
         have H := H1
         clear H1
         obtain rfl := Option.some.inj H
         go_wp2
         go_ret
         exact ⟨by first | rfl | (simp [errW_none, errW_some] <;> rfl) | (simp [*, errW_none, errW_some] <;> rfl), by repeat (first | (with_reducible first | exact HB.out | apply below_alloc | apply pw_below_drewN | apply below_drew1 | refine below_set ?_ GE170.out | refine below_set ?_ GE173.out) | exact HB.out)⟩
        ·replace c34 := Bool.eq_false_iff.mpr c34
         subst c34
         have H1 : (spec_GoodMarks.l1 kj6 l0_0 (l0_0.length : Int) x10_1 ((rd_T94 l0_0 x10_1).f2) (((rd_T94 l0_0 x10_1).f2).length : Int) 0 l0_0) = some r := by rw [if_neg (show ¬ (false = true) by decide)] at H; exact H
         clear H
         have H := H1
         clear H1
         have H' := Aside0.mk H
         clear H
         have hnb35 := NB173_170.out
         have hnc35 := NB170_173.out
         have hcz36_0 : wc.cell? ⟨gb173, 0, none⟩ = some (.int .i64 ((rd_T94 l0_0 x10_1).f0)) := (blk_cell BK173.out 0).trans rfl
         have hcz36_1 : wc.cell? ⟨gb173, 1, none⟩ = some (.slice A172_1 ((rd_T94 l0_0 x10_1).f1).length c172_1) := (blk_cell BK173.out 1).trans rfl
         have hcz36_2 : wc.cell? ⟨gb173, 2, none⟩ = some (.slice A172_2 ((rd_T94 l0_0 x10_1).f2).length c172_2) := (blk_cell BK173.out 2).trans rfl
         have hfz36_0 := blk_frozen BK173.out 0
         have hfz36_1 := blk_frozen BK173.out 1
         have hfz36_2 := blk_frozen BK173.out 2
         go_wp2
         go_loopg [53] kj6 (fun kq v53 w' => ∃ (x53_3 : Int), v53 = .int .i64 x53_3 ∧ Aside0 (spec_GoodMarks.l1 kq l0_0 (l0_0.length : Int) x10_1 ((rd_T94 l0_0 x10_1).f2) (((rd_T94 l0_0 x10_1).f2).length : Int) x53_3 l0_0 = some r) ∧ Aside0 (kq ≤ kj6) ∧ Aside0 (w'.heap[gb170]? = some (.cells #[(.slice (some ad172) l0_0.length c0_0)] 47 (0, 0))) ∧ Aside0 (w'.heap[gb173]? = some (.cells #[.int .i64 ((rd_T94 l0_0 x10_1).f0), (.slice A172_1 ((rd_T94 l0_0 x10_1).f1).length c172_1), (.slice A172_2 ((rd_T94 l0_0 x10_1).f2).length c172_2)] 94 (0, 0))) ∧ Aside0 (Below w.heap.size w w'))
         case atStart => exact ⟨(0), (by first | rfl | (simp; done) | (simp [*]; done)), H', ⟨Nat.le_refl _⟩, ⟨by (with_reducible repeat (first | refine blk_drewN ?_ _ | refine blk_drew ?_ | refine blk_alloc ?_ _)); exact BK170.out⟩, ⟨by (with_reducible repeat (first | refine blk_drewN ?_ _ | refine blk_drew ?_ | refine blk_alloc ?_ _)); exact BK173.out⟩, ⟨by repeat (first | (with_reducible first | exact HB.out | apply below_alloc | apply pw_below_drewN | apply below_drew1 | refine below_set ?_ GE170.out | refine below_set ?_ GE173.out) | exact HB.out)⟩⟩
         case round =>
          clear H'
          try clear c1
          try clear c2
          try clear p2
          try clear c3
          try clear c5
          try clear c7
          try clear c12
          try clear c17
          try clear c27
          try clear c34
          try clear c35
          try clear hcz36_0
          try clear hcz36_1
          try clear hcz36_2
          try clear hfz36_0
          try clear hfz36_1
          try clear hfz36_2
          try clear p2
          obtain ⟨x53_3, rfl, HA, HK3, BK170, BK173, HB⟩ := hrel
          cases gk with
          | zero => exact absurd HA.out (by simp [spec_GoodMarks.l1])
          | succ k3 =>
           have H := HA.out
           clear HA
           simp only [spec_GoodMarks.l1] at H
           by_cases c37 : x53_3 < (((rd_T94 l0_0 x10_1).f2).length : Int)
           ·rw [if_pos c37] at H
            have c37b0 : decide (x53_3 < (((rd_T94 l0_0 x10_1).f2).length : Int)) = true := decide_eq_true c37
            clear c37
            by_cases c38 : 0 ≤ x53_3
            ·rw [if_pos c38] at H
             have c38b0 : decide (0 ≤ x53_3) = true := decide_eq_true c38
             clear c38
             by_cases c39 : x53_3 < (((rd_T94 l0_0 x10_1).f2).length : Int)
             ·rw [if_pos c39] at H
              have c39b0 : decide (x53_3 < (((rd_T94 l0_0 x10_1).f2).length : Int)) = true := decide_eq_true c39
              clear c39
              replace H := Option.bind_eq_some_iff.mp H
              obtain ⟨t179, A400, H⟩ := H
              replace H : (if t179 = true then (spec_GoodMarks.l1 k3 l0_0 (l0_0.length : Int) x10_1 ((rd_T94 l0_0 x10_1).f2) (((rd_T94 l0_0 x10_1).f2).length : Int) (wrap64 (x53_3 + 1)) l0_0) else (some false)) = some r := H
              have A40 := Aside0.mk A400
              clear A400
              by_cases c41 : t179 = true
              ·subst c41
               have H1 : (spec_GoodMarks.l1 k3 l0_0 (l0_0.length : Int) x10_1 ((rd_T94 l0_0 x10_1).f2) (((rd_T94 l0_0 x10_1).f2).length : Int) (wrap64 (x53_3 + 1)) l0_0) = some r := by rw [if_pos rfl] at H; exact H
               clear H
               have H := H1
               clear H1
               have H' := Aside0.mk H
               clear H
               have p178 : 0 ≤ (x53_3 : Int) := of_decide_eq_true (by first | (with_reducible assumption) | assumption)
               have q178 : x53_3 < (((rd_T94 l0_0 x10_1).f2).length : Int) := of_decide_eq_true (by first | (with_reducible assumption) | assumption)
               obtain ⟨ad178, e178, hx178_0⟩ := Kd.at_string HR172_2.out x53_3 p178 q178
               cases e178
               replace hx178_0 := (HB.out.cell (World.block_lt_of_cell? w _ hx178_0)).trans hx178_0
               replace p178 := eq_true p178
               replace q178 := eq_true q178
               go_wp2_with (first | ((with_reducible refine gate_callee (f := 78) rfl ?_); refine goesL_ (some 58) rfl rfl Try.func78 (by kernel_rfl) rfl #[.string (rdOf ByteArray.empty ((rd_T94 l0_0 x10_1).f2) x53_3)] rfl (by (try simp only [List.map_toArray, List.map_cons, List.map_nil]); first | done | rfl | (simp only [List.length_drop, List.length_take]; rfl)) ?_; (with_reducible refine (spec_l7Data.calls (rdOf ByteArray.empty ((rd_T94 l0_0 x10_1).f2) x53_3) true _ A40.out).mono ?_); rintro e w' ⟨rfl, ⟨nd, rfl⟩⟩; refine ⟨_, rfl, ?_⟩))
               go_roundg k3
               case measure => have := HK1.out; have := HJ6.out; have := HK3.out; omega
               case rel => exact ⟨(wrap64 (x53_3 + 1)), (by first | rfl | (simp; done) | (simp [*]; done)), H', ⟨by have := HK1.out; have := HJ6.out; have := HK3.out; omega⟩, ⟨by (with_reducible repeat (first | refine blk_drewN ?_ _ | refine blk_drew ?_ | refine blk_alloc ?_ _)); exact BK170.out⟩, ⟨by (with_reducible repeat (first | refine blk_drewN ?_ _ | refine blk_drew ?_ | refine blk_alloc ?_ _)); exact BK173.out⟩, ⟨by repeat (first | (with_reducible first | exact HB.out | apply below_alloc | apply pw_below_drewN | apply below_drew1 | refine below_set ?_ GE170.out | refine below_set ?_ GE173.out) | exact HB.out)⟩⟩
              ·replace c41 := Bool.eq_false_iff.mpr c41
               subst c41
               have H1 : (some false) = some r := by rw [if_neg (show ¬ (false = true) by decide)] at H; exact H
               clear H
               have H := H1
               clear H1
               obtain rfl := Option.some.inj H
               have p178 : 0 ≤ (x53_3 : Int) := of_decide_eq_true (by first | (with_reducible assumption) | assumption)
               have q178 : x53_3 < (((rd_T94 l0_0 x10_1).f2).length : Int) := of_decide_eq_true (by first | (with_reducible assumption) | assumption)
               obtain ⟨ad178, e178, hx178_0⟩ := Kd.at_string HR172_2.out x53_3 p178 q178
               cases e178
               replace hx178_0 := (HB.out.cell (World.block_lt_of_cell? w _ hx178_0)).trans hx178_0
               replace p178 := eq_true p178
               replace q178 := eq_true q178
               go_wp2_with (first | ((with_reducible refine gate_callee (f := 78) rfl ?_); refine goesL_ (some 58) rfl rfl Try.func78 (by kernel_rfl) rfl #[.string (rdOf ByteArray.empty ((rd_T94 l0_0 x10_1).f2) x53_3)] rfl (by (try simp only [List.map_toArray, List.map_cons, List.map_nil]); first | done | rfl | (simp only [List.length_drop, List.length_take]; rfl)) ?_; (with_reducible refine (spec_l7Data.calls (rdOf ByteArray.empty ((rd_T94 l0_0 x10_1).f2) x53_3) false _ A40.out).mono ?_); rintro e w' ⟨rfl, ⟨nd, rfl⟩⟩; refine ⟨_, rfl, ?_⟩))
               go_ret
               exact ⟨by first | rfl | (simp [errW_none, errW_some] <;> rfl) | (simp [*, errW_none, errW_some] <;> rfl), by repeat (first | (with_reducible first | exact HB.out | apply below_alloc | apply pw_below_drewN | apply below_drew1 | refine below_set ?_ GE170.out | refine below_set ?_ GE173.out) | exact HB.out)⟩
             ·rw [if_neg c39] at H
              exact absurd H (by simp)
            ·rw [if_neg c38] at H
             exact absurd H (by simp)
           ·rw [if_neg c37] at H
            have c37b0 : decide (x53_3 < (((rd_T94 l0_0 x10_1).f2).length : Int)) = false := decide_eq_false c37
            clear c37
            have H' := Aside0.mk H
            clear H
            go_wp2
            go_roundg k3
            case measure => have := HK1.out; have := HJ6.out; have := HK3.out; omega
            case rel => exact ⟨(wrap64 (x10_1 + 1)), (by first | rfl | (simp; done) | (simp [*]; done)), H', ⟨by have := HK1.out; have := HJ6.out; have := HK3.out; omega⟩, ⟨by (with_reducible repeat (first | refine blk_drewN ?_ _ | refine blk_drew ?_ | refine blk_alloc ?_ _)); exact BK170.out⟩, ⟨by repeat (first | (with_reducible first | exact HB.out | apply below_alloc | apply pw_below_drewN | apply below_drew1 | refine below_set ?_ GE170.out | refine below_set ?_ GE173.out) | exact HB.out)⟩⟩
     ·rw [if_neg c6] at H
      exact absurd H (by simp)
    ·rw [if_neg c5] at H
     exact absurd H (by simp)
   ·rw [if_neg c4] at H
    have c4b0 : decide (x10_1 < (l0_0.length : Int)) = false := decide_eq_false c4
    clear c4
    replace H := Option.bind_eq_some_iff.mp H
    obtain ⟨t171, A420, H⟩ := H
    replace H : (some t171) = some r := H
    have A42 := Aside0.mk A420
    clear A420
    obtain rfl := Option.some.inj H
    have hcz43_0 : wr.cell? ⟨gb170, 0, none⟩ = some (.slice A0_0 l0_0.length c0_0) := (blk_cell BK170.out 0).trans rfl
    have hfz43_0 := blk_frozen BK170.out 0
    go_wp2_with (first | ((with_reducible refine gate_callee (f := 59) rfl ?_); refine goesL_ (some 65) rfl rfl Try.func59 (by kernel_rfl) rfl #[.int .i64 (l0_0.length : Int), .int .i64 1, .int .i64 8] rfl (by (try simp only [List.map_toArray, List.map_cons, List.map_nil]); first | done | rfl | (simp only [List.length_drop, List.length_take]; rfl)) ?_; (with_reducible refine (spec_l1In.calls (l0_0.length : Int) 1 8 t171 _ A42.out).mono ?_); rintro e w' ⟨rfl, ⟨nd, rfl⟩⟩; refine ⟨_, rfl, ?_⟩))
    go_ret
    exact ⟨by first | rfl | (simp [errW_none, errW_some] <;> rfl) | (simp [*, errW_none, errW_some] <;> rfl), by repeat (first | (with_reducible first | exact HB.out | apply below_alloc | apply pw_below_drewN | apply below_drew1 | refine below_set ?_ GE170.out) | exact HB.out)⟩

end Go.Proofs.Ytleklbmodelehaa.PFnExactChangedIn

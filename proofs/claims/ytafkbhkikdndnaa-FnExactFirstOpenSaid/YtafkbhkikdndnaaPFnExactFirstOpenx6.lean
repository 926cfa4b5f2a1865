/- Lean functions with the same answers as the Go functions that one law reaches, and for each a proof that its call comes to just these answers. No condition. Written by pr.py, a program of this session. -/
import Derived.Test.YtafkbhkikdndnaaCutFnExactFirstOpen
import Derived.Test.YtafkbhkikdndnaaPFnExactFirstOpenx0
import Derived.Test.YtafkbhkikdndnaaPFnExactFirstOpenx5
namespace Go.Proofs.Ytafkbhkikdndnaa.PFnExactFirstOpen
open Go.RowKit Go.Proofs.YtafkbhkikdndnaaW.PrintWords Go.Proofs.YtafkbhkikdndnaaW.PrintLast Go.Proofs.YtafkbhkikdndnaaW.PrintMore Go.Proofs.Ytafkbhkikdndnaa.Sq
attribute [local go_sem] max2_int min2_int max_two min_two max_three min_three max_four min_four   -- for this text's walks alone
set_option linter.unusedVariables false
set_option linter.unusedSimpArgs false

/-! ### impl_GoodWindow: function 58 -/
mutual
def impl_GoodWindow.j0 : Nat → Bool → List ByteArray → Int → List Bool → List (S128) → List ByteArray → List Bool → Int → Option (Bool)
  | 0, _, _, _, _, _, _, _, _ => none
  | k + 1, x45, x195000, x195001, x195002, x195003, x195004, x195005, x195006 => if x45 = true then (some false) else (impl_GoodWindow.l0 k x195005 (x195005.length : Int) 0 x195000 x195001 x195002 x195003 x195004 x195005 x195006)
def impl_GoodWindow.l0 : Nat → List Bool → Int → Int → List ByteArray → Int → List Bool → List (S128) → List ByteArray → List Bool → Int → Option (Bool)
  | 0, _, _, _, _, _, _, _, _, _, _ => none
  | k + 1, x47, x48, x49, x195000, x195001, x195002, x195003, x195004, x195005, x195006 => if x49 < x48 then (if 0 ≤ x49 then (if x49 < (x47.length : Int) then (if rdOf false x47 x49 = true then (if x49 < (x195004.length : Int) then (if x49 < (x195000.length : Int) then (if (rdOf ByteArray.empty x195004 x49).toList = (rdOf ByteArray.empty x195000 x49).toList then (impl_GoodWindow.l0 k x47 x48 (wrap64 (x49 + 1)) x195000 x195001 x195002 x195003 x195004 x195005 x195006) else (some false)) else (none)) else (none)) else (if x49 < (x195004.length : Int) then (if (rdOf ByteArray.empty x195004 x49).toList = ([] : List UInt8) then (if x49 < (x195002.length : Int) then (if rdOf false x195002 x49 = true then (some false) else (impl_GoodWindow.l0 k x47 x48 (wrap64 (x49 + 1)) x195000 x195001 x195002 x195003 x195004 x195005 x195006)) else (none)) else (some false)) else (none))) else (none)) else (none)) else ((impl_without.f k x195005).bind fun t202 => (if x195006 = t202 then ((impl_areAll_of_impl_Window_isFrame.f x195003 x195000 x195001 x195002 x195003 x195004 x195005 x195006).bind fun t203 => (some t203)) else (some false)))
end
def impl_GoodWindow.f (k : Nat) (l0_0 : List ByteArray) (a0_1 : Int) (l0_2 : List Bool) (l0_3 : List (S128)) (l0_4 : List ByteArray) (l0_5 : List Bool) (a0_6 : Int) : Option (Bool) := (impl_arePieces.f l0_0).bind fun t195 => (if t195 = true then ((impl_within.f a0_1 1 12).bind fun t196 => (if t196 = true then (if (l0_2.length : Int) = (l0_0.length : Int) then (if (l0_4.length : Int) = (l0_0.length : Int) then (if (l0_5.length : Int) = (l0_0.length : Int) then (impl_GoodWindow.j0 k (decide ((l0_3.length : Int) > 30)) l0_0 a0_1 l0_2 l0_3 l0_4 l0_5 a0_6) else (impl_GoodWindow.j0 k true l0_0 a0_1 l0_2 l0_3 l0_4 l0_5 a0_6)) else (impl_GoodWindow.j0 k true l0_0 a0_1 l0_2 l0_3 l0_4 l0_5 a0_6)) else (impl_GoodWindow.j0 k true l0_0 a0_1 l0_2 l0_3 l0_4 l0_5 a0_6)) else (impl_GoodWindow.j0 k true l0_0 a0_1 l0_2 l0_3 l0_4 l0_5 a0_6))) else (impl_GoodWindow.j0 k true l0_0 a0_1 l0_2 l0_3 l0_4 l0_5 a0_6))
theorem impl_GoodWindow.mono_l : ∀ k, (∀ y0 y1 y2 y3 y4 y5 y6 y7, LeO (impl_GoodWindow.j0 k y0 y1 y2 y3 y4 y5 y6 y7) (impl_GoodWindow.j0 (k + 1) y0 y1 y2 y3 y4 y5 y6 y7)) ∧ (∀ y0 y1 y2 y3 y4 y5 y6 y7 y8 y9, LeO (impl_GoodWindow.l0 k y0 y1 y2 y3 y4 y5 y6 y7 y8 y9) (impl_GoodWindow.l0 (k + 1) y0 y1 y2 y3 y4 y5 y6 y7 y8 y9))
  | 0 => ⟨fun _ _ _ _ _ _ _ _ r h => by simp [impl_GoodWindow.j0] at h, fun _ _ _ _ _ _ _ _ _ _ r h => by simp [impl_GoodWindow.l0] at h⟩
  | k + 1 => by
    obtain ⟨ih0, ih1⟩ := impl_GoodWindow.mono_l k
    refine ⟨?_, ?_⟩
    · intro y0 y1 y2 y3 y4 y5 y6 y7
      unfold impl_GoodWindow.j0
      repeat' first
      | (with_reducible exact ih0 _ _ _ _ _ _ _ _)
      | (with_reducible exact ih1 _ _ _ _ _ _ _ _ _ _)
      | (with_reducible exact impl_without.mono _ _)
      | (with_reducible exact LeO.refl _)
      | (with_reducible exact LeO.none _)
      | (with_reducible refine LeO.ite ?_ ?_)
      | (with_reducible refine LeO.bind ?_ (fun _ => ?_))
      | exact ih0 _ _ _ _ _ _ _ _
      | exact ih1 _ _ _ _ _ _ _ _ _ _
      | exact impl_without.mono _ _
      | exact LeO.none _
      | refine LeO.ite ?_ ?_
      | refine LeO.bind ?_ (fun _ => ?_)
    · intro y0 y1 y2 y3 y4 y5 y6 y7 y8 y9
      unfold impl_GoodWindow.l0
      repeat' first
      | (with_reducible exact ih0 _ _ _ _ _ _ _ _)
      | (with_reducible exact ih1 _ _ _ _ _ _ _ _ _ _)
      | (with_reducible exact impl_without.mono _ _)
      | (with_reducible exact LeO.refl _)
      | (with_reducible exact LeO.none _)
      | (with_reducible refine LeO.ite ?_ ?_)
      | (with_reducible refine LeO.bind ?_ (fun _ => ?_))
      | exact ih0 _ _ _ _ _ _ _ _
      | exact ih1 _ _ _ _ _ _ _ _ _ _
      | exact impl_without.mono _ _
      | exact LeO.none _
      | refine LeO.ite ?_ ?_
      | refine LeO.bind ?_ (fun _ => ?_)
theorem impl_GoodWindow.mono : ∀ a0 a1 a2 a3 a4 a5 a6 k, LeO (impl_GoodWindow.f k a0 a1 a2 a3 a4 a5 a6) (impl_GoodWindow.f (k + 1) a0 a1 a2 a3 a4 a5 a6) := by
  intro a0 a1 a2 a3 a4 a5 a6 k
  obtain ⟨ih0, ih1⟩ := impl_GoodWindow.mono_l k
  unfold impl_GoodWindow.f
  repeat' first
      | (with_reducible exact ih0 _ _ _ _ _ _ _ _)
      | (with_reducible exact ih1 _ _ _ _ _ _ _ _ _ _)
      | (with_reducible exact impl_without.mono _ _)
      | (with_reducible exact LeO.refl _)
      | (with_reducible exact LeO.none _)
      | (with_reducible refine LeO.ite ?_ ?_)
      | (with_reducible refine LeO.bind ?_ (fun _ => ?_))
      | exact ih0 _ _ _ _ _ _ _ _
      | exact ih1 _ _ _ _ _ _ _ _ _ _
      | exact impl_without.mono _ _
      | exact LeO.none _
      | refine LeO.ite ?_ ?_
      | refine LeO.bind ?_ (fun _ => ?_)
def impl_GoodWindow.T7 : Bool × List (List Nat × List Nat) := (true, [([], []), ([0], [0]), ([1], [1]), ([2, 1], [1, 2]), ([1], [1]), ([3, 4, 1], [1, 3, 4]), ([5, 1], [1, 5]), ([1], [1]), ([7, 1], [1, 7]), ([1], [1]), ([8, 9, 1], [1, 8, 9]), ([10, 1], [1, 10]), ([6, 11, 1], [1, 6, 11]), ([1, 12], [1, 12]), ([13, 1], [13]), ([14], [14]), ([15, 14], [14, 15]), ([16, 14, 14], [14, 16]), ([17], [17]), ([18, 17], [17, 18]), ([17], [17]), ([19, 20, 17], [17, 19, 20]), ([21, 17], [17, 21]), ([22, 17], [17, 22]), ([23, 17, 17], [17, 23]), ([24], [24]), ([25, 24], [24, 25]), ([24], [24]), ([26, 27, 24], [24, 26, 27]), ([28, 24], [24, 28]), ([24, 29, 17], [17, 24, 29]), ([17, 30, 14], [14, 17, 30]), ([14, 31], [14, 31])])
def impl_GoodWindow.B7 : List Nat := [0, 1, 3, 7, 3, 31, 63, 3, 131, 3, 899, 1923, 4095, 8191, 16383, 32767, 65535, 131071, 262143, 524287, 262143, 2097151, 4194303, 8388607, 16777215, 33554431, 67108863, 33554431, 268435455, 536870911, 1073741823, 2147483647, 4294967295]
theorem impl_GoodWindow.tab7 : rtab .any (opsOf Try.f58 7) = impl_GoodWindow.T7 := by kernel_rfl
theorem impl_GoodWindow.bits7 : waitsOk impl_GoodWindow.T7.2 impl_GoodWindow.B7 = true := by kernel_rfl
def impl_GoodWindow.T10 : Bool × List (List Nat × List Nat) := (true, [([], []), ([0], [0]), ([], []), ([2], [2]), ([3], [3]), ([1, 4], [1, 4]), ([5, 4], [5]), ([6], [6]), ([7, 6], [6, 7]), ([6], [6]), ([9, 6], [6, 9]), ([8, 10, 6, 6], [6, 8, 10]), ([6, 11], [6, 11]), ([12, 11, 0, 1, 2, 3, 4, 5, 6, 7, 8, 9, 10, 11, 12], [12])])
def impl_GoodWindow.B10 : List Nat := [0, 1, 0, 4, 12, 31, 63, 127, 255, 127, 639, 2047, 4095, 8191]
theorem impl_GoodWindow.tab10 : rtab .any (opsOf Try.f58 10) = impl_GoodWindow.T10 := by kernel_rfl
theorem impl_GoodWindow.bits10 : waitsOk impl_GoodWindow.T10.2 impl_GoodWindow.B10 = true := by kernel_rfl
set_option maxHeartbeats 8000000 in
set_option maxRecDepth 100000 in
theorem impl_GoodWindow.calls (k : Nat) (A0_0 : Option Addr) (c0_0 : Nat) (l0_0 : List ByteArray) (a0_1 : Int) (A0_2 : Option Addr) (c0_2 : Nat) (l0_2 : List Bool) (A0_3 : Option Addr) (c0_3 : Nat) (l0_3 : List (S128)) (A0_4 : Option Addr) (c0_4 : Nat) (l0_4 : List ByteArray) (A0_5 : Option Addr) (c0_5 : Nat) (l0_5 : List Bool) (a0_6 : Int) (r : Bool) (w : World) (hr0_0 : Kd.C Kd.string w A0_0 l0_0.length l0_0) (hc0_0 : l0_0.length ≤ c0_0) (hr0_2 : Kd.C Kd.bool w A0_2 l0_2.length l0_2) (hc0_2 : l0_2.length ≤ c0_2) (hr0_3 : Kd.C k128 w A0_3 l0_3.length l0_3) (hc0_3 : l0_3.length ≤ c0_3) (hr0_4 : Kd.C Kd.string w A0_4 l0_4.length l0_4) (hc0_4 : l0_4.length ≤ c0_4) (hr0_5 : Kd.C Kd.bool w A0_5 l0_5.length l0_5) (hc0_5 : l0_5.length ≤ c0_5) (h : impl_GoodWindow.f k l0_0 a0_1 l0_2 l0_3 l0_4 l0_5 a0_6 = some r) :
    Calls Try.prog 58 #[.agg #[.slice A0_0 l0_0.length c0_0, .int .i64 a0_1, .slice A0_2 l0_2.length c0_2, .slice A0_3 l0_3.length c0_3, .slice A0_4 l0_4.length c0_4, .slice A0_5 l0_5.length c0_5, .int .i64 a0_6]] w fun e w' => e = .returned (.bool r) ∧ Below w.heap.size w w' := by
 have hu66 := Try.underlying66
 have HR0_0 := Aside0.mk hr0_0
 have HC0_0 := Aside0.mk hc0_0
 clear hr0_0 hc0_0
 have HR0_2 := Aside0.mk hr0_2
 have HC0_2 := Aside0.mk hc0_2
 clear hr0_2 hc0_2
 have HR0_3 := Aside0.mk hr0_3
 have HC0_3 := Aside0.mk hc0_3
 clear hr0_3 hc0_3
 have HR0_4 := Aside0.mk hr0_4
 have HC0_4 := Aside0.mk hc0_4
 clear hr0_4 hc0_4
 have HR0_5 := Aside0.mk hr0_5
 have HC0_5 := Aside0.mk hc0_5
 clear hr0_5 hc0_5
 have HB := Aside0.mk (Below.refl w.heap.size w)
 have H : ((impl_arePieces.f l0_0).bind fun t195 => (if t195 = true then ((impl_within.f a0_1 1 12).bind fun t196 => (if t196 = true then (if (l0_2.length : Int) = (l0_0.length : Int) then (if (l0_4.length : Int) = (l0_0.length : Int) then (if (l0_5.length : Int) = (l0_0.length : Int) then (impl_GoodWindow.j0 k (decide ((l0_3.length : Int) > 30)) l0_0 a0_1 l0_2 l0_3 l0_4 l0_5 a0_6) else (impl_GoodWindow.j0 k true l0_0 a0_1 l0_2 l0_3 l0_4 l0_5 a0_6)) else (impl_GoodWindow.j0 k true l0_0 a0_1 l0_2 l0_3 l0_4 l0_5 a0_6)) else (impl_GoodWindow.j0 k true l0_0 a0_1 l0_2 l0_3 l0_4 l0_5 a0_6)) else (impl_GoodWindow.j0 k true l0_0 a0_1 l0_2 l0_3 l0_4 l0_5 a0_6))) else (impl_GoodWindow.j0 k true l0_0 a0_1 l0_2 l0_3 l0_4 l0_5 a0_6))) = some r := h
 clear h
 have HC2 := Aside0.mk H
 clear H
 go_enter Try.func58, Try.ntmps58
 go_upto_region 2 with (first | ((with_reducible refine gate_dst (N := 1) rfl ?_); (try (refine gate_guard (by rfl) ?_; dsimp only)); refine box_event ?hg (N := 1) ?hd (cs := #[.slice A0_0 l0_0.length c0_0, .int .i64 a0_1, .slice A0_2 l0_2.length c0_2, .slice A0_3 l0_3.length c0_3, .slice A0_4 l0_4.length c0_4, .slice A0_5 l0_5.length c0_5, .int .i64 a0_6]) (t := 66) ?hr ?_; (case hd => rfl); (case hg => rfl); (case hr => first | (go_simp; done) | (go_simp; rfl)); intro gb194 hg w3 hbox hb; have n0_ := Aside0.mk (below_step (by repeat (first | (with_reducible first | exact HB.out | apply below_alloc | apply pw_below_drewN | apply below_drew1) | exact HB.out)) hb); have n1_ := Aside0.mk (hbox); have n2_ := Aside0.mk ((by rw [hg]; exact (below_size (by repeat (first | (with_reducible first | exact HB.out | apply below_alloc | apply pw_below_drewN | apply below_drew1) | exact HB.out))) : w.heap.size ≤ gb194)); have n3_ := Aside0.mk ((by rw [hg]; exact (below_size (by repeat (first | (with_reducible first | exact HB.out | apply below_alloc | apply pw_below_drewN | apply below_drew1) | exact HB.out))) : w.heap.size ≤ gb194)); clear HB; have HB := n0_; have BK194 := n1_; have GW194 := n2_; have GE194 := n3_; clear n0_ n1_ n2_ n3_; clear hb hbox hg; have hcz4_0 : w3.cell? ⟨gb194, 0, none⟩ = some (.slice A0_0 l0_0.length c0_0) := (blk_cell BK194.out 0).trans rfl; have hcz4_1 : w3.cell? ⟨gb194, 1, none⟩ = some (.int .i64 a0_1) := (blk_cell BK194.out 1).trans rfl; have hcz4_2 : w3.cell? ⟨gb194, 2, none⟩ = some (.slice A0_2 l0_2.length c0_2) := (blk_cell BK194.out 2).trans rfl; have hcz4_3 : w3.cell? ⟨gb194, 3, none⟩ = some (.slice A0_3 l0_3.length c0_3) := (blk_cell BK194.out 3).trans rfl; have hcz4_4 : w3.cell? ⟨gb194, 4, none⟩ = some (.slice A0_4 l0_4.length c0_4) := (blk_cell BK194.out 4).trans rfl; have hcz4_5 : w3.cell? ⟨gb194, 5, none⟩ = some (.slice A0_5 l0_5.length c0_5) := (blk_cell BK194.out 5).trans rfl; have hcz4_6 : w3.cell? ⟨gb194, 6, none⟩ = some (.int .i64 a0_6) := (blk_cell BK194.out 6).trans rfl; have hfz4_0 := blk_frozen BK194.out 0; have hfz4_1 := blk_frozen BK194.out 1; have hfz4_2 := blk_frozen BK194.out 2; have hfz4_3 := blk_frozen BK194.out 3; have hfz4_4 := blk_frozen BK194.out 4; have hfz4_5 := blk_frozen BK194.out 5; have hfz4_6 := blk_frozen BK194.out 6))
 (try simp only [Act.put, List.setIfInBounds_toArray, List.set_cons_zero, List.set_cons_succ])
 go_cut [45] (fun v45 wc => ∃ (kq : Nat) (x45_1 : Bool), v45 = .bool x45_1 ∧ Aside0 (impl_GoodWindow.j0 kq x45_1 l0_0 a0_1 l0_2 l0_3 l0_4 l0_5 a0_6 = some r) ∧ Aside0 (kq ≤ k) ∧ Aside0 (wc.heap[gb194]? = some (.cells #[(.slice A0_0 l0_0.length c0_0), .int .i64 a0_1, (.slice A0_2 l0_2.length c0_2), (.slice A0_3 l0_3.length c0_3), (.slice A0_4 l0_4.length c0_4), (.slice A0_5 l0_5.length c0_5), .int .i64 a0_6] 66 (0, 0))) ∧ Aside0 (Below w.heap.size w wc))
 case first =>
  have H := HC2.out
  clear HC2
  replace H := Option.bind_eq_some_iff.mp H
  obtain ⟨t195, A50, H⟩ := H
  replace H : (if t195 = true then ((impl_within.f a0_1 1 12).bind fun t196 => (if t196 = true then (if (l0_2.length : Int) = (l0_0.length : Int) then (if (l0_4.length : Int) = (l0_0.length : Int) then (if (l0_5.length : Int) = (l0_0.length : Int) then (impl_GoodWindow.j0 k (decide ((l0_3.length : Int) > 30)) l0_0 a0_1 l0_2 l0_3 l0_4 l0_5 a0_6) else (impl_GoodWindow.j0 k true l0_0 a0_1 l0_2 l0_3 l0_4 l0_5 a0_6)) else (impl_GoodWindow.j0 k true l0_0 a0_1 l0_2 l0_3 l0_4 l0_5 a0_6)) else (impl_GoodWindow.j0 k true l0_0 a0_1 l0_2 l0_3 l0_4 l0_5 a0_6)) else (impl_GoodWindow.j0 k true l0_0 a0_1 l0_2 l0_3 l0_4 l0_5 a0_6))) else (impl_GoodWindow.j0 k true l0_0 a0_1 l0_2 l0_3 l0_4 l0_5 a0_6)) = some r := H
  have A5 := Aside0.mk A50
  clear A50
  by_cases c6 : t195 = true
  ·subst c6
   have H1 : ((impl_within.f a0_1 1 12).bind fun t196 => (if t196 = true then (if (l0_2.length : Int) = (l0_0.length : Int) then (if (l0_4.length : Int) = (l0_0.length : Int) then (if (l0_5.length : Int) = (l0_0.length : Int) then (impl_GoodWindow.j0 k (decide ((l0_3.length : Int) > 30)) l0_0 a0_1 l0_2 l0_3 l0_4 l0_5 a0_6) else (impl_GoodWindow.j0 k true l0_0 a0_1 l0_2 l0_3 l0_4 l0_5 a0_6)) else (impl_GoodWindow.j0 k true l0_0 a0_1 l0_2 l0_3 l0_4 l0_5 a0_6)) else (impl_GoodWindow.j0 k true l0_0 a0_1 l0_2 l0_3 l0_4 l0_5 a0_6)) else (impl_GoodWindow.j0 k true l0_0 a0_1 l0_2 l0_3 l0_4 l0_5 a0_6))) = some r := by rw [if_pos rfl] at H; exact H
   clear H
   have H := H1
   clear H1
   replace H := Option.bind_eq_some_iff.mp H
   obtain ⟨t196, A70, H⟩ := H
   replace H : (if t196 = true then (if (l0_2.length : Int) = (l0_0.length : Int) then (if (l0_4.length : Int) = (l0_0.length : Int) then (if (l0_5.length : Int) = (l0_0.length : Int) then (impl_GoodWindow.j0 k (decide ((l0_3.length : Int) > 30)) l0_0 a0_1 l0_2 l0_3 l0_4 l0_5 a0_6) else (impl_GoodWindow.j0 k true l0_0 a0_1 l0_2 l0_3 l0_4 l0_5 a0_6)) else (impl_GoodWindow.j0 k true l0_0 a0_1 l0_2 l0_3 l0_4 l0_5 a0_6)) else (impl_GoodWindow.j0 k true l0_0 a0_1 l0_2 l0_3 l0_4 l0_5 a0_6)) else (impl_GoodWindow.j0 k true l0_0 a0_1 l0_2 l0_3 l0_4 l0_5 a0_6)) = some r := H
   have A7 := Aside0.mk A70
   clear A70
   by_cases c8 : t196 = true
   ·subst c8
    have H1 : (if (l0_2.length : Int) = (l0_0.length : Int) then (if (l0_4.length : Int) = (l0_0.length : Int) then (if (l0_5.length : Int) = (l0_0.length : Int) then (impl_GoodWindow.j0 k (decide ((l0_3.length : Int) > 30)) l0_0 a0_1 l0_2 l0_3 l0_4 l0_5 a0_6) else (impl_GoodWindow.j0 k true l0_0 a0_1 l0_2 l0_3 l0_4 l0_5 a0_6)) else (impl_GoodWindow.j0 k true l0_0 a0_1 l0_2 l0_3 l0_4 l0_5 a0_6)) else (impl_GoodWindow.j0 k true l0_0 a0_1 l0_2 l0_3 l0_4 l0_5 a0_6)) = some r := by rw [if_pos rfl] at H; exact H
    clear H
    have H := H1
    clear H1
    by_cases c9 : (l0_2.length : Int) = (l0_0.length : Int)
    ·rw [if_pos c9] at H
     have c9b0 : ((l0_2.length : Int) == (l0_0.length : Int)) = true := beq_iff_eq.mpr c9
     have c9b1 : ((l0_2.length : Int) != (l0_0.length : Int)) = false := bne_eq_false_iff_eq.mpr c9
     have c9b2 : (l0_2.length == l0_0.length) = true := by first | simpa using c9 | (simp at c9 ⊢; omega)
     clear c9
     (first | rw [c9b0] | (simp only [i64_w, i32_w]; rw [c9b0]) | skip)
     by_cases c10 : (l0_4.length : Int) = (l0_0.length : Int)
     ·rw [if_pos c10] at H
      have c10b0 : ((l0_4.length : Int) == (l0_0.length : Int)) = true := beq_iff_eq.mpr c10
      have c10b1 : ((l0_4.length : Int) != (l0_0.length : Int)) = false := bne_eq_false_iff_eq.mpr c10
      have c10b2 : (l0_4.length == l0_0.length) = true := by first | simpa using c10 | (simp at c10 ⊢; omega)
      clear c10
      by_cases c11 : (l0_5.length : Int) = (l0_0.length : Int)
      ·rw [if_pos c11] at H
       have c11b0 : ((l0_5.length : Int) == (l0_0.length : Int)) = true := beq_iff_eq.mpr c11
       have c11b1 : ((l0_5.length : Int) != (l0_0.length : Int)) = false := bne_eq_false_iff_eq.mpr c11
       have c11b2 : (l0_5.length == l0_0.length) = true := by first | simpa using c11 | (simp at c11 ⊢; omega)
       clear c11
       have H' := Aside0.mk H
       clear H
       have hcz12_0 : w3.cell? ⟨gb194, 0, none⟩ = some (.slice A0_0 l0_0.length c0_0) := (blk_cell BK194.out 0).trans rfl
       have hcz12_1 : w3.cell? ⟨gb194, 1, none⟩ = some (.int .i64 a0_1) := (blk_cell BK194.out 1).trans rfl
       have hcz12_2 : w3.cell? ⟨gb194, 2, none⟩ = some (.slice A0_2 l0_2.length c0_2) := (blk_cell BK194.out 2).trans rfl
       have hcz12_3 : w3.cell? ⟨gb194, 3, none⟩ = some (.slice A0_3 l0_3.length c0_3) := (blk_cell BK194.out 3).trans rfl
       have hcz12_4 : w3.cell? ⟨gb194, 4, none⟩ = some (.slice A0_4 l0_4.length c0_4) := (blk_cell BK194.out 4).trans rfl
       have hcz12_5 : w3.cell? ⟨gb194, 5, none⟩ = some (.slice A0_5 l0_5.length c0_5) := (blk_cell BK194.out 5).trans rfl
       have hcz12_6 : w3.cell? ⟨gb194, 6, none⟩ = some (.int .i64 a0_6) := (blk_cell BK194.out 6).trans rfl
       have hfz12_0 := blk_frozen BK194.out 0
       have hfz12_1 := blk_frozen BK194.out 1
       have hfz12_2 := blk_frozen BK194.out 2
       have hfz12_3 := blk_frozen BK194.out 3
       have hfz12_4 := blk_frozen BK194.out 4
       have hfz12_5 := blk_frozen BK194.out 5
       have hfz12_6 := blk_frozen BK194.out 6
       go_wp2_with (first | ((with_reducible refine gate_callee (f := 101) rfl ?_); refine goesL_ (some 11) rfl rfl Try.func101 (by kernel_rfl) rfl #[.slice A0_0 l0_0.length c0_0] rfl (by (try simp only [List.map_toArray, List.map_cons, List.map_nil]); first | done | rfl | (simp only [List.length_drop, List.length_take]; rfl)) ?_; (with_reducible refine (impl_arePieces.calls _ _ l0_0 true _ ?side1 ?side2 A5.out).mono ?_); (case side1 => repeat (first | exact (Kd.C_below HR0_0.out HB.out) | (with_reducible refine Kd.C_alloc ?_ _) | (with_reducible refine Kd.C_drewN ?_ _) | (with_reducible refine Kd.C_drew ?_))); (case side2 => exact HC0_0.out); rintro e w13 ⟨rfl, hb⟩; refine ⟨_, rfl, ?_⟩; have n0_ := Aside0.mk (blk_below (g := gb194) (o := .cells #[.slice A0_0 l0_0.length c0_0, .int .i64 a0_1, .slice A0_2 l0_2.length c0_2, .slice A0_3 l0_3.length c0_3, .slice A0_4 l0_4.length c0_4, .slice A0_5 l0_5.length c0_5, .int .i64 a0_6] 66 (0, 0)) (by (with_reducible repeat (first | refine blk_drewN ?_ _ | refine blk_drew ?_ | refine blk_alloc ?_ _)); exact BK194.out) hb); have n1_ := Aside0.mk (below_step (by repeat (first | (with_reducible first | exact HB.out | apply below_alloc | apply pw_below_drewN | apply below_drew1 | refine below_set ?_ GE194.out) | exact HB.out)) hb); clear BK194; clear HB; have BK194 := n0_; have HB := n1_; clear n0_ n1_; (try clear hb); (try clear hb2); (try clear hk); (try clear hi); have hcz14_0 : w13.cell? ⟨gb194, 0, none⟩ = some (.slice A0_0 l0_0.length c0_0) := (blk_cell BK194.out 0).trans rfl; have hcz14_1 : w13.cell? ⟨gb194, 1, none⟩ = some (.int .i64 a0_1) := (blk_cell BK194.out 1).trans rfl; have hcz14_2 : w13.cell? ⟨gb194, 2, none⟩ = some (.slice A0_2 l0_2.length c0_2) := (blk_cell BK194.out 2).trans rfl; have hcz14_3 : w13.cell? ⟨gb194, 3, none⟩ = some (.slice A0_3 l0_3.length c0_3) := (blk_cell BK194.out 3).trans rfl; have hcz14_4 : w13.cell? ⟨gb194, 4, none⟩ = some (.slice A0_4 l0_4.length c0_4) := (blk_cell BK194.out 4).trans rfl; have hcz14_5 : w13.cell? ⟨gb194, 5, none⟩ = some (.slice A0_5 l0_5.length c0_5) := (blk_cell BK194.out 5).trans rfl; have hcz14_6 : w13.cell? ⟨gb194, 6, none⟩ = some (.int .i64 a0_6) := (blk_cell BK194.out 6).trans rfl; have hfz14_0 := blk_frozen BK194.out 0; have hfz14_1 := blk_frozen BK194.out 1; have hfz14_2 := blk_frozen BK194.out 2; have hfz14_3 := blk_frozen BK194.out 3; have hfz14_4 := blk_frozen BK194.out 4; have hfz14_5 := blk_frozen BK194.out 5; have hfz14_6 := blk_frozen BK194.out 6) | (go_at_call 70; (with_reducible refine (impl_within.calls a0_1 1 12 true _ A7.out).mono ?_); rintro e w' ⟨rfl, ⟨nd, rfl⟩⟩))
       go_meet
       case rel => exact ⟨_, (decide ((l0_3.length : Int) > 30)), (by first | rfl | (simp; done) | (simp [*]; done)), H', ⟨by first | omega | exact Nat.le_refl _⟩, ⟨by (with_reducible repeat (first | refine blk_drewN ?_ _ | refine blk_drew ?_ | refine blk_alloc ?_ _)); exact BK194.out⟩, ⟨by repeat (first | (with_reducible first | exact HB.out | apply below_alloc | apply pw_below_drewN | apply below_drew1 | refine below_set ?_ GE194.out) | exact HB.out)⟩⟩
      ·rw [if_neg c11] at H
       have c11b0 : ((l0_5.length : Int) == (l0_0.length : Int)) = false := beq_eq_false_iff_ne.mpr c11
       have c11b1 : ((l0_5.length : Int) != (l0_0.length : Int)) = true := bne_iff_ne.mpr c11
       have c11b2 : (l0_5.length == l0_0.length) = false := by first | simpa using c11 | (simp at c11 ⊢; omega)
       have H' := Aside0.mk H
       clear H
       have hcz15_0 : w3.cell? ⟨gb194, 0, none⟩ = some (.slice A0_0 l0_0.length c0_0) := (blk_cell BK194.out 0).trans rfl
       have hcz15_1 : w3.cell? ⟨gb194, 1, none⟩ = some (.int .i64 a0_1) := (blk_cell BK194.out 1).trans rfl
       have hcz15_2 : w3.cell? ⟨gb194, 2, none⟩ = some (.slice A0_2 l0_2.length c0_2) := (blk_cell BK194.out 2).trans rfl
       have hcz15_3 : w3.cell? ⟨gb194, 3, none⟩ = some (.slice A0_3 l0_3.length c0_3) := (blk_cell BK194.out 3).trans rfl
       have hcz15_4 : w3.cell? ⟨gb194, 4, none⟩ = some (.slice A0_4 l0_4.length c0_4) := (blk_cell BK194.out 4).trans rfl
       have hcz15_5 : w3.cell? ⟨gb194, 5, none⟩ = some (.slice A0_5 l0_5.length c0_5) := (blk_cell BK194.out 5).trans rfl
       have hcz15_6 : w3.cell? ⟨gb194, 6, none⟩ = some (.int .i64 a0_6) := (blk_cell BK194.out 6).trans rfl
       have hfz15_0 := blk_frozen BK194.out 0
       have hfz15_1 := blk_frozen BK194.out 1
       have hfz15_2 := blk_frozen BK194.out 2
       have hfz15_3 := blk_frozen BK194.out 3
       have hfz15_4 := blk_frozen BK194.out 4
       have hfz15_5 := blk_frozen BK194.out 5
       have hfz15_6 := blk_frozen BK194.out 6
       go_wp2_with (first | ((with_reducible refine gate_callee (f := 101) rfl ?_); refine goesL_ (some 11) rfl rfl Try.func101 (by kernel_rfl) rfl #[.slice A0_0 l0_0.length c0_0] rfl (by (try simp only [List.map_toArray, List.map_cons, List.map_nil]); first | done | rfl | (simp only [List.length_drop, List.length_take]; rfl)) ?_; (with_reducible refine (impl_arePieces.calls _ _ l0_0 true _ ?side1 ?side2 A5.out).mono ?_); (case side1 => repeat (first | exact (Kd.C_below HR0_0.out HB.out) | (with_reducible refine Kd.C_alloc ?_ _) | (with_reducible refine Kd.C_drewN ?_ _) | (with_reducible refine Kd.C_drew ?_))); (case side2 => exact HC0_0.out); rintro e w16 ⟨rfl, hb⟩; refine ⟨_, rfl, ?_⟩; have n0_ := Aside0.mk (blk_below (g := gb194) (o := .cells #[.slice A0_0 l0_0.length c0_0, .int .i64 a0_1, .slice A0_2 l0_2.length c0_2, .slice A0_3 l0_3.length c0_3, .slice A0_4 l0_4.length c0_4, .slice A0_5 l0_5.length c0_5, .int .i64 a0_6] 66 (0, 0)) (by (with_reducible repeat (first | refine blk_drewN ?_ _ | refine blk_drew ?_ | refine blk_alloc ?_ _)); exact BK194.out) hb); have n1_ := Aside0.mk (below_step (by repeat (first | (with_reducible first | exact HB.out | apply below_alloc | apply pw_below_drewN | apply below_drew1 | refine below_set ?_ GE194.out) | exact HB.out)) hb); clear BK194; clear HB; have BK194 := n0_; have HB := n1_; clear n0_ n1_; (try clear hb); (try clear hb2); (try clear hk); (try clear hi); have hcz17_0 : w16.cell? ⟨gb194, 0, none⟩ = some (.slice A0_0 l0_0.length c0_0) := (blk_cell BK194.out 0).trans rfl; have hcz17_1 : w16.cell? ⟨gb194, 1, none⟩ = some (.int .i64 a0_1) := (blk_cell BK194.out 1).trans rfl; have hcz17_2 : w16.cell? ⟨gb194, 2, none⟩ = some (.slice A0_2 l0_2.length c0_2) := (blk_cell BK194.out 2).trans rfl; have hcz17_3 : w16.cell? ⟨gb194, 3, none⟩ = some (.slice A0_3 l0_3.length c0_3) := (blk_cell BK194.out 3).trans rfl; have hcz17_4 : w16.cell? ⟨gb194, 4, none⟩ = some (.slice A0_4 l0_4.length c0_4) := (blk_cell BK194.out 4).trans rfl; have hcz17_5 : w16.cell? ⟨gb194, 5, none⟩ = some (.slice A0_5 l0_5.length c0_5) := (blk_cell BK194.out 5).trans rfl; have hcz17_6 : w16.cell? ⟨gb194, 6, none⟩ = some (.int .i64 a0_6) := (blk_cell BK194.out 6).trans rfl; have hfz17_0 := blk_frozen BK194.out 0; have hfz17_1 := blk_frozen BK194.out 1; have hfz17_2 := blk_frozen BK194.out 2; have hfz17_3 := blk_frozen BK194.out 3; have hfz17_4 := blk_frozen BK194.out 4; have hfz17_5 := blk_frozen BK194.out 5; have hfz17_6 := blk_frozen BK194.out 6) | (go_at_call 70; (with_reducible refine (impl_within.calls a0_1 1 12 true _ A7.out).mono ?_); rintro e w' ⟨rfl, ⟨nd, rfl⟩⟩))
       go_meet
       case rel => exact ⟨_, (true), (by first | rfl | (simp; done) | (simp [*]; done)), H', ⟨by first | omega | exact Nat.le_refl _⟩, ⟨by (with_reducible repeat (first | refine blk_drewN ?_ _ | refine blk_drew ?_ | refine blk_alloc ?_ _)); exact BK194.out⟩, ⟨by repeat (first | (with_reducible first | exact HB.out | apply below_alloc | apply pw_below_drewN | apply below_drew1 | refine below_set ?_ GE194.out) | exact HB.out)⟩⟩
     ·rw [if_neg c10] at H
      have c10b0 : ((l0_4.length : Int) == (l0_0.length : Int)) = false := beq_eq_false_iff_ne.mpr c10
      have c10b1 : ((l0_4.length : Int) != (l0_0.length : Int)) = true := bne_iff_ne.mpr c10
      have c10b2 : (l0_4.length == l0_0.length) = false := by first | simpa using c10 | (simp at c10 ⊢; omega)
      have H' := Aside0.mk H
      clear H
      have hcz18_0 : w3.cell? ⟨gb194, 0, none⟩ = some (.slice A0_0 l0_0.length c0_0) := (blk_cell BK194.out 0).trans rfl
      have hcz18_1 : w3.cell? ⟨gb194, 1, none⟩ = some (.int .i64 a0_1) := (blk_cell BK194.out 1).trans rfl
      have hcz18_2 : w3.cell? ⟨gb194, 2, none⟩ = some (.slice A0_2 l0_2.length c0_2) := (blk_cell BK194.out 2).trans rfl
      have hcz18_3 : w3.cell? ⟨gb194, 3, none⟩ = some (.slice A0_3 l0_3.length c0_3) := (blk_cell BK194.out 3).trans rfl
      have hcz18_4 : w3.cell? ⟨gb194, 4, none⟩ = some (.slice A0_4 l0_4.length c0_4) := (blk_cell BK194.out 4).trans rfl
      have hcz18_5 : w3.cell? ⟨gb194, 5, none⟩ = some (.slice A0_5 l0_5.length c0_5) := (blk_cell BK194.out 5).trans rfl
      have hcz18_6 : w3.cell? ⟨gb194, 6, none⟩ = some (.int .i64 a0_6) := (blk_cell BK194.out 6).trans rfl
      have hfz18_0 := blk_frozen BK194.out 0
      have hfz18_1 := blk_frozen BK194.out 1
      have hfz18_2 := blk_frozen BK194.out 2
      have hfz18_3 := blk_frozen BK194.out 3
      have hfz18_4 := blk_frozen BK194.out 4
      have hfz18_5 := blk_frozen BK194.out 5
      have hfz18_6 := blk_frozen BK194.out 6
      go_wp2_with (first | ((with_reducible refine gate_callee (f := 101) rfl ?_); refine goesL_ (some 11) rfl rfl Try.func101 (by kernel_rfl) rfl #[.slice A0_0 l0_0.length c0_0] rfl (by (try simp only [List.map_toArray, List.map_cons, List.map_nil]); first | done | rfl | (simp only [List.length_drop, List.length_take]; rfl)) ?_; (with_reducible refine (impl_arePieces.calls _ _ l0_0 true _ ?side1 ?side2 A5.out).mono ?_); (case side1 => repeat (first | exact (Kd.C_below HR0_0.out HB.out) | (with_reducible refine Kd.C_alloc ?_ _) | (with_reducible refine Kd.C_drewN ?_ _) | (with_reducible refine Kd.C_drew ?_))); (case side2 => exact HC0_0.out); rintro e w19 ⟨rfl, hb⟩; refine ⟨_, rfl, ?_⟩; have n0_ := Aside0.mk (blk_below (g := gb194) (o := .cells #[.slice A0_0 l0_0.length c0_0, .int .i64 a0_1, .slice A0_2 l0_2.length c0_2, .slice A0_3 l0_3.length c0_3, .slice A0_4 l0_4.length c0_4, .slice A0_5 l0_5.length c0_5, .int .i64 a0_6] 66 (0, 0)) (by (with_reducible repeat (first | refine blk_drewN ?_ _ | refine blk_drew ?_ | refine blk_alloc ?_ _)); exact BK194.out) hb); have n1_ := Aside0.mk (below_step (by repeat (first | (with_reducible first | exact HB.out | apply below_alloc | apply pw_below_drewN | apply below_drew1 | refine below_set ?_ GE194.out) | exact HB.out)) hb); clear BK194; clear HB; have BK194 := n0_; have HB := n1_; clear n0_ n1_; (try clear hb); (try clear hb2); (try clear hk); (try clear hi); have hcz20_0 : w19.cell? ⟨gb194, 0, none⟩ = some (.slice A0_0 l0_0.length c0_0) := (blk_cell BK194.out 0).trans rfl; have hcz20_1 : w19.cell? ⟨gb194, 1, none⟩ = some (.int .i64 a0_1) := (blk_cell BK194.out 1).trans rfl; have hcz20_2 : w19.cell? ⟨gb194, 2, none⟩ = some (.slice A0_2 l0_2.length c0_2) := (blk_cell BK194.out 2).trans rfl; have hcz20_3 : w19.cell? ⟨gb194, 3, none⟩ = some (.slice A0_3 l0_3.length c0_3) := (blk_cell BK194.out 3).trans rfl; have hcz20_4 : w19.cell? ⟨gb194, 4, none⟩ = some (.slice A0_4 l0_4.length c0_4) := (blk_cell BK194.out 4).trans rfl; have hcz20_5 : w19.cell? ⟨gb194, 5, none⟩ = some (.slice A0_5 l0_5.length c0_5) := (blk_cell BK194.out 5).trans rfl; have hcz20_6 : w19.cell? ⟨gb194, 6, none⟩ = some (.int .i64 a0_6) := (blk_cell BK194.out 6).trans rfl; have hfz20_0 := blk_frozen BK194.out 0; have hfz20_1 := blk_frozen BK194.out 1; have hfz20_2 := blk_frozen BK194.out 2; have hfz20_3 := blk_frozen BK194.out 3; have hfz20_4 := blk_frozen BK194.out 4; have hfz20_5 := blk_frozen BK194.out 5; have hfz20_6 := blk_frozen BK194.out 6) | (go_at_call 70; (with_reducible refine (impl_within.calls a0_1 1 12 true _ A7.out).mono ?_); rintro e w' ⟨rfl, ⟨nd, rfl⟩⟩))
      go_meet
      case rel => exact ⟨_, (true), (by first | rfl | (simp; done) | (simp [*]; done)), H', ⟨by first | omega | exact Nat.le_refl _⟩, ⟨by (with_reducible repeat (first | refine blk_drewN ?_ _ | refine blk_drew ?_ | refine blk_alloc ?_ _)); exact BK194.out⟩, ⟨by repeat (first | (with_reducible first | exact HB.out | apply below_alloc | apply pw_below_drewN | apply below_drew1 | refine below_set ?_ GE194.out) | exact HB.out)⟩⟩
    ·rw [if_neg c9] at H
     have c9b0 : ((l0_2.length : Int) == (l0_0.length : Int)) = false := beq_eq_false_iff_ne.mpr c9
     have c9b1 : ((l0_2.length : Int) != (l0_0.length : Int)) = true := bne_iff_ne.mpr c9
     have c9b2 : (l0_2.length == l0_0.length) = false := by first | simpa using c9 | (simp at c9 ⊢; omega)
     (first | rw [c9b0] | (simp only [i64_w, i32_w]; rw [c9b0]) | skip)
     have H' := Aside0.mk H
     clear H
     have hcz21_0 : w3.cell? ⟨gb194, 0, none⟩ = some (.slice A0_0 l0_0.length c0_0) := (blk_cell BK194.out 0).trans rfl
     have hcz21_1 : w3.cell? ⟨gb194, 1, none⟩ = some (.int .i64 a0_1) := (blk_cell BK194.out 1).trans rfl
     have hcz21_2 : w3.cell? ⟨gb194, 2, none⟩ = some (.slice A0_2 l0_2.length c0_2) := (blk_cell BK194.out 2).trans rfl
     have hcz21_3 : w3.cell? ⟨gb194, 3, none⟩ = some (.slice A0_3 l0_3.length c0_3) := (blk_cell BK194.out 3).trans rfl
     have hcz21_4 : w3.cell? ⟨gb194, 4, none⟩ = some (.slice A0_4 l0_4.length c0_4) := (blk_cell BK194.out 4).trans rfl
     have hcz21_5 : w3.cell? ⟨gb194, 5, none⟩ = some (.slice A0_5 l0_5.length c0_5) := (blk_cell BK194.out 5).trans rfl
     have hcz21_6 : w3.cell? ⟨gb194, 6, none⟩ = some (.int .i64 a0_6) := (blk_cell BK194.out 6).trans rfl
     have hfz21_0 := blk_frozen BK194.out 0
     have hfz21_1 := blk_frozen BK194.out 1
     have hfz21_2 := blk_frozen BK194.out 2
     have hfz21_3 := blk_frozen BK194.out 3
     have hfz21_4 := blk_frozen BK194.out 4
     have hfz21_5 := blk_frozen BK194.out 5
     have hfz21_6 := blk_frozen BK194.out 6
     go_wp2_with (first | ((with_reducible refine gate_callee (f := 101) rfl ?_); refine goesL_ (some 11) rfl rfl Try.func101 (by kernel_rfl) rfl #[.slice A0_0 l0_0.length c0_0] rfl (by (try simp only [List.map_toArray, List.map_cons, List.map_nil]); first | done | rfl | (simp only [List.length_drop, List.length_take]; rfl)) ?_; (with_reducible refine (impl_arePieces.calls _ _ l0_0 true _ ?side1 ?side2 A5.out).mono ?_); (case side1 => repeat (first | exact (Kd.C_below HR0_0.out HB.out) | (with_reducible refine Kd.C_alloc ?_ _) | (with_reducible refine Kd.C_drewN ?_ _) | (with_reducible refine Kd.C_drew ?_))); (case side2 => exact HC0_0.out); rintro e w22 ⟨rfl, hb⟩; refine ⟨_, rfl, ?_⟩; have n0_ := Aside0.mk (blk_below (g := gb194) (o := .cells #[.slice A0_0 l0_0.length c0_0, .int .i64 a0_1, .slice A0_2 l0_2.length c0_2, .slice A0_3 l0_3.length c0_3, .slice A0_4 l0_4.length c0_4, .slice A0_5 l0_5.length c0_5, .int .i64 a0_6] 66 (0, 0)) (by (with_reducible repeat (first | refine blk_drewN ?_ _ | refine blk_drew ?_ | refine blk_alloc ?_ _)); exact BK194.out) hb); have n1_ := Aside0.mk (below_step (by repeat (first | (with_reducible first | exact HB.out | apply below_alloc | apply pw_below_drewN | apply below_drew1 | refine below_set ?_ GE194.out) | exact HB.out)) hb); clear BK194; clear HB; have BK194 := n0_; have HB := n1_; clear n0_ n1_; (try clear hb); (try clear hb2); (try clear hk); (try clear hi); have hcz23_0 : w22.cell? ⟨gb194, 0, none⟩ = some (.slice A0_0 l0_0.length c0_0) := (blk_cell BK194.out 0).trans rfl; have hcz23_1 : w22.cell? ⟨gb194, 1, none⟩ = some (.int .i64 a0_1) := (blk_cell BK194.out 1).trans rfl; have hcz23_2 : w22.cell? ⟨gb194, 2, none⟩ = some (.slice A0_2 l0_2.length c0_2) := (blk_cell BK194.out 2).trans rfl; have hcz23_3 : w22.cell? ⟨gb194, 3, none⟩ = some (.slice A0_3 l0_3.length c0_3) := (blk_cell BK194.out 3).trans rfl; have hcz23_4 : w22.cell? ⟨gb194, 4, none⟩ = some (.slice A0_4 l0_4.length c0_4) := (blk_cell BK194.out 4).trans rfl; have hcz23_5 : w22.cell? ⟨gb194, 5, none⟩ = some (.slice A0_5 l0_5.length c0_5) := (blk_cell BK194.out 5).trans rfl; have hcz23_6 : w22.cell? ⟨gb194, 6, none⟩ = some (.int .i64 a0_6) := (blk_cell BK194.out 6).trans rfl; have hfz23_0 := blk_frozen BK194.out 0; have hfz23_1 := blk_frozen BK194.out 1; have hfz23_2 := blk_frozen BK194.out 2; have hfz23_3 := blk_frozen BK194.out 3; have hfz23_4 := blk_frozen BK194.out 4; have hfz23_5 := blk_frozen BK194.out 5; have hfz23_6 := blk_frozen BK194.out 6) | (go_at_call 70; (with_reducible refine (impl_within.calls a0_1 1 12 true _ A7.out).mono ?_); rintro e w' ⟨rfl, ⟨nd, rfl⟩⟩))
     go_meet
     case rel => exact ⟨_, (true), (by first | rfl | (simp; done) | (simp [*]; done)), H', ⟨by first | omega | exact Nat.le_refl _⟩, ⟨by (with_reducible repeat (first | refine blk_drewN ?_ _ | refine blk_drew ?_ | refine blk_alloc ?_ _)); exact BK194.out⟩, ⟨by repeat (first | (with_reducible first | exact HB.out | apply below_alloc | apply pw_below_drewN | apply below_drew1 | refine below_set ?_ GE194.out) | exact HB.out)⟩⟩
   ·replace c8 := Bool.eq_false_iff.mpr c8
    subst c8
    have H1 : (impl_GoodWindow.j0 k true l0_0 a0_1 l0_2 l0_3 l0_4 l0_5 a0_6) = some r := by rw [if_neg (show ¬ (false = true) by decide)] at H; exact H
    clear H
    have H := H1
    clear H1
    have H' := Aside0.mk H
    clear H
    have hcz24_0 : w3.cell? ⟨gb194, 0, none⟩ = some (.slice A0_0 l0_0.length c0_0) := (blk_cell BK194.out 0).trans rfl
    have hcz24_1 : w3.cell? ⟨gb194, 1, none⟩ = some (.int .i64 a0_1) := (blk_cell BK194.out 1).trans rfl
    have hcz24_2 : w3.cell? ⟨gb194, 2, none⟩ = some (.slice A0_2 l0_2.length c0_2) := (blk_cell BK194.out 2).trans rfl
    have hcz24_3 : w3.cell? ⟨gb194, 3, none⟩ = some (.slice A0_3 l0_3.length c0_3) := (blk_cell BK194.out 3).trans rfl
    have hcz24_4 : w3.cell? ⟨gb194, 4, none⟩ = some (.slice A0_4 l0_4.length c0_4) := (blk_cell BK194.out 4).trans rfl
    have hcz24_5 : w3.cell? ⟨gb194, 5, none⟩ = some (.slice A0_5 l0_5.length c0_5) := (blk_cell BK194.out 5).trans rfl
    have hcz24_6 : w3.cell? ⟨gb194, 6, none⟩ = some (.int .i64 a0_6) := (blk_cell BK194.out 6).trans rfl
    have hfz24_0 := blk_frozen BK194.out 0
    have hfz24_1 := blk_frozen BK194.out 1
    have hfz24_2 := blk_frozen BK194.out 2
    have hfz24_3 := blk_frozen BK194.out 3
    have hfz24_4 := blk_frozen BK194.out 4
    have hfz24_5 := blk_frozen BK194.out 5
    have hfz24_6 := blk_frozen BK194.out 6
    go_wp2_with (first | ((with_reducible refine gate_callee (f := 101) rfl ?_); refine goesL_ (some 11) rfl rfl Try.func101 (by kernel_rfl) rfl #[.slice A0_0 l0_0.length c0_0] rfl (by (try simp only [List.map_toArray, List.map_cons, List.map_nil]); first | done | rfl | (simp only [List.length_drop, List.length_take]; rfl)) ?_; (with_reducible refine (impl_arePieces.calls _ _ l0_0 true _ ?side1 ?side2 A5.out).mono ?_); (case side1 => repeat (first | exact (Kd.C_below HR0_0.out HB.out) | (with_reducible refine Kd.C_alloc ?_ _) | (with_reducible refine Kd.C_drewN ?_ _) | (with_reducible refine Kd.C_drew ?_))); (case side2 => exact HC0_0.out); rintro e w25 ⟨rfl, hb⟩; refine ⟨_, rfl, ?_⟩; have n0_ := Aside0.mk (blk_below (g := gb194) (o := .cells #[.slice A0_0 l0_0.length c0_0, .int .i64 a0_1, .slice A0_2 l0_2.length c0_2, .slice A0_3 l0_3.length c0_3, .slice A0_4 l0_4.length c0_4, .slice A0_5 l0_5.length c0_5, .int .i64 a0_6] 66 (0, 0)) (by (with_reducible repeat (first | refine blk_drewN ?_ _ | refine blk_drew ?_ | refine blk_alloc ?_ _)); exact BK194.out) hb); have n1_ := Aside0.mk (below_step (by repeat (first | (with_reducible first | exact HB.out | apply below_alloc | apply pw_below_drewN | apply below_drew1 | refine below_set ?_ GE194.out) | exact HB.out)) hb); clear BK194; clear HB; have BK194 := n0_; have HB := n1_; clear n0_ n1_; (try clear hb); (try clear hb2); (try clear hk); (try clear hi); have hcz26_0 : w25.cell? ⟨gb194, 0, none⟩ = some (.slice A0_0 l0_0.length c0_0) := (blk_cell BK194.out 0).trans rfl; have hcz26_1 : w25.cell? ⟨gb194, 1, none⟩ = some (.int .i64 a0_1) := (blk_cell BK194.out 1).trans rfl; have hcz26_2 : w25.cell? ⟨gb194, 2, none⟩ = some (.slice A0_2 l0_2.length c0_2) := (blk_cell BK194.out 2).trans rfl; have hcz26_3 : w25.cell? ⟨gb194, 3, none⟩ = some (.slice A0_3 l0_3.length c0_3) := (blk_cell BK194.out 3).trans rfl; have hcz26_4 : w25.cell? ⟨gb194, 4, none⟩ = some (.slice A0_4 l0_4.length c0_4) := (blk_cell BK194.out 4).trans rfl; have hcz26_5 : w25.cell? ⟨gb194, 5, none⟩ = some (.slice A0_5 l0_5.length c0_5) := (blk_cell BK194.out 5).trans rfl; have hcz26_6 : w25.cell? ⟨gb194, 6, none⟩ = some (.int .i64 a0_6) := (blk_cell BK194.out 6).trans rfl; have hfz26_0 := blk_frozen BK194.out 0; have hfz26_1 := blk_frozen BK194.out 1; have hfz26_2 := blk_frozen BK194.out 2; have hfz26_3 := blk_frozen BK194.out 3; have hfz26_4 := blk_frozen BK194.out 4; have hfz26_5 := blk_frozen BK194.out 5; have hfz26_6 := blk_frozen BK194.out 6) | (go_at_call 70; (with_reducible refine (impl_within.calls a0_1 1 12 false _ A7.out).mono ?_); rintro e w' ⟨rfl, ⟨nd, rfl⟩⟩))
    go_meet
    case rel => exact ⟨_, (true), (by first | rfl | (simp; done) | (simp [*]; done)), H', ⟨by first | omega | exact Nat.le_refl _⟩, ⟨by (with_reducible repeat (first | refine blk_drewN ?_ _ | refine blk_drew ?_ | refine blk_alloc ?_ _)); exact BK194.out⟩, ⟨by repeat (first | (with_reducible first | exact HB.out | apply below_alloc | apply pw_below_drewN | apply below_drew1 | refine below_set ?_ GE194.out) | exact HB.out)⟩⟩
  ·replace c6 := Bool.eq_false_iff.mpr c6
   subst c6
   have H1 : (impl_GoodWindow.j0 k true l0_0 a0_1 l0_2 l0_3 l0_4 l0_5 a0_6) = some r := by rw [if_neg (show ¬ (false = true) by decide)] at H; exact H
   clear H
   have H := H1
   clear H1
   have H' := Aside0.mk H
   clear H
   have hcz27_0 : w3.cell? ⟨gb194, 0, none⟩ = some (.slice A0_0 l0_0.length c0_0) := (blk_cell BK194.out 0).trans rfl
   have hcz27_1 : w3.cell? ⟨gb194, 1, none⟩ = some (.int .i64 a0_1) := (blk_cell BK194.out 1).trans rfl
   have hcz27_2 : w3.cell? ⟨gb194, 2, none⟩ = some (.slice A0_2 l0_2.length c0_2) := (blk_cell BK194.out 2).trans rfl
   have hcz27_3 : w3.cell? ⟨gb194, 3, none⟩ = some (.slice A0_3 l0_3.length c0_3) := (blk_cell BK194.out 3).trans rfl
   have hcz27_4 : w3.cell? ⟨gb194, 4, none⟩ = some (.slice A0_4 l0_4.length c0_4) := (blk_cell BK194.out 4).trans rfl
   have hcz27_5 : w3.cell? ⟨gb194, 5, none⟩ = some (.slice A0_5 l0_5.length c0_5) := (blk_cell BK194.out 5).trans rfl
   have hcz27_6 : w3.cell? ⟨gb194, 6, none⟩ = some (.int .i64 a0_6) := (blk_cell BK194.out 6).trans rfl
   have hfz27_0 := blk_frozen BK194.out 0
   have hfz27_1 := blk_frozen BK194.out 1
   have hfz27_2 := blk_frozen BK194.out 2
   have hfz27_3 := blk_frozen BK194.out 3
   have hfz27_4 := blk_frozen BK194.out 4
   have hfz27_5 := blk_frozen BK194.out 5
   have hfz27_6 := blk_frozen BK194.out 6
   go_wp2_with (first | ((with_reducible refine gate_callee (f := 101) rfl ?_); refine goesL_ (some 11) rfl rfl Try.func101 (by kernel_rfl) rfl #[.slice A0_0 l0_0.length c0_0] rfl (by (try simp only [List.map_toArray, List.map_cons, List.map_nil]); first | done | rfl | (simp only [List.length_drop, List.length_take]; rfl)) ?_; (with_reducible refine (impl_arePieces.calls _ _ l0_0 false _ ?side1 ?side2 A5.out).mono ?_); (case side1 => repeat (first | exact (Kd.C_below HR0_0.out HB.out) | (with_reducible refine Kd.C_alloc ?_ _) | (with_reducible refine Kd.C_drewN ?_ _) | (with_reducible refine Kd.C_drew ?_))); (case side2 => exact HC0_0.out); rintro e w28 ⟨rfl, hb⟩; refine ⟨_, rfl, ?_⟩; have n0_ := Aside0.mk (blk_below (g := gb194) (o := .cells #[.slice A0_0 l0_0.length c0_0, .int .i64 a0_1, .slice A0_2 l0_2.length c0_2, .slice A0_3 l0_3.length c0_3, .slice A0_4 l0_4.length c0_4, .slice A0_5 l0_5.length c0_5, .int .i64 a0_6] 66 (0, 0)) (by (with_reducible repeat (first | refine blk_drewN ?_ _ | refine blk_drew ?_ | refine blk_alloc ?_ _)); exact BK194.out) hb); have n1_ := Aside0.mk (below_step (by repeat (first | (with_reducible first | exact HB.out | apply below_alloc | apply pw_below_drewN | apply below_drew1 | refine below_set ?_ GE194.out) | exact HB.out)) hb); clear BK194; clear HB; have BK194 := n0_; have HB := n1_; clear n0_ n1_; (try clear hb); (try clear hb2); (try clear hk); (try clear hi)))
   go_meet
   case rel => exact ⟨_, (true), (by first | rfl | (simp; done) | (simp [*]; done)), H', ⟨by first | omega | exact Nat.le_refl _⟩, ⟨by (with_reducible repeat (first | refine blk_drewN ?_ _ | refine blk_drew ?_ | refine blk_alloc ?_ _)); exact BK194.out⟩, ⟨by repeat (first | (with_reducible first | exact HB.out | apply below_alloc | apply pw_below_drewN | apply below_drew1 | refine below_set ?_ GE194.out) | exact HB.out)⟩⟩
 case rest =>
  clear HC2
  try clear c1
  try clear p2
  try clear c5
  try clear c6
  try clear c8
  try clear c9
  try clear c9b0
  try clear c9b1
  try clear c9b2
  try clear c10
  try clear c10b0
  try clear c10b1
  try clear c10b2
  try clear c11
  try clear c11b0
  try clear c11b1
  try clear c11b2
  try clear hcz12_0
  try clear hcz12_1
  try clear hcz12_2
  try clear hcz12_3
  try clear hcz12_4
  try clear hcz12_5
  try clear hcz12_6
  try clear hcz14_0
  try clear hcz14_1
  try clear hcz14_2
  try clear hcz14_3
  try clear hcz14_4
  try clear hcz14_5
  try clear hcz14_6
  try clear hcz15_0
  try clear hcz15_1
  try clear hcz15_2
  try clear hcz15_3
  try clear hcz15_4
  try clear hcz15_5
  try clear hcz15_6
  try clear hcz17_0
  try clear hcz17_1
  try clear hcz17_2
  try clear hcz17_3
  try clear hcz17_4
  try clear hcz17_5
  try clear hcz17_6
  try clear hcz18_0
  try clear hcz18_1
  try clear hcz18_2
  try clear hcz18_3
  try clear hcz18_4
  try clear hcz18_5
  try clear hcz18_6
  try clear hcz20_0
  try clear hcz20_1
  try clear hcz20_2
  try clear hcz20_3
  try clear hcz20_4
  try clear hcz20_5
  try clear hcz20_6
  try clear hcz21_0
  try clear hcz21_1
  try clear hcz21_2
  try clear hcz21_3
  try clear hcz21_4
  try clear hcz21_5
  try clear hcz21_6
  try clear hcz23_0
  try clear hcz23_1
  try clear hcz23_2
  try clear hcz23_3
  try clear hcz23_4
  try clear hcz23_5
  try clear hcz23_6
  try clear hcz24_0
  try clear hcz24_1
  try clear hcz24_2
  try clear hcz24_3
  try clear hcz24_4
  try clear hcz24_5
  try clear hcz24_6
  try clear hcz26_0
  try clear hcz26_1
  try clear hcz26_2
  try clear hcz26_3
  try clear hcz26_4
  try clear hcz26_5
  try clear hcz26_6
  try clear hcz27_0
  try clear hcz27_1
  try clear hcz27_2
  try clear hcz27_3
  try clear hcz27_4
  try clear hcz27_5
  try clear hcz27_6
  try clear hcz4_0
  try clear hcz4_1
  try clear hcz4_2
  try clear hcz4_3
  try clear hcz4_4
  try clear hcz4_5
  try clear hcz4_6
  try clear hfz12_0
  try clear hfz12_1
  try clear hfz12_2
  try clear hfz12_3
  try clear hfz12_4
  try clear hfz12_5
  try clear hfz12_6
  try clear hfz14_0
  try clear hfz14_1
  try clear hfz14_2
  try clear hfz14_3
  try clear hfz14_4
  try clear hfz14_5
  try clear hfz14_6
  try clear hfz15_0
  try clear hfz15_1
  try clear hfz15_2
  try clear hfz15_3
  try clear hfz15_4
  try clear hfz15_5
  try clear hfz15_6
  try clear hfz17_0
  try clear hfz17_1
  try clear hfz17_2
  try clear hfz17_3
  try clear hfz17_4
  try clear hfz17_5
  try clear hfz17_6
  try clear hfz18_0
  try clear hfz18_1
  try clear hfz18_2
  try clear hfz18_3
  try clear hfz18_4
  try clear hfz18_5
  try clear hfz18_6
  try clear hfz20_0
  try clear hfz20_1
  try clear hfz20_2
  try clear hfz20_3
  try clear hfz20_4
  try clear hfz20_5
  try clear hfz20_6
  try clear hfz21_0
  try clear hfz21_1
  try clear hfz21_2
  try clear hfz21_3
  try clear hfz21_4
  try clear hfz21_5
  try clear hfz21_6
  try clear hfz23_0
  try clear hfz23_1
  try clear hfz23_2
  try clear hfz23_3
  try clear hfz23_4
  try clear hfz23_5
  try clear hfz23_6
  try clear hfz24_0
  try clear hfz24_1
  try clear hfz24_2
  try clear hfz24_3
  try clear hfz24_4
  try clear hfz24_5
  try clear hfz24_6
  try clear hfz26_0
  try clear hfz26_1
  try clear hfz26_2
  try clear hfz26_3
  try clear hfz26_4
  try clear hfz26_5
  try clear hfz26_6
  try clear hfz27_0
  try clear hfz27_1
  try clear hfz27_2
  try clear hfz27_3
  try clear hfz27_4
  try clear hfz27_5
  try clear hfz27_6
  try clear hfz4_0
  try clear hfz4_1
  try clear hfz4_2
  try clear hfz4_3
  try clear hfz4_4
  try clear hfz4_5
  try clear hfz4_6
  obtain ⟨kq, x45_1, rfl, HA, HJ1, BK194, HB⟩ := hcut
  cases kq with
  | zero => exact absurd HA.out (by simp [impl_GoodWindow.j0])
  | succ kj1 =>
   have H := HA.out
   clear HA
   simp only [impl_GoodWindow.j0] at H
   by_cases c29 : x45_1 = true
   ·subst c29
    have H1 : (some false) = some r := by rw [if_pos rfl] at H; exact H
    clear H
    have H := H1
    clear H1
    obtain rfl := Option.some.inj H
    go_wp2
    go_ret
    exact ⟨by first | rfl | (simp [errW_none, errW_some] <;> rfl) | (simp [*, errW_none, errW_some] <;> rfl), by repeat (first | (with_reducible first | exact HB.out | apply below_alloc | apply pw_below_drewN | apply below_drew1 | refine below_set ?_ GE194.out) | exact HB.out)⟩
   ·replace c29 := Bool.eq_false_iff.mpr c29
    subst c29
    have H1 : (impl_GoodWindow.l0 kj1 l0_5 (l0_5.length : Int) 0 l0_0 a0_1 l0_2 l0_3 l0_4 l0_5 a0_6) = some r := by rw [if_neg (show ¬ (false = true) by decide)] at H; exact H
    clear H
    have H := H1
    clear H1
    have H' := Aside0.mk H
    clear H
    have hcz30_0 : wc.cell? ⟨gb194, 0, none⟩ = some (.slice A0_0 l0_0.length c0_0) := (blk_cell BK194.out 0).trans rfl
    have hcz30_1 : wc.cell? ⟨gb194, 1, none⟩ = some (.int .i64 a0_1) := (blk_cell BK194.out 1).trans rfl
    have hcz30_2 : wc.cell? ⟨gb194, 2, none⟩ = some (.slice A0_2 l0_2.length c0_2) := (blk_cell BK194.out 2).trans rfl
    have hcz30_3 : wc.cell? ⟨gb194, 3, none⟩ = some (.slice A0_3 l0_3.length c0_3) := (blk_cell BK194.out 3).trans rfl
    have hcz30_4 : wc.cell? ⟨gb194, 4, none⟩ = some (.slice A0_4 l0_4.length c0_4) := (blk_cell BK194.out 4).trans rfl
    have hcz30_5 : wc.cell? ⟨gb194, 5, none⟩ = some (.slice A0_5 l0_5.length c0_5) := (blk_cell BK194.out 5).trans rfl
    have hcz30_6 : wc.cell? ⟨gb194, 6, none⟩ = some (.int .i64 a0_6) := (blk_cell BK194.out 6).trans rfl
    have hfz30_0 := blk_frozen BK194.out 0
    have hfz30_1 := blk_frozen BK194.out 1
    have hfz30_2 := blk_frozen BK194.out 2
    have hfz30_3 := blk_frozen BK194.out 3
    have hfz30_4 := blk_frozen BK194.out 4
    have hfz30_5 := blk_frozen BK194.out 5
    have hfz30_6 := blk_frozen BK194.out 6
    go_wp2
    go_loopg [49] kj1 (fun kq v49 w' => ∃ (x49_2 : Int), v49 = .int .i64 x49_2 ∧ Aside0 (impl_GoodWindow.l0 kq l0_5 (l0_5.length : Int) x49_2 l0_0 a0_1 l0_2 l0_3 l0_4 l0_5 a0_6 = some r) ∧ Aside0 (kq ≤ kj1) ∧ Aside0 (w'.heap[gb194]? = some (.cells #[(.slice A0_0 l0_0.length c0_0), .int .i64 a0_1, (.slice A0_2 l0_2.length c0_2), (.slice A0_3 l0_3.length c0_3), (.slice A0_4 l0_4.length c0_4), (.slice A0_5 l0_5.length c0_5), .int .i64 a0_6] 66 (0, 0))) ∧ Aside0 (Below w.heap.size w w'))
    case atStart => exact ⟨(0), (by first | rfl | (simp; done) | (simp [*]; done)), H', ⟨Nat.le_refl _⟩, ⟨by (with_reducible repeat (first | refine blk_drewN ?_ _ | refine blk_drew ?_ | refine blk_alloc ?_ _)); exact BK194.out⟩, ⟨by repeat (first | (with_reducible first | exact HB.out | apply below_alloc | apply pw_below_drewN | apply below_drew1 | refine below_set ?_ GE194.out) | exact HB.out)⟩⟩
    case round =>
     clear H'
     try clear c1
     try clear c2
     try clear p2
     try clear c5
     try clear c6
     try clear c8
     try clear c9
     try clear c9b0
     try clear c9b1
     try clear c9b2
     try clear c10
     try clear c10b0
     try clear c10b1
     try clear c10b2
     try clear c11
     try clear c11b0
     try clear c11b1
     try clear c11b2
     try clear c29
     try clear hcz12_0
     try clear hcz12_1
     try clear hcz12_2
     try clear hcz12_3
     try clear hcz12_4
     try clear hcz12_5
     try clear hcz12_6
     try clear hcz14_0
     try clear hcz14_1
     try clear hcz14_2
     try clear hcz14_3
     try clear hcz14_4
     try clear hcz14_5
     try clear hcz14_6
     try clear hcz15_0
     try clear hcz15_1
     try clear hcz15_2
     try clear hcz15_3
     try clear hcz15_4
     try clear hcz15_5
     try clear hcz15_6
     try clear hcz17_0
     try clear hcz17_1
     try clear hcz17_2
     try clear hcz17_3
     try clear hcz17_4
     try clear hcz17_5
     try clear hcz17_6
     try clear hcz18_0
     try clear hcz18_1
     try clear hcz18_2
     try clear hcz18_3
     try clear hcz18_4
     try clear hcz18_5
     try clear hcz18_6
     try clear hcz20_0
     try clear hcz20_1
     try clear hcz20_2
     try clear hcz20_3
     try clear hcz20_4
     try clear hcz20_5
     try clear hcz20_6
     try clear hcz21_0
     try clear hcz21_1
     try clear hcz21_2
     try clear hcz21_3
     try clear hcz21_4
     try clear hcz21_5
     try clear hcz21_6
     try clear hcz23_0
     try clear hcz23_1
     try clear hcz23_2
     try clear hcz23_3
     try clear hcz23_4
     try clear hcz23_5
     try clear hcz23_6
     try clear hcz24_0
     try clear hcz24_1
     try clear hcz24_2
     try clear hcz24_3
     try clear hcz24_4
     try clear hcz24_5
     try clear hcz24_6
     try clear hcz26_0
     try clear hcz26_1
     try clear hcz26_2
     try clear hcz26_3
     try clear hcz26_4
     try clear hcz26_5
     try clear hcz26_6
     try clear hcz27_0
     try clear hcz27_1
     try clear hcz27_2
     try clear hcz27_3
     try clear hcz27_4
     try clear hcz27_5
     try clear hcz27_6
     try clear hcz30_0
     try clear hcz30_1
     try clear hcz30_2
     try clear hcz30_3
     try clear hcz30_4
     try clear hcz30_5
     try clear hcz30_6
     try clear hcz4_0
     try clear hcz4_1
     try clear hcz4_2
     try clear hcz4_3
     try clear hcz4_4
     try clear hcz4_5
     try clear hcz4_6
     try clear hfz12_0
     try clear hfz12_1
     try clear hfz12_2
     try clear hfz12_3
     try clear hfz12_4
     try clear hfz12_5
     try clear hfz12_6
     try clear hfz14_0
     try clear hfz14_1
     try clear hfz14_2
     try clear hfz14_3
     try clear hfz14_4
     try clear hfz14_5
     try clear hfz14_6
     try clear hfz15_0
     try clear hfz15_1
     try clear hfz15_2
     try clear hfz15_3
     try clear hfz15_4
     try clear hfz15_5
     try clear hfz15_6
     try clear hfz17_0
     try clear hfz17_1
     try clear hfz17_2
     try clear hfz17_3
     try clear hfz17_4
     try clear hfz17_5
     try clear hfz17_6
     try clear hfz18_0
     try clear hfz18_1
     try clear hfz18_2
     try clear hfz18_3
     try clear hfz18_4
     try clear hfz18_5
     try clear hfz18_6
     try clear hfz20_0
     try clear hfz20_1
     try clear hfz20_2
     try clear hfz20_3
     try clear hfz20_4
     try clear hfz20_5
     try clear hfz20_6
     try clear hfz21_0
     try clear hfz21_1
     try clear hfz21_2
     try clear hfz21_3
     try clear hfz21_4
     try clear hfz21_5
     try clear hfz21_6
     try clear hfz23_0
     try clear hfz23_1
     try clear hfz23_2
     try clear hfz23_3
     try clear hfz23_4
     try clear hfz23_5
     try clear hfz23_6
     try clear hfz24_0
     try clear hfz24_1
     try clear hfz24_2
     try clear hfz24_3
     try clear hfz24_4
     try clear hfz24_5
     try clear hfz24_6
     try clear hfz26_0
     try clear hfz26_1
     try clear hfz26_2
     try clear hfz26_3
     try clear hfz26_4
     try clear hfz26_5
     try clear hfz26_6
     try clear hfz27_0
     try clear hfz27_1
     try clear hfz27_2
     try clear hfz27_3
     try clear hfz27_4
     try clear hfz27_5
     try clear hfz27_6
     try clear hfz30_0
     try clear hfz30_1
     try clear hfz30_2
     try clear hfz30_3
     try clear hfz30_4
     try clear hfz30_5
     try clear hfz30_6
     try clear hfz4_0
     try clear hfz4_1
     try clear hfz4_2
     try clear hfz4_3
     try clear hfz4_4
     try clear hfz4_5
     try clear hfz4_6
     try clear p2
     obtain ⟨x49_2, rfl, HA, HK2, BK194, HB⟩ := hrel
     cases gk with
     | zero => exact absurd HA.out (by simp [impl_GoodWindow.l0])
     | succ k2 =>
      have H := HA.out
      clear HA
      simp only [impl_GoodWindow.l0] at H
      by_cases c31 : x49_2 < (l0_5.length : Int)
      ·rw [if_pos c31] at H
       have c31b0 : decide (x49_2 < (l0_5.length : Int)) = true := decide_eq_true c31
       clear c31
       by_cases c32 : 0 ≤ x49_2
       ·rw [if_pos c32] at H
        have c32b0 : decide (0 ≤ x49_2) = true := decide_eq_true c32
        clear c32
        by_cases c33 : x49_2 < (l0_5.length : Int)
        ·rw [if_pos c33] at H
         have c33b0 : decide (x49_2 < (l0_5.length : Int)) = true := decide_eq_true c33
         clear c33
         obtain ⟨bq34, hbq34⟩ : ∃ b_ : Bool, b_ = (rdOf false l0_5 x49_2) := ⟨_, rfl⟩
         replace H : (if bq34 = true then (if x49_2 < (l0_4.length : Int) then (if x49_2 < (l0_0.length : Int) then (if (rdOf ByteArray.empty l0_4 x49_2).toList = (rdOf ByteArray.empty l0_0 x49_2).toList then (impl_GoodWindow.l0 k2 l0_5 (l0_5.length : Int) (wrap64 (x49_2 + 1)) l0_0 a0_1 l0_2 l0_3 l0_4 l0_5 a0_6) else (some false)) else (none)) else (none)) else (if x49_2 < (l0_4.length : Int) then (if (rdOf ByteArray.empty l0_4 x49_2).toList = ([] : List UInt8) then (if x49_2 < (l0_2.length : Int) then (if rdOf false l0_2 x49_2 = true then (some false) else (impl_GoodWindow.l0 k2 l0_5 (l0_5.length : Int) (wrap64 (x49_2 + 1)) l0_0 a0_1 l0_2 l0_3 l0_4 l0_5 a0_6)) else (none)) else (some false)) else (none))) = some r := by rw [← hbq34] at H; exact H
         have Nbq34 := Aside0.mk hbq34
         clear hbq34
         by_cases c35 : bq34 = true
         ·subst c35
          have H1 : (if x49_2 < (l0_4.length : Int) then (if x49_2 < (l0_0.length : Int) then (if (rdOf ByteArray.empty l0_4 x49_2).toList = (rdOf ByteArray.empty l0_0 x49_2).toList then (impl_GoodWindow.l0 k2 l0_5 (l0_5.length : Int) (wrap64 (x49_2 + 1)) l0_0 a0_1 l0_2 l0_3 l0_4 l0_5 a0_6) else (some false)) else (none)) else (none)) = some r := by rw [if_pos rfl] at H; exact H
          clear H
          have H := H1
          clear H1
          by_cases c36 : x49_2 < (l0_4.length : Int)
          ·rw [if_pos c36] at H
           have c36b0 : decide (x49_2 < (l0_4.length : Int)) = true := decide_eq_true c36
           clear c36
           by_cases c37 : x49_2 < (l0_0.length : Int)
           ·rw [if_pos c37] at H
            have c37b0 : decide (x49_2 < (l0_0.length : Int)) = true := decide_eq_true c37
            clear c37
            by_cases c38 : (rdOf ByteArray.empty l0_4 x49_2).toList = (rdOf ByteArray.empty l0_0 x49_2).toList
            ·rw [if_pos c38] at H
             have c38b0 : ((rdOf ByteArray.empty l0_4 x49_2).toList == (rdOf ByteArray.empty l0_0 x49_2).toList) = true := beq_iff_eq.mpr c38
             have c38b1 : ((rdOf ByteArray.empty l0_4 x49_2).toList != (rdOf ByteArray.empty l0_0 x49_2).toList) = false := bne_eq_false_iff_eq.mpr c38
             clear c38
             have H' := Aside0.mk H
             clear H
             have p197 : 0 ≤ (x49_2 : Int) := of_decide_eq_true (by first | (with_reducible assumption) | assumption)
             have q197 : x49_2 < (l0_5.length : Int) := of_decide_eq_true (by first | (with_reducible assumption) | assumption)
             obtain ⟨ad197, e197, hx197_0⟩ := Kd.at_bool HR0_5.out x49_2 p197 q197
             (try rw [← Nbq34.out] at hx197_0)
             cases e197
             replace hx197_0 := (HB.out.cell (World.block_lt_of_cell? w _ hx197_0)).trans hx197_0
             replace p197 := eq_true p197
             replace q197 := eq_true q197
             try go_wp2
             have n0_ := Aside0.mk (blk_drew BK194.out)
             have n1_ := Aside0.mk (below_drew1 HB.out)
             clear BK194
             clear HB
             have BK194 := n0_
             have HB := n1_
             clear n0_ n1_
             have p198 : 0 ≤ (x49_2 : Int) := of_decide_eq_true (by first | (with_reducible assumption) | assumption)
             have q198 : x49_2 < (l0_4.length : Int) := of_decide_eq_true (by first | (with_reducible assumption) | assumption)
             obtain ⟨ad198, e198, hx198_0⟩ := Kd.at_string HR0_4.out x49_2 p198 q198
             have hw198_0 := hx198_0
             cases e198
             replace hx198_0 := (HB.out.cell (World.block_lt_of_cell? w _ hx198_0)).trans hx198_0
             replace p198 := eq_true p198
             replace q198 := eq_true q198
             have p199 : 0 ≤ (x49_2 : Int) := of_decide_eq_true (by first | (with_reducible assumption) | assumption)
             have q199 : x49_2 < (l0_0.length : Int) := of_decide_eq_true (by first | (with_reducible assumption) | assumption)
             obtain ⟨ad199, e199, hx199_0⟩ := Kd.at_string HR0_0.out x49_2 p199 q199
             have hw199_0 := hx199_0
             cases e199
             replace hx199_0 := (HB.out.cell (World.block_lt_of_cell? w _ hx199_0)).trans hx199_0
             replace p199 := eq_true p199
             replace q199 := eq_true q199
             refine start_ (n := 33) (S := fun w' => w'.cell? ⟨gb194, 0, none⟩ = some (.slice (some ad199) l0_0.length c0_0) ∧ w'.cell? ⟨gb194, 1, none⟩ = some (.int .i64 a0_1) ∧ w'.cell? ⟨gb194, 2, none⟩ = some (.slice A0_2 l0_2.length c0_2) ∧ w'.cell? ⟨gb194, 3, none⟩ = some (.slice A0_3 l0_3.length c0_3) ∧ w'.cell? ⟨gb194, 4, none⟩ = some (.slice (some ad198) l0_4.length c0_4) ∧ w'.cell? ⟨gb194, 5, none⟩ = some (.slice (some ad197) l0_5.length c0_5) ∧ w'.cell? ⟨gb194, 6, none⟩ = some (.int .i64 a0_6) ∧ w'.cell? (ad198.add (x49_2).toNat) = some (.string (rdOf ByteArray.empty l0_4 x49_2)) ∧ w'.cell? (ad199.add (x49_2).toNat) = some (.string (rdOf ByteArray.empty l0_0 x49_2))) (ds := []) (pz 33 0) (by kernel_rfl) rfl rfl ⟨(blk_cell BK194.out 0).trans rfl, (blk_cell BK194.out 1).trans rfl, (blk_cell BK194.out 2).trans rfl, (blk_cell BK194.out 3).trans rfl, (blk_cell BK194.out 4).trans rfl, (blk_cell BK194.out 5).trans rfl, (blk_cell BK194.out 6).trans rfl, ((HB.out.cell (World.block_lt_of_cell? w _ hw198_0)).trans hw198_0), ((HB.out.cell (World.block_lt_of_cell? w _ hw199_0)).trans hw199_0)⟩ (fun hHeld => ?_); refine with_tabW impl_GoodWindow.tab7 impl_GoodWindow.bits7 (fun HT_ HW_ => ?_)
             generalize wr.drew = w39 at BK194 HB hx198_0 hx199_0 hHeld ⊢
             refine sR 0 54 (pz 33 1) HT_ ?_
             refine sR 1 55 (pz 33 2) HT_ ?_
             refine sR 2 56 (pz 33 3) HT_ ?_
             refine sR 4 58 #[true, true, true, false, true, false, false, false, false, false, false, false, false, false, false, false, false, false, false, false, false, false, false, false, false, false, false, false, false, false, false, false, false] HT_ ?_
             refine sR 7 61 #[true, true, true, false, true, false, false, true, false, false, false, false, false, false, false, false, false, false, false, false, false, false, false, false, false, false, false, false, false, false, false, false, false] HT_ ?_
             refine sR 9 63 #[true, true, true, false, true, false, false, true, false, true, false, false, false, false, false, false, false, false, false, false, false, false, false, false, false, false, false, false, false, false, false, false, false] HT_ ?_
             refine sT 3 57 #[true, true, true, true, true, false, false, true, false, true, false, false, false, false, false, false, false, false, false, false, false, false, false, false, false, false, false, false, false, false, false, false, false] rfl rfl HT_ HW_ hHeld (by rintro w' ⟨s0, s1, s2, s3, s4, s5, s6, s7, s8⟩; go_simp; with_reducible rfl) ?_
             refine sR 5 59 #[true, true, true, true, true, true, false, true, false, true, false, false, false, false, false, false, false, false, false, false, false, false, false, false, false, false, false, false, false, false, false, false, false] HT_ ?_
             refine sT 6 60 #[true, true, true, true, true, true, true, true, false, true, false, false, false, false, false, false, false, false, false, false, false, false, false, false, false, false, false, false, false, false, false, false, false] rfl rfl HT_ HW_ hHeld (by rintro w' ⟨s0, s1, s2, s3, s4, s5, s6, s7, s8⟩; go_simp; with_reducible rfl) ?_
             refine sT 8 62 (pz 33 10) rfl rfl HT_ HW_ hHeld (by rintro w' ⟨s0, s1, s2, s3, s4, s5, s6, s7, s8⟩; go_simp; with_reducible rfl) ?_
             refine sR 10 64 (pz 33 11) HT_ ?_
             refine sT 11 65 (pz 33 12) rfl rfl HT_ HW_ hHeld (by rintro w' ⟨s0, s1, s2, s3, s4, s5, s6, s7, s8⟩; go_simp; with_reducible rfl) ?_
             refine sR 12 66 (pz 33 13) HT_ ?_
             refine sR 13 67 (pz 33 14) HT_ ?_
             refine sR 14 68 (pz 33 15) HT_ ?_
             refine sR 15 69 (pz 33 16) HT_ ?_
             refine sR 16 70 (pz 33 17) HT_ ?_
             refine sR 17 71 (pz 33 18) HT_ ?_
             refine sU 18 72 (pz 33 19) HT_ ?_
             refine sU 19 73 (pz 33 20) HT_ ?_
             refine sU 20 74 (pz 33 21) HT_ ?_
             refine sU 21 75 (pz 33 22) HT_ ?_
             refine sU 22 76 (pz 33 23) HT_ ?_
             refine sU 23 77 (pz 33 24) HT_ ?_
             refine sU 24 78 (pz 33 25) HT_ ?_
             refine sU 25 79 (pz 33 26) HT_ ?_
             refine sU 26 80 (pz 33 27) HT_ ?_
             refine sU 27 81 (pz 33 28) HT_ ?_
             refine sU 28 82 (pz 33 29) HT_ ?_
             refine sU 29 83 (pz 33 30) HT_ ?_
             refine sU 30 84 (pz 33 31) HT_ ?_
             refine sR 31 85 (pz 33 32) HT_ ?_
             refine sR 32 86 (pz 33 33) HT_ ?_
             refine done_ (done_of HT_.out (by kernel_rfl)) ?_
             try go_wp2
             go_roundg k2
             case measure => have := HJ1.out; have := HK2.out; omega
             case rel => exact ⟨(wrap64 (x49_2 + 1)), (by first | rfl | (simp; done) | (simp [*]; done)), H', ⟨by have := HJ1.out; have := HK2.out; omega⟩, ⟨by (with_reducible repeat (first | refine blk_drewN ?_ _ | refine blk_drew ?_ | refine blk_alloc ?_ _)); exact BK194.out⟩, ⟨by repeat (first | (with_reducible first | exact HB.out | apply below_alloc | apply pw_below_drewN | apply below_drew1 | refine below_set ?_ GE194.out) | exact HB.out)⟩⟩
            ·rw [if_neg c38] at H
             have c38b0 : ((rdOf ByteArray.empty l0_4 x49_2).toList == (rdOf ByteArray.empty l0_0 x49_2).toList) = false := beq_eq_false_iff_ne.mpr c38
             have c38b1 : ((rdOf ByteArray.empty l0_4 x49_2).toList != (rdOf ByteArray.empty l0_0 x49_2).toList) = true := bne_iff_ne.mpr c38
             obtain rfl := Option.some.inj H
             have p197 : 0 ≤ (x49_2 : Int) := of_decide_eq_true (by first | (with_reducible assumption) | assumption)
             have q197 : x49_2 < (l0_5.length : Int) := of_decide_eq_true (by first | (with_reducible assumption) | assumption)
             obtain ⟨ad197, e197, hx197_0⟩ := Kd.at_bool HR0_5.out x49_2 p197 q197
             (try rw [← Nbq34.out] at hx197_0)
             cases e197
             replace hx197_0 := (HB.out.cell (World.block_lt_of_cell? w _ hx197_0)).trans hx197_0
             replace p197 := eq_true p197
             replace q197 := eq_true q197
             try go_wp2
             have n0_ := Aside0.mk (blk_drew BK194.out)
             have n1_ := Aside0.mk (below_drew1 HB.out)
             clear BK194
             clear HB
             have BK194 := n0_
             have HB := n1_
             clear n0_ n1_
             have p198 : 0 ≤ (x49_2 : Int) := of_decide_eq_true (by first | (with_reducible assumption) | assumption)
             have q198 : x49_2 < (l0_4.length : Int) := of_decide_eq_true (by first | (with_reducible assumption) | assumption)
             obtain ⟨ad198, e198, hx198_0⟩ := Kd.at_string HR0_4.out x49_2 p198 q198
             have hw198_0 := hx198_0
             cases e198
             replace hx198_0 := (HB.out.cell (World.block_lt_of_cell? w _ hx198_0)).trans hx198_0
             replace p198 := eq_true p198
             replace q198 := eq_true q198
             have p199 : 0 ≤ (x49_2 : Int) := of_decide_eq_true (by first | (with_reducible assumption) | assumption)
             have q199 : x49_2 < (l0_0.length : Int) := of_decide_eq_true (by first | (with_reducible assumption) | assumption)
             obtain ⟨ad199, e199, hx199_0⟩ := Kd.at_string HR0_0.out x49_2 p199 q199
             have hw199_0 := hx199_0
             cases e199
             replace hx199_0 := (HB.out.cell (World.block_lt_of_cell? w _ hx199_0)).trans hx199_0
             replace p199 := eq_true p199
             replace q199 := eq_true q199
             refine start_ (n := 33) (S := fun w' => w'.cell? ⟨gb194, 0, none⟩ = some (.slice (some ad199) l0_0.length c0_0) ∧ w'.cell? ⟨gb194, 1, none⟩ = some (.int .i64 a0_1) ∧ w'.cell? ⟨gb194, 2, none⟩ = some (.slice A0_2 l0_2.length c0_2) ∧ w'.cell? ⟨gb194, 3, none⟩ = some (.slice A0_3 l0_3.length c0_3) ∧ w'.cell? ⟨gb194, 4, none⟩ = some (.slice (some ad198) l0_4.length c0_4) ∧ w'.cell? ⟨gb194, 5, none⟩ = some (.slice (some ad197) l0_5.length c0_5) ∧ w'.cell? ⟨gb194, 6, none⟩ = some (.int .i64 a0_6) ∧ w'.cell? (ad198.add (x49_2).toNat) = some (.string (rdOf ByteArray.empty l0_4 x49_2)) ∧ w'.cell? (ad199.add (x49_2).toNat) = some (.string (rdOf ByteArray.empty l0_0 x49_2))) (ds := []) (pz 33 0) (by kernel_rfl) rfl rfl ⟨(blk_cell BK194.out 0).trans rfl, (blk_cell BK194.out 1).trans rfl, (blk_cell BK194.out 2).trans rfl, (blk_cell BK194.out 3).trans rfl, (blk_cell BK194.out 4).trans rfl, (blk_cell BK194.out 5).trans rfl, (blk_cell BK194.out 6).trans rfl, ((HB.out.cell (World.block_lt_of_cell? w _ hw198_0)).trans hw198_0), ((HB.out.cell (World.block_lt_of_cell? w _ hw199_0)).trans hw199_0)⟩ (fun hHeld => ?_); refine with_tabW impl_GoodWindow.tab7 impl_GoodWindow.bits7 (fun HT_ HW_ => ?_)
             generalize wr.drew = w40 at BK194 HB hx198_0 hx199_0 hHeld ⊢
             refine sR 0 54 (pz 33 1) HT_ ?_
             refine sR 1 55 (pz 33 2) HT_ ?_
             refine sR 2 56 (pz 33 3) HT_ ?_
             refine sR 4 58 #[true, true, true, false, true, false, false, false, false, false, false, false, false, false, false, false, false, false, false, false, false, false, false, false, false, false, false, false, false, false, false, false, false] HT_ ?_
             refine sR 7 61 #[true, true, true, false, true, false, false, true, false, false, false, false, false, false, false, false, false, false, false, false, false, false, false, false, false, false, false, false, false, false, false, false, false] HT_ ?_
             refine sR 9 63 #[true, true, true, false, true, false, false, true, false, true, false, false, false, false, false, false, false, false, false, false, false, false, false, false, false, false, false, false, false, false, false, false, false] HT_ ?_
             refine sT 3 57 #[true, true, true, true, true, false, false, true, false, true, false, false, false, false, false, false, false, false, false, false, false, false, false, false, false, false, false, false, false, false, false, false, false] rfl rfl HT_ HW_ hHeld (by rintro w' ⟨s0, s1, s2, s3, s4, s5, s6, s7, s8⟩; go_simp; with_reducible rfl) ?_
             refine sR 5 59 #[true, true, true, true, true, true, false, true, false, true, false, false, false, false, false, false, false, false, false, false, false, false, false, false, false, false, false, false, false, false, false, false, false] HT_ ?_
             refine sT 6 60 #[true, true, true, true, true, true, true, true, false, true, false, false, false, false, false, false, false, false, false, false, false, false, false, false, false, false, false, false, false, false, false, false, false] rfl rfl HT_ HW_ hHeld (by rintro w' ⟨s0, s1, s2, s3, s4, s5, s6, s7, s8⟩; go_simp; with_reducible rfl) ?_
             refine sT 8 62 (pz 33 10) rfl rfl HT_ HW_ hHeld (by rintro w' ⟨s0, s1, s2, s3, s4, s5, s6, s7, s8⟩; go_simp; with_reducible rfl) ?_
             refine sR 10 64 (pz 33 11) HT_ ?_
             refine sT 11 65 (pz 33 12) rfl rfl HT_ HW_ hHeld (by rintro w' ⟨s0, s1, s2, s3, s4, s5, s6, s7, s8⟩; go_simp; with_reducible rfl) ?_
             refine sR 12 66 (pz 33 13) HT_ ?_
             refine sR 13 67 (pz 33 14) HT_ ?_
             refine sR 14 68 (pz 33 15) HT_ ?_
             refine sU 15 69 (pz 33 16) HT_ ?_
             refine sU 16 70 (pz 33 17) HT_ ?_
             refine sU 17 71 (pz 33 18) HT_ ?_
             refine sU 18 72 (pz 33 19) HT_ ?_
             refine sU 19 73 (pz 33 20) HT_ ?_
             refine sU 20 74 (pz 33 21) HT_ ?_
             refine sU 21 75 (pz 33 22) HT_ ?_
             refine sU 22 76 (pz 33 23) HT_ ?_
             refine sU 23 77 (pz 33 24) HT_ ?_
             refine sU 24 78 (pz 33 25) HT_ ?_
             refine sU 25 79 (pz 33 26) HT_ ?_
             refine sU 26 80 (pz 33 27) HT_ ?_
             refine sU 27 81 (pz 33 28) HT_ ?_
             refine sU 28 82 (pz 33 29) HT_ ?_
             refine sU 29 83 (pz 33 30) HT_ ?_
             refine sU 30 84 (pz 33 31) HT_ ?_
             refine sU 31 85 (pz 33 32) HT_ ?_
             refine sR 32 86 (pz 33 33) HT_ ?_
             refine done_ (done_of HT_.out (by kernel_rfl)) ?_
             try go_wp2
             go_ret
             exact ⟨by first | rfl | (simp [errW_none, errW_some] <;> rfl) | (simp [*, errW_none, errW_some] <;> rfl), by repeat (first | (with_reducible first | exact HB.out | apply below_alloc | apply pw_below_drewN | apply below_drew1 | refine below_set ?_ GE194.out) | exact HB.out)⟩
           ·rw [if_neg c37] at H
            exact absurd H (by simp)
          ·rw [if_neg c36] at H
           exact absurd H (by simp)
         ·replace c35 := Bool.eq_false_iff.mpr c35
          subst c35
          have H1 : (if x49_2 < (l0_4.length : Int) then (if (rdOf ByteArray.empty l0_4 x49_2).toList = ([] : List UInt8) then (if x49_2 < (l0_2.length : Int) then (if rdOf false l0_2 x49_2 = true then (some false) else (impl_GoodWindow.l0 k2 l0_5 (l0_5.length : Int) (wrap64 (x49_2 + 1)) l0_0 a0_1 l0_2 l0_3 l0_4 l0_5 a0_6)) else (none)) else (some false)) else (none)) = some r := by rw [if_neg (show ¬ (false = true) by decide)] at H; exact H
          clear H
          have H := H1
          clear H1
          by_cases c41 : x49_2 < (l0_4.length : Int)
          ·rw [if_pos c41] at H
           have c41b0 : decide (x49_2 < (l0_4.length : Int)) = true := decide_eq_true c41
           clear c41
           by_cases c42 : (rdOf ByteArray.empty l0_4 x49_2).toList = ([] : List UInt8)
           ·rw [if_pos c42] at H
            have c42b0 : ((rdOf ByteArray.empty l0_4 x49_2).toList == ([] : List UInt8)) = true := beq_iff_eq.mpr c42
            have c42b1 : ((rdOf ByteArray.empty l0_4 x49_2).toList != ([] : List UInt8)) = false := bne_eq_false_iff_eq.mpr c42
            clear c42
            by_cases c43 : x49_2 < (l0_2.length : Int)
            ·rw [if_pos c43] at H
             have c43b0 : decide (x49_2 < (l0_2.length : Int)) = true := decide_eq_true c43
             clear c43
             obtain ⟨bq44, hbq44⟩ : ∃ b_ : Bool, b_ = (rdOf false l0_2 x49_2) := ⟨_, rfl⟩
             replace H : (if bq44 = true then (some false) else (impl_GoodWindow.l0 k2 l0_5 (l0_5.length : Int) (wrap64 (x49_2 + 1)) l0_0 a0_1 l0_2 l0_3 l0_4 l0_5 a0_6)) = some r := by rw [← hbq44] at H; exact H
             have Nbq44 := Aside0.mk hbq44
             clear hbq44
             by_cases c45 : bq44 = true
             ·subst c45
              have H1 : (some false) = some r := by rw [if_pos rfl] at H; exact H
              clear H
              have H := H1
              clear H1
              obtain rfl := Option.some.inj H
              have p197 : 0 ≤ (x49_2 : Int) := of_decide_eq_true (by first | (with_reducible assumption) | assumption)
              have q197 : x49_2 < (l0_5.length : Int) := of_decide_eq_true (by first | (with_reducible assumption) | assumption)
              obtain ⟨ad197, e197, hx197_0⟩ := Kd.at_bool HR0_5.out x49_2 p197 q197
              (try rw [← Nbq34.out] at hx197_0)
              (try rw [← Nbq44.out] at hx197_0)
              cases e197
              replace hx197_0 := (HB.out.cell (World.block_lt_of_cell? w _ hx197_0)).trans hx197_0
              replace p197 := eq_true p197
              replace q197 := eq_true q197
              try go_wp2
              have n0_ := Aside0.mk (blk_drew BK194.out)
              have n1_ := Aside0.mk (below_drew1 HB.out)
              clear BK194
              clear HB
              have BK194 := n0_
              have HB := n1_
              clear n0_ n1_
              have p200 : 0 ≤ (x49_2 : Int) := of_decide_eq_true (by first | (with_reducible assumption) | assumption)
              have q200 : x49_2 < (l0_4.length : Int) := of_decide_eq_true (by first | (with_reducible assumption) | assumption)
              obtain ⟨ad200, e200, hx200_0⟩ := Kd.at_string HR0_4.out x49_2 p200 q200
              have hw200_0 := hx200_0
              cases e200
              replace hx200_0 := (HB.out.cell (World.block_lt_of_cell? w _ hx200_0)).trans hx200_0
              replace p200 := eq_true p200
              replace q200 := eq_true q200
              have p201 : 0 ≤ (x49_2 : Int) := of_decide_eq_true (by first | (with_reducible assumption) | assumption)
              have q201 : x49_2 < (l0_2.length : Int) := of_decide_eq_true (by first | (with_reducible assumption) | assumption)
              obtain ⟨ad201, e201, hx201_0⟩ := Kd.at_bool HR0_2.out x49_2 p201 q201
              have hw201_0 := hx201_0
              (try rw [← Nbq34.out] at hx201_0)
              (try rw [← Nbq34.out] at hw201_0)
              (try rw [← Nbq44.out] at hx201_0)
              (try rw [← Nbq44.out] at hw201_0)
              cases e201
              replace hx201_0 := (HB.out.cell (World.block_lt_of_cell? w _ hx201_0)).trans hx201_0
              replace p201 := eq_true p201
              replace q201 := eq_true q201
              refine start_ (n := 33) (S := fun w' => w'.cell? ⟨gb194, 0, none⟩ = some (.slice A0_0 l0_0.length c0_0) ∧ w'.cell? ⟨gb194, 1, none⟩ = some (.int .i64 a0_1) ∧ w'.cell? ⟨gb194, 2, none⟩ = some (.slice (some ad201) l0_2.length c0_2) ∧ w'.cell? ⟨gb194, 3, none⟩ = some (.slice A0_3 l0_3.length c0_3) ∧ w'.cell? ⟨gb194, 4, none⟩ = some (.slice (some ad200) l0_4.length c0_4) ∧ w'.cell? ⟨gb194, 5, none⟩ = some (.slice (some ad197) l0_5.length c0_5) ∧ w'.cell? ⟨gb194, 6, none⟩ = some (.int .i64 a0_6) ∧ w'.cell? (ad200.add (x49_2).toNat) = some (.string (rdOf ByteArray.empty l0_4 x49_2)) ∧ w'.cell? (ad201.add (x49_2).toNat) = some (.bool true)) (ds := []) (pz 33 0) (by kernel_rfl) rfl rfl ⟨(blk_cell BK194.out 0).trans rfl, (blk_cell BK194.out 1).trans rfl, (blk_cell BK194.out 2).trans rfl, (blk_cell BK194.out 3).trans rfl, (blk_cell BK194.out 4).trans rfl, (blk_cell BK194.out 5).trans rfl, (blk_cell BK194.out 6).trans rfl, ((HB.out.cell (World.block_lt_of_cell? w _ hw200_0)).trans hw200_0), ((HB.out.cell (World.block_lt_of_cell? w _ hw201_0)).trans hw201_0)⟩ (fun hHeld => ?_); refine with_tabW impl_GoodWindow.tab7 impl_GoodWindow.bits7 (fun HT_ HW_ => ?_)
              generalize wr.drew = w46 at BK194 HB hx200_0 hx201_0 hHeld ⊢
              refine sR 0 54 (pz 33 1) HT_ ?_
              refine sR 1 55 (pz 33 2) HT_ ?_
              refine sU 2 56 (pz 33 3) HT_ ?_
              refine sU 3 57 (pz 33 4) HT_ ?_
              refine sU 4 58 (pz 33 5) HT_ ?_
              refine sU 5 59 (pz 33 6) HT_ ?_
              refine sU 6 60 (pz 33 7) HT_ ?_
              refine sU 7 61 (pz 33 8) HT_ ?_
              refine sU 8 62 (pz 33 9) HT_ ?_
              refine sU 9 63 (pz 33 10) HT_ ?_
              refine sU 10 64 (pz 33 11) HT_ ?_
              refine sU 11 65 (pz 33 12) HT_ ?_
              refine sU 12 66 (pz 33 13) HT_ ?_
              refine sR 13 67 (pz 33 14) HT_ ?_
              refine sR 14 68 (pz 33 15) HT_ ?_
              refine sR 15 69 (pz 33 16) HT_ ?_
              refine sR 16 70 (pz 33 17) HT_ ?_
              refine sR 17 71 (pz 33 18) HT_ ?_
              refine sR 18 72 (pz 33 19) HT_ ?_
              refine sR 20 74 #[true, true, true, true, true, true, true, true, true, true, true, true, true, true, true, true, true, true, true, false, true, false, false, false, false, false, false, false, false, false, false, false, false] HT_ ?_
              refine sT 19 73 (pz 33 21) rfl rfl HT_ HW_ hHeld (by rintro w' ⟨s0, s1, s2, s3, s4, s5, s6, s7, s8⟩; go_simp; with_reducible rfl) ?_
              refine sR 21 75 (pz 33 22) HT_ ?_
              refine sT 22 76 (pz 33 23) rfl rfl HT_ HW_ hHeld (by rintro w' ⟨s0, s1, s2, s3, s4, s5, s6, s7, s8⟩; go_simp; with_reducible rfl) ?_
              refine sR 23 77 (pz 33 24) HT_ ?_
              refine sR 24 78 (pz 33 25) HT_ ?_
              refine sR 25 79 (pz 33 26) HT_ ?_
              refine sR 27 81 #[true, true, true, true, true, true, true, true, true, true, true, true, true, true, true, true, true, true, true, true, true, true, true, true, true, true, false, true, false, false, false, false, false] HT_ ?_
              refine sT 26 80 (pz 33 28) rfl rfl HT_ HW_ hHeld (by rintro w' ⟨s0, s1, s2, s3, s4, s5, s6, s7, s8⟩; go_simp; with_reducible rfl) ?_
              refine sR 28 82 (pz 33 29) HT_ ?_
              refine sT 29 83 (pz 33 30) rfl rfl HT_ HW_ hHeld (by rintro w' ⟨s0, s1, s2, s3, s4, s5, s6, s7, s8⟩; go_simp; with_reducible rfl) ?_
              refine sR 30 84 (pz 33 31) HT_ ?_
              refine sR 31 85 (pz 33 32) HT_ ?_
              refine sR 32 86 (pz 33 33) HT_ ?_
              refine done_ (done_of HT_.out (by kernel_rfl)) ?_
              try go_wp2
              go_ret
              exact ⟨by first | rfl | (simp [errW_none, errW_some] <;> rfl) | (simp [*, errW_none, errW_some] <;> rfl), by repeat (first | (with_reducible first | exact HB.out | apply below_alloc | apply pw_below_drewN | apply below_drew1 | refine below_set ?_ GE194.out) | exact HB.out)⟩
             ·replace c45 := Bool.eq_false_iff.mpr c45
              subst c45
              have H1 : (impl_GoodWindow.l0 k2 l0_5 (l0_5.length : Int) (wrap64 (x49_2 + 1)) l0_0 a0_1 l0_2 l0_3 l0_4 l0_5 a0_6) = some r := by rw [if_neg (show ¬ (false = true) by decide)] at H; exact H
              clear H
              have H := H1
              clear H1
              have H' := Aside0.mk H
              clear H
              have p197 : 0 ≤ (x49_2 : Int) := of_decide_eq_true (by first | (with_reducible assumption) | assumption)
              have q197 : x49_2 < (l0_5.length : Int) := of_decide_eq_true (by first | (with_reducible assumption) | assumption)
              obtain ⟨ad197, e197, hx197_0⟩ := Kd.at_bool HR0_5.out x49_2 p197 q197
              (try rw [← Nbq34.out] at hx197_0)
              (try rw [← Nbq44.out] at hx197_0)
              cases e197
              replace hx197_0 := (HB.out.cell (World.block_lt_of_cell? w _ hx197_0)).trans hx197_0
              replace p197 := eq_true p197
              replace q197 := eq_true q197
              try go_wp2
              have n0_ := Aside0.mk (blk_drew BK194.out)
              have n1_ := Aside0.mk (below_drew1 HB.out)
              clear BK194
              clear HB
              have BK194 := n0_
              have HB := n1_
              clear n0_ n1_
              have p200 : 0 ≤ (x49_2 : Int) := of_decide_eq_true (by first | (with_reducible assumption) | assumption)
              have q200 : x49_2 < (l0_4.length : Int) := of_decide_eq_true (by first | (with_reducible assumption) | assumption)
              obtain ⟨ad200, e200, hx200_0⟩ := Kd.at_string HR0_4.out x49_2 p200 q200
              have hw200_0 := hx200_0
              cases e200
              replace hx200_0 := (HB.out.cell (World.block_lt_of_cell? w _ hx200_0)).trans hx200_0
              replace p200 := eq_true p200
              replace q200 := eq_true q200
              have p201 : 0 ≤ (x49_2 : Int) := of_decide_eq_true (by first | (with_reducible assumption) | assumption)
              have q201 : x49_2 < (l0_2.length : Int) := of_decide_eq_true (by first | (with_reducible assumption) | assumption)
              obtain ⟨ad201, e201, hx201_0⟩ := Kd.at_bool HR0_2.out x49_2 p201 q201
              have hw201_0 := hx201_0
              (try rw [← Nbq34.out] at hx201_0)
              (try rw [← Nbq34.out] at hw201_0)
              (try rw [← Nbq44.out] at hx201_0)
              (try rw [← Nbq44.out] at hw201_0)
              cases e201
              replace hx201_0 := (HB.out.cell (World.block_lt_of_cell? w _ hx201_0)).trans hx201_0
              replace p201 := eq_true p201
              replace q201 := eq_true q201
              refine start_ (n := 33) (S := fun w' => w'.cell? ⟨gb194, 0, none⟩ = some (.slice A0_0 l0_0.length c0_0) ∧ w'.cell? ⟨gb194, 1, none⟩ = some (.int .i64 a0_1) ∧ w'.cell? ⟨gb194, 2, none⟩ = some (.slice (some ad201) l0_2.length c0_2) ∧ w'.cell? ⟨gb194, 3, none⟩ = some (.slice A0_3 l0_3.length c0_3) ∧ w'.cell? ⟨gb194, 4, none⟩ = some (.slice (some ad200) l0_4.length c0_4) ∧ w'.cell? ⟨gb194, 5, none⟩ = some (.slice (some ad197) l0_5.length c0_5) ∧ w'.cell? ⟨gb194, 6, none⟩ = some (.int .i64 a0_6) ∧ w'.cell? (ad200.add (x49_2).toNat) = some (.string (rdOf ByteArray.empty l0_4 x49_2)) ∧ w'.cell? (ad201.add (x49_2).toNat) = some (.bool false)) (ds := []) (pz 33 0) (by kernel_rfl) rfl rfl ⟨(blk_cell BK194.out 0).trans rfl, (blk_cell BK194.out 1).trans rfl, (blk_cell BK194.out 2).trans rfl, (blk_cell BK194.out 3).trans rfl, (blk_cell BK194.out 4).trans rfl, (blk_cell BK194.out 5).trans rfl, (blk_cell BK194.out 6).trans rfl, ((HB.out.cell (World.block_lt_of_cell? w _ hw200_0)).trans hw200_0), ((HB.out.cell (World.block_lt_of_cell? w _ hw201_0)).trans hw201_0)⟩ (fun hHeld => ?_); refine with_tabW impl_GoodWindow.tab7 impl_GoodWindow.bits7 (fun HT_ HW_ => ?_)
              generalize wr.drew = w47 at BK194 HB hx200_0 hx201_0 hHeld ⊢
              refine sR 0 54 (pz 33 1) HT_ ?_
              refine sR 1 55 (pz 33 2) HT_ ?_
              refine sU 2 56 (pz 33 3) HT_ ?_
              refine sU 3 57 (pz 33 4) HT_ ?_
              refine sU 4 58 (pz 33 5) HT_ ?_
              refine sU 5 59 (pz 33 6) HT_ ?_
              refine sU 6 60 (pz 33 7) HT_ ?_
              refine sU 7 61 (pz 33 8) HT_ ?_
              refine sU 8 62 (pz 33 9) HT_ ?_
              refine sU 9 63 (pz 33 10) HT_ ?_
              refine sU 10 64 (pz 33 11) HT_ ?_
              refine sU 11 65 (pz 33 12) HT_ ?_
              refine sU 12 66 (pz 33 13) HT_ ?_
              refine sR 13 67 (pz 33 14) HT_ ?_
              refine sR 14 68 (pz 33 15) HT_ ?_
              refine sR 15 69 (pz 33 16) HT_ ?_
              refine sR 16 70 (pz 33 17) HT_ ?_
              refine sR 17 71 (pz 33 18) HT_ ?_
              refine sR 18 72 (pz 33 19) HT_ ?_
              refine sR 20 74 #[true, true, true, true, true, true, true, true, true, true, true, true, true, true, true, true, true, true, true, false, true, false, false, false, false, false, false, false, false, false, false, false, false] HT_ ?_
              refine sT 19 73 (pz 33 21) rfl rfl HT_ HW_ hHeld (by rintro w' ⟨s0, s1, s2, s3, s4, s5, s6, s7, s8⟩; go_simp; with_reducible rfl) ?_
              refine sR 21 75 (pz 33 22) HT_ ?_
              refine sT 22 76 (pz 33 23) rfl rfl HT_ HW_ hHeld (by rintro w' ⟨s0, s1, s2, s3, s4, s5, s6, s7, s8⟩; go_simp; with_reducible rfl) ?_
              refine sR 23 77 (pz 33 24) HT_ ?_
              refine sR 24 78 (pz 33 25) HT_ ?_
              refine sR 25 79 (pz 33 26) HT_ ?_
              refine sR 27 81 #[true, true, true, true, true, true, true, true, true, true, true, true, true, true, true, true, true, true, true, true, true, true, true, true, true, true, false, true, false, false, false, false, false] HT_ ?_
              refine sT 26 80 (pz 33 28) rfl rfl HT_ HW_ hHeld (by rintro w' ⟨s0, s1, s2, s3, s4, s5, s6, s7, s8⟩; go_simp; with_reducible rfl) ?_
              refine sR 28 82 (pz 33 29) HT_ ?_
              refine sT 29 83 (pz 33 30) rfl rfl HT_ HW_ hHeld (by rintro w' ⟨s0, s1, s2, s3, s4, s5, s6, s7, s8⟩; go_simp; with_reducible rfl) ?_
              refine sR 30 84 (pz 33 31) HT_ ?_
              refine sR 31 85 (pz 33 32) HT_ ?_
              refine sR 32 86 (pz 33 33) HT_ ?_
              refine done_ (done_of HT_.out (by kernel_rfl)) ?_
              try go_wp2
              go_roundg k2
              case measure => have := HJ1.out; have := HK2.out; omega
              case rel => exact ⟨(wrap64 (x49_2 + 1)), (by first | rfl | (simp; done) | (simp [*]; done)), H', ⟨by have := HJ1.out; have := HK2.out; omega⟩, ⟨by (with_reducible repeat (first | refine blk_drewN ?_ _ | refine blk_drew ?_ | refine blk_alloc ?_ _)); exact BK194.out⟩, ⟨by repeat (first | (with_reducible first | exact HB.out | apply below_alloc | apply pw_below_drewN | apply below_drew1 | refine below_set ?_ GE194.out) | exact HB.out)⟩⟩
            ·rw [if_neg c43] at H
             exact absurd H (by simp)
           ·rw [if_neg c42] at H
            have c42b0 : ((rdOf ByteArray.empty l0_4 x49_2).toList == ([] : List UInt8)) = false := beq_eq_false_iff_ne.mpr c42
            have c42b1 : ((rdOf ByteArray.empty l0_4 x49_2).toList != ([] : List UInt8)) = true := bne_iff_ne.mpr c42
            obtain rfl := Option.some.inj H
            have p197 : 0 ≤ (x49_2 : Int) := of_decide_eq_true (by first | (with_reducible assumption) | assumption)
            have q197 : x49_2 < (l0_5.length : Int) := of_decide_eq_true (by first | (with_reducible assumption) | assumption)
            obtain ⟨ad197, e197, hx197_0⟩ := Kd.at_bool HR0_5.out x49_2 p197 q197
            (try rw [← Nbq34.out] at hx197_0)
            cases e197
            replace hx197_0 := (HB.out.cell (World.block_lt_of_cell? w _ hx197_0)).trans hx197_0
            replace p197 := eq_true p197
            replace q197 := eq_true q197
            try go_wp2
            have n0_ := Aside0.mk (blk_drew BK194.out)
            have n1_ := Aside0.mk (below_drew1 HB.out)
            clear BK194
            clear HB
            have BK194 := n0_
            have HB := n1_
            clear n0_ n1_
            have p200 : 0 ≤ (x49_2 : Int) := of_decide_eq_true (by first | (with_reducible assumption) | assumption)
            have q200 : x49_2 < (l0_4.length : Int) := of_decide_eq_true (by first | (with_reducible assumption) | assumption)
            obtain ⟨ad200, e200, hx200_0⟩ := Kd.at_string HR0_4.out x49_2 p200 q200
            have hw200_0 := hx200_0
            cases e200
            replace hx200_0 := (HB.out.cell (World.block_lt_of_cell? w _ hx200_0)).trans hx200_0
            replace p200 := eq_true p200
            replace q200 := eq_true q200
            refine start_ (n := 33) (S := fun w' => w'.cell? ⟨gb194, 0, none⟩ = some (.slice A0_0 l0_0.length c0_0) ∧ w'.cell? ⟨gb194, 1, none⟩ = some (.int .i64 a0_1) ∧ w'.cell? ⟨gb194, 2, none⟩ = some (.slice A0_2 l0_2.length c0_2) ∧ w'.cell? ⟨gb194, 3, none⟩ = some (.slice A0_3 l0_3.length c0_3) ∧ w'.cell? ⟨gb194, 4, none⟩ = some (.slice (some ad200) l0_4.length c0_4) ∧ w'.cell? ⟨gb194, 5, none⟩ = some (.slice (some ad197) l0_5.length c0_5) ∧ w'.cell? ⟨gb194, 6, none⟩ = some (.int .i64 a0_6) ∧ w'.cell? (ad200.add (x49_2).toNat) = some (.string (rdOf ByteArray.empty l0_4 x49_2))) (ds := []) (pz 33 0) (by kernel_rfl) rfl rfl ⟨(blk_cell BK194.out 0).trans rfl, (blk_cell BK194.out 1).trans rfl, (blk_cell BK194.out 2).trans rfl, (blk_cell BK194.out 3).trans rfl, (blk_cell BK194.out 4).trans rfl, (blk_cell BK194.out 5).trans rfl, (blk_cell BK194.out 6).trans rfl, ((HB.out.cell (World.block_lt_of_cell? w _ hw200_0)).trans hw200_0)⟩ (fun hHeld => ?_); refine with_tabW impl_GoodWindow.tab7 impl_GoodWindow.bits7 (fun HT_ HW_ => ?_)
            generalize wr.drew = w48 at BK194 HB hx200_0 hHeld ⊢
            refine sR 0 54 (pz 33 1) HT_ ?_
            refine sR 1 55 (pz 33 2) HT_ ?_
            refine sU 2 56 (pz 33 3) HT_ ?_
            refine sU 3 57 (pz 33 4) HT_ ?_
            refine sU 4 58 (pz 33 5) HT_ ?_
            refine sU 5 59 (pz 33 6) HT_ ?_
            refine sU 6 60 (pz 33 7) HT_ ?_
            refine sU 7 61 (pz 33 8) HT_ ?_
            refine sU 8 62 (pz 33 9) HT_ ?_
            refine sU 9 63 (pz 33 10) HT_ ?_
            refine sU 10 64 (pz 33 11) HT_ ?_
            refine sU 11 65 (pz 33 12) HT_ ?_
            refine sU 12 66 (pz 33 13) HT_ ?_
            refine sR 13 67 (pz 33 14) HT_ ?_
            refine sR 14 68 (pz 33 15) HT_ ?_
            refine sR 15 69 (pz 33 16) HT_ ?_
            refine sR 16 70 (pz 33 17) HT_ ?_
            refine sR 17 71 (pz 33 18) HT_ ?_
            refine sR 18 72 (pz 33 19) HT_ ?_
            refine sR 20 74 #[true, true, true, true, true, true, true, true, true, true, true, true, true, true, true, true, true, true, true, false, true, false, false, false, false, false, false, false, false, false, false, false, false] HT_ ?_
            refine sT 19 73 (pz 33 21) rfl rfl HT_ HW_ hHeld (by rintro w' ⟨s0, s1, s2, s3, s4, s5, s6, s7⟩; go_simp; with_reducible rfl) ?_
            refine sR 21 75 (pz 33 22) HT_ ?_
            refine sT 22 76 (pz 33 23) rfl rfl HT_ HW_ hHeld (by rintro w' ⟨s0, s1, s2, s3, s4, s5, s6, s7⟩; go_simp; with_reducible rfl) ?_
            refine sR 23 77 (pz 33 24) HT_ ?_
            refine sR 24 78 (pz 33 25) HT_ ?_
            refine sU 25 79 (pz 33 26) HT_ ?_
            refine sU 26 80 (pz 33 27) HT_ ?_
            refine sU 27 81 (pz 33 28) HT_ ?_
            refine sU 28 82 (pz 33 29) HT_ ?_
            refine sU 29 83 (pz 33 30) HT_ ?_
            refine sR 30 84 (pz 33 31) HT_ ?_
            refine sR 31 85 (pz 33 32) HT_ ?_
            refine sR 32 86 (pz 33 33) HT_ ?_
            refine done_ (done_of HT_.out (by kernel_rfl)) ?_
            try go_wp2
            go_ret
            exact ⟨by first | rfl | (simp [errW_none, errW_some] <;> rfl) | (simp [*, errW_none, errW_some] <;> rfl), by repeat (first | (with_reducible first | exact HB.out | apply below_alloc | apply pw_below_drewN | apply below_drew1 | refine below_set ?_ GE194.out) | exact HB.out)⟩
          ·rw [if_neg c41] at H
           exact absurd H (by simp)
        ·rw [if_neg c33] at H
         exact absurd H (by simp)
       ·rw [if_neg c32] at H
        exact absurd H (by simp)
      ·rw [if_neg c31] at H
       have c31b0 : decide (x49_2 < (l0_5.length : Int)) = false := decide_eq_false c31
       clear c31
       replace H := Option.bind_eq_some_iff.mp H
       obtain ⟨t202, A490, H⟩ := H
       replace H : (if a0_6 = t202 then ((impl_areAll_of_impl_Window_isFrame.f l0_3 l0_0 a0_1 l0_2 l0_3 l0_4 l0_5 a0_6).bind fun t203 => (some t203)) else (some false)) = some r := H
       have A49 := Aside0.mk A490
       clear A490
       by_cases c50 : a0_6 = t202
       ·rw [if_pos c50] at H
        have c50b0 : (a0_6 == t202) = true := beq_iff_eq.mpr c50
        have c50b1 : (a0_6 != t202) = false := bne_eq_false_iff_eq.mpr c50
        clear c50
        replace H := Option.bind_eq_some_iff.mp H
        obtain ⟨t203, A510, H⟩ := H
        replace H : (some t203) = some r := H
        have A51 := Aside0.mk A510
        clear A510
        obtain rfl := Option.some.inj H
        try go_wp2
        have n0_ := Aside0.mk (blk_drew BK194.out)
        have n1_ := Aside0.mk (below_drew1 HB.out)
        clear BK194
        clear HB
        have BK194 := n0_
        have HB := n1_
        clear n0_ n1_
        refine start_ (n := 14) (S := fun w' => w'.cell? ⟨gb194, 0, none⟩ = some (.slice A0_0 l0_0.length c0_0) ∧ w'.cell? ⟨gb194, 1, none⟩ = some (.int .i64 a0_1) ∧ w'.cell? ⟨gb194, 2, none⟩ = some (.slice A0_2 l0_2.length c0_2) ∧ w'.cell? ⟨gb194, 3, none⟩ = some (.slice A0_3 l0_3.length c0_3) ∧ w'.cell? ⟨gb194, 4, none⟩ = some (.slice A0_4 l0_4.length c0_4) ∧ w'.cell? ⟨gb194, 5, none⟩ = some (.slice A0_5 l0_5.length c0_5) ∧ w'.cell? ⟨gb194, 6, none⟩ = some (.int .i64 a0_6)) (ds := []) (pz 14 0) (by kernel_rfl) rfl rfl ⟨(blk_cell BK194.out 0).trans rfl, (blk_cell BK194.out 1).trans rfl, (blk_cell BK194.out 2).trans rfl, (blk_cell BK194.out 3).trans rfl, (blk_cell BK194.out 4).trans rfl, (blk_cell BK194.out 5).trans rfl, (blk_cell BK194.out 6).trans rfl⟩ (fun hHeld => ?_); refine with_tabW impl_GoodWindow.tab10 impl_GoodWindow.bits10 (fun HT_ HW_ => ?_)
        generalize wr.drew = w52 at BK194 HB hHeld ⊢
        refine sR 0 88 (pz 14 1) HT_ ?_
        refine sR 2 90 #[true, false, true, false, false, false, false, false, false, false, false, false, false, false] HT_ ?_
        refine sT 1 89 (pz 14 3) rfl rfl HT_ HW_ hHeld (by rintro w' ⟨s0, s1, s2, s3, s4, s5, s6⟩; go_simp; with_reducible rfl) ?_
        refine sT 3 91 (pz 14 4) rfl rfl HT_ HW_ hHeld (by rintro w' ⟨s0, s1, s2, s3, s4, s5, s6⟩; go_simp; with_reducible rfl) ?_
        refine one_ (i := 4) (N := some 92) (pz 14 5) rfl rfl (one_of HT_.out (by kernel_rfl)) (by decide) (fun K hK => ?_)
        refine goes_ Try.func115 (by kernel_rfl) rfl #[.slice A0_5 l0_5.length c0_5] (by rfl) rfl rfl (by (try simp only [List.map_toArray, List.map_cons, List.map_nil]); first | done | rfl | (simp only [List.length_drop, List.length_take]; rfl)) ?_
        with_reducible refine (impl_without.calls k2 _ _ l0_5 t202 _ ?side1 ?side2 A49.out).mono ?_
        (case side1 => repeat (first | exact (Kd.C_below HR0_5.out HB.out) | (with_reducible refine Kd.C_alloc ?_ _) | (with_reducible refine Kd.C_drewN ?_ _) | (with_reducible refine Kd.C_drew ?_)))
        (case side2 => exact HC0_5.out)
        rintro e w' ⟨rfl, ⟨nd, rfl⟩⟩
        refine ⟨_, rfl, ?_⟩
        refine hK.out _ _ ⟨(blk_cell BK194.out 0).trans rfl, (blk_cell BK194.out 1).trans rfl, (blk_cell BK194.out 2).trans rfl, (blk_cell BK194.out 3).trans rfl, (blk_cell BK194.out 4).trans rfl, (blk_cell BK194.out 5).trans rfl, (blk_cell BK194.out 6).trans rfl⟩ (fun hHeld => ?_)
        clear hK K
        refine norm_ (a' := ?_) ?_ ?_
        rotate_left
        ·show Act.put _ (some 92) _ = _
         simp only [Act.put, List.setIfInBounds_toArray, List.set_cons_zero, List.set_cons_succ, i64_w, i32_w]
         rfl
        refine sR 5 93 (pz 14 6) HT_ ?_
        refine sR 6 94 (pz 14 7) HT_ ?_
        refine sR 7 95 (pz 14 8) HT_ ?_
        refine sT 8 96 (pz 14 9) rfl rfl HT_ HW_ hHeld (by rintro w' ⟨s0, s1, s2, s3, s4, s5, s6⟩; go_simp; with_reducible rfl) ?_
        refine sT 9 97 (pz 14 10) rfl rfl HT_ HW_ hHeld (by rintro w' ⟨s0, s1, s2, s3, s4, s5, s6⟩; go_simp; with_reducible rfl) ?_
        refine sR 10 98 (pz 14 11) HT_ ?_
        refine one_ (i := 11) (N := some 99) (pz 14 12) rfl rfl (one_of HT_.out (by kernel_rfl)) (by decide) (fun K hK => ?_)
        refine goes_ Try.func116 (by kernel_rfl) rfl #[.slice A0_3 l0_3.length c0_3, .func (.func 117) #[.agg #[.slice A0_0 l0_0.length c0_0, .int .i64 a0_1, .slice A0_2 l0_2.length c0_2, .slice A0_3 l0_3.length c0_3, .slice A0_4 l0_4.length c0_4, .slice A0_5 l0_5.length c0_5, .int .i64 a0_6]] #[]] (by rfl) rfl rfl (by (try simp only [List.map_toArray, List.map_cons, List.map_nil]); first | done | rfl | (simp only [List.length_drop, List.length_take]; rfl)) ?_
        with_reducible refine (impl_areAll_of_impl_Window_isFrame.calls _ _ l0_3 _ _ l0_0 a0_1 _ _ l0_2 _ _ l0_3 _ _ l0_4 _ _ l0_5 a0_6 t203 _ ?side1 ?side2 ?side3 ?side4 ?side5 ?side6 ?side7 ?side8 ?side9 ?side10 ?side11 ?side12 A51.out).mono ?_
        (case side1 => repeat (first | exact (Kd.C_below HR0_3.out (by repeat (first | (with_reducible first | exact HB.out | apply below_alloc | apply pw_below_drewN | apply below_drew1 | refine below_set ?_ GE194.out) | exact HB.out))) | (with_reducible refine Kd.C_alloc ?_ _) | (with_reducible refine Kd.C_drewN ?_ _) | (with_reducible refine Kd.C_drew ?_)))
        (case side2 => exact HC0_3.out)
        (case side3 => repeat (first | exact (Kd.C_below HR0_0.out (by repeat (first | (with_reducible first | exact HB.out | apply below_alloc | apply pw_below_drewN | apply below_drew1 | refine below_set ?_ GE194.out) | exact HB.out))) | (with_reducible refine Kd.C_alloc ?_ _) | (with_reducible refine Kd.C_drewN ?_ _) | (with_reducible refine Kd.C_drew ?_)))
        (case side4 => exact HC0_0.out)
        (case side5 => repeat (first | exact (Kd.C_below HR0_2.out (by repeat (first | (with_reducible first | exact HB.out | apply below_alloc | apply pw_below_drewN | apply below_drew1 | refine below_set ?_ GE194.out) | exact HB.out))) | (with_reducible refine Kd.C_alloc ?_ _) | (with_reducible refine Kd.C_drewN ?_ _) | (with_reducible refine Kd.C_drew ?_)))
        (case side6 => exact HC0_2.out)
        (case side7 => repeat (first | exact (Kd.C_below HR0_3.out (by repeat (first | (with_reducible first | exact HB.out | apply below_alloc | apply pw_below_drewN | apply below_drew1 | refine below_set ?_ GE194.out) | exact HB.out))) | (with_reducible refine Kd.C_alloc ?_ _) | (with_reducible refine Kd.C_drewN ?_ _) | (with_reducible refine Kd.C_drew ?_)))
        (case side8 => exact HC0_3.out)
        (case side9 => repeat (first | exact (Kd.C_below HR0_4.out (by repeat (first | (with_reducible first | exact HB.out | apply below_alloc | apply pw_below_drewN | apply below_drew1 | refine below_set ?_ GE194.out) | exact HB.out))) | (with_reducible refine Kd.C_alloc ?_ _) | (with_reducible refine Kd.C_drewN ?_ _) | (with_reducible refine Kd.C_drew ?_)))
        (case side10 => exact HC0_4.out)
        (case side11 => repeat (first | exact (Kd.C_below HR0_5.out (by repeat (first | (with_reducible first | exact HB.out | apply below_alloc | apply pw_below_drewN | apply below_drew1 | refine below_set ?_ GE194.out) | exact HB.out))) | (with_reducible refine Kd.C_alloc ?_ _) | (with_reducible refine Kd.C_drewN ?_ _) | (with_reducible refine Kd.C_drew ?_)))
        (case side12 => exact HC0_5.out)
        rintro e w53 ⟨rfl, hb⟩
        refine ⟨_, rfl, ?_⟩
        have n0_ := Aside0.mk (blk_below (g := gb194) (o := .cells #[.slice A0_0 l0_0.length c0_0, .int .i64 a0_1, .slice A0_2 l0_2.length c0_2, .slice A0_3 l0_3.length c0_3, .slice A0_4 l0_4.length c0_4, .slice A0_5 l0_5.length c0_5, .int .i64 a0_6] 66 (0, 0)) (by (with_reducible repeat (first | refine blk_drewN ?_ _ | refine blk_drew ?_ | refine blk_alloc ?_ _)); exact BK194.out) hb)
        have n1_ := Aside0.mk (below_step (by repeat (first | (with_reducible first | exact HB.out | apply below_alloc | apply pw_below_drewN | apply below_drew1 | refine below_set ?_ GE194.out) | exact HB.out)) hb)
        clear BK194
        clear HB
        have BK194 := n0_
        have HB := n1_
        clear n0_ n1_
        (try clear hb)
        (try clear hb2)
        (try clear hk)
        (try clear hi)
        refine hK.out _ _ ⟨(blk_cell BK194.out 0).trans rfl, (blk_cell BK194.out 1).trans rfl, (blk_cell BK194.out 2).trans rfl, (blk_cell BK194.out 3).trans rfl, (blk_cell BK194.out 4).trans rfl, (blk_cell BK194.out 5).trans rfl, (blk_cell BK194.out 6).trans rfl⟩ (fun hHeld => ?_)
        clear hK K
        refine norm_ (a' := ?_) ?_ ?_
        rotate_left
        ·show Act.put _ (some 99) _ = _
         simp only [Act.put, List.setIfInBounds_toArray, List.set_cons_zero, List.set_cons_succ, i64_w, i32_w]
         rfl
        refine sR 12 100 (pz 14 13) HT_ ?_
        refine sR 13 2 (pz 14 14) HT_ ?_
        refine done_ (done_of HT_.out (by kernel_rfl)) ?_
        try go_wp2
        go_ret
        exact ⟨by first | rfl | (simp [errW_none, errW_some] <;> rfl) | (simp [*, errW_none, errW_some] <;> rfl), by repeat (first | (with_reducible first | exact HB.out | apply below_alloc | apply pw_below_drewN | apply below_drew1 | refine below_set ?_ GE194.out) | exact HB.out)⟩
       ·rw [if_neg c50] at H
        have c50b0 : (a0_6 == t202) = false := beq_eq_false_iff_ne.mpr c50
        have c50b1 : (a0_6 != t202) = true := bne_iff_ne.mpr c50
        obtain rfl := Option.some.inj H
        try go_wp2
        have n0_ := Aside0.mk (blk_drew BK194.out)
        have n1_ := Aside0.mk (below_drew1 HB.out)
        clear BK194
        clear HB
        have BK194 := n0_
        have HB := n1_
        clear n0_ n1_
        refine start_ (n := 14) (S := fun w' => w'.cell? ⟨gb194, 0, none⟩ = some (.slice A0_0 l0_0.length c0_0) ∧ w'.cell? ⟨gb194, 1, none⟩ = some (.int .i64 a0_1) ∧ w'.cell? ⟨gb194, 2, none⟩ = some (.slice A0_2 l0_2.length c0_2) ∧ w'.cell? ⟨gb194, 3, none⟩ = some (.slice A0_3 l0_3.length c0_3) ∧ w'.cell? ⟨gb194, 4, none⟩ = some (.slice A0_4 l0_4.length c0_4) ∧ w'.cell? ⟨gb194, 5, none⟩ = some (.slice A0_5 l0_5.length c0_5) ∧ w'.cell? ⟨gb194, 6, none⟩ = some (.int .i64 a0_6)) (ds := []) (pz 14 0) (by kernel_rfl) rfl rfl ⟨(blk_cell BK194.out 0).trans rfl, (blk_cell BK194.out 1).trans rfl, (blk_cell BK194.out 2).trans rfl, (blk_cell BK194.out 3).trans rfl, (blk_cell BK194.out 4).trans rfl, (blk_cell BK194.out 5).trans rfl, (blk_cell BK194.out 6).trans rfl⟩ (fun hHeld => ?_); refine with_tabW impl_GoodWindow.tab10 impl_GoodWindow.bits10 (fun HT_ HW_ => ?_)
        generalize wr.drew = w54 at BK194 HB hHeld ⊢
        refine sR 0 88 (pz 14 1) HT_ ?_
        refine sR 2 90 #[true, false, true, false, false, false, false, false, false, false, false, false, false, false] HT_ ?_
        refine sT 1 89 (pz 14 3) rfl rfl HT_ HW_ hHeld (by rintro w' ⟨s0, s1, s2, s3, s4, s5, s6⟩; go_simp; with_reducible rfl) ?_
        refine sT 3 91 (pz 14 4) rfl rfl HT_ HW_ hHeld (by rintro w' ⟨s0, s1, s2, s3, s4, s5, s6⟩; go_simp; with_reducible rfl) ?_
        refine one_ (i := 4) (N := some 92) (pz 14 5) rfl rfl (one_of HT_.out (by kernel_rfl)) (by decide) (fun K hK => ?_)
        refine goes_ Try.func115 (by kernel_rfl) rfl #[.slice A0_5 l0_5.length c0_5] (by rfl) rfl rfl (by (try simp only [List.map_toArray, List.map_cons, List.map_nil]); first | done | rfl | (simp only [List.length_drop, List.length_take]; rfl)) ?_
        with_reducible refine (impl_without.calls k2 _ _ l0_5 t202 _ ?side1 ?side2 A49.out).mono ?_
        (case side1 => repeat (first | exact (Kd.C_below HR0_5.out HB.out) | (with_reducible refine Kd.C_alloc ?_ _) | (with_reducible refine Kd.C_drewN ?_ _) | (with_reducible refine Kd.C_drew ?_)))
        (case side2 => exact HC0_5.out)
        rintro e w' ⟨rfl, ⟨nd, rfl⟩⟩
        refine ⟨_, rfl, ?_⟩
        refine hK.out _ _ ⟨(blk_cell BK194.out 0).trans rfl, (blk_cell BK194.out 1).trans rfl, (blk_cell BK194.out 2).trans rfl, (blk_cell BK194.out 3).trans rfl, (blk_cell BK194.out 4).trans rfl, (blk_cell BK194.out 5).trans rfl, (blk_cell BK194.out 6).trans rfl⟩ (fun hHeld => ?_)
        clear hK K
        refine norm_ (a' := ?_) ?_ ?_
        rotate_left
        ·show Act.put _ (some 92) _ = _
         simp only [Act.put, List.setIfInBounds_toArray, List.set_cons_zero, List.set_cons_succ, i64_w, i32_w]
         rfl
        refine sR 5 93 (pz 14 6) HT_ ?_
        refine sR 6 94 (pz 14 7) HT_ ?_
        refine sU 7 95 (pz 14 8) HT_ ?_
        refine sU 8 96 (pz 14 9) HT_ ?_
        refine sU 9 97 (pz 14 10) HT_ ?_
        refine sU 10 98 (pz 14 11) HT_ ?_
        refine sU 11 99 (pz 14 12) HT_ ?_
        refine sR 12 100 (pz 14 13) HT_ ?_
        refine sR 13 2 (pz 14 14) HT_ ?_
        refine done_ (done_of HT_.out (by kernel_rfl)) ?_
        try go_wp2
        go_ret
        exact ⟨by first | rfl | (simp [errW_none, errW_some] <;> rfl) | (simp [*, errW_none, errW_some] <;> rfl), by repeat (first | (with_reducible first | exact HB.out | apply below_alloc | apply pw_below_drewN | apply below_drew1 | refine below_set ?_ GE194.out) | exact HB.out)⟩

end Go.Proofs.Ytafkbhkikdndnaa.PFnExactFirstOpen

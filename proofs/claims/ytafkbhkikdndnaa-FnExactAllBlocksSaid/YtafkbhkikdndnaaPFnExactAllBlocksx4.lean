/- Lean functions with the same answers as the Go functions that one law reaches, and for each a proof that its call comes to just these answers. No condition. Written by pr.py, a program of this session. -/
import Derived.Test.YtafkbhkikdndnaaPFnExactAllBlocksx0
import Derived.Test.YtafkbhkikdndnaaPFnExactAllBlocksx3
namespace Go.Proofs.Ytafkbhkikdndnaa.PFnExactAllBlocks
open Go.RowKit Go.Proofs.YtafkbhkikdndnaaW.PrintWords Go.Proofs.YtafkbhkikdndnaaW.PrintLast Go.Proofs.YtafkbhkikdndnaaW.PrintMore
attribute [local go_sem] max2_int min2_int max_two min_two max_three min_three max_four min_four   -- for this text's walks alone
set_option linter.unusedVariables false
set_option linter.unusedSimpArgs false

/-! ### spec_GoodHeap: function 17 -/
mutual
def spec_GoodHeap.j0 : Nat → Bool → List (S88) → List (List Bool) → Option (Bool)
  | 0, _, _, _ => none
  | k + 1, x24, x172000, x172001 => if x24 = true then (some false) else (if 16 ≤ 35184372088832 then (if 16 ≤ 281474976710656 then (spec_GoodHeap.l0 k (List.replicate 16 0) (List.replicate 16 false) x172000 (x172000.length : Int) 0 x172000 x172001) else (none)) else (none))
def spec_GoodHeap.l0 : Nat → List Int → List Bool → List (S88) → Int → Int → List (S88) → List (List Bool) → Option (Bool)
  | 0, _, _, _, _, _, _, _ => none
  | k + 1, x3, x4, x28, x29, x30, x172000, x172001 => if x30 < x29 then (if 0 ≤ x30 then (if x30 < (x28.length : Int) then (if (((rd_T88 x28 x30).f0).length : Int) > 6 then (spec_GoodHeap.j2 k x3 x4 x30 x28 x29 x30 true x172000 x172001 ((rd_T88 x28 x30).f0) ((rd_T88 x28 x30).f1)) else ((spec_l1All.f k ((rd_T88 x28 x30).f0) 0 15).bind fun t181 => (if t181 = true then ((spec_l1In.f ((rd_T88 x28 x30).f1) 0 1000).bind fun t182 => (if t182 = true then (if x30 < (x172001.length : Int) then (spec_GoodHeap.j2 k x3 x4 x30 x28 x29 x30 (((rd_L4 x172001 x30).length : Int) != (((rd_T88 x28 x30).f0).length : Int)) x172000 x172001 ((rd_T88 x28 x30).f0) ((rd_T88 x28 x30).f1)) else (none)) else (spec_GoodHeap.j2 k x3 x4 x30 x28 x29 x30 true x172000 x172001 ((rd_T88 x28 x30).f0) ((rd_T88 x28 x30).f1)))) else (spec_GoodHeap.j2 k x3 x4 x30 x28 x29 x30 true x172000 x172001 ((rd_T88 x28 x30).f0) ((rd_T88 x28 x30).f1))))) else (none)) else (none)) else (spec_GoodHeap.l2 k x3 x4 (x4.length : Int) 0)
def spec_GoodHeap.j2 : Nat → List Int → List Bool → Int → List (S88) → Int → Int → Bool → List (S88) → List (List Bool) → List Int → Int → Option (Bool)
  | 0, _, _, _, _, _, _, _, _, _, _, _ => none
  | k + 1, x3, x4, x5, x28, x29, x30, x62, x172000, x172001, x181000, x181001 => if x62 = true then (some false) else (spec_GoodHeap.l1 k x3 x4 x5 x28 x29 x30 x181000 (x181000.length : Int) 0 x172000 x172001)
def spec_GoodHeap.l1 : Nat → List Int → List Bool → Int → List (S88) → Int → Int → List Int → Int → Int → List (S88) → List (List Bool) → Option (Bool)
  | 0, _, _, _, _, _, _, _, _, _, _, _ => none
  | k + 1, x3, x4, x5, x28, x29, x30, x64, x65, x66, x172000, x172001 => if x66 < x65 then (if 0 ≤ x66 then (if x66 < (x64.length : Int) then (if 0 ≤ (rd x64 x66) then (if (rd x64 x66) < (x4.length : Int) then ((some (x4.set ((rd x64 x66) : Int).toNat true : List Bool)).bind fun y185 => (if 0 ≤ x5 then (if x5 < (x172001.length : Int) then (if x66 < ((rd_L4 x172001 x5).length : Int) then (if rdOf false (rd_L4 x172001 x5) x66 = true then (if (rd x64 x66) < (x3.length : Int) then (spec_GoodHeap.l1 k (x3.set ((rd x64 x66) : Int).toNat (wrap64 ((rd x3 (rd x64 x66)) + 1))) y185 x5 x28 x29 x30 x64 x65 (wrap64 (x66 + 1)) x172000 x172001) else (none)) else (spec_GoodHeap.l1 k x3 y185 x5 x28 x29 x30 x64 x65 (wrap64 (x66 + 1)) x172000 x172001)) else (none)) else (none)) else (none))) else (none)) else (none)) else (none)) else (none)) else (spec_GoodHeap.l0 k x3 x4 x28 x29 (wrap64 (x30 + 1)) x172000 x172001)
def spec_GoodHeap.l2 : Nat → List Int → List Bool → Int → Int → Option (Bool)
  | 0, _, _, _, _ => none
  | k + 1, x3, x90, x91, x92 => if x92 < x91 then (if 0 ≤ x92 then (if x92 < (x90.length : Int) then (if x92 < (x3.length : Int) then (if (rd x3 x92) > 1 then (some false) else (if rdOf false x90 x92 = true then (if (rd x3 x92) = 0 then (some false) else (spec_GoodHeap.l2 k x3 x90 x91 (wrap64 (x92 + 1)))) else (spec_GoodHeap.l2 k x3 x90 x91 (wrap64 (x92 + 1))))) else (none)) else (none)) else (none)) else (some true)
end
def spec_GoodHeap.f (k : Nat) (l0_0 : List (S88)) (l0_1 : List (List Bool)) : Option (Bool) := (spec_l1In.f (l0_0.length : Int) 2 8).bind fun t172 => (if t172 = true then (spec_GoodHeap.j0 k ((l0_1.length : Int) != (l0_0.length : Int)) l0_0 l0_1) else (spec_GoodHeap.j0 k true l0_0 l0_1))
theorem spec_GoodHeap.mono_l : ∀ k, (∀ y0 y1 y2, LeO (spec_GoodHeap.j0 k y0 y1 y2) (spec_GoodHeap.j0 (k + 1) y0 y1 y2)) ∧ (∀ y0 y1 y2 y3 y4 y5 y6, LeO (spec_GoodHeap.l0 k y0 y1 y2 y3 y4 y5 y6) (spec_GoodHeap.l0 (k + 1) y0 y1 y2 y3 y4 y5 y6)) ∧ (∀ y0 y1 y2 y3 y4 y5 y6 y7 y8 y9 y10, LeO (spec_GoodHeap.j2 k y0 y1 y2 y3 y4 y5 y6 y7 y8 y9 y10) (spec_GoodHeap.j2 (k + 1) y0 y1 y2 y3 y4 y5 y6 y7 y8 y9 y10)) ∧ (∀ y0 y1 y2 y3 y4 y5 y6 y7 y8 y9 y10, LeO (spec_GoodHeap.l1 k y0 y1 y2 y3 y4 y5 y6 y7 y8 y9 y10) (spec_GoodHeap.l1 (k + 1) y0 y1 y2 y3 y4 y5 y6 y7 y8 y9 y10)) ∧ (∀ y0 y1 y2 y3, LeO (spec_GoodHeap.l2 k y0 y1 y2 y3) (spec_GoodHeap.l2 (k + 1) y0 y1 y2 y3))
  | 0 => ⟨fun _ _ _ r h => by simp [spec_GoodHeap.j0] at h, fun _ _ _ _ _ _ _ r h => by simp [spec_GoodHeap.l0] at h, fun _ _ _ _ _ _ _ _ _ _ _ r h => by simp [spec_GoodHeap.j2] at h, fun _ _ _ _ _ _ _ _ _ _ _ r h => by simp [spec_GoodHeap.l1] at h, fun _ _ _ _ r h => by simp [spec_GoodHeap.l2] at h⟩
  | k + 1 => by
    obtain ⟨ih0, ih1, ih2, ih3, ih4⟩ := spec_GoodHeap.mono_l k
    refine ⟨?_, ?_, ?_, ?_, ?_⟩
    · intro y0 y1 y2
      unfold spec_GoodHeap.j0
      repeat' first
      | (with_reducible exact ih0 _ _ _)
      | (with_reducible exact ih1 _ _ _ _ _ _ _)
      | (with_reducible exact ih2 _ _ _ _ _ _ _ _ _ _ _)
      | (with_reducible exact ih3 _ _ _ _ _ _ _ _ _ _ _)
      | (with_reducible exact ih4 _ _ _ _)
      | (with_reducible exact spec_l1All.mono _ _ _ _)
      | (with_reducible exact LeO.refl _)
      | (with_reducible exact LeO.none _)
      | (with_reducible refine LeO.ite ?_ ?_)
      | (with_reducible refine LeO.bind ?_ (fun _ => ?_))
      | exact ih0 _ _ _
      | exact ih1 _ _ _ _ _ _ _
      | exact ih2 _ _ _ _ _ _ _ _ _ _ _
      | exact ih3 _ _ _ _ _ _ _ _ _ _ _
      | exact ih4 _ _ _ _
      | exact spec_l1All.mono _ _ _ _
      | exact LeO.none _
      | refine LeO.ite ?_ ?_
      | refine LeO.bind ?_ (fun _ => ?_)
    · intro y0 y1 y2 y3 y4 y5 y6
      unfold spec_GoodHeap.l0
      repeat' first
      | (with_reducible exact ih0 _ _ _)
      | (with_reducible exact ih1 _ _ _ _ _ _ _)
      | (with_reducible exact ih2 _ _ _ _ _ _ _ _ _ _ _)
      | (with_reducible exact ih3 _ _ _ _ _ _ _ _ _ _ _)
      | (with_reducible exact ih4 _ _ _ _)
      | (with_reducible exact spec_l1All.mono _ _ _ _)
      | (with_reducible exact LeO.refl _)
      | (with_reducible exact LeO.none _)
      | (with_reducible refine LeO.ite ?_ ?_)
      | (with_reducible refine LeO.bind ?_ (fun _ => ?_))
      | exact ih0 _ _ _
      | exact ih1 _ _ _ _ _ _ _
      | exact ih2 _ _ _ _ _ _ _ _ _ _ _
      | exact ih3 _ _ _ _ _ _ _ _ _ _ _
      | exact ih4 _ _ _ _
      | exact spec_l1All.mono _ _ _ _
      | exact LeO.none _
      | refine LeO.ite ?_ ?_
      | refine LeO.bind ?_ (fun _ => ?_)
    · intro y0 y1 y2 y3 y4 y5 y6 y7 y8 y9 y10
      unfold spec_GoodHeap.j2
      repeat' first
      | (with_reducible exact ih0 _ _ _)
      | (with_reducible exact ih1 _ _ _ _ _ _ _)
      | (with_reducible exact ih2 _ _ _ _ _ _ _ _ _ _ _)
      | (with_reducible exact ih3 _ _ _ _ _ _ _ _ _ _ _)
      | (with_reducible exact ih4 _ _ _ _)
      | (with_reducible exact spec_l1All.mono _ _ _ _)
      | (with_reducible exact LeO.refl _)
      | (with_reducible exact LeO.none _)
      | (with_reducible refine LeO.ite ?_ ?_)
      | (with_reducible refine LeO.bind ?_ (fun _ => ?_))
      | exact ih0 _ _ _
      | exact ih1 _ _ _ _ _ _ _
      | exact ih2 _ _ _ _ _ _ _ _ _ _ _
      | exact ih3 _ _ _ _ _ _ _ _ _ _ _
      | exact ih4 _ _ _ _
      | exact spec_l1All.mono _ _ _ _
      | exact LeO.none _
      | refine LeO.ite ?_ ?_
      | refine LeO.bind ?_ (fun _ => ?_)
    · intro y0 y1 y2 y3 y4 y5 y6 y7 y8 y9 y10
      unfold spec_GoodHeap.l1
      repeat' first
      | (with_reducible exact ih0 _ _ _)
      | (with_reducible exact ih1 _ _ _ _ _ _ _)
      | (with_reducible exact ih2 _ _ _ _ _ _ _ _ _ _ _)
      | (with_reducible exact ih3 _ _ _ _ _ _ _ _ _ _ _)
      | (with_reducible exact ih4 _ _ _ _)
      | (with_reducible exact spec_l1All.mono _ _ _ _)
      | (with_reducible exact LeO.refl _)
      | (with_reducible exact LeO.none _)
      | (with_reducible refine LeO.ite ?_ ?_)
      | (with_reducible refine LeO.bind ?_ (fun _ => ?_))
      | exact ih0 _ _ _
      | exact ih1 _ _ _ _ _ _ _
      | exact ih2 _ _ _ _ _ _ _ _ _ _ _
      | exact ih3 _ _ _ _ _ _ _ _ _ _ _
      | exact ih4 _ _ _ _
      | exact spec_l1All.mono _ _ _ _
      | exact LeO.none _
      | refine LeO.ite ?_ ?_
      | refine LeO.bind ?_ (fun _ => ?_)
    · intro y0 y1 y2 y3
      unfold spec_GoodHeap.l2
      repeat' first
      | (with_reducible exact ih0 _ _ _)
      | (with_reducible exact ih1 _ _ _ _ _ _ _)
      | (with_reducible exact ih2 _ _ _ _ _ _ _ _ _ _ _)
      | (with_reducible exact ih3 _ _ _ _ _ _ _ _ _ _ _)
      | (with_reducible exact ih4 _ _ _ _)
      | (with_reducible exact spec_l1All.mono _ _ _ _)
      | (with_reducible exact LeO.refl _)
      | (with_reducible exact LeO.none _)
      | (with_reducible refine LeO.ite ?_ ?_)
      | (with_reducible refine LeO.bind ?_ (fun _ => ?_))
      | exact ih0 _ _ _
      | exact ih1 _ _ _ _ _ _ _
      | exact ih2 _ _ _ _ _ _ _ _ _ _ _
      | exact ih3 _ _ _ _ _ _ _ _ _ _ _
      | exact ih4 _ _ _ _
      | exact spec_l1All.mono _ _ _ _
      | exact LeO.none _
      | refine LeO.ite ?_ ?_
      | refine LeO.bind ?_ (fun _ => ?_)
theorem spec_GoodHeap.mono : ∀ a0 a1 k, LeO (spec_GoodHeap.f k a0 a1) (spec_GoodHeap.f (k + 1) a0 a1) := by
  intro a0 a1 k
  obtain ⟨ih0, ih1, ih2, ih3, ih4⟩ := spec_GoodHeap.mono_l k
  unfold spec_GoodHeap.f
  repeat' first
      | (with_reducible exact ih0 _ _ _)
      | (with_reducible exact ih1 _ _ _ _ _ _ _)
      | (with_reducible exact ih2 _ _ _ _ _ _ _ _ _ _ _)
      | (with_reducible exact ih3 _ _ _ _ _ _ _ _ _ _ _)
      | (with_reducible exact ih4 _ _ _ _)
      | (with_reducible exact spec_l1All.mono _ _ _ _)
      | (with_reducible exact LeO.refl _)
      | (with_reducible exact LeO.none _)
      | (with_reducible refine LeO.ite ?_ ?_)
      | (with_reducible refine LeO.bind ?_ (fun _ => ?_))
      | exact ih0 _ _ _
      | exact ih1 _ _ _ _ _ _ _
      | exact ih2 _ _ _ _ _ _ _ _ _ _ _
      | exact ih3 _ _ _ _ _ _ _ _ _ _ _
      | exact ih4 _ _ _ _
      | exact spec_l1All.mono _ _ _ _
      | exact LeO.none _
      | refine LeO.ite ?_ ?_
      | refine LeO.bind ?_ (fun _ => ?_)
set_option maxHeartbeats 8000000 in
set_option maxRecDepth 100000 in
theorem spec_GoodHeap.calls (k : Nat) (A0_0 : Option Addr) (c0_0 : Nat) (l0_0 : List (S88)) (A0_1 : Option Addr) (c0_1 : Nat) (l0_1 : List (List Bool)) (r : Bool) (w : World) (hr0_0 : Kd.C k88 w A0_0 l0_0.length l0_0) (hc0_0 : l0_0.length ≤ c0_0) (hr0_1 : Kd.C (Kd.slice 4 Kd.bool) w A0_1 l0_1.length l0_1) (hc0_1 : l0_1.length ≤ c0_1) (h : spec_GoodHeap.f k l0_0 l0_1 = some r) :
    Calls Try.prog 17 #[.agg #[.slice A0_0 l0_0.length c0_0, .slice A0_1 l0_1.length c0_1]] w fun e w' => e = .returned (.bool r) ∧ Below w.heap.size w w' := by
  have hu30 := Try.underlying30
  have hu88 := Try.underlying88
  have HR0_0 := Aside0.mk hr0_0
  have HC0_0 := Aside0.mk hc0_0
  clear hr0_0 hc0_0
  have HR0_1 := Aside0.mk hr0_1
  have HC0_1 := Aside0.mk hc0_1
  clear hr0_1 hc0_1
  have HB := Aside0.mk (Below.refl w.heap.size w)
  have H : ((spec_l1In.f (l0_0.length : Int) 2 8).bind fun t172 => (if t172 = true then (spec_GoodHeap.j0 k ((l0_1.length : Int) != (l0_0.length : Int)) l0_0 l0_1) else (spec_GoodHeap.j0 k true l0_0 l0_1))) = some r := h
  clear h
  have HC2 := Aside0.mk H
  clear H
  go_enter Try.func17, Try.ntmps17
  go_upto_region 1 with (first | ((with_reducible refine gate_dst (N := 1) rfl ?_); (try (refine gate_guard (by rfl) ?_; dsimp only)); refine box_event ?hg (N := 1) ?hd (cs := #[.slice A0_0 l0_0.length c0_0, .slice A0_1 l0_1.length c0_1]) (t := 30) ?hr ?_; (case hd => rfl); (case hg => rfl); (case hr => first | (go_simp; done) | (go_simp; rfl)); intro gb171 hg w3 hbox hb; have n0_ := Aside0.mk (below_step (by repeat (first | (with_reducible first | exact HB.out | apply below_alloc | apply pw_below_drewN | apply below_drew1) | exact HB.out)) hb); have n1_ := Aside0.mk (hbox); have n2_ := Aside0.mk ((by rw [hg]; exact (below_size (by repeat (first | (with_reducible first | exact HB.out | apply below_alloc | apply pw_below_drewN | apply below_drew1) | exact HB.out))) : w.heap.size ≤ gb171)); have n3_ := Aside0.mk ((by rw [hg]; exact (below_size (by repeat (first | (with_reducible first | exact HB.out | apply below_alloc | apply pw_below_drewN | apply below_drew1) | exact HB.out))) : w.heap.size ≤ gb171)); clear HB; have HB := n0_; have BK171 := n1_; have GW171 := n2_; have GE171 := n3_; clear n0_ n1_ n2_ n3_; clear hb hbox hg))
  repeat (go_quiet (first | ((with_reducible refine gate_dst (N := 1) rfl ?_); (try (refine gate_guard (by rfl) ?_; dsimp only)); refine box_event ?hg (N := 1) ?hd (cs := #[.slice A0_0 l0_0.length c0_0, .slice A0_1 l0_1.length c0_1]) (t := 30) ?hr ?_; (case hd => rfl); (case hg => rfl); (case hr => first | (go_simp; done) | (go_simp; rfl)); intro gb171 hg w3 hbox hb; have n0_ := Aside0.mk (below_step (by repeat (first | (with_reducible first | exact HB.out | apply below_alloc | apply pw_below_drewN | apply below_drew1) | exact HB.out)) hb); have n1_ := Aside0.mk (hbox); have n2_ := Aside0.mk ((by rw [hg]; exact (below_size (by repeat (first | (with_reducible first | exact HB.out | apply below_alloc | apply pw_below_drewN | apply below_drew1) | exact HB.out))) : w.heap.size ≤ gb171)); have n3_ := Aside0.mk ((by rw [hg]; exact (below_size (by repeat (first | (with_reducible first | exact HB.out | apply below_alloc | apply pw_below_drewN | apply below_drew1) | exact HB.out))) : w.heap.size ≤ gb171)); clear HB; have HB := n0_; have BK171 := n1_; have GW171 := n2_; have GE171 := n3_; clear n0_ n1_ n2_ n3_; clear hb hbox hg)); go_upto_region 1 with (first | ((with_reducible refine gate_dst (N := 1) rfl ?_); (try (refine gate_guard (by rfl) ?_; dsimp only)); refine box_event ?hg (N := 1) ?hd (cs := #[.slice A0_0 l0_0.length c0_0, .slice A0_1 l0_1.length c0_1]) (t := 30) ?hr ?_; (case hd => rfl); (case hg => rfl); (case hr => first | (go_simp; done) | (go_simp; rfl)); intro gb171 hg w3 hbox hb; have n0_ := Aside0.mk (below_step (by repeat (first | (with_reducible first | exact HB.out | apply below_alloc | apply pw_below_drewN | apply below_drew1) | exact HB.out)) hb); have n1_ := Aside0.mk (hbox); have n2_ := Aside0.mk ((by rw [hg]; exact (below_size (by repeat (first | (with_reducible first | exact HB.out | apply below_alloc | apply pw_below_drewN | apply below_drew1) | exact HB.out))) : w.heap.size ≤ gb171)); have n3_ := Aside0.mk ((by rw [hg]; exact (below_size (by repeat (first | (with_reducible first | exact HB.out | apply below_alloc | apply pw_below_drewN | apply below_drew1) | exact HB.out))) : w.heap.size ≤ gb171)); clear HB; have HB := n0_; have BK171 := n1_; have GW171 := n2_; have GE171 := n3_; clear n0_ n1_ n2_ n3_; clear hb hbox hg)))
  (try simp only [Act.put, List.setIfInBounds_toArray, List.set_cons_zero, List.set_cons_succ])
  go_cut [24] (fun v24 wc => ∃ (kq : Nat) (x24_1 : Bool), v24 = .bool x24_1 ∧ Aside0 (spec_GoodHeap.j0 kq x24_1 l0_0 l0_1 = some r) ∧ Aside0 (kq ≤ k) ∧ Aside0 (wc.heap[gb171]? = some (.cells #[(.slice A0_0 l0_0.length c0_0), (.slice A0_1 l0_1.length c0_1)] 30 (0, 0))) ∧ Aside0 (Below w.heap.size w wc))
  case first =>
    have H := HC2.out
    clear HC2
    replace H := Option.bind_eq_some_iff.mp H
    obtain ⟨t172, A40, H⟩ := H
    replace H : (if t172 = true then (spec_GoodHeap.j0 k ((l0_1.length : Int) != (l0_0.length : Int)) l0_0 l0_1) else (spec_GoodHeap.j0 k true l0_0 l0_1)) = some r := H
    have A4 := Aside0.mk A40
    clear A40
    by_cases c5 : t172 = true
    · subst c5
      have H1 : (spec_GoodHeap.j0 k ((l0_1.length : Int) != (l0_0.length : Int)) l0_0 l0_1) = some r := by rw [if_pos rfl] at H; exact H
      clear H
      have H := H1
      clear H1
      have H' := Aside0.mk H
      clear H
      have hcz6_0 : w3.cell? ⟨gb171, 0, none⟩ = some (.slice A0_0 l0_0.length c0_0) := (blk_cell BK171.out 0).trans rfl
      have hcz6_1 : w3.cell? ⟨gb171, 1, none⟩ = some (.slice A0_1 l0_1.length c0_1) := (blk_cell BK171.out 1).trans rfl
      have hfz6_0 := blk_frozen BK171.out 0
      have hfz6_1 := blk_frozen BK171.out 1
      go_wp2_with (first | (go_at_call 66; (with_reducible refine (spec_l1In.calls (l0_0.length : Int) 2 8 true _ A4.out).mono ?_); rintro e w' ⟨rfl, ⟨nd, rfl⟩⟩; (try first | exact ⟨rfl, _, World.drewN_drewN _ _ _⟩ | exact ⟨rfl, _, Eq.trans (World.drewN_drewN _ _ _) (congrArg (World.drewN _) (Nat.add_assoc _ _ _))⟩)))
      repeat (go_quiet (first | (go_at_call 66; (with_reducible refine (spec_l1In.calls (l0_0.length : Int) 2 8 true _ A4.out).mono ?_); rintro e w' ⟨rfl, ⟨nd, rfl⟩⟩; (try first | exact ⟨rfl, _, World.drewN_drewN _ _ _⟩ | exact ⟨rfl, _, Eq.trans (World.drewN_drewN _ _ _) (congrArg (World.drewN _) (Nat.add_assoc _ _ _))⟩))); try go_wp2_with (first | (go_at_call 66; (with_reducible refine (spec_l1In.calls (l0_0.length : Int) 2 8 true _ A4.out).mono ?_); rintro e w' ⟨rfl, ⟨nd, rfl⟩⟩; (try first | exact ⟨rfl, _, World.drewN_drewN _ _ _⟩ | exact ⟨rfl, _, Eq.trans (World.drewN_drewN _ _ _) (congrArg (World.drewN _) (Nat.add_assoc _ _ _))⟩))))
      go_meet
      case rel => exact ⟨_, (((l0_1.length : Int) != (l0_0.length : Int))), (by first | rfl | (simp; done) | (simp [*]; done)), H', ⟨by first | omega | exact Nat.le_refl _⟩, ⟨by (with_reducible repeat (first | refine blk_drewN ?_ _ | refine blk_drew ?_ | refine blk_alloc ?_ _)); exact BK171.out⟩, ⟨by repeat (first | (with_reducible first | exact HB.out | apply below_alloc | apply pw_below_drewN | apply below_drew1 | refine below_set ?_ GE171.out) | exact HB.out)⟩⟩
    · replace c5 := Bool.eq_false_iff.mpr c5
      subst c5
      have H1 : (spec_GoodHeap.j0 k true l0_0 l0_1) = some r := by rw [if_neg (show ¬ (false = true) by decide)] at H; exact H
      clear H
      have H := H1
      clear H1
      have H' := Aside0.mk H
      clear H
      have hcz7_0 : w3.cell? ⟨gb171, 0, none⟩ = some (.slice A0_0 l0_0.length c0_0) := (blk_cell BK171.out 0).trans rfl
      have hcz7_1 : w3.cell? ⟨gb171, 1, none⟩ = some (.slice A0_1 l0_1.length c0_1) := (blk_cell BK171.out 1).trans rfl
      have hfz7_0 := blk_frozen BK171.out 0
      have hfz7_1 := blk_frozen BK171.out 1
      go_wp2_with (first | (go_at_call 66; (with_reducible refine (spec_l1In.calls (l0_0.length : Int) 2 8 false _ A4.out).mono ?_); rintro e w' ⟨rfl, ⟨nd, rfl⟩⟩; (try first | exact ⟨rfl, _, World.drewN_drewN _ _ _⟩ | exact ⟨rfl, _, Eq.trans (World.drewN_drewN _ _ _) (congrArg (World.drewN _) (Nat.add_assoc _ _ _))⟩)))
      repeat (go_quiet (first | (go_at_call 66; (with_reducible refine (spec_l1In.calls (l0_0.length : Int) 2 8 false _ A4.out).mono ?_); rintro e w' ⟨rfl, ⟨nd, rfl⟩⟩; (try first | exact ⟨rfl, _, World.drewN_drewN _ _ _⟩ | exact ⟨rfl, _, Eq.trans (World.drewN_drewN _ _ _) (congrArg (World.drewN _) (Nat.add_assoc _ _ _))⟩))); try go_wp2_with (first | (go_at_call 66; (with_reducible refine (spec_l1In.calls (l0_0.length : Int) 2 8 false _ A4.out).mono ?_); rintro e w' ⟨rfl, ⟨nd, rfl⟩⟩; (try first | exact ⟨rfl, _, World.drewN_drewN _ _ _⟩ | exact ⟨rfl, _, Eq.trans (World.drewN_drewN _ _ _) (congrArg (World.drewN _) (Nat.add_assoc _ _ _))⟩))))
      go_meet
      case rel => exact ⟨_, (true), (by first | rfl | (simp; done) | (simp [*]; done)), H', ⟨by first | omega | exact Nat.le_refl _⟩, ⟨by (with_reducible repeat (first | refine blk_drewN ?_ _ | refine blk_drew ?_ | refine blk_alloc ?_ _)); exact BK171.out⟩, ⟨by repeat (first | (with_reducible first | exact HB.out | apply below_alloc | apply pw_below_drewN | apply below_drew1 | refine below_set ?_ GE171.out) | exact HB.out)⟩⟩
  case rest =>
    clear HC2
    try clear c1
    try clear p2
    try clear c5
    try clear hcz6_0
    try clear hcz6_1
    try clear hcz7_0
    try clear hcz7_1
    try clear hfz6_0
    try clear hfz6_1
    try clear hfz7_0
    try clear hfz7_1
    obtain ⟨kq, x24_1, rfl, HA, HJ1, BK171, HB⟩ := hcut
    cases kq with
    | zero => exact absurd HA.out (by simp [spec_GoodHeap.j0])
    | succ kj1 =>
      have H := HA.out
      clear HA
      simp only [spec_GoodHeap.j0] at H
      by_cases c8 : x24_1 = true
      · subst c8
        have H1 : (some false) = some r := by rw [if_pos rfl] at H; exact H
        clear H
        have H := H1
        clear H1
        obtain rfl := Option.some.inj H
        go_wp2
        repeat (go_quiet (fail); try go_wp2)
        go_ret
        exact ⟨by first | rfl | (simp [errW_none, errW_some] <;> rfl) | (simp [*, errW_none, errW_some] <;> rfl), by repeat (first | (with_reducible first | exact HB.out | apply below_alloc | apply pw_below_drewN | apply below_drew1 | refine below_set ?_ GE171.out) | exact HB.out)⟩
      · replace c8 := Bool.eq_false_iff.mpr c8
        subst c8
        have H1 : (if 16 ≤ 35184372088832 then (if 16 ≤ 281474976710656 then (spec_GoodHeap.l0 kj1 (List.replicate 16 0) (List.replicate 16 false) l0_0 (l0_0.length : Int) 0 l0_0 l0_1) else (none)) else (none)) = some r := by rw [if_neg (show ¬ (false = true) by decide)] at H; exact H
        clear H
        have H := H1
        clear H1
        by_cases c9 : 16 ≤ 35184372088832
        · rw [if_pos c9] at H
          have c9b0 := eq_true c9
          have c9b1 : decide (16 ≤ 35184372088832) = true := decide_eq_true c9
          clear c9
          obtain ⟨y173, hy173⟩ : ∃ y_ : List Int, y_ = (List.replicate 16 0) := ⟨_, rfl⟩
          replace H : (if 16 ≤ 281474976710656 then (spec_GoodHeap.l0 kj1 y173 (List.replicate 16 false) l0_0 (l0_0.length : Int) 0 l0_0 l0_1) else (none)) = some r := by first | (rw [hy173]; with_reducible exact H) | (have H2_ := (Option.bind_some _ _).symm.trans H; rw [hy173]; with_reducible exact H2_) | (have H2_ := (Option.bind_some _ _).symm.trans H; with_reducible exact H2_) | with_reducible exact H | (rw [hy173]; exact H) | exact H
          have Ny173 := Aside0.mk hy173
          clear hy173
          by_cases c10 : 16 ≤ 281474976710656
          · rw [if_pos c10] at H
            have c10b0 := eq_true c10
            have c10b1 : decide (16 ≤ 281474976710656) = true := decide_eq_true c10
            clear c10
            obtain ⟨y176, hy176⟩ : ∃ y_ : List Bool, y_ = (List.replicate 16 false) := ⟨_, rfl⟩
            replace H : (spec_GoodHeap.l0 kj1 y173 y176 l0_0 (l0_0.length : Int) 0 l0_0 l0_1) = some r := by first | (rw [hy176]; with_reducible exact H) | (have H2_ := (Option.bind_some _ _).symm.trans H; rw [hy176]; with_reducible exact H2_) | (have H2_ := (Option.bind_some _ _).symm.trans H; with_reducible exact H2_) | with_reducible exact H | (rw [hy176]; exact H) | exact H
            have Ny176 := Aside0.mk hy176
            clear hy176
            have H' := Aside0.mk H
            clear H
            go_wp2_with (first | ((with_reducible refine gate_dst (N := 25) rfl ?_); (try (refine gate_guard (by rfl) ?_; dsimp only)); refine Kd.R_make (Kd.int .i64) _ 3 rfl (N := 25) rfl 40 _ _ rfl 16 rfl rfl Try.underlying40 (.int .i64 0) 8 info3 rfl (by decide) (by omega) 0 (ok := fun _ => True) (okp := fun _ => True) rfl (fun _ hk => hk) trivial (by omega) (by omega) (Below.refl _ _) (Nat.le_refl _) ?_; intro v174 w11 ho12 hb hg_ hnew_; clear hg_ hnew_; (first | rw [← Ny173.out] at ho12 | (simp only [Int.reduceToNat] at ho12; rw [← Ny173.out] at ho12)); have n0_ := Aside0.mk (Kd.R_lower ho12 (below_size (by repeat (first | (with_reducible first | exact HB.out | apply below_alloc | apply pw_below_drewN | apply below_drew1 | refine below_set ?_ GE171.out) | exact HB.out)))); have n1_ := Aside0.mk (blk_below (g := gb171) (o := .cells #[.slice A0_0 l0_0.length c0_0, .slice A0_1 l0_1.length c0_1] 30 (0, 0)) (by (with_reducible repeat (first | refine blk_drewN ?_ _ | refine blk_drew ?_ | refine blk_alloc ?_ _)); exact BK171.out) hb); have n2_ := Aside0.mk (below_step (by repeat (first | (with_reducible first | exact HB.out | apply below_alloc | apply pw_below_drewN | apply below_drew1 | refine below_set ?_ GE171.out) | exact HB.out)) hb); clear BK171; clear HB; have HO175 := n0_; have BK171 := n1_; have HB := n2_; clear n0_ n1_ n2_; clear hb ho12) | ((with_reducible refine gate_dst (N := 26) rfl ?_); (try (refine gate_guard (by rfl) ?_; dsimp only)); refine Kd.R_make Kd.bool _ 4 rfl (N := 26) rfl 63 _ _ rfl 16 rfl rfl Try.underlying63 (.bool false) 1 info4 rfl (by decide) (by omega) false (ok := fun _ => True) (okp := fun _ => True) rfl (fun _ hk => hk) trivial (by omega) (by omega) (Below.refl _ _) (Nat.le_refl _) ?_; intro v177 w13 ho14 hb hg_ hnew_; clear hg_ hnew_; (first | rw [← Ny176.out] at ho14 | (simp only [Int.reduceToNat] at ho14; rw [← Ny176.out] at ho14)); have n0_ := Aside0.mk (Kd.R_below (by (with_reducible repeat (first | apply Kd.R_alloc | apply Kd.R_drewN | apply Kd.R_drew)); exact HO175.out) hb); have n1_ := Aside0.mk (Kd.R_lower ho14 (below_size (by repeat (first | (with_reducible first | exact HB.out | apply below_alloc | apply pw_below_drewN | apply below_drew1 | refine below_set ?_ GE171.out) | exact HB.out)))); have n2_ := Aside0.mk (blk_below (g := gb171) (o := .cells #[.slice A0_0 l0_0.length c0_0, .slice A0_1 l0_1.length c0_1] 30 (0, 0)) (by (with_reducible repeat (first | refine blk_drewN ?_ _ | refine blk_drew ?_ | refine blk_alloc ?_ _)); exact BK171.out) hb); have n3_ := Aside0.mk (below_step (by repeat (first | (with_reducible first | exact HB.out | apply below_alloc | apply pw_below_drewN | apply below_drew1 | refine below_set ?_ GE171.out) | exact HB.out)) hb); clear HO175; clear BK171; clear HB; have HO175 := n0_; have HO178 := n1_; have BK171 := n2_; have HB := n3_; clear n0_ n1_ n2_ n3_; clear hb ho14; have hcz15_0 : w13.cell? ⟨gb171, 0, none⟩ = some (.slice A0_0 l0_0.length c0_0) := (blk_cell BK171.out 0).trans rfl; have hcz15_1 : w13.cell? ⟨gb171, 1, none⟩ = some (.slice A0_1 l0_1.length c0_1) := (blk_cell BK171.out 1).trans rfl; have hfz15_0 := blk_frozen BK171.out 0; have hfz15_1 := blk_frozen BK171.out 1))
            repeat (go_quiet (first | ((with_reducible refine gate_dst (N := 25) rfl ?_); (try (refine gate_guard (by rfl) ?_; dsimp only)); refine Kd.R_make (Kd.int .i64) _ 3 rfl (N := 25) rfl 40 _ _ rfl 16 rfl rfl Try.underlying40 (.int .i64 0) 8 info3 rfl (by decide) (by omega) 0 (ok := fun _ => True) (okp := fun _ => True) rfl (fun _ hk => hk) trivial (by omega) (by omega) (Below.refl _ _) (Nat.le_refl _) ?_; intro v174 w11 ho12 hb hg_ hnew_; clear hg_ hnew_; (first | rw [← Ny173.out] at ho12 | (simp only [Int.reduceToNat] at ho12; rw [← Ny173.out] at ho12)); have n0_ := Aside0.mk (Kd.R_lower ho12 (below_size (by repeat (first | (with_reducible first | exact HB.out | apply below_alloc | apply pw_below_drewN | apply below_drew1 | refine below_set ?_ GE171.out) | exact HB.out)))); have n1_ := Aside0.mk (blk_below (g := gb171) (o := .cells #[.slice A0_0 l0_0.length c0_0, .slice A0_1 l0_1.length c0_1] 30 (0, 0)) (by (with_reducible repeat (first | refine blk_drewN ?_ _ | refine blk_drew ?_ | refine blk_alloc ?_ _)); exact BK171.out) hb); have n2_ := Aside0.mk (below_step (by repeat (first | (with_reducible first | exact HB.out | apply below_alloc | apply pw_below_drewN | apply below_drew1 | refine below_set ?_ GE171.out) | exact HB.out)) hb); clear BK171; clear HB; have HO175 := n0_; have BK171 := n1_; have HB := n2_; clear n0_ n1_ n2_; clear hb ho12) | ((with_reducible refine gate_dst (N := 26) rfl ?_); (try (refine gate_guard (by rfl) ?_; dsimp only)); refine Kd.R_make Kd.bool _ 4 rfl (N := 26) rfl 63 _ _ rfl 16 rfl rfl Try.underlying63 (.bool false) 1 info4 rfl (by decide) (by omega) false (ok := fun _ => True) (okp := fun _ => True) rfl (fun _ hk => hk) trivial (by omega) (by omega) (Below.refl _ _) (Nat.le_refl _) ?_; intro v177 w13 ho14 hb hg_ hnew_; clear hg_ hnew_; (first | rw [← Ny176.out] at ho14 | (simp only [Int.reduceToNat] at ho14; rw [← Ny176.out] at ho14)); have n0_ := Aside0.mk (Kd.R_below (by (with_reducible repeat (first | apply Kd.R_alloc | apply Kd.R_drewN | apply Kd.R_drew)); exact HO175.out) hb); have n1_ := Aside0.mk (Kd.R_lower ho14 (below_size (by repeat (first | (with_reducible first | exact HB.out | apply below_alloc | apply pw_below_drewN | apply below_drew1 | refine below_set ?_ GE171.out) | exact HB.out)))); have n2_ := Aside0.mk (blk_below (g := gb171) (o := .cells #[.slice A0_0 l0_0.length c0_0, .slice A0_1 l0_1.length c0_1] 30 (0, 0)) (by (with_reducible repeat (first | refine blk_drewN ?_ _ | refine blk_drew ?_ | refine blk_alloc ?_ _)); exact BK171.out) hb); have n3_ := Aside0.mk (below_step (by repeat (first | (with_reducible first | exact HB.out | apply below_alloc | apply pw_below_drewN | apply below_drew1 | refine below_set ?_ GE171.out) | exact HB.out)) hb); clear HO175; clear BK171; clear HB; have HO175 := n0_; have HO178 := n1_; have BK171 := n2_; have HB := n3_; clear n0_ n1_ n2_ n3_; clear hb ho14; have hcz15_0 : w13.cell? ⟨gb171, 0, none⟩ = some (.slice A0_0 l0_0.length c0_0) := (blk_cell BK171.out 0).trans rfl; have hcz15_1 : w13.cell? ⟨gb171, 1, none⟩ = some (.slice A0_1 l0_1.length c0_1) := (blk_cell BK171.out 1).trans rfl; have hfz15_0 := blk_frozen BK171.out 0; have hfz15_1 := blk_frozen BK171.out 1)); try go_wp2_with (first | ((with_reducible refine gate_dst (N := 25) rfl ?_); (try (refine gate_guard (by rfl) ?_; dsimp only)); refine Kd.R_make (Kd.int .i64) _ 3 rfl (N := 25) rfl 40 _ _ rfl 16 rfl rfl Try.underlying40 (.int .i64 0) 8 info3 rfl (by decide) (by omega) 0 (ok := fun _ => True) (okp := fun _ => True) rfl (fun _ hk => hk) trivial (by omega) (by omega) (Below.refl _ _) (Nat.le_refl _) ?_; intro v174 w11 ho12 hb hg_ hnew_; clear hg_ hnew_; (first | rw [← Ny173.out] at ho12 | (simp only [Int.reduceToNat] at ho12; rw [← Ny173.out] at ho12)); have n0_ := Aside0.mk (Kd.R_lower ho12 (below_size (by repeat (first | (with_reducible first | exact HB.out | apply below_alloc | apply pw_below_drewN | apply below_drew1 | refine below_set ?_ GE171.out) | exact HB.out)))); have n1_ := Aside0.mk (blk_below (g := gb171) (o := .cells #[.slice A0_0 l0_0.length c0_0, .slice A0_1 l0_1.length c0_1] 30 (0, 0)) (by (with_reducible repeat (first | refine blk_drewN ?_ _ | refine blk_drew ?_ | refine blk_alloc ?_ _)); exact BK171.out) hb); have n2_ := Aside0.mk (below_step (by repeat (first | (with_reducible first | exact HB.out | apply below_alloc | apply pw_below_drewN | apply below_drew1 | refine below_set ?_ GE171.out) | exact HB.out)) hb); clear BK171; clear HB; have HO175 := n0_; have BK171 := n1_; have HB := n2_; clear n0_ n1_ n2_; clear hb ho12) | ((with_reducible refine gate_dst (N := 26) rfl ?_); (try (refine gate_guard (by rfl) ?_; dsimp only)); refine Kd.R_make Kd.bool _ 4 rfl (N := 26) rfl 63 _ _ rfl 16 rfl rfl Try.underlying63 (.bool false) 1 info4 rfl (by decide) (by omega) false (ok := fun _ => True) (okp := fun _ => True) rfl (fun _ hk => hk) trivial (by omega) (by omega) (Below.refl _ _) (Nat.le_refl _) ?_; intro v177 w13 ho14 hb hg_ hnew_; clear hg_ hnew_; (first | rw [← Ny176.out] at ho14 | (simp only [Int.reduceToNat] at ho14; rw [← Ny176.out] at ho14)); have n0_ := Aside0.mk (Kd.R_below (by (with_reducible repeat (first | apply Kd.R_alloc | apply Kd.R_drewN | apply Kd.R_drew)); exact HO175.out) hb); have n1_ := Aside0.mk (Kd.R_lower ho14 (below_size (by repeat (first | (with_reducible first | exact HB.out | apply below_alloc | apply pw_below_drewN | apply below_drew1 | refine below_set ?_ GE171.out) | exact HB.out)))); have n2_ := Aside0.mk (blk_below (g := gb171) (o := .cells #[.slice A0_0 l0_0.length c0_0, .slice A0_1 l0_1.length c0_1] 30 (0, 0)) (by (with_reducible repeat (first | refine blk_drewN ?_ _ | refine blk_drew ?_ | refine blk_alloc ?_ _)); exact BK171.out) hb); have n3_ := Aside0.mk (below_step (by repeat (first | (with_reducible first | exact HB.out | apply below_alloc | apply pw_below_drewN | apply below_drew1 | refine below_set ?_ GE171.out) | exact HB.out)) hb); clear HO175; clear BK171; clear HB; have HO175 := n0_; have HO178 := n1_; have BK171 := n2_; have HB := n3_; clear n0_ n1_ n2_ n3_; clear hb ho14; have hcz15_0 : w13.cell? ⟨gb171, 0, none⟩ = some (.slice A0_0 l0_0.length c0_0) := (blk_cell BK171.out 0).trans rfl; have hcz15_1 : w13.cell? ⟨gb171, 1, none⟩ = some (.slice A0_1 l0_1.length c0_1) := (blk_cell BK171.out 1).trans rfl; have hfz15_0 := blk_frozen BK171.out 0; have hfz15_1 := blk_frozen BK171.out 1)))
            go_loopg [30] kj1 (fun kq v30 w' => ∃ (x3_2 : List Int) (x4_2 : List Bool) (x30_2 : Int), v30 = .int .i64 x30_2 ∧ Aside0 (spec_GoodHeap.l0 kq x3_2 x4_2 l0_0 (l0_0.length : Int) x30_2 l0_0 l0_1 = some r) ∧ Aside0 (kq ≤ kj1) ∧ Aside0 (Kd.R (Kd.int .i64) 3 w' w.heap.size (fun _ => True) v174 x3_2) ∧ Aside0 (Kd.R Kd.bool 4 w' w.heap.size (fun _ => True) v177 x4_2) ∧ Aside0 (w'.heap[gb171]? = some (.cells #[(.slice A0_0 l0_0.length c0_0), (.slice A0_1 l0_1.length c0_1)] 30 (0, 0))) ∧ Aside0 (Below w.heap.size w w'))
            case atStart => exact ⟨(y173), (y176), (0), (by first | rfl | (simp; done) | (simp [*]; done)), H', ⟨Nat.le_refl _⟩, ⟨by (with_reducible repeat (first | apply Kd.R_alloc | apply Kd.R_drewN | apply Kd.R_drew)); exact HO175.out⟩, ⟨by (with_reducible repeat (first | apply Kd.R_alloc | apply Kd.R_drewN | apply Kd.R_drew)); exact HO178.out⟩, ⟨by (with_reducible repeat (first | refine blk_drewN ?_ _ | refine blk_drew ?_ | refine blk_alloc ?_ _)); exact BK171.out⟩, ⟨by repeat (first | (with_reducible first | exact HB.out | apply below_alloc | apply pw_below_drewN | apply below_drew1 | refine below_set ?_ GE171.out) | exact HB.out)⟩⟩
            case round =>
              clear H'
              try clear c1
              try clear p2
              try clear c5
              try clear c8
              try clear c9
              try clear c9b0
              try clear c9b1
              try clear c10
              try clear c10b0
              try clear c10b1
              try clear hcz15_0
              try clear hcz15_1
              try clear hcz6_0
              try clear hcz6_1
              try clear hcz7_0
              try clear hcz7_1
              try clear hfz15_0
              try clear hfz15_1
              try clear hfz6_0
              try clear hfz6_1
              try clear hfz7_0
              try clear hfz7_1
              try clear p2
              obtain ⟨x3_2, x4_2, x30_2, rfl, HA, HK2, HO_3, HO_4, BK171, HB⟩ := hrel
              cases gk with
              | zero => exact absurd HA.out (by simp [spec_GoodHeap.l0])
              | succ k2 =>
                have H := HA.out
                clear HA
                simp only [spec_GoodHeap.l0] at H
                by_cases c16 : x30_2 < (l0_0.length : Int)
                · rw [if_pos c16] at H
                  have c16b0 : decide (x30_2 < (l0_0.length : Int)) = true := decide_eq_true c16
                  clear c16
                  by_cases c17 : 0 ≤ x30_2
                  · rw [if_pos c17] at H
                    have c17b0 : decide (0 ≤ x30_2) = true := decide_eq_true c17
                    clear c17
                    by_cases c18 : x30_2 < (l0_0.length : Int)
                    · rw [if_pos c18] at H
                      have c18b0 : decide (x30_2 < (l0_0.length : Int)) = true := decide_eq_true c18
                      clear c18
                      have HC19 := Aside0.mk H
                      clear H
                      have p179 : 0 ≤ (x30_2 : Int) := of_decide_eq_true (by first | (with_reducible assumption) | assumption)
                      have q179 : x30_2 < (l0_0.length : Int) := of_decide_eq_true (by first | (with_reducible assumption) | assumption)
                      obtain ⟨ad179, A179_0, c179_0, e179, hx179_0, hx179_1, hl179_0, hi179_0⟩ := at_T88 HR0_0.out x30_2 p179 q179
                      cases e179
                      replace hx179_0 := (HB.out.cell (World.block_lt_of_cell? w _ hx179_0)).trans hx179_0
                      replace hx179_1 := (HB.out.cell (World.block_lt_of_cell? w _ hx179_1)).trans hx179_1
                      have HR179_0 := Aside0.mk hi179_0
                      have HC179_0 := Aside0.mk hl179_0
                      clear hi179_0 hl179_0
                      replace p179 := eq_true p179
                      replace q179 := eq_true q179
                      go_upto_region 8 with (first | ((with_reducible refine gate_dst (N := 6) rfl ?_); (try (refine gate_guard (by rfl) ?_; dsimp only)); refine box_event ?hg (N := 6) ?hd (cs := #[.slice none 0 0, .int .i64 0]) (t := 88) ?hr ?_; (case hd => rfl); (case hg => rfl); (case hr => first | (go_simp; done) | (go_simp; rfl)); intro gb180 hg w20 hbox hb; have n0_ := Aside0.mk (Kd.R_below (by (with_reducible repeat (first | apply Kd.R_alloc | apply Kd.R_drewN | apply Kd.R_drew)); exact HO_3.out) hb); have n1_ := Aside0.mk (Kd.R_below (by (with_reducible repeat (first | apply Kd.R_alloc | apply Kd.R_drewN | apply Kd.R_drew)); exact HO_4.out) hb); have n2_ := Aside0.mk (blk_below (g := gb171) (o := .cells #[.slice (some ad179) l0_0.length c0_0, .slice A0_1 l0_1.length c0_1] 30 (0, 0)) (by (with_reducible repeat (first | refine blk_drewN ?_ _ | refine blk_drew ?_ | refine blk_alloc ?_ _)); exact BK171.out) hb); have n3_ := Aside0.mk (below_step (by repeat (first | (with_reducible first | exact HB.out | apply below_alloc | apply pw_below_drewN | apply below_drew1 | refine below_set ?_ GE171.out) | exact HB.out)) hb); have n4_ := Aside0.mk (hbox); have n5_ := Aside0.mk ((by rw [hg]; exact (below_size (by repeat (first | (with_reducible first | exact HB.out | apply below_alloc | apply pw_below_drewN | apply below_drew1 | refine below_set ?_ GE171.out) | exact HB.out))) : w.heap.size ≤ gb180)); have n6_ := Aside0.mk ((by rw [hg]; exact (below_size (by repeat (first | (with_reducible first | exact HB.out | apply below_alloc | apply pw_below_drewN | apply below_drew1 | refine below_set ?_ GE171.out) | exact HB.out))) : w.heap.size ≤ gb180)); have n7_ := Aside0.mk ((by rw [hg]; exact Nat.ne_of_lt (blk_lt (g := gb171) (o := .cells #[.slice (some ad179) l0_0.length c0_0, .slice A0_1 l0_1.length c0_1] 30 (0, 0)) (by (with_reducible repeat (first | refine blk_drewN ?_ _ | refine blk_drew ?_ | refine blk_alloc ?_ _)); exact BK171.out)) : gb171 ≠ gb180)); have n8_ := Aside0.mk ((by rw [hg]; exact Nat.ne_of_gt (blk_lt (g := gb171) (o := .cells #[.slice (some ad179) l0_0.length c0_0, .slice A0_1 l0_1.length c0_1] 30 (0, 0)) (by (with_reducible repeat (first | refine blk_drewN ?_ _ | refine blk_drew ?_ | refine blk_alloc ?_ _)); exact BK171.out)) : gb180 ≠ gb171)); clear HO_3; clear HO_4; clear BK171; clear HB; have HO_3 := n0_; have HO_4 := n1_; have BK171 := n2_; have HB := n3_; have BK180 := n4_; have GW180 := n5_; have GE180 := n6_; have NB171_180 := n7_; have NB180_171 := n8_; clear n0_ n1_ n2_ n3_ n4_ n5_ n6_ n7_ n8_; clear hb hbox hg; have hnb21 := NB180_171.out; have hnc21 := NB171_180.out; have hcz22_0 : w20.cell? ⟨gb180, 0, none⟩ = some (.slice none 0 0) := (blk_cell BK180.out 0).trans rfl; have hcz22_1 : w20.cell? ⟨gb180, 1, none⟩ = some (.int .i64 0) := (blk_cell BK180.out 1).trans rfl; have hfz22_0 := blk_frozen BK180.out 0; have hfz22_1 := blk_frozen BK180.out 1))
                      repeat (go_quiet (first | ((with_reducible refine gate_dst (N := 6) rfl ?_); (try (refine gate_guard (by rfl) ?_; dsimp only)); refine box_event ?hg (N := 6) ?hd (cs := #[.slice none 0 0, .int .i64 0]) (t := 88) ?hr ?_; (case hd => rfl); (case hg => rfl); (case hr => first | (go_simp; done) | (go_simp; rfl)); intro gb180 hg w20 hbox hb; have n0_ := Aside0.mk (Kd.R_below (by (with_reducible repeat (first | apply Kd.R_alloc | apply Kd.R_drewN | apply Kd.R_drew)); exact HO_3.out) hb); have n1_ := Aside0.mk (Kd.R_below (by (with_reducible repeat (first | apply Kd.R_alloc | apply Kd.R_drewN | apply Kd.R_drew)); exact HO_4.out) hb); have n2_ := Aside0.mk (blk_below (g := gb171) (o := .cells #[.slice (some ad179) l0_0.length c0_0, .slice A0_1 l0_1.length c0_1] 30 (0, 0)) (by (with_reducible repeat (first | refine blk_drewN ?_ _ | refine blk_drew ?_ | refine blk_alloc ?_ _)); exact BK171.out) hb); have n3_ := Aside0.mk (below_step (by repeat (first | (with_reducible first | exact HB.out | apply below_alloc | apply pw_below_drewN | apply below_drew1 | refine below_set ?_ GE171.out) | exact HB.out)) hb); have n4_ := Aside0.mk (hbox); have n5_ := Aside0.mk ((by rw [hg]; exact (below_size (by repeat (first | (with_reducible first | exact HB.out | apply below_alloc | apply pw_below_drewN | apply below_drew1 | refine below_set ?_ GE171.out) | exact HB.out))) : w.heap.size ≤ gb180)); have n6_ := Aside0.mk ((by rw [hg]; exact (below_size (by repeat (first | (with_reducible first | exact HB.out | apply below_alloc | apply pw_below_drewN | apply below_drew1 | refine below_set ?_ GE171.out) | exact HB.out))) : w.heap.size ≤ gb180)); have n7_ := Aside0.mk ((by rw [hg]; exact Nat.ne_of_lt (blk_lt (g := gb171) (o := .cells #[.slice (some ad179) l0_0.length c0_0, .slice A0_1 l0_1.length c0_1] 30 (0, 0)) (by (with_reducible repeat (first | refine blk_drewN ?_ _ | refine blk_drew ?_ | refine blk_alloc ?_ _)); exact BK171.out)) : gb171 ≠ gb180)); have n8_ := Aside0.mk ((by rw [hg]; exact Nat.ne_of_gt (blk_lt (g := gb171) (o := .cells #[.slice (some ad179) l0_0.length c0_0, .slice A0_1 l0_1.length c0_1] 30 (0, 0)) (by (with_reducible repeat (first | refine blk_drewN ?_ _ | refine blk_drew ?_ | refine blk_alloc ?_ _)); exact BK171.out)) : gb180 ≠ gb171)); clear HO_3; clear HO_4; clear BK171; clear HB; have HO_3 := n0_; have HO_4 := n1_; have BK171 := n2_; have HB := n3_; have BK180 := n4_; have GW180 := n5_; have GE180 := n6_; have NB171_180 := n7_; have NB180_171 := n8_; clear n0_ n1_ n2_ n3_ n4_ n5_ n6_ n7_ n8_; clear hb hbox hg; have hnb21 := NB180_171.out; have hnc21 := NB171_180.out; have hcz22_0 : w20.cell? ⟨gb180, 0, none⟩ = some (.slice none 0 0) := (blk_cell BK180.out 0).trans rfl; have hcz22_1 : w20.cell? ⟨gb180, 1, none⟩ = some (.int .i64 0) := (blk_cell BK180.out 1).trans rfl; have hfz22_0 := blk_frozen BK180.out 0; have hfz22_1 := blk_frozen BK180.out 1)); go_upto_region 8 with (first | ((with_reducible refine gate_dst (N := 6) rfl ?_); (try (refine gate_guard (by rfl) ?_; dsimp only)); refine box_event ?hg (N := 6) ?hd (cs := #[.slice none 0 0, .int .i64 0]) (t := 88) ?hr ?_; (case hd => rfl); (case hg => rfl); (case hr => first | (go_simp; done) | (go_simp; rfl)); intro gb180 hg w20 hbox hb; have n0_ := Aside0.mk (Kd.R_below (by (with_reducible repeat (first | apply Kd.R_alloc | apply Kd.R_drewN | apply Kd.R_drew)); exact HO_3.out) hb); have n1_ := Aside0.mk (Kd.R_below (by (with_reducible repeat (first | apply Kd.R_alloc | apply Kd.R_drewN | apply Kd.R_drew)); exact HO_4.out) hb); have n2_ := Aside0.mk (blk_below (g := gb171) (o := .cells #[.slice (some ad179) l0_0.length c0_0, .slice A0_1 l0_1.length c0_1] 30 (0, 0)) (by (with_reducible repeat (first | refine blk_drewN ?_ _ | refine blk_drew ?_ | refine blk_alloc ?_ _)); exact BK171.out) hb); have n3_ := Aside0.mk (below_step (by repeat (first | (with_reducible first | exact HB.out | apply below_alloc | apply pw_below_drewN | apply below_drew1 | refine below_set ?_ GE171.out) | exact HB.out)) hb); have n4_ := Aside0.mk (hbox); have n5_ := Aside0.mk ((by rw [hg]; exact (below_size (by repeat (first | (with_reducible first | exact HB.out | apply below_alloc | apply pw_below_drewN | apply below_drew1 | refine below_set ?_ GE171.out) | exact HB.out))) : w.heap.size ≤ gb180)); have n6_ := Aside0.mk ((by rw [hg]; exact (below_size (by repeat (first | (with_reducible first | exact HB.out | apply below_alloc | apply pw_below_drewN | apply below_drew1 | refine below_set ?_ GE171.out) | exact HB.out))) : w.heap.size ≤ gb180)); have n7_ := Aside0.mk ((by rw [hg]; exact Nat.ne_of_lt (blk_lt (g := gb171) (o := .cells #[.slice (some ad179) l0_0.length c0_0, .slice A0_1 l0_1.length c0_1] 30 (0, 0)) (by (with_reducible repeat (first | refine blk_drewN ?_ _ | refine blk_drew ?_ | refine blk_alloc ?_ _)); exact BK171.out)) : gb171 ≠ gb180)); have n8_ := Aside0.mk ((by rw [hg]; exact Nat.ne_of_gt (blk_lt (g := gb171) (o := .cells #[.slice (some ad179) l0_0.length c0_0, .slice A0_1 l0_1.length c0_1] 30 (0, 0)) (by (with_reducible repeat (first | refine blk_drewN ?_ _ | refine blk_drew ?_ | refine blk_alloc ?_ _)); exact BK171.out)) : gb180 ≠ gb171)); clear HO_3; clear HO_4; clear BK171; clear HB; have HO_3 := n0_; have HO_4 := n1_; have BK171 := n2_; have HB := n3_; have BK180 := n4_; have GW180 := n5_; have GE180 := n6_; have NB171_180 := n7_; have NB180_171 := n8_; clear n0_ n1_ n2_ n3_ n4_ n5_ n6_ n7_ n8_; clear hb hbox hg; have hnb21 := NB180_171.out; have hnc21 := NB171_180.out; have hcz22_0 : w20.cell? ⟨gb180, 0, none⟩ = some (.slice none 0 0) := (blk_cell BK180.out 0).trans rfl; have hcz22_1 : w20.cell? ⟨gb180, 1, none⟩ = some (.int .i64 0) := (blk_cell BK180.out 1).trans rfl; have hfz22_0 := blk_frozen BK180.out 0; have hfz22_1 := blk_frozen BK180.out 1)))
                      (try simp only [Act.put, List.setIfInBounds_toArray, List.set_cons_zero, List.set_cons_succ])
                      go_cut [62] (fun v62 wc => ∃ (kq : Nat) (x62_18 : Bool), v62 = .bool x62_18 ∧ Aside0 (spec_GoodHeap.j2 kq x3_2 x4_2 x30_2 l0_0 (l0_0.length : Int) x30_2 x62_18 l0_0 l0_1 ((rd_T88 l0_0 x30_2).f0) ((rd_T88 l0_0 x30_2).f1) = some r) ∧ Aside0 (kq ≤ k2) ∧ Aside0 (Kd.R (Kd.int .i64) 3 wc w.heap.size (fun _ => True) v174 x3_2) ∧ Aside0 (Kd.R Kd.bool 4 wc w.heap.size (fun _ => True) v177 x4_2) ∧ Aside0 (wc.heap[gb171]? = some (.cells #[(.slice (some ad179) l0_0.length c0_0), (.slice A0_1 l0_1.length c0_1)] 30 (0, 0))) ∧ Aside0 (wc.heap[gb180]? = some (.cells #[(.slice A179_0 ((rd_T88 l0_0 x30_2).f0).length c179_0), .int .i64 ((rd_T88 l0_0 x30_2).f1)] 88 (0, 0))) ∧ Aside0 (Below w.heap.size w wc))
                      case first =>
                        have H := HC19.out
                        clear HC19
                        by_cases c23 : (((rd_T88 l0_0 x30_2).f0).length : Int) > 6
                        · rw [if_pos c23] at H
                          have c23b0 : decide (6 < (((rd_T88 l0_0 x30_2).f0).length : Int)) = true := decide_eq_true c23
                          have c23b1 : decide (6 < ((rd_T88 l0_0 x30_2).f0).length) = true := decide_eq_true (by omega)
                          clear c23
                          (first | rw [c23b0] | (simp only [i64_w, i32_w]; rw [c23b0]) | skip)
                          have H' := Aside0.mk H
                          clear H
                          have hnb24 := NB180_171.out
                          have hnc24 := NB171_180.out
                          have hcz25_0 : w20.cell? ⟨gb180, 0, none⟩ = some (.slice none 0 0) := (blk_cell BK180.out 0).trans rfl
                          have hcz25_1 : w20.cell? ⟨gb180, 1, none⟩ = some (.int .i64 0) := (blk_cell BK180.out 1).trans rfl
                          have hfz25_0 := blk_frozen BK180.out 0
                          have hfz25_1 := blk_frozen BK180.out 1
                          go_wp2
                          repeat (go_quiet (fail); try go_wp2)
                          go_meet
                          case rel => exact ⟨_, (true), (by first | rfl | (simp; done) | (simp [*]; done)), H', ⟨by have := HJ1.out; have := HK2.out; first | omega | exact Nat.le_refl _⟩, ⟨by (with_reducible repeat (first | apply Kd.R_alloc | apply Kd.R_drewN | apply Kd.R_drew)); exact Kd.R_mono (Kd.R_far (p := ⟨gb180, 1, none⟩) (Kd.R_far (p := ⟨gb180, 0, none⟩) (Kd.R_types HO_3.out BK180.out (by decide)) (fun _ hk => hk.2) (.slice A179_0 ((rd_T88 l0_0 x30_2).f0).length c179_0)) (fun _ hk => hk.2) (.int .i64 ((rd_T88 l0_0 x30_2).f1))) (fun _ hk => trivial)⟩, ⟨by (with_reducible repeat (first | apply Kd.R_alloc | apply Kd.R_drewN | apply Kd.R_drew)); exact Kd.R_mono (Kd.R_far (p := ⟨gb180, 1, none⟩) (Kd.R_far (p := ⟨gb180, 0, none⟩) (Kd.R_types HO_4.out BK180.out (by decide)) (fun _ hk => hk.2) (.slice A179_0 ((rd_T88 l0_0 x30_2).f0).length c179_0)) (fun _ hk => hk.2) (.int .i64 ((rd_T88 l0_0 x30_2).f1))) (fun _ hk => trivial)⟩, ⟨by (with_reducible repeat (first | refine blk_drewN ?_ _ | refine blk_drew ?_ | refine blk_alloc ?_ _)); refine blk_far ?_ NB171_180.out _; (with_reducible repeat (first | refine blk_drewN ?_ _ | refine blk_drew ?_ | refine blk_alloc ?_ _)); refine blk_far ?_ NB171_180.out _; (with_reducible repeat (first | refine blk_drewN ?_ _ | refine blk_drew ?_ | refine blk_alloc ?_ _)); exact BK171.out⟩, ⟨by (with_reducible repeat (first | refine blk_drewN ?_ _ | refine blk_drew ?_ | refine blk_alloc ?_ _)); refine blk_put (cs := #[.slice A179_0 ((rd_T88 l0_0 x30_2).f0).length c179_0, .int .i64 0]) ?_ 1 _ rfl; (with_reducible repeat (first | refine blk_drewN ?_ _ | refine blk_drew ?_ | refine blk_alloc ?_ _)); refine blk_put (cs := #[.slice none 0 0, .int .i64 0]) ?_ 0 _ rfl; (with_reducible repeat (first | refine blk_drewN ?_ _ | refine blk_drew ?_ | refine blk_alloc ?_ _)); exact BK180.out⟩, ⟨by repeat (first | (with_reducible first | exact HB.out | apply below_alloc | apply pw_below_drewN | apply below_drew1 | refine below_set ?_ GE171.out | refine below_set ?_ GE180.out) | exact HB.out)⟩⟩
                        · rw [if_neg c23] at H
                          have c23b0 : decide (6 < (((rd_T88 l0_0 x30_2).f0).length : Int)) = false := decide_eq_false c23
                          have c23b1 : decide (6 < ((rd_T88 l0_0 x30_2).f0).length) = false := decide_eq_false (by omega)
                          clear c23
                          (first | rw [c23b0] | (simp only [i64_w, i32_w]; rw [c23b0]) | skip)
                          replace H := Option.bind_eq_some_iff.mp H
                          obtain ⟨t181, A260, H⟩ := H
                          replace H : (if t181 = true then ((spec_l1In.f ((rd_T88 l0_0 x30_2).f1) 0 1000).bind fun t182 => (if t182 = true then (if x30_2 < (l0_1.length : Int) then (spec_GoodHeap.j2 k2 x3_2 x4_2 x30_2 l0_0 (l0_0.length : Int) x30_2 (((rd_L4 l0_1 x30_2).length : Int) != (((rd_T88 l0_0 x30_2).f0).length : Int)) l0_0 l0_1 ((rd_T88 l0_0 x30_2).f0) ((rd_T88 l0_0 x30_2).f1)) else (none)) else (spec_GoodHeap.j2 k2 x3_2 x4_2 x30_2 l0_0 (l0_0.length : Int) x30_2 true l0_0 l0_1 ((rd_T88 l0_0 x30_2).f0) ((rd_T88 l0_0 x30_2).f1)))) else (spec_GoodHeap.j2 k2 x3_2 x4_2 x30_2 l0_0 (l0_0.length : Int) x30_2 true l0_0 l0_1 ((rd_T88 l0_0 x30_2).f0) ((rd_T88 l0_0 x30_2).f1))) = some r := H
                          have A26 := Aside0.mk A260
                          clear A260
                          by_cases c27 : t181 = true
                          · subst c27
                            have H1 : ((spec_l1In.f ((rd_T88 l0_0 x30_2).f1) 0 1000).bind fun t182 => (if t182 = true then (if x30_2 < (l0_1.length : Int) then (spec_GoodHeap.j2 k2 x3_2 x4_2 x30_2 l0_0 (l0_0.length : Int) x30_2 (((rd_L4 l0_1 x30_2).length : Int) != (((rd_T88 l0_0 x30_2).f0).length : Int)) l0_0 l0_1 ((rd_T88 l0_0 x30_2).f0) ((rd_T88 l0_0 x30_2).f1)) else (none)) else (spec_GoodHeap.j2 k2 x3_2 x4_2 x30_2 l0_0 (l0_0.length : Int) x30_2 true l0_0 l0_1 ((rd_T88 l0_0 x30_2).f0) ((rd_T88 l0_0 x30_2).f1)))) = some r := by rw [if_pos rfl] at H; exact H
                            clear H
                            have H := H1
                            clear H1
                            replace H := Option.bind_eq_some_iff.mp H
                            obtain ⟨t182, A280, H⟩ := H
                            replace H : (if t182 = true then (if x30_2 < (l0_1.length : Int) then (spec_GoodHeap.j2 k2 x3_2 x4_2 x30_2 l0_0 (l0_0.length : Int) x30_2 (((rd_L4 l0_1 x30_2).length : Int) != (((rd_T88 l0_0 x30_2).f0).length : Int)) l0_0 l0_1 ((rd_T88 l0_0 x30_2).f0) ((rd_T88 l0_0 x30_2).f1)) else (none)) else (spec_GoodHeap.j2 k2 x3_2 x4_2 x30_2 l0_0 (l0_0.length : Int) x30_2 true l0_0 l0_1 ((rd_T88 l0_0 x30_2).f0) ((rd_T88 l0_0 x30_2).f1))) = some r := H
                            have A28 := Aside0.mk A280
                            clear A280
                            by_cases c29 : t182 = true
                            · subst c29
                              have H1 : (if x30_2 < (l0_1.length : Int) then (spec_GoodHeap.j2 k2 x3_2 x4_2 x30_2 l0_0 (l0_0.length : Int) x30_2 (((rd_L4 l0_1 x30_2).length : Int) != (((rd_T88 l0_0 x30_2).f0).length : Int)) l0_0 l0_1 ((rd_T88 l0_0 x30_2).f0) ((rd_T88 l0_0 x30_2).f1)) else (none)) = some r := by rw [if_pos rfl] at H; exact H
                              clear H
                              have H := H1
                              clear H1
                              by_cases c30 : x30_2 < (l0_1.length : Int)
                              · rw [if_pos c30] at H
                                have c30b0 : decide (x30_2 < (l0_1.length : Int)) = true := decide_eq_true c30
                                clear c30
                                have H' := Aside0.mk H
                                clear H
                                have hnb31 := NB180_171.out
                                have hnc31 := NB171_180.out
                                have hcz32_0 : w20.cell? ⟨gb180, 0, none⟩ = some (.slice none 0 0) := (blk_cell BK180.out 0).trans rfl
                                have hcz32_1 : w20.cell? ⟨gb180, 1, none⟩ = some (.int .i64 0) := (blk_cell BK180.out 1).trans rfl
                                have hfz32_0 := blk_frozen BK180.out 0
                                have hfz32_1 := blk_frozen BK180.out 1
                                go_wp2_with (first | (go_at_call 67; (with_reducible refine (spec_l1All.calls k2 _ _ ((rd_T88 l0_0 x30_2).f0) 0 15 true _ ?side1 ?side2 A26.out).mono ?_); (case side1 => exact Kd.C_below HR179_0.out (by repeat (first | (with_reducible first | exact HB.out | apply below_alloc | apply pw_below_drewN | apply below_drew1 | refine below_set ?_ GE171.out | refine below_set ?_ GE180.out) | exact HB.out))); (case side2 => exact HC179_0.out); rintro e w' ⟨rfl, ⟨nd, rfl⟩⟩; (try first | exact ⟨rfl, _, World.drewN_drewN _ _ _⟩ | exact ⟨rfl, _, Eq.trans (World.drewN_drewN _ _ _) (congrArg (World.drewN _) (Nat.add_assoc _ _ _))⟩)) | (go_at_call 66; (with_reducible refine (spec_l1In.calls ((rd_T88 l0_0 x30_2).f1) 0 1000 true _ A28.out).mono ?_); rintro e w' ⟨rfl, ⟨nd, rfl⟩⟩; (try first | exact ⟨rfl, _, World.drewN_drewN _ _ _⟩ | exact ⟨rfl, _, Eq.trans (World.drewN_drewN _ _ _) (congrArg (World.drewN _) (Nat.add_assoc _ _ _))⟩); have hcz33_0 : w20.cell? ⟨gb171, 0, none⟩ = some (.slice (some ad179) l0_0.length c0_0) := (blk_cell BK171.out 0).trans rfl; have hcz33_1 : w20.cell? ⟨gb171, 1, none⟩ = some (.slice A0_1 l0_1.length c0_1) := (blk_cell BK171.out 1).trans rfl; have hfz33_0 := blk_frozen BK171.out 0; have hfz33_1 := blk_frozen BK171.out 1; have p183 : 0 ≤ (x30_2 : Int) := of_decide_eq_true (by first | (with_reducible assumption) | assumption); have q183 : x30_2 < (l0_1.length : Int) := of_decide_eq_true (by first | (with_reducible assumption) | assumption); obtain ⟨ad183, A183_0, c183_0, e183, hx183_0, hl183_0, hi183_0⟩ := at_L4 HR0_1.out x30_2 p183 q183; cases e183; have hn183_0 : ad183.block ≠ gb180 := Nat.ne_of_lt (Nat.lt_of_lt_of_le (by have := World.block_lt_of_cell? _ _ hx183_0; first | rwa [add_block] at this | exact this) GW180.out); have hn183_1 : ad183.block ≠ gb180 := Nat.ne_of_lt (Nat.lt_of_lt_of_le (by have := World.block_lt_of_cell? _ _ hx183_0; first | rwa [add_block] at this | exact this) GW180.out); replace hx183_0 := (HB.out.cell (World.block_lt_of_cell? w _ hx183_0)).trans hx183_0; have HR183_0 := Aside0.mk hi183_0; have HC183_0 := Aside0.mk hl183_0; clear hi183_0 hl183_0; replace hx183_0 := (cell_far (p := ⟨gb180, 0, none⟩) (by first | (rw [add_block]; exact hn183_0) | (show (Addr.add _ _).block ≠ _; rw [add_block]; exact hn183_0) | exact hn183_0) (.slice A179_0 ((rd_T88 l0_0 x30_2).f0).length c179_0)).trans hx183_0; replace hx183_0 := (cell_far (p := ⟨gb180, 1, none⟩) (by first | (rw [add_block]; exact hn183_1) | (show (Addr.add _ _).block ≠ _; rw [add_block]; exact hn183_1) | exact hn183_1) (.int .i64 ((rd_T88 l0_0 x30_2).f1))).trans hx183_0; (try have hy183_0 := fun (n_ : Nat) => (show ((((w20.drewN n_).setCell ⟨gb180, 0, none⟩ (.slice A179_0 ((rd_T88 l0_0 x30_2).f0).length c179_0)).setCell ⟨gb180, 1, none⟩ (.int .i64 ((rd_T88 l0_0 x30_2).f1)))).cell? _ = some _ from hx183_0)); clear hn183_0; clear hn183_1; replace p183 := eq_true p183; replace q183 := eq_true q183))
                                repeat (go_quiet (first | (go_at_call 67; (with_reducible refine (spec_l1All.calls k2 _ _ ((rd_T88 l0_0 x30_2).f0) 0 15 true _ ?side1 ?side2 A26.out).mono ?_); (case side1 => exact Kd.C_below HR179_0.out (by repeat (first | (with_reducible first | exact HB.out | apply below_alloc | apply pw_below_drewN | apply below_drew1 | refine below_set ?_ GE171.out | refine below_set ?_ GE180.out) | exact HB.out))); (case side2 => exact HC179_0.out); rintro e w' ⟨rfl, ⟨nd, rfl⟩⟩; (try first | exact ⟨rfl, _, World.drewN_drewN _ _ _⟩ | exact ⟨rfl, _, Eq.trans (World.drewN_drewN _ _ _) (congrArg (World.drewN _) (Nat.add_assoc _ _ _))⟩)) | (go_at_call 66; (with_reducible refine (spec_l1In.calls ((rd_T88 l0_0 x30_2).f1) 0 1000 true _ A28.out).mono ?_); rintro e w' ⟨rfl, ⟨nd, rfl⟩⟩; (try first | exact ⟨rfl, _, World.drewN_drewN _ _ _⟩ | exact ⟨rfl, _, Eq.trans (World.drewN_drewN _ _ _) (congrArg (World.drewN _) (Nat.add_assoc _ _ _))⟩); have hcz33_0 : w20.cell? ⟨gb171, 0, none⟩ = some (.slice (some ad179) l0_0.length c0_0) := (blk_cell BK171.out 0).trans rfl; have hcz33_1 : w20.cell? ⟨gb171, 1, none⟩ = some (.slice A0_1 l0_1.length c0_1) := (blk_cell BK171.out 1).trans rfl; have hfz33_0 := blk_frozen BK171.out 0; have hfz33_1 := blk_frozen BK171.out 1; have p183 : 0 ≤ (x30_2 : Int) := of_decide_eq_true (by first | (with_reducible assumption) | assumption); have q183 : x30_2 < (l0_1.length : Int) := of_decide_eq_true (by first | (with_reducible assumption) | assumption); obtain ⟨ad183, A183_0, c183_0, e183, hx183_0, hl183_0, hi183_0⟩ := at_L4 HR0_1.out x30_2 p183 q183; cases e183; have hn183_0 : ad183.block ≠ gb180 := Nat.ne_of_lt (Nat.lt_of_lt_of_le (by have := World.block_lt_of_cell? _ _ hx183_0; first | rwa [add_block] at this | exact this) GW180.out); have hn183_1 : ad183.block ≠ gb180 := Nat.ne_of_lt (Nat.lt_of_lt_of_le (by have := World.block_lt_of_cell? _ _ hx183_0; first | rwa [add_block] at this | exact this) GW180.out); replace hx183_0 := (HB.out.cell (World.block_lt_of_cell? w _ hx183_0)).trans hx183_0; have HR183_0 := Aside0.mk hi183_0; have HC183_0 := Aside0.mk hl183_0; clear hi183_0 hl183_0; replace hx183_0 := (cell_far (p := ⟨gb180, 0, none⟩) (by first | (rw [add_block]; exact hn183_0) | (show (Addr.add _ _).block ≠ _; rw [add_block]; exact hn183_0) | exact hn183_0) (.slice A179_0 ((rd_T88 l0_0 x30_2).f0).length c179_0)).trans hx183_0; replace hx183_0 := (cell_far (p := ⟨gb180, 1, none⟩) (by first | (rw [add_block]; exact hn183_1) | (show (Addr.add _ _).block ≠ _; rw [add_block]; exact hn183_1) | exact hn183_1) (.int .i64 ((rd_T88 l0_0 x30_2).f1))).trans hx183_0; (try have hy183_0 := fun (n_ : Nat) => (show ((((w20.drewN n_).setCell ⟨gb180, 0, none⟩ (.slice A179_0 ((rd_T88 l0_0 x30_2).f0).length c179_0)).setCell ⟨gb180, 1, none⟩ (.int .i64 ((rd_T88 l0_0 x30_2).f1)))).cell? _ = some _ from hx183_0)); clear hn183_0; clear hn183_1; replace p183 := eq_true p183; replace q183 := eq_true q183)); try go_wp2_with (first | (go_at_call 67; (with_reducible refine (spec_l1All.calls k2 _ _ ((rd_T88 l0_0 x30_2).f0) 0 15 true _ ?side1 ?side2 A26.out).mono ?_); (case side1 => exact Kd.C_below HR179_0.out (by repeat (first | (with_reducible first | exact HB.out | apply below_alloc | apply pw_below_drewN | apply below_drew1 | refine below_set ?_ GE171.out | refine below_set ?_ GE180.out) | exact HB.out))); (case side2 => exact HC179_0.out); rintro e w' ⟨rfl, ⟨nd, rfl⟩⟩; (try first | exact ⟨rfl, _, World.drewN_drewN _ _ _⟩ | exact ⟨rfl, _, Eq.trans (World.drewN_drewN _ _ _) (congrArg (World.drewN _) (Nat.add_assoc _ _ _))⟩)) | (go_at_call 66; (with_reducible refine (spec_l1In.calls ((rd_T88 l0_0 x30_2).f1) 0 1000 true _ A28.out).mono ?_); rintro e w' ⟨rfl, ⟨nd, rfl⟩⟩; (try first | exact ⟨rfl, _, World.drewN_drewN _ _ _⟩ | exact ⟨rfl, _, Eq.trans (World.drewN_drewN _ _ _) (congrArg (World.drewN _) (Nat.add_assoc _ _ _))⟩); have hcz33_0 : w20.cell? ⟨gb171, 0, none⟩ = some (.slice (some ad179) l0_0.length c0_0) := (blk_cell BK171.out 0).trans rfl; have hcz33_1 : w20.cell? ⟨gb171, 1, none⟩ = some (.slice A0_1 l0_1.length c0_1) := (blk_cell BK171.out 1).trans rfl; have hfz33_0 := blk_frozen BK171.out 0; have hfz33_1 := blk_frozen BK171.out 1; have p183 : 0 ≤ (x30_2 : Int) := of_decide_eq_true (by first | (with_reducible assumption) | assumption); have q183 : x30_2 < (l0_1.length : Int) := of_decide_eq_true (by first | (with_reducible assumption) | assumption); obtain ⟨ad183, A183_0, c183_0, e183, hx183_0, hl183_0, hi183_0⟩ := at_L4 HR0_1.out x30_2 p183 q183; cases e183; have hn183_0 : ad183.block ≠ gb180 := Nat.ne_of_lt (Nat.lt_of_lt_of_le (by have := World.block_lt_of_cell? _ _ hx183_0; first | rwa [add_block] at this | exact this) GW180.out); have hn183_1 : ad183.block ≠ gb180 := Nat.ne_of_lt (Nat.lt_of_lt_of_le (by have := World.block_lt_of_cell? _ _ hx183_0; first | rwa [add_block] at this | exact this) GW180.out); replace hx183_0 := (HB.out.cell (World.block_lt_of_cell? w _ hx183_0)).trans hx183_0; have HR183_0 := Aside0.mk hi183_0; have HC183_0 := Aside0.mk hl183_0; clear hi183_0 hl183_0; replace hx183_0 := (cell_far (p := ⟨gb180, 0, none⟩) (by first | (rw [add_block]; exact hn183_0) | (show (Addr.add _ _).block ≠ _; rw [add_block]; exact hn183_0) | exact hn183_0) (.slice A179_0 ((rd_T88 l0_0 x30_2).f0).length c179_0)).trans hx183_0; replace hx183_0 := (cell_far (p := ⟨gb180, 1, none⟩) (by first | (rw [add_block]; exact hn183_1) | (show (Addr.add _ _).block ≠ _; rw [add_block]; exact hn183_1) | exact hn183_1) (.int .i64 ((rd_T88 l0_0 x30_2).f1))).trans hx183_0; (try have hy183_0 := fun (n_ : Nat) => (show ((((w20.drewN n_).setCell ⟨gb180, 0, none⟩ (.slice A179_0 ((rd_T88 l0_0 x30_2).f0).length c179_0)).setCell ⟨gb180, 1, none⟩ (.int .i64 ((rd_T88 l0_0 x30_2).f1)))).cell? _ = some _ from hx183_0)); clear hn183_0; clear hn183_1; replace p183 := eq_true p183; replace q183 := eq_true q183)))
                                go_meet
                                case rel => exact ⟨_, ((((rd_L4 l0_1 x30_2).length : Int) != (((rd_T88 l0_0 x30_2).f0).length : Int))), (by first | rfl | (simp; done) | (simp [*]; done)), H', ⟨by have := HJ1.out; have := HK2.out; first | omega | exact Nat.le_refl _⟩, ⟨by (with_reducible repeat (first | apply Kd.R_alloc | apply Kd.R_drewN | apply Kd.R_drew)); exact Kd.R_mono (Kd.R_far (p := ⟨gb180, 1, none⟩) (Kd.R_far (p := ⟨gb180, 0, none⟩) (Kd.R_types HO_3.out BK180.out (by decide)) (fun _ hk => hk.2) (.slice A179_0 ((rd_T88 l0_0 x30_2).f0).length c179_0)) (fun _ hk => hk.2) (.int .i64 ((rd_T88 l0_0 x30_2).f1))) (fun _ hk => trivial)⟩, ⟨by (with_reducible repeat (first | apply Kd.R_alloc | apply Kd.R_drewN | apply Kd.R_drew)); exact Kd.R_mono (Kd.R_far (p := ⟨gb180, 1, none⟩) (Kd.R_far (p := ⟨gb180, 0, none⟩) (Kd.R_types HO_4.out BK180.out (by decide)) (fun _ hk => hk.2) (.slice A179_0 ((rd_T88 l0_0 x30_2).f0).length c179_0)) (fun _ hk => hk.2) (.int .i64 ((rd_T88 l0_0 x30_2).f1))) (fun _ hk => trivial)⟩, ⟨by (with_reducible repeat (first | refine blk_drewN ?_ _ | refine blk_drew ?_ | refine blk_alloc ?_ _)); refine blk_far ?_ NB171_180.out _; (with_reducible repeat (first | refine blk_drewN ?_ _ | refine blk_drew ?_ | refine blk_alloc ?_ _)); refine blk_far ?_ NB171_180.out _; (with_reducible repeat (first | refine blk_drewN ?_ _ | refine blk_drew ?_ | refine blk_alloc ?_ _)); exact BK171.out⟩, ⟨by (with_reducible repeat (first | refine blk_drewN ?_ _ | refine blk_drew ?_ | refine blk_alloc ?_ _)); refine blk_put (cs := #[.slice A179_0 ((rd_T88 l0_0 x30_2).f0).length c179_0, .int .i64 0]) ?_ 1 _ rfl; (with_reducible repeat (first | refine blk_drewN ?_ _ | refine blk_drew ?_ | refine blk_alloc ?_ _)); refine blk_put (cs := #[.slice none 0 0, .int .i64 0]) ?_ 0 _ rfl; (with_reducible repeat (first | refine blk_drewN ?_ _ | refine blk_drew ?_ | refine blk_alloc ?_ _)); exact BK180.out⟩, ⟨by repeat (first | (with_reducible first | exact HB.out | apply below_alloc | apply pw_below_drewN | apply below_drew1 | refine below_set ?_ GE171.out | refine below_set ?_ GE180.out) | exact HB.out)⟩⟩
                              · rw [if_neg c30] at H
                                exact absurd H (by simp)
                            · replace c29 := Bool.eq_false_iff.mpr c29
                              subst c29
                              have H1 : (spec_GoodHeap.j2 k2 x3_2 x4_2 x30_2 l0_0 (l0_0.length : Int) x30_2 true l0_0 l0_1 ((rd_T88 l0_0 x30_2).f0) ((rd_T88 l0_0 x30_2).f1)) = some r := by rw [if_neg (show ¬ (false = true) by decide)] at H; exact H
                              clear H
                              have H := H1
                              clear H1
                              have H' := Aside0.mk H
                              clear H
                              have hnb34 := NB180_171.out
                              have hnc34 := NB171_180.out
                              have hcz35_0 : w20.cell? ⟨gb180, 0, none⟩ = some (.slice none 0 0) := (blk_cell BK180.out 0).trans rfl
                              have hcz35_1 : w20.cell? ⟨gb180, 1, none⟩ = some (.int .i64 0) := (blk_cell BK180.out 1).trans rfl
                              have hfz35_0 := blk_frozen BK180.out 0
                              have hfz35_1 := blk_frozen BK180.out 1
                              go_wp2_with (first | (go_at_call 67; (with_reducible refine (spec_l1All.calls k2 _ _ ((rd_T88 l0_0 x30_2).f0) 0 15 true _ ?side1 ?side2 A26.out).mono ?_); (case side1 => exact Kd.C_below HR179_0.out (by repeat (first | (with_reducible first | exact HB.out | apply below_alloc | apply pw_below_drewN | apply below_drew1 | refine below_set ?_ GE171.out | refine below_set ?_ GE180.out) | exact HB.out))); (case side2 => exact HC179_0.out); rintro e w' ⟨rfl, ⟨nd, rfl⟩⟩; (try first | exact ⟨rfl, _, World.drewN_drewN _ _ _⟩ | exact ⟨rfl, _, Eq.trans (World.drewN_drewN _ _ _) (congrArg (World.drewN _) (Nat.add_assoc _ _ _))⟩)) | (go_at_call 66; (with_reducible refine (spec_l1In.calls ((rd_T88 l0_0 x30_2).f1) 0 1000 false _ A28.out).mono ?_); rintro e w' ⟨rfl, ⟨nd, rfl⟩⟩; (try first | exact ⟨rfl, _, World.drewN_drewN _ _ _⟩ | exact ⟨rfl, _, Eq.trans (World.drewN_drewN _ _ _) (congrArg (World.drewN _) (Nat.add_assoc _ _ _))⟩)))
                              repeat (go_quiet (first | (go_at_call 67; (with_reducible refine (spec_l1All.calls k2 _ _ ((rd_T88 l0_0 x30_2).f0) 0 15 true _ ?side1 ?side2 A26.out).mono ?_); (case side1 => exact Kd.C_below HR179_0.out (by repeat (first | (with_reducible first | exact HB.out | apply below_alloc | apply pw_below_drewN | apply below_drew1 | refine below_set ?_ GE171.out | refine below_set ?_ GE180.out) | exact HB.out))); (case side2 => exact HC179_0.out); rintro e w' ⟨rfl, ⟨nd, rfl⟩⟩; (try first | exact ⟨rfl, _, World.drewN_drewN _ _ _⟩ | exact ⟨rfl, _, Eq.trans (World.drewN_drewN _ _ _) (congrArg (World.drewN _) (Nat.add_assoc _ _ _))⟩)) | (go_at_call 66; (with_reducible refine (spec_l1In.calls ((rd_T88 l0_0 x30_2).f1) 0 1000 false _ A28.out).mono ?_); rintro e w' ⟨rfl, ⟨nd, rfl⟩⟩; (try first | exact ⟨rfl, _, World.drewN_drewN _ _ _⟩ | exact ⟨rfl, _, Eq.trans (World.drewN_drewN _ _ _) (congrArg (World.drewN _) (Nat.add_assoc _ _ _))⟩))); try go_wp2_with (first | (go_at_call 67; (with_reducible refine (spec_l1All.calls k2 _ _ ((rd_T88 l0_0 x30_2).f0) 0 15 true _ ?side1 ?side2 A26.out).mono ?_); (case side1 => exact Kd.C_below HR179_0.out (by repeat (first | (with_reducible first | exact HB.out | apply below_alloc | apply pw_below_drewN | apply below_drew1 | refine below_set ?_ GE171.out | refine below_set ?_ GE180.out) | exact HB.out))); (case side2 => exact HC179_0.out); rintro e w' ⟨rfl, ⟨nd, rfl⟩⟩; (try first | exact ⟨rfl, _, World.drewN_drewN _ _ _⟩ | exact ⟨rfl, _, Eq.trans (World.drewN_drewN _ _ _) (congrArg (World.drewN _) (Nat.add_assoc _ _ _))⟩)) | (go_at_call 66; (with_reducible refine (spec_l1In.calls ((rd_T88 l0_0 x30_2).f1) 0 1000 false _ A28.out).mono ?_); rintro e w' ⟨rfl, ⟨nd, rfl⟩⟩; (try first | exact ⟨rfl, _, World.drewN_drewN _ _ _⟩ | exact ⟨rfl, _, Eq.trans (World.drewN_drewN _ _ _) (congrArg (World.drewN _) (Nat.add_assoc _ _ _))⟩))))
                              go_meet
                              case rel => exact ⟨_, (true), (by first | rfl | (simp; done) | (simp [*]; done)), H', ⟨by have := HJ1.out; have := HK2.out; first | omega | exact Nat.le_refl _⟩, ⟨by (with_reducible repeat (first | apply Kd.R_alloc | apply Kd.R_drewN | apply Kd.R_drew)); exact Kd.R_mono (Kd.R_far (p := ⟨gb180, 1, none⟩) (Kd.R_far (p := ⟨gb180, 0, none⟩) (Kd.R_types HO_3.out BK180.out (by decide)) (fun _ hk => hk.2) (.slice A179_0 ((rd_T88 l0_0 x30_2).f0).length c179_0)) (fun _ hk => hk.2) (.int .i64 ((rd_T88 l0_0 x30_2).f1))) (fun _ hk => trivial)⟩, ⟨by (with_reducible repeat (first | apply Kd.R_alloc | apply Kd.R_drewN | apply Kd.R_drew)); exact Kd.R_mono (Kd.R_far (p := ⟨gb180, 1, none⟩) (Kd.R_far (p := ⟨gb180, 0, none⟩) (Kd.R_types HO_4.out BK180.out (by decide)) (fun _ hk => hk.2) (.slice A179_0 ((rd_T88 l0_0 x30_2).f0).length c179_0)) (fun _ hk => hk.2) (.int .i64 ((rd_T88 l0_0 x30_2).f1))) (fun _ hk => trivial)⟩, ⟨by (with_reducible repeat (first | refine blk_drewN ?_ _ | refine blk_drew ?_ | refine blk_alloc ?_ _)); refine blk_far ?_ NB171_180.out _; (with_reducible repeat (first | refine blk_drewN ?_ _ | refine blk_drew ?_ | refine blk_alloc ?_ _)); refine blk_far ?_ NB171_180.out _; (with_reducible repeat (first | refine blk_drewN ?_ _ | refine blk_drew ?_ | refine blk_alloc ?_ _)); exact BK171.out⟩, ⟨by (with_reducible repeat (first | refine blk_drewN ?_ _ | refine blk_drew ?_ | refine blk_alloc ?_ _)); refine blk_put (cs := #[.slice A179_0 ((rd_T88 l0_0 x30_2).f0).length c179_0, .int .i64 0]) ?_ 1 _ rfl; (with_reducible repeat (first | refine blk_drewN ?_ _ | refine blk_drew ?_ | refine blk_alloc ?_ _)); refine blk_put (cs := #[.slice none 0 0, .int .i64 0]) ?_ 0 _ rfl; (with_reducible repeat (first | refine blk_drewN ?_ _ | refine blk_drew ?_ | refine blk_alloc ?_ _)); exact BK180.out⟩, ⟨by repeat (first | (with_reducible first | exact HB.out | apply below_alloc | apply pw_below_drewN | apply below_drew1 | refine below_set ?_ GE171.out | refine below_set ?_ GE180.out) | exact HB.out)⟩⟩
                          · replace c27 := Bool.eq_false_iff.mpr c27
                            subst c27
                            have H1 : (spec_GoodHeap.j2 k2 x3_2 x4_2 x30_2 l0_0 (l0_0.length : Int) x30_2 true l0_0 l0_1 ((rd_T88 l0_0 x30_2).f0) ((rd_T88 l0_0 x30_2).f1)) = some r := by rw [if_neg (show ¬ (false = true) by decide)] at H; exact H
                            clear H
                            have H := H1
                            clear H1
                            have H' := Aside0.mk H
                            clear H
                            have hnb36 := NB180_171.out
                            have hnc36 := NB171_180.out
                            have hcz37_0 : w20.cell? ⟨gb180, 0, none⟩ = some (.slice none 0 0) := (blk_cell BK180.out 0).trans rfl
                            have hcz37_1 : w20.cell? ⟨gb180, 1, none⟩ = some (.int .i64 0) := (blk_cell BK180.out 1).trans rfl
                            have hfz37_0 := blk_frozen BK180.out 0
                            have hfz37_1 := blk_frozen BK180.out 1
                            go_wp2_with (first | (go_at_call 67; (with_reducible refine (spec_l1All.calls k2 _ _ ((rd_T88 l0_0 x30_2).f0) 0 15 false _ ?side1 ?side2 A26.out).mono ?_); (case side1 => exact Kd.C_below HR179_0.out (by repeat (first | (with_reducible first | exact HB.out | apply below_alloc | apply pw_below_drewN | apply below_drew1 | refine below_set ?_ GE171.out | refine below_set ?_ GE180.out) | exact HB.out))); (case side2 => exact HC179_0.out); rintro e w' ⟨rfl, ⟨nd, rfl⟩⟩; (try first | exact ⟨rfl, _, World.drewN_drewN _ _ _⟩ | exact ⟨rfl, _, Eq.trans (World.drewN_drewN _ _ _) (congrArg (World.drewN _) (Nat.add_assoc _ _ _))⟩)))
                            repeat (go_quiet (first | (go_at_call 67; (with_reducible refine (spec_l1All.calls k2 _ _ ((rd_T88 l0_0 x30_2).f0) 0 15 false _ ?side1 ?side2 A26.out).mono ?_); (case side1 => exact Kd.C_below HR179_0.out (by repeat (first | (with_reducible first | exact HB.out | apply below_alloc | apply pw_below_drewN | apply below_drew1 | refine below_set ?_ GE171.out | refine below_set ?_ GE180.out) | exact HB.out))); (case side2 => exact HC179_0.out); rintro e w' ⟨rfl, ⟨nd, rfl⟩⟩; (try first | exact ⟨rfl, _, World.drewN_drewN _ _ _⟩ | exact ⟨rfl, _, Eq.trans (World.drewN_drewN _ _ _) (congrArg (World.drewN _) (Nat.add_assoc _ _ _))⟩))); try go_wp2_with (first | (go_at_call 67; (with_reducible refine (spec_l1All.calls k2 _ _ ((rd_T88 l0_0 x30_2).f0) 0 15 false _ ?side1 ?side2 A26.out).mono ?_); (case side1 => exact Kd.C_below HR179_0.out (by repeat (first | (with_reducible first | exact HB.out | apply below_alloc | apply pw_below_drewN | apply below_drew1 | refine below_set ?_ GE171.out | refine below_set ?_ GE180.out) | exact HB.out))); (case side2 => exact HC179_0.out); rintro e w' ⟨rfl, ⟨nd, rfl⟩⟩; (try first | exact ⟨rfl, _, World.drewN_drewN _ _ _⟩ | exact ⟨rfl, _, Eq.trans (World.drewN_drewN _ _ _) (congrArg (World.drewN _) (Nat.add_assoc _ _ _))⟩))))
                            go_meet
                            case rel => exact ⟨_, (true), (by first | rfl | (simp; done) | (simp [*]; done)), H', ⟨by have := HJ1.out; have := HK2.out; first | omega | exact Nat.le_refl _⟩, ⟨by (with_reducible repeat (first | apply Kd.R_alloc | apply Kd.R_drewN | apply Kd.R_drew)); exact Kd.R_mono (Kd.R_far (p := ⟨gb180, 1, none⟩) (Kd.R_far (p := ⟨gb180, 0, none⟩) (Kd.R_types HO_3.out BK180.out (by decide)) (fun _ hk => hk.2) (.slice A179_0 ((rd_T88 l0_0 x30_2).f0).length c179_0)) (fun _ hk => hk.2) (.int .i64 ((rd_T88 l0_0 x30_2).f1))) (fun _ hk => trivial)⟩, ⟨by (with_reducible repeat (first | apply Kd.R_alloc | apply Kd.R_drewN | apply Kd.R_drew)); exact Kd.R_mono (Kd.R_far (p := ⟨gb180, 1, none⟩) (Kd.R_far (p := ⟨gb180, 0, none⟩) (Kd.R_types HO_4.out BK180.out (by decide)) (fun _ hk => hk.2) (.slice A179_0 ((rd_T88 l0_0 x30_2).f0).length c179_0)) (fun _ hk => hk.2) (.int .i64 ((rd_T88 l0_0 x30_2).f1))) (fun _ hk => trivial)⟩, ⟨by (with_reducible repeat (first | refine blk_drewN ?_ _ | refine blk_drew ?_ | refine blk_alloc ?_ _)); refine blk_far ?_ NB171_180.out _; (with_reducible repeat (first | refine blk_drewN ?_ _ | refine blk_drew ?_ | refine blk_alloc ?_ _)); refine blk_far ?_ NB171_180.out _; (with_reducible repeat (first | refine blk_drewN ?_ _ | refine blk_drew ?_ | refine blk_alloc ?_ _)); exact BK171.out⟩, ⟨by (with_reducible repeat (first | refine blk_drewN ?_ _ | refine blk_drew ?_ | refine blk_alloc ?_ _)); refine blk_put (cs := #[.slice A179_0 ((rd_T88 l0_0 x30_2).f0).length c179_0, .int .i64 0]) ?_ 1 _ rfl; (with_reducible repeat (first | refine blk_drewN ?_ _ | refine blk_drew ?_ | refine blk_alloc ?_ _)); refine blk_put (cs := #[.slice none 0 0, .int .i64 0]) ?_ 0 _ rfl; (with_reducible repeat (first | refine blk_drewN ?_ _ | refine blk_drew ?_ | refine blk_alloc ?_ _)); exact BK180.out⟩, ⟨by repeat (first | (with_reducible first | exact HB.out | apply below_alloc | apply pw_below_drewN | apply below_drew1 | refine below_set ?_ GE171.out | refine below_set ?_ GE180.out) | exact HB.out)⟩⟩
                      case rest =>
                        clear HC19
                        try clear c1
                        try clear p1
                        try clear q1
                        try clear hx1
                        try clear c2
                        try clear p2
                        try clear c3
                        try clear c5
                        try clear c8
                        try clear c9
                        try clear c9b0
                        try clear c9b1
                        try clear c10
                        try clear c10b0
                        try clear c10b1
                        try clear c16
                        try clear c16b0
                        try clear c17
                        try clear c17b0
                        try clear p17
                        try clear q17
                        try clear hx17
                        try clear c18
                        try clear c18b0
                        try clear p18
                        try clear q18
                        try clear hx18
                        try clear c21
                        try clear c23
                        try clear c23b0
                        try clear c23b1
                        try clear c24
                        try clear c27
                        try clear c29
                        try clear c30
                        try clear c30b0
                        try clear c31
                        try clear c34
                        try clear c36
                        try clear hcz15_0
                        try clear hcz15_1
                        try clear hcz22_0
                        try clear hcz22_1
                        try clear hcz25_0
                        try clear hcz25_1
                        try clear hcz32_0
                        try clear hcz32_1
                        try clear hcz33_0
                        try clear hcz33_1
                        try clear hcz35_0
                        try clear hcz35_1
                        try clear hcz37_0
                        try clear hcz37_1
                        try clear hcz6_0
                        try clear hcz6_1
                        try clear hcz7_0
                        try clear hcz7_1
                        try clear hfz15_0
                        try clear hfz15_1
                        try clear hfz22_0
                        try clear hfz22_1
                        try clear hfz25_0
                        try clear hfz25_1
                        try clear hfz32_0
                        try clear hfz32_1
                        try clear hfz33_0
                        try clear hfz33_1
                        try clear hfz35_0
                        try clear hfz35_1
                        try clear hfz37_0
                        try clear hfz37_1
                        try clear hfz6_0
                        try clear hfz6_1
                        try clear hfz7_0
                        try clear hfz7_1
                        try clear hx179_0
                        try clear hx179_1
                        try clear hx183_0
                        try clear p179
                        try clear p183
                        try clear p2
                        try clear q179
                        try clear q183
                        obtain ⟨kq, x62_18, rfl, HA, HJ18, HO_3, HO_4, BK171, BK180, HB⟩ := hcut
                        cases kq with
                        | zero => exact absurd HA.out (by simp [spec_GoodHeap.j2])
                        | succ kj18 =>
                          have H := HA.out
                          clear HA
                          simp only [spec_GoodHeap.j2] at H
                          by_cases c38 : x62_18 = true
                          · subst c38
                            have H1 : (some false) = some r := by rw [if_pos rfl] at H; exact H
                            clear H
                            have H := H1
                            clear H1
                            obtain rfl := Option.some.inj H
                            go_wp2
                            repeat (go_quiet (fail); try go_wp2)
                            go_ret
                            exact ⟨by first | rfl | (simp [errW_none, errW_some] <;> rfl) | (simp [*, errW_none, errW_some] <;> rfl), by repeat (first | (with_reducible first | exact HB.out | apply below_alloc | apply pw_below_drewN | apply below_drew1 | refine below_set ?_ GE171.out | refine below_set ?_ GE180.out) | exact HB.out)⟩
                          · replace c38 := Bool.eq_false_iff.mpr c38
                            subst c38
                            have H1 : (spec_GoodHeap.l1 kj18 x3_2 x4_2 x30_2 l0_0 (l0_0.length : Int) x30_2 ((rd_T88 l0_0 x30_2).f0) (((rd_T88 l0_0 x30_2).f0).length : Int) 0 l0_0 l0_1) = some r := by rw [if_neg (show ¬ (false = true) by decide)] at H; exact H
                            clear H
                            have H := H1
                            clear H1
                            have H' := Aside0.mk H
                            clear H
                            have hnb39 := NB180_171.out
                            have hnc39 := NB171_180.out
                            have hcz40_0 : wc.cell? ⟨gb180, 0, none⟩ = some (.slice A179_0 ((rd_T88 l0_0 x30_2).f0).length c179_0) := (blk_cell BK180.out 0).trans rfl
                            have hcz40_1 : wc.cell? ⟨gb180, 1, none⟩ = some (.int .i64 ((rd_T88 l0_0 x30_2).f1)) := (blk_cell BK180.out 1).trans rfl
                            have hfz40_0 := blk_frozen BK180.out 0
                            have hfz40_1 := blk_frozen BK180.out 1
                            go_wp2
                            repeat (go_quiet (fail); try go_wp2)
                            go_loopg [66] kj18 (fun kq v66 w' => ∃ (x3_4 : List Int) (x4_4 : List Bool) (x66_4 : Int), v66 = .int .i64 x66_4 ∧ Aside0 (spec_GoodHeap.l1 kq x3_4 x4_4 x30_2 l0_0 (l0_0.length : Int) x30_2 ((rd_T88 l0_0 x30_2).f0) (((rd_T88 l0_0 x30_2).f0).length : Int) x66_4 l0_0 l0_1 = some r) ∧ Aside0 (kq ≤ kj18) ∧ Aside0 (Kd.R (Kd.int .i64) 3 w' w.heap.size (fun _ => True) v174 x3_4) ∧ Aside0 (Kd.R Kd.bool 4 w' w.heap.size (fun _ => True) v177 x4_4) ∧ Aside0 (w'.heap[gb171]? = some (.cells #[(.slice (some ad179) l0_0.length c0_0), (.slice A0_1 l0_1.length c0_1)] 30 (0, 0))) ∧ Aside0 (w'.heap[gb180]? = some (.cells #[(.slice A179_0 ((rd_T88 l0_0 x30_2).f0).length c179_0), .int .i64 ((rd_T88 l0_0 x30_2).f1)] 88 (0, 0))) ∧ Aside0 (Below w.heap.size w w'))
                            case atStart => exact ⟨(x3_2), (x4_2), (0), (by first | rfl | (simp; done) | (simp [*]; done)), H', ⟨Nat.le_refl _⟩, ⟨by (with_reducible repeat (first | apply Kd.R_alloc | apply Kd.R_drewN | apply Kd.R_drew)); exact HO_3.out⟩, ⟨by (with_reducible repeat (first | apply Kd.R_alloc | apply Kd.R_drewN | apply Kd.R_drew)); exact HO_4.out⟩, ⟨by (with_reducible repeat (first | refine blk_drewN ?_ _ | refine blk_drew ?_ | refine blk_alloc ?_ _)); exact BK171.out⟩, ⟨by (with_reducible repeat (first | refine blk_drewN ?_ _ | refine blk_drew ?_ | refine blk_alloc ?_ _)); exact BK180.out⟩, ⟨by repeat (first | (with_reducible first | exact HB.out | apply below_alloc | apply pw_below_drewN | apply below_drew1 | refine below_set ?_ GE171.out | refine below_set ?_ GE180.out) | exact HB.out)⟩⟩
                            case round =>
                              clear H'
                              try clear c1
                              try clear p1
                              try clear q1
                              try clear hx1
                              try clear c2
                              try clear p2
                              try clear c3
                              try clear c5
                              try clear c8
                              try clear c9
                              try clear c9b0
                              try clear c9b1
                              try clear c10
                              try clear c10b0
                              try clear c10b1
                              try clear c16
                              try clear c16b0
                              try clear c17
                              try clear c17b0
                              try clear p17
                              try clear q17
                              try clear hx17
                              try clear c18
                              try clear c18b0
                              try clear p18
                              try clear q18
                              try clear hx18
                              try clear c21
                              try clear c23
                              try clear c23b0
                              try clear c23b1
                              try clear c24
                              try clear c27
                              try clear c29
                              try clear c30
                              try clear c30b0
                              try clear c31
                              try clear c34
                              try clear c36
                              try clear c38
                              try clear c39
                              try clear hcz15_0
                              try clear hcz15_1
                              try clear hcz22_0
                              try clear hcz22_1
                              try clear hcz25_0
                              try clear hcz25_1
                              try clear hcz32_0
                              try clear hcz32_1
                              try clear hcz33_0
                              try clear hcz33_1
                              try clear hcz35_0
                              try clear hcz35_1
                              try clear hcz37_0
                              try clear hcz37_1
                              try clear hcz40_0
                              try clear hcz40_1
                              try clear hcz6_0
                              try clear hcz6_1
                              try clear hcz7_0
                              try clear hcz7_1
                              try clear hfz15_0
                              try clear hfz15_1
                              try clear hfz22_0
                              try clear hfz22_1
                              try clear hfz25_0
                              try clear hfz25_1
                              try clear hfz32_0
                              try clear hfz32_1
                              try clear hfz33_0
                              try clear hfz33_1
                              try clear hfz35_0
                              try clear hfz35_1
                              try clear hfz37_0
                              try clear hfz37_1
                              try clear hfz40_0
                              try clear hfz40_1
                              try clear hfz6_0
                              try clear hfz6_1
                              try clear hfz7_0
                              try clear hfz7_1
                              try clear hx179_0
                              try clear hx179_1
                              try clear hx183_0
                              try clear p1
                              try clear p17
                              try clear p179
                              try clear p18
                              try clear p183
                              try clear p2
                              try clear q1
                              try clear q17
                              try clear q179
                              try clear q18
                              try clear q183
                              obtain ⟨x3_4, x4_4, x66_4, rfl, HA, HK4, HO_3, HO_4, BK171, BK180, HB⟩ := hrel
                              cases gk with
                              | zero => exact absurd HA.out (by simp [spec_GoodHeap.l1])
                              | succ k4 =>
                                have H := HA.out
                                clear HA
                                simp only [spec_GoodHeap.l1] at H
                                by_cases c41 : x66_4 < (((rd_T88 l0_0 x30_2).f0).length : Int)
                                · rw [if_pos c41] at H
                                  have c41b0 : decide (x66_4 < (((rd_T88 l0_0 x30_2).f0).length : Int)) = true := decide_eq_true c41
                                  clear c41
                                  by_cases c42 : 0 ≤ x66_4
                                  · rw [if_pos c42] at H
                                    have c42b0 : decide (0 ≤ x66_4) = true := decide_eq_true c42
                                    clear c42
                                    by_cases c43 : x66_4 < (((rd_T88 l0_0 x30_2).f0).length : Int)
                                    · rw [if_pos c43] at H
                                      have c43b0 : decide (x66_4 < (((rd_T88 l0_0 x30_2).f0).length : Int)) = true := decide_eq_true c43
                                      clear c43
                                      by_cases c44 : 0 ≤ (rd ((rd_T88 l0_0 x30_2).f0) x66_4)
                                      · rw [if_pos c44] at H
                                        have c44b0 : decide (0 ≤ (rd ((rd_T88 l0_0 x30_2).f0) x66_4)) = true := decide_eq_true c44
                                        clear c44
                                        by_cases c45 : (rd ((rd_T88 l0_0 x30_2).f0) x66_4) < (x4_4.length : Int)
                                        · rw [if_pos c45] at H
                                          have c45b0 : decide ((rd ((rd_T88 l0_0 x30_2).f0) x66_4) < (x4_4.length : Int)) = true := decide_eq_true c45
                                          clear c45
                                          obtain ⟨y185, hy185⟩ : ∃ y_ : List Bool, y_ = (x4_4.set ((rd ((rd_T88 l0_0 x30_2).f0) x66_4) : Int).toNat true) := ⟨_, rfl⟩
                                          replace H : (if 0 ≤ x30_2 then (if x30_2 < (l0_1.length : Int) then (if x66_4 < ((rd_L4 l0_1 x30_2).length : Int) then (if rdOf false (rd_L4 l0_1 x30_2) x66_4 = true then (if (rd ((rd_T88 l0_0 x30_2).f0) x66_4) < (x3_4.length : Int) then (spec_GoodHeap.l1 k4 (x3_4.set ((rd ((rd_T88 l0_0 x30_2).f0) x66_4) : Int).toNat (wrap64 ((rd x3_4 (rd ((rd_T88 l0_0 x30_2).f0) x66_4)) + 1))) y185 x30_2 l0_0 (l0_0.length : Int) x30_2 ((rd_T88 l0_0 x30_2).f0) (((rd_T88 l0_0 x30_2).f0).length : Int) (wrap64 (x66_4 + 1)) l0_0 l0_1) else (none)) else (spec_GoodHeap.l1 k4 x3_4 y185 x30_2 l0_0 (l0_0.length : Int) x30_2 ((rd_T88 l0_0 x30_2).f0) (((rd_T88 l0_0 x30_2).f0).length : Int) (wrap64 (x66_4 + 1)) l0_0 l0_1)) else (none)) else (none)) else (none)) = some r := by first | (rw [hy185]; with_reducible exact H) | (have H2_ := (Option.bind_some _ _).symm.trans H; rw [hy185]; with_reducible exact H2_) | (have H2_ := (Option.bind_some _ _).symm.trans H; with_reducible exact H2_) | with_reducible exact H | (rw [hy185]; exact H) | exact H
                                          have Ny185 := Aside0.mk hy185
                                          clear hy185
                                          by_cases c47 : 0 ≤ x30_2
                                          · rw [if_pos c47] at H
                                            have c47b0 : decide (0 ≤ x30_2) = true := decide_eq_true c47
                                            clear c47
                                            by_cases c48 : x30_2 < (l0_1.length : Int)
                                            · rw [if_pos c48] at H
                                              have c48b0 : decide (x30_2 < (l0_1.length : Int)) = true := decide_eq_true c48
                                              clear c48
                                              by_cases c49 : x66_4 < ((rd_L4 l0_1 x30_2).length : Int)
                                              · rw [if_pos c49] at H
                                                have c49b0 : decide (x66_4 < ((rd_L4 l0_1 x30_2).length : Int)) = true := decide_eq_true c49
                                                clear c49
                                                obtain ⟨bq50, hbq50⟩ : ∃ b_ : Bool, b_ = (rdOf false (rd_L4 l0_1 x30_2) x66_4) := ⟨_, rfl⟩
                                                replace H : (if bq50 = true then (if (rd ((rd_T88 l0_0 x30_2).f0) x66_4) < (x3_4.length : Int) then (spec_GoodHeap.l1 k4 (x3_4.set ((rd ((rd_T88 l0_0 x30_2).f0) x66_4) : Int).toNat (wrap64 ((rd x3_4 (rd ((rd_T88 l0_0 x30_2).f0) x66_4)) + 1))) y185 x30_2 l0_0 (l0_0.length : Int) x30_2 ((rd_T88 l0_0 x30_2).f0) (((rd_T88 l0_0 x30_2).f0).length : Int) (wrap64 (x66_4 + 1)) l0_0 l0_1) else (none)) else (spec_GoodHeap.l1 k4 x3_4 y185 x30_2 l0_0 (l0_0.length : Int) x30_2 ((rd_T88 l0_0 x30_2).f0) (((rd_T88 l0_0 x30_2).f0).length : Int) (wrap64 (x66_4 + 1)) l0_0 l0_1)) = some r := by rw [← hbq50] at H; exact H
                                                have Nbq50 := Aside0.mk hbq50
                                                clear hbq50
                                                by_cases c51 : bq50 = true
                                                · subst c51
                                                  have H1 : (if (rd ((rd_T88 l0_0 x30_2).f0) x66_4) < (x3_4.length : Int) then (spec_GoodHeap.l1 k4 (x3_4.set ((rd ((rd_T88 l0_0 x30_2).f0) x66_4) : Int).toNat (wrap64 ((rd x3_4 (rd ((rd_T88 l0_0 x30_2).f0) x66_4)) + 1))) y185 x30_2 l0_0 (l0_0.length : Int) x30_2 ((rd_T88 l0_0 x30_2).f0) (((rd_T88 l0_0 x30_2).f0).length : Int) (wrap64 (x66_4 + 1)) l0_0 l0_1) else (none)) = some r := by rw [if_pos rfl] at H; exact H
                                                  clear H
                                                  have H := H1
                                                  clear H1
                                                  by_cases c52 : (rd ((rd_T88 l0_0 x30_2).f0) x66_4) < (x3_4.length : Int)
                                                  · rw [if_pos c52] at H
                                                    have c52b0 : decide ((rd ((rd_T88 l0_0 x30_2).f0) x66_4) < (x3_4.length : Int)) = true := decide_eq_true c52
                                                    clear c52
                                                    obtain ⟨y189, hy189⟩ : ∃ y_ : List Int, y_ = (x3_4.set ((rd ((rd_T88 l0_0 x30_2).f0) x66_4) : Int).toNat (wrap64 ((rd x3_4 (rd ((rd_T88 l0_0 x30_2).f0) x66_4)) + 1))) := ⟨_, rfl⟩
                                                    replace H : (spec_GoodHeap.l1 k4 y189 y185 x30_2 l0_0 (l0_0.length : Int) x30_2 ((rd_T88 l0_0 x30_2).f0) (((rd_T88 l0_0 x30_2).f0).length : Int) (wrap64 (x66_4 + 1)) l0_0 l0_1) = some r := by first | (rw [hy189]; with_reducible exact H) | (have H2_ := (Option.bind_some _ _).symm.trans H; rw [hy189]; with_reducible exact H2_) | (have H2_ := (Option.bind_some _ _).symm.trans H; with_reducible exact H2_) | with_reducible exact H | (rw [hy189]; exact H) | exact H
                                                    have Ny189 := Aside0.mk hy189
                                                    clear hy189
                                                    have H' := Aside0.mk H
                                                    clear H
                                                    have p184 : 0 ≤ (x66_4 : Int) := of_decide_eq_true (by first | (with_reducible assumption) | assumption)
                                                    have q184 : x66_4 < (((rd_T88 l0_0 x30_2).f0).length : Int) := of_decide_eq_true (by first | (with_reducible assumption) | assumption)
                                                    obtain ⟨ad184, e184, hx184_0⟩ := Kd.at_int HR179_0.out x66_4 p184 q184
                                                    cases e184
                                                    replace hx184_0 := (HB.out.cell (World.block_lt_of_cell? w _ hx184_0)).trans hx184_0
                                                    replace p184 := eq_true p184
                                                    replace q184 := eq_true q184
                                                    have p46 : 0 ≤ ((rd ((rd_T88 l0_0 x30_2).f0) x66_4) : Int) := of_decide_eq_true (by first | (with_reducible assumption) | assumption)
                                                    have q46 : ((rd ((rd_T88 l0_0 x30_2).f0) x66_4) : Int) < ((x4_4.length : Int) : Int) := of_decide_eq_true (by first | (with_reducible assumption) | assumption)
                                                    obtain ⟨go46, co46, eo46, gb46, gl46, cl46, HG46⟩ := Kd.R_form HO_4.out (by omega)
                                                    (first | cases eo46 | (injection eo46 with ea_ en_ ec_; (first | subst ea_ | (injection ea_ with ea_; subst ea_)); subst ec_; clear en_))
                                                    have GB46 := Aside0.mk gb46
                                                    have GG46 := Aside0.mk HG46
                                                    clear gb46 gl46 HG46
                                                    obtain ⟨hx46_0, hf46_0⟩ := Kd.R_celln false HO_4.out ((rd ((rd_T88 l0_0 x30_2).f0) x66_4) : Int) p46 q46
                                                    replace p46 := eq_true p46
                                                    replace q46 := eq_true q46
                                                    have HP54 := Kd.R_putg HO_4.out ((rd ((rd_T88 l0_0 x30_2).f0) x66_4) : Int) true
                                                    go_wp2_with (first | ((with_reducible refine gate_store (t := 4) (p := 73) rfl ?_); (try (rw [drewN_self wr]; generalize hq_ : World.drewN wr _ = wr; have n0_ := Aside0.mk (Kd.R_at hq_ HO_3.out); have n1_ := Aside0.mk (Kd.R_at hq_ HO_4.out); have n2_ := Aside0.mk (blk_at hq_ BK171.out); have n3_ := Aside0.mk (blk_at hq_ BK180.out); have n4_ := Aside0.mk (below_at hq_ HB.out); clear hq_ HO_3 HO_4 BK171 BK180 HB; have HO_3 := n0_; have HO_4 := n1_; have BK171 := n2_; have BK180 := n3_; have HB := n4_; clear n0_ n1_ n2_ n3_ n4_; (try (have HP54 := Kd.R_putg HO_4.out ((rd ((rd_T88 l0_0 x30_2).f0) x66_4) : Int) true)))); refine store_event (t := 4) (p := 73) (v := ?vo_w55) (w1 := (wr.setCell ⟨go46, ((rd ((rd_T88 l0_0 x30_2).f0) x66_4) : Int).toNat, none⟩ (.bool true))) ?hg ?ho ?hn ?hr ?_; (case ho => rfl); (case hg => rfl); (case hn => rfl); (case hr => first | (go_simp; done) | (go_simp; rfl)); intro w55 hw; have hg : wr.grownBy w55 (some go46) := (by rw [hw]; exact HP54.2); have hp_ : Kd.R Kd.bool 4 w55 w.heap.size (fun _ => True) (.slice (some ⟨go46, 0, none⟩) x4_4.length co46) y185 := (by rw [hw, Ny185.out]; exact HP54.1); clear HP54; have n0_ := Aside0.mk (Kd.R_over' (v := (.slice (some ⟨go46, 0, none⟩) x4_4.length co46)) (by (with_reducible repeat (first | apply Kd.R_alloc | apply Kd.R_drewN | apply Kd.R_drew)); exact HO_3.out) (Kd.R_typed HO_4.out) (by decide) hg); have n1_ := Aside0.mk (hp_); have n2_ := Aside0.mk (blk_grown (g := gb171) (o := .cells #[.slice (some ad179) l0_0.length c0_0, .slice A0_1 l0_1.length c0_1] 30 (0, 0)) (by (with_reducible repeat (first | refine blk_drewN ?_ _ | refine blk_drew ?_ | refine blk_alloc ?_ _)); exact BK171.out) hg (Kd.R_ne HO_4.out BK171.out (by decide))); have n3_ := Aside0.mk (blk_grown (g := gb180) (o := .cells #[.slice (some ad184) ((rd_T88 l0_0 x30_2).f0).length c179_0, .int .i64 ((rd_T88 l0_0 x30_2).f1)] 88 (0, 0)) (by (with_reducible repeat (first | refine blk_drewN ?_ _ | refine blk_drew ?_ | refine blk_alloc ?_ _)); exact BK180.out) hg (Kd.R_ne HO_4.out BK180.out (by decide))); have n4_ := Aside0.mk ((by rw [hw]; exact below_set (HB.out) GB46.out : Below w.heap.size w w55)); clear HO_3; clear HO_4; clear BK171; clear BK180; clear HB; have HO_3 := n0_; have HO_4 := n1_; have BK171 := n2_; have BK180 := n3_; have HB := n4_; clear n0_ n1_ n2_ n3_ n4_; clear hg hw hp_; have hnb56 := NB171_180.out; have hnc56 := NB180_171.out; have hcz57_0 : w55.cell? ⟨gb171, 0, none⟩ = some (.slice (some ad179) l0_0.length c0_0) := (blk_cell BK171.out 0).trans rfl; have hcz57_1 : w55.cell? ⟨gb171, 1, none⟩ = some (.slice A0_1 l0_1.length c0_1) := (blk_cell BK171.out 1).trans rfl; have hfz57_0 := blk_frozen BK171.out 0; have hfz57_1 := blk_frozen BK171.out 1; have p186 : 0 ≤ (x30_2 : Int) := of_decide_eq_true (by first | (with_reducible assumption) | assumption); have q186 : x30_2 < (l0_1.length : Int) := of_decide_eq_true (by first | (with_reducible assumption) | assumption); obtain ⟨ad186, A186_0, c186_0, e186, hx186_0, hl186_0, hi186_0⟩ := at_L4 HR0_1.out x30_2 p186 q186; cases e186; replace hx186_0 := (HB.out.cell (World.block_lt_of_cell? w _ hx186_0)).trans hx186_0; have HR186_0 := Aside0.mk hi186_0; have HC186_0 := Aside0.mk hl186_0; clear hi186_0 hl186_0; replace p186 := eq_true p186; replace q186 := eq_true q186; have p187 : 0 ≤ (x66_4 : Int) := of_decide_eq_true (by first | (with_reducible assumption) | assumption); have q187 : x66_4 < ((rd_L4 l0_1 x30_2).length : Int) := of_decide_eq_true (by first | (with_reducible assumption) | assumption); obtain ⟨ad187, e187, hx187_0⟩ := Kd.at_bool HR186_0.out x66_4 p187 q187; (try rw [← Nbq50.out] at hx187_0); cases e187; replace hx187_0 := (HB.out.cell (World.block_lt_of_cell? w _ hx187_0)).trans hx187_0; replace p187 := eq_true p187; replace q187 := eq_true q187; obtain ⟨Ao58, co58, eo58⟩ := Kd.R_slice HO_3.out; subst eo58; have p188 : 0 ≤ ((rd ((rd_T88 l0_0 x30_2).f0) x66_4) : Int) := of_decide_eq_true (by first | (with_reducible assumption) | assumption); have q188 : (rd ((rd_T88 l0_0 x30_2).f0) x66_4) < (x3_4.length : Int) := of_decide_eq_true (by first | (with_reducible assumption) | assumption); obtain ⟨ad188, e188, hx188_0⟩ := Kd.at_int (Kd.R_reads' HO_3.out).2.2 (rd ((rd_T88 l0_0 x30_2).f0) x66_4) p188 q188; cases e188; replace p188 := eq_true p188; replace q188 := eq_true q188; have p53 : 0 ≤ ((rd ((rd_T88 l0_0 x30_2).f0) x66_4) : Int) := of_decide_eq_true (by first | (with_reducible assumption) | assumption); have q53 : ((rd ((rd_T88 l0_0 x30_2).f0) x66_4) : Int) < ((x3_4.length : Int) : Int) := of_decide_eq_true (by first | (with_reducible assumption) | assumption); obtain ⟨go53, co53, eo53, gb53, gl53, cl53, HG53⟩ := Kd.R_form HO_3.out (by omega); (first | cases eo53 | (injection eo53 with ea_ en_ ec_; (first | subst ea_ | (injection ea_ with ea_; subst ea_)); subst ec_; clear en_)); have GB53 := Aside0.mk gb53; have GG53 := Aside0.mk HG53; clear gb53 gl53 HG53; (first | simp only [add_plain] at hx188_0 | skip); obtain ⟨hx53_0, hf53_0⟩ := Kd.R_celln 0 HO_3.out ((rd ((rd_T88 l0_0 x30_2).f0) x66_4) : Int) p53 q53; replace p53 := eq_true p53; replace q53 := eq_true q53; obtain ⟨hy59_, hz59_⟩ := Kd.R_celln 0 HO_3.out ((rd ((rd_T88 l0_0 x30_2).f0) x66_4) : Int) (of_decide_eq_true (by first | (with_reducible assumption) | assumption)) (of_decide_eq_true (by first | (with_reducible assumption) | assumption)); have HP59 := Kd.R_putg HO_3.out ((rd ((rd_T88 l0_0 x30_2).f0) x66_4) : Int) (wrap64 ((rd x3_4 (rd ((rd_T88 l0_0 x30_2).f0) x66_4)) + 1))) | ((with_reducible refine gate_store (t := 3) (p := 87) rfl ?_); (try (rw [drewN_self w55]; generalize hq_ : World.drewN w55 _ = w55; have n0_ := Aside0.mk (Kd.R_at hq_ HO_3.out); have n1_ := Aside0.mk (Kd.R_at hq_ HO_4.out); have n2_ := Aside0.mk (blk_at hq_ BK171.out); have n3_ := Aside0.mk (blk_at hq_ BK180.out); have n4_ := Aside0.mk (below_at hq_ HB.out); clear hq_ HO_3 HO_4 BK171 BK180 HB; have HO_3 := n0_; have HO_4 := n1_; have BK171 := n2_; have BK180 := n3_; have HB := n4_; clear n0_ n1_ n2_ n3_ n4_; (try (obtain ⟨hy59_, hz59_⟩ := Kd.R_celln 0 HO_3.out ((rd ((rd_T88 l0_0 x30_2).f0) x66_4) : Int) (of_decide_eq_true (by first | (with_reducible assumption) | assumption)) (of_decide_eq_true (by first | (with_reducible assumption) | assumption)))); (try (have HP59 := Kd.R_putg HO_3.out ((rd ((rd_T88 l0_0 x30_2).f0) x66_4) : Int) (wrap64 ((rd x3_4 (rd ((rd_T88 l0_0 x30_2).f0) x66_4)) + 1)))))); refine store_event (t := 3) (p := 87) (v := ?vo_w60) (w1 := (w55.setCell ⟨go53, ((rd ((rd_T88 l0_0 x30_2).f0) x66_4) : Int).toNat, none⟩ (.int .i64 (wrap64 ((rd x3_4 (rd ((rd_T88 l0_0 x30_2).f0) x66_4)) + 1))))) ?hg ?ho ?hn ?hr ?_; (case ho => rfl); (case hg => rfl); (case hn => rfl); (case hr => first | (go_simp; done) | (go_simp; rfl)); intro w60 hw; have hg : w55.grownBy w60 (some go53) := (by rw [hw]; exact HP59.2); have hp_ : Kd.R (Kd.int .i64) 3 w60 w.heap.size (fun _ => True) (.slice (some ⟨go53, 0, none⟩) x3_4.length co58) y189 := (by rw [hw, Ny189.out]; exact HP59.1); clear HP59; have n0_ := Aside0.mk (hp_); have n1_ := Aside0.mk (Kd.R_over' (v := (.slice (some ⟨go53, 0, none⟩) x3_4.length co58)) (by (with_reducible repeat (first | apply Kd.R_alloc | apply Kd.R_drewN | apply Kd.R_drew)); exact HO_4.out) (Kd.R_typed HO_3.out) (by decide) hg); have n2_ := Aside0.mk (blk_grown (g := gb171) (o := .cells #[.slice (some ad179) l0_0.length c0_0, .slice (some ad186) l0_1.length c0_1] 30 (0, 0)) (by (with_reducible repeat (first | refine blk_drewN ?_ _ | refine blk_drew ?_ | refine blk_alloc ?_ _)); exact BK171.out) hg (Kd.R_ne HO_3.out BK171.out (by decide))); have n3_ := Aside0.mk (blk_grown (g := gb180) (o := .cells #[.slice (some ad184) ((rd_T88 l0_0 x30_2).f0).length c179_0, .int .i64 ((rd_T88 l0_0 x30_2).f1)] 88 (0, 0)) (by (with_reducible repeat (first | refine blk_drewN ?_ _ | refine blk_drew ?_ | refine blk_alloc ?_ _)); exact BK180.out) hg (Kd.R_ne HO_3.out BK180.out (by decide))); have n4_ := Aside0.mk ((by rw [hw]; exact below_set (HB.out) GB53.out : Below w.heap.size w w60)); clear HO_3; clear HO_4; clear BK171; clear BK180; clear HB; have HO_3 := n0_; have HO_4 := n1_; have BK171 := n2_; have BK180 := n3_; have HB := n4_; clear n0_ n1_ n2_ n3_ n4_; clear hg hw hp_))
                                                    repeat (go_quiet (first | ((with_reducible refine gate_store (t := 4) (p := 73) rfl ?_); (try (rw [drewN_self wr]; generalize hq_ : World.drewN wr _ = wr; have n0_ := Aside0.mk (Kd.R_at hq_ HO_3.out); have n1_ := Aside0.mk (Kd.R_at hq_ HO_4.out); have n2_ := Aside0.mk (blk_at hq_ BK171.out); have n3_ := Aside0.mk (blk_at hq_ BK180.out); have n4_ := Aside0.mk (below_at hq_ HB.out); clear hq_ HO_3 HO_4 BK171 BK180 HB; have HO_3 := n0_; have HO_4 := n1_; have BK171 := n2_; have BK180 := n3_; have HB := n4_; clear n0_ n1_ n2_ n3_ n4_; (try (have HP54 := Kd.R_putg HO_4.out ((rd ((rd_T88 l0_0 x30_2).f0) x66_4) : Int) true)))); refine store_event (t := 4) (p := 73) (v := ?vo_w55) (w1 := (wr.setCell ⟨go46, ((rd ((rd_T88 l0_0 x30_2).f0) x66_4) : Int).toNat, none⟩ (.bool true))) ?hg ?ho ?hn ?hr ?_; (case ho => rfl); (case hg => rfl); (case hn => rfl); (case hr => first | (go_simp; done) | (go_simp; rfl)); intro w55 hw; have hg : wr.grownBy w55 (some go46) := (by rw [hw]; exact HP54.2); have hp_ : Kd.R Kd.bool 4 w55 w.heap.size (fun _ => True) (.slice (some ⟨go46, 0, none⟩) x4_4.length co46) y185 := (by rw [hw, Ny185.out]; exact HP54.1); clear HP54; have n0_ := Aside0.mk (Kd.R_over' (v := (.slice (some ⟨go46, 0, none⟩) x4_4.length co46)) (by (with_reducible repeat (first | apply Kd.R_alloc | apply Kd.R_drewN | apply Kd.R_drew)); exact HO_3.out) (Kd.R_typed HO_4.out) (by decide) hg); have n1_ := Aside0.mk (hp_); have n2_ := Aside0.mk (blk_grown (g := gb171) (o := .cells #[.slice (some ad179) l0_0.length c0_0, .slice A0_1 l0_1.length c0_1] 30 (0, 0)) (by (with_reducible repeat (first | refine blk_drewN ?_ _ | refine blk_drew ?_ | refine blk_alloc ?_ _)); exact BK171.out) hg (Kd.R_ne HO_4.out BK171.out (by decide))); have n3_ := Aside0.mk (blk_grown (g := gb180) (o := .cells #[.slice (some ad184) ((rd_T88 l0_0 x30_2).f0).length c179_0, .int .i64 ((rd_T88 l0_0 x30_2).f1)] 88 (0, 0)) (by (with_reducible repeat (first | refine blk_drewN ?_ _ | refine blk_drew ?_ | refine blk_alloc ?_ _)); exact BK180.out) hg (Kd.R_ne HO_4.out BK180.out (by decide))); have n4_ := Aside0.mk ((by rw [hw]; exact below_set (HB.out) GB46.out : Below w.heap.size w w55)); clear HO_3; clear HO_4; clear BK171; clear BK180; clear HB; have HO_3 := n0_; have HO_4 := n1_; have BK171 := n2_; have BK180 := n3_; have HB := n4_; clear n0_ n1_ n2_ n3_ n4_; clear hg hw hp_; have hnb56 := NB171_180.out; have hnc56 := NB180_171.out; have hcz57_0 : w55.cell? ⟨gb171, 0, none⟩ = some (.slice (some ad179) l0_0.length c0_0) := (blk_cell BK171.out 0).trans rfl; have hcz57_1 : w55.cell? ⟨gb171, 1, none⟩ = some (.slice A0_1 l0_1.length c0_1) := (blk_cell BK171.out 1).trans rfl; have hfz57_0 := blk_frozen BK171.out 0; have hfz57_1 := blk_frozen BK171.out 1; have p186 : 0 ≤ (x30_2 : Int) := of_decide_eq_true (by first | (with_reducible assumption) | assumption); have q186 : x30_2 < (l0_1.length : Int) := of_decide_eq_true (by first | (with_reducible assumption) | assumption); obtain ⟨ad186, A186_0, c186_0, e186, hx186_0, hl186_0, hi186_0⟩ := at_L4 HR0_1.out x30_2 p186 q186; cases e186; replace hx186_0 := (HB.out.cell (World.block_lt_of_cell? w _ hx186_0)).trans hx186_0; have HR186_0 := Aside0.mk hi186_0; have HC186_0 := Aside0.mk hl186_0; clear hi186_0 hl186_0; replace p186 := eq_true p186; replace q186 := eq_true q186; have p187 : 0 ≤ (x66_4 : Int) := of_decide_eq_true (by first | (with_reducible assumption) | assumption); have q187 : x66_4 < ((rd_L4 l0_1 x30_2).length : Int) := of_decide_eq_true (by first | (with_reducible assumption) | assumption); obtain ⟨ad187, e187, hx187_0⟩ := Kd.at_bool HR186_0.out x66_4 p187 q187; (try rw [← Nbq50.out] at hx187_0); cases e187; replace hx187_0 := (HB.out.cell (World.block_lt_of_cell? w _ hx187_0)).trans hx187_0; replace p187 := eq_true p187; replace q187 := eq_true q187; obtain ⟨Ao58, co58, eo58⟩ := Kd.R_slice HO_3.out; subst eo58; have p188 : 0 ≤ ((rd ((rd_T88 l0_0 x30_2).f0) x66_4) : Int) := of_decide_eq_true (by first | (with_reducible assumption) | assumption); have q188 : (rd ((rd_T88 l0_0 x30_2).f0) x66_4) < (x3_4.length : Int) := of_decide_eq_true (by first | (with_reducible assumption) | assumption); obtain ⟨ad188, e188, hx188_0⟩ := Kd.at_int (Kd.R_reads' HO_3.out).2.2 (rd ((rd_T88 l0_0 x30_2).f0) x66_4) p188 q188; cases e188; replace p188 := eq_true p188; replace q188 := eq_true q188; have p53 : 0 ≤ ((rd ((rd_T88 l0_0 x30_2).f0) x66_4) : Int) := of_decide_eq_true (by first | (with_reducible assumption) | assumption); have q53 : ((rd ((rd_T88 l0_0 x30_2).f0) x66_4) : Int) < ((x3_4.length : Int) : Int) := of_decide_eq_true (by first | (with_reducible assumption) | assumption); obtain ⟨go53, co53, eo53, gb53, gl53, cl53, HG53⟩ := Kd.R_form HO_3.out (by omega); (first | cases eo53 | (injection eo53 with ea_ en_ ec_; (first | subst ea_ | (injection ea_ with ea_; subst ea_)); subst ec_; clear en_)); have GB53 := Aside0.mk gb53; have GG53 := Aside0.mk HG53; clear gb53 gl53 HG53; (first | simp only [add_plain] at hx188_0 | skip); obtain ⟨hx53_0, hf53_0⟩ := Kd.R_celln 0 HO_3.out ((rd ((rd_T88 l0_0 x30_2).f0) x66_4) : Int) p53 q53; replace p53 := eq_true p53; replace q53 := eq_true q53; obtain ⟨hy59_, hz59_⟩ := Kd.R_celln 0 HO_3.out ((rd ((rd_T88 l0_0 x30_2).f0) x66_4) : Int) (of_decide_eq_true (by first | (with_reducible assumption) | assumption)) (of_decide_eq_true (by first | (with_reducible assumption) | assumption)); have HP59 := Kd.R_putg HO_3.out ((rd ((rd_T88 l0_0 x30_2).f0) x66_4) : Int) (wrap64 ((rd x3_4 (rd ((rd_T88 l0_0 x30_2).f0) x66_4)) + 1))) | ((with_reducible refine gate_store (t := 3) (p := 87) rfl ?_); (try (rw [drewN_self w55]; generalize hq_ : World.drewN w55 _ = w55; have n0_ := Aside0.mk (Kd.R_at hq_ HO_3.out); have n1_ := Aside0.mk (Kd.R_at hq_ HO_4.out); have n2_ := Aside0.mk (blk_at hq_ BK171.out); have n3_ := Aside0.mk (blk_at hq_ BK180.out); have n4_ := Aside0.mk (below_at hq_ HB.out); clear hq_ HO_3 HO_4 BK171 BK180 HB; have HO_3 := n0_; have HO_4 := n1_; have BK171 := n2_; have BK180 := n3_; have HB := n4_; clear n0_ n1_ n2_ n3_ n4_; (try (obtain ⟨hy59_, hz59_⟩ := Kd.R_celln 0 HO_3.out ((rd ((rd_T88 l0_0 x30_2).f0) x66_4) : Int) (of_decide_eq_true (by first | (with_reducible assumption) | assumption)) (of_decide_eq_true (by first | (with_reducible assumption) | assumption)))); (try (have HP59 := Kd.R_putg HO_3.out ((rd ((rd_T88 l0_0 x30_2).f0) x66_4) : Int) (wrap64 ((rd x3_4 (rd ((rd_T88 l0_0 x30_2).f0) x66_4)) + 1)))))); refine store_event (t := 3) (p := 87) (v := ?vo_w60) (w1 := (w55.setCell ⟨go53, ((rd ((rd_T88 l0_0 x30_2).f0) x66_4) : Int).toNat, none⟩ (.int .i64 (wrap64 ((rd x3_4 (rd ((rd_T88 l0_0 x30_2).f0) x66_4)) + 1))))) ?hg ?ho ?hn ?hr ?_; (case ho => rfl); (case hg => rfl); (case hn => rfl); (case hr => first | (go_simp; done) | (go_simp; rfl)); intro w60 hw; have hg : w55.grownBy w60 (some go53) := (by rw [hw]; exact HP59.2); have hp_ : Kd.R (Kd.int .i64) 3 w60 w.heap.size (fun _ => True) (.slice (some ⟨go53, 0, none⟩) x3_4.length co58) y189 := (by rw [hw, Ny189.out]; exact HP59.1); clear HP59; have n0_ := Aside0.mk (hp_); have n1_ := Aside0.mk (Kd.R_over' (v := (.slice (some ⟨go53, 0, none⟩) x3_4.length co58)) (by (with_reducible repeat (first | apply Kd.R_alloc | apply Kd.R_drewN | apply Kd.R_drew)); exact HO_4.out) (Kd.R_typed HO_3.out) (by decide) hg); have n2_ := Aside0.mk (blk_grown (g := gb171) (o := .cells #[.slice (some ad179) l0_0.length c0_0, .slice (some ad186) l0_1.length c0_1] 30 (0, 0)) (by (with_reducible repeat (first | refine blk_drewN ?_ _ | refine blk_drew ?_ | refine blk_alloc ?_ _)); exact BK171.out) hg (Kd.R_ne HO_3.out BK171.out (by decide))); have n3_ := Aside0.mk (blk_grown (g := gb180) (o := .cells #[.slice (some ad184) ((rd_T88 l0_0 x30_2).f0).length c179_0, .int .i64 ((rd_T88 l0_0 x30_2).f1)] 88 (0, 0)) (by (with_reducible repeat (first | refine blk_drewN ?_ _ | refine blk_drew ?_ | refine blk_alloc ?_ _)); exact BK180.out) hg (Kd.R_ne HO_3.out BK180.out (by decide))); have n4_ := Aside0.mk ((by rw [hw]; exact below_set (HB.out) GB53.out : Below w.heap.size w w60)); clear HO_3; clear HO_4; clear BK171; clear BK180; clear HB; have HO_3 := n0_; have HO_4 := n1_; have BK171 := n2_; have BK180 := n3_; have HB := n4_; clear n0_ n1_ n2_ n3_ n4_; clear hg hw hp_)); try go_wp2_with (first | ((with_reducible refine gate_store (t := 4) (p := 73) rfl ?_); (try (rw [drewN_self wr]; generalize hq_ : World.drewN wr _ = wr; have n0_ := Aside0.mk (Kd.R_at hq_ HO_3.out); have n1_ := Aside0.mk (Kd.R_at hq_ HO_4.out); have n2_ := Aside0.mk (blk_at hq_ BK171.out); have n3_ := Aside0.mk (blk_at hq_ BK180.out); have n4_ := Aside0.mk (below_at hq_ HB.out); clear hq_ HO_3 HO_4 BK171 BK180 HB; have HO_3 := n0_; have HO_4 := n1_; have BK171 := n2_; have BK180 := n3_; have HB := n4_; clear n0_ n1_ n2_ n3_ n4_; (try (have HP54 := Kd.R_putg HO_4.out ((rd ((rd_T88 l0_0 x30_2).f0) x66_4) : Int) true)))); refine store_event (t := 4) (p := 73) (v := ?vo_w55) (w1 := (wr.setCell ⟨go46, ((rd ((rd_T88 l0_0 x30_2).f0) x66_4) : Int).toNat, none⟩ (.bool true))) ?hg ?ho ?hn ?hr ?_; (case ho => rfl); (case hg => rfl); (case hn => rfl); (case hr => first | (go_simp; done) | (go_simp; rfl)); intro w55 hw; have hg : wr.grownBy w55 (some go46) := (by rw [hw]; exact HP54.2); have hp_ : Kd.R Kd.bool 4 w55 w.heap.size (fun _ => True) (.slice (some ⟨go46, 0, none⟩) x4_4.length co46) y185 := (by rw [hw, Ny185.out]; exact HP54.1); clear HP54; have n0_ := Aside0.mk (Kd.R_over' (v := (.slice (some ⟨go46, 0, none⟩) x4_4.length co46)) (by (with_reducible repeat (first | apply Kd.R_alloc | apply Kd.R_drewN | apply Kd.R_drew)); exact HO_3.out) (Kd.R_typed HO_4.out) (by decide) hg); have n1_ := Aside0.mk (hp_); have n2_ := Aside0.mk (blk_grown (g := gb171) (o := .cells #[.slice (some ad179) l0_0.length c0_0, .slice A0_1 l0_1.length c0_1] 30 (0, 0)) (by (with_reducible repeat (first | refine blk_drewN ?_ _ | refine blk_drew ?_ | refine blk_alloc ?_ _)); exact BK171.out) hg (Kd.R_ne HO_4.out BK171.out (by decide))); have n3_ := Aside0.mk (blk_grown (g := gb180) (o := .cells #[.slice (some ad184) ((rd_T88 l0_0 x30_2).f0).length c179_0, .int .i64 ((rd_T88 l0_0 x30_2).f1)] 88 (0, 0)) (by (with_reducible repeat (first | refine blk_drewN ?_ _ | refine blk_drew ?_ | refine blk_alloc ?_ _)); exact BK180.out) hg (Kd.R_ne HO_4.out BK180.out (by decide))); have n4_ := Aside0.mk ((by rw [hw]; exact below_set (HB.out) GB46.out : Below w.heap.size w w55)); clear HO_3; clear HO_4; clear BK171; clear BK180; clear HB; have HO_3 := n0_; have HO_4 := n1_; have BK171 := n2_; have BK180 := n3_; have HB := n4_; clear n0_ n1_ n2_ n3_ n4_; clear hg hw hp_; have hnb56 := NB171_180.out; have hnc56 := NB180_171.out; have hcz57_0 : w55.cell? ⟨gb171, 0, none⟩ = some (.slice (some ad179) l0_0.length c0_0) := (blk_cell BK171.out 0).trans rfl; have hcz57_1 : w55.cell? ⟨gb171, 1, none⟩ = some (.slice A0_1 l0_1.length c0_1) := (blk_cell BK171.out 1).trans rfl; have hfz57_0 := blk_frozen BK171.out 0; have hfz57_1 := blk_frozen BK171.out 1; have p186 : 0 ≤ (x30_2 : Int) := of_decide_eq_true (by first | (with_reducible assumption) | assumption); have q186 : x30_2 < (l0_1.length : Int) := of_decide_eq_true (by first | (with_reducible assumption) | assumption); obtain ⟨ad186, A186_0, c186_0, e186, hx186_0, hl186_0, hi186_0⟩ := at_L4 HR0_1.out x30_2 p186 q186; cases e186; replace hx186_0 := (HB.out.cell (World.block_lt_of_cell? w _ hx186_0)).trans hx186_0; have HR186_0 := Aside0.mk hi186_0; have HC186_0 := Aside0.mk hl186_0; clear hi186_0 hl186_0; replace p186 := eq_true p186; replace q186 := eq_true q186; have p187 : 0 ≤ (x66_4 : Int) := of_decide_eq_true (by first | (with_reducible assumption) | assumption); have q187 : x66_4 < ((rd_L4 l0_1 x30_2).length : Int) := of_decide_eq_true (by first | (with_reducible assumption) | assumption); obtain ⟨ad187, e187, hx187_0⟩ := Kd.at_bool HR186_0.out x66_4 p187 q187; (try rw [← Nbq50.out] at hx187_0); cases e187; replace hx187_0 := (HB.out.cell (World.block_lt_of_cell? w _ hx187_0)).trans hx187_0; replace p187 := eq_true p187; replace q187 := eq_true q187; obtain ⟨Ao58, co58, eo58⟩ := Kd.R_slice HO_3.out; subst eo58; have p188 : 0 ≤ ((rd ((rd_T88 l0_0 x30_2).f0) x66_4) : Int) := of_decide_eq_true (by first | (with_reducible assumption) | assumption); have q188 : (rd ((rd_T88 l0_0 x30_2).f0) x66_4) < (x3_4.length : Int) := of_decide_eq_true (by first | (with_reducible assumption) | assumption); obtain ⟨ad188, e188, hx188_0⟩ := Kd.at_int (Kd.R_reads' HO_3.out).2.2 (rd ((rd_T88 l0_0 x30_2).f0) x66_4) p188 q188; cases e188; replace p188 := eq_true p188; replace q188 := eq_true q188; have p53 : 0 ≤ ((rd ((rd_T88 l0_0 x30_2).f0) x66_4) : Int) := of_decide_eq_true (by first | (with_reducible assumption) | assumption); have q53 : ((rd ((rd_T88 l0_0 x30_2).f0) x66_4) : Int) < ((x3_4.length : Int) : Int) := of_decide_eq_true (by first | (with_reducible assumption) | assumption); obtain ⟨go53, co53, eo53, gb53, gl53, cl53, HG53⟩ := Kd.R_form HO_3.out (by omega); (first | cases eo53 | (injection eo53 with ea_ en_ ec_; (first | subst ea_ | (injection ea_ with ea_; subst ea_)); subst ec_; clear en_)); have GB53 := Aside0.mk gb53; have GG53 := Aside0.mk HG53; clear gb53 gl53 HG53; (first | simp only [add_plain] at hx188_0 | skip); obtain ⟨hx53_0, hf53_0⟩ := Kd.R_celln 0 HO_3.out ((rd ((rd_T88 l0_0 x30_2).f0) x66_4) : Int) p53 q53; replace p53 := eq_true p53; replace q53 := eq_true q53; obtain ⟨hy59_, hz59_⟩ := Kd.R_celln 0 HO_3.out ((rd ((rd_T88 l0_0 x30_2).f0) x66_4) : Int) (of_decide_eq_true (by first | (with_reducible assumption) | assumption)) (of_decide_eq_true (by first | (with_reducible assumption) | assumption)); have HP59 := Kd.R_putg HO_3.out ((rd ((rd_T88 l0_0 x30_2).f0) x66_4) : Int) (wrap64 ((rd x3_4 (rd ((rd_T88 l0_0 x30_2).f0) x66_4)) + 1))) | ((with_reducible refine gate_store (t := 3) (p := 87) rfl ?_); (try (rw [drewN_self w55]; generalize hq_ : World.drewN w55 _ = w55; have n0_ := Aside0.mk (Kd.R_at hq_ HO_3.out); have n1_ := Aside0.mk (Kd.R_at hq_ HO_4.out); have n2_ := Aside0.mk (blk_at hq_ BK171.out); have n3_ := Aside0.mk (blk_at hq_ BK180.out); have n4_ := Aside0.mk (below_at hq_ HB.out); clear hq_ HO_3 HO_4 BK171 BK180 HB; have HO_3 := n0_; have HO_4 := n1_; have BK171 := n2_; have BK180 := n3_; have HB := n4_; clear n0_ n1_ n2_ n3_ n4_; (try (obtain ⟨hy59_, hz59_⟩ := Kd.R_celln 0 HO_3.out ((rd ((rd_T88 l0_0 x30_2).f0) x66_4) : Int) (of_decide_eq_true (by first | (with_reducible assumption) | assumption)) (of_decide_eq_true (by first | (with_reducible assumption) | assumption)))); (try (have HP59 := Kd.R_putg HO_3.out ((rd ((rd_T88 l0_0 x30_2).f0) x66_4) : Int) (wrap64 ((rd x3_4 (rd ((rd_T88 l0_0 x30_2).f0) x66_4)) + 1)))))); refine store_event (t := 3) (p := 87) (v := ?vo_w60) (w1 := (w55.setCell ⟨go53, ((rd ((rd_T88 l0_0 x30_2).f0) x66_4) : Int).toNat, none⟩ (.int .i64 (wrap64 ((rd x3_4 (rd ((rd_T88 l0_0 x30_2).f0) x66_4)) + 1))))) ?hg ?ho ?hn ?hr ?_; (case ho => rfl); (case hg => rfl); (case hn => rfl); (case hr => first | (go_simp; done) | (go_simp; rfl)); intro w60 hw; have hg : w55.grownBy w60 (some go53) := (by rw [hw]; exact HP59.2); have hp_ : Kd.R (Kd.int .i64) 3 w60 w.heap.size (fun _ => True) (.slice (some ⟨go53, 0, none⟩) x3_4.length co58) y189 := (by rw [hw, Ny189.out]; exact HP59.1); clear HP59; have n0_ := Aside0.mk (hp_); have n1_ := Aside0.mk (Kd.R_over' (v := (.slice (some ⟨go53, 0, none⟩) x3_4.length co58)) (by (with_reducible repeat (first | apply Kd.R_alloc | apply Kd.R_drewN | apply Kd.R_drew)); exact HO_4.out) (Kd.R_typed HO_3.out) (by decide) hg); have n2_ := Aside0.mk (blk_grown (g := gb171) (o := .cells #[.slice (some ad179) l0_0.length c0_0, .slice (some ad186) l0_1.length c0_1] 30 (0, 0)) (by (with_reducible repeat (first | refine blk_drewN ?_ _ | refine blk_drew ?_ | refine blk_alloc ?_ _)); exact BK171.out) hg (Kd.R_ne HO_3.out BK171.out (by decide))); have n3_ := Aside0.mk (blk_grown (g := gb180) (o := .cells #[.slice (some ad184) ((rd_T88 l0_0 x30_2).f0).length c179_0, .int .i64 ((rd_T88 l0_0 x30_2).f1)] 88 (0, 0)) (by (with_reducible repeat (first | refine blk_drewN ?_ _ | refine blk_drew ?_ | refine blk_alloc ?_ _)); exact BK180.out) hg (Kd.R_ne HO_3.out BK180.out (by decide))); have n4_ := Aside0.mk ((by rw [hw]; exact below_set (HB.out) GB53.out : Below w.heap.size w w60)); clear HO_3; clear HO_4; clear BK171; clear BK180; clear HB; have HO_3 := n0_; have HO_4 := n1_; have BK171 := n2_; have BK180 := n3_; have HB := n4_; clear n0_ n1_ n2_ n3_ n4_; clear hg hw hp_)))
                                                    go_roundg k4
                                                    case measure => have := HJ1.out; have := HK2.out; have := HJ18.out; have := HK4.out; omega
                                                    case rel => exact ⟨(y189), (y185), (wrap64 (x66_4 + 1)), (by first | rfl | (simp; done) | (simp [*]; done)), H', ⟨by have := HJ1.out; have := HK2.out; have := HJ18.out; have := HK4.out; omega⟩, ⟨by (with_reducible repeat (first | apply Kd.R_alloc | apply Kd.R_drewN | apply Kd.R_drew)); exact HO_3.out⟩, ⟨by (with_reducible repeat (first | apply Kd.R_alloc | apply Kd.R_drewN | apply Kd.R_drew)); exact HO_4.out⟩, ⟨by (with_reducible repeat (first | refine blk_drewN ?_ _ | refine blk_drew ?_ | refine blk_alloc ?_ _)); exact BK171.out⟩, ⟨by (with_reducible repeat (first | refine blk_drewN ?_ _ | refine blk_drew ?_ | refine blk_alloc ?_ _)); exact BK180.out⟩, ⟨by repeat (first | (with_reducible first | exact HB.out | apply below_alloc | apply pw_below_drewN | apply below_drew1 | refine below_set ?_ GE171.out | refine below_set ?_ GE180.out) | exact HB.out)⟩⟩
                                                  · rw [if_neg c52] at H
                                                    exact absurd H (by simp)
                                                · replace c51 := Bool.eq_false_iff.mpr c51
                                                  subst c51
                                                  have H1 : (spec_GoodHeap.l1 k4 x3_4 y185 x30_2 l0_0 (l0_0.length : Int) x30_2 ((rd_T88 l0_0 x30_2).f0) (((rd_T88 l0_0 x30_2).f0).length : Int) (wrap64 (x66_4 + 1)) l0_0 l0_1) = some r := by rw [if_neg (show ¬ (false = true) by decide)] at H; exact H
                                                  clear H
                                                  have H := H1
                                                  clear H1
                                                  have H' := Aside0.mk H
                                                  clear H
                                                  have p184 : 0 ≤ (x66_4 : Int) := of_decide_eq_true (by first | (with_reducible assumption) | assumption)
                                                  have q184 : x66_4 < (((rd_T88 l0_0 x30_2).f0).length : Int) := of_decide_eq_true (by first | (with_reducible assumption) | assumption)
                                                  obtain ⟨ad184, e184, hx184_0⟩ := Kd.at_int HR179_0.out x66_4 p184 q184
                                                  cases e184
                                                  replace hx184_0 := (HB.out.cell (World.block_lt_of_cell? w _ hx184_0)).trans hx184_0
                                                  replace p184 := eq_true p184
                                                  replace q184 := eq_true q184
                                                  have p46 : 0 ≤ ((rd ((rd_T88 l0_0 x30_2).f0) x66_4) : Int) := of_decide_eq_true (by first | (with_reducible assumption) | assumption)
                                                  have q46 : ((rd ((rd_T88 l0_0 x30_2).f0) x66_4) : Int) < ((x4_4.length : Int) : Int) := of_decide_eq_true (by first | (with_reducible assumption) | assumption)
                                                  obtain ⟨go46, co46, eo46, gb46, gl46, cl46, HG46⟩ := Kd.R_form HO_4.out (by omega)
                                                  (first | cases eo46 | (injection eo46 with ea_ en_ ec_; (first | subst ea_ | (injection ea_ with ea_; subst ea_)); subst ec_; clear en_))
                                                  have GB46 := Aside0.mk gb46
                                                  have GG46 := Aside0.mk HG46
                                                  clear gb46 gl46 HG46
                                                  obtain ⟨hx46_0, hf46_0⟩ := Kd.R_celln false HO_4.out ((rd ((rd_T88 l0_0 x30_2).f0) x66_4) : Int) p46 q46
                                                  replace p46 := eq_true p46
                                                  replace q46 := eq_true q46
                                                  have HP61 := Kd.R_putg HO_4.out ((rd ((rd_T88 l0_0 x30_2).f0) x66_4) : Int) true
                                                  go_wp2_with (first | ((with_reducible refine gate_store (t := 4) (p := 73) rfl ?_); (try (rw [drewN_self wr]; generalize hq_ : World.drewN wr _ = wr; have n0_ := Aside0.mk (Kd.R_at hq_ HO_3.out); have n1_ := Aside0.mk (Kd.R_at hq_ HO_4.out); have n2_ := Aside0.mk (blk_at hq_ BK171.out); have n3_ := Aside0.mk (blk_at hq_ BK180.out); have n4_ := Aside0.mk (below_at hq_ HB.out); clear hq_ HO_3 HO_4 BK171 BK180 HB; have HO_3 := n0_; have HO_4 := n1_; have BK171 := n2_; have BK180 := n3_; have HB := n4_; clear n0_ n1_ n2_ n3_ n4_; (try (have HP61 := Kd.R_putg HO_4.out ((rd ((rd_T88 l0_0 x30_2).f0) x66_4) : Int) true)))); refine store_event (t := 4) (p := 73) (v := ?vo_w62) (w1 := (wr.setCell ⟨go46, ((rd ((rd_T88 l0_0 x30_2).f0) x66_4) : Int).toNat, none⟩ (.bool true))) ?hg ?ho ?hn ?hr ?_; (case ho => rfl); (case hg => rfl); (case hn => rfl); (case hr => first | (go_simp; done) | (go_simp; rfl)); intro w62 hw; have hg : wr.grownBy w62 (some go46) := (by rw [hw]; exact HP61.2); have hp_ : Kd.R Kd.bool 4 w62 w.heap.size (fun _ => True) (.slice (some ⟨go46, 0, none⟩) x4_4.length co46) y185 := (by rw [hw, Ny185.out]; exact HP61.1); clear HP61; have n0_ := Aside0.mk (Kd.R_over' (v := (.slice (some ⟨go46, 0, none⟩) x4_4.length co46)) (by (with_reducible repeat (first | apply Kd.R_alloc | apply Kd.R_drewN | apply Kd.R_drew)); exact HO_3.out) (Kd.R_typed HO_4.out) (by decide) hg); have n1_ := Aside0.mk (hp_); have n2_ := Aside0.mk (blk_grown (g := gb171) (o := .cells #[.slice (some ad179) l0_0.length c0_0, .slice A0_1 l0_1.length c0_1] 30 (0, 0)) (by (with_reducible repeat (first | refine blk_drewN ?_ _ | refine blk_drew ?_ | refine blk_alloc ?_ _)); exact BK171.out) hg (Kd.R_ne HO_4.out BK171.out (by decide))); have n3_ := Aside0.mk (blk_grown (g := gb180) (o := .cells #[.slice (some ad184) ((rd_T88 l0_0 x30_2).f0).length c179_0, .int .i64 ((rd_T88 l0_0 x30_2).f1)] 88 (0, 0)) (by (with_reducible repeat (first | refine blk_drewN ?_ _ | refine blk_drew ?_ | refine blk_alloc ?_ _)); exact BK180.out) hg (Kd.R_ne HO_4.out BK180.out (by decide))); have n4_ := Aside0.mk ((by rw [hw]; exact below_set (HB.out) GB46.out : Below w.heap.size w w62)); clear HO_3; clear HO_4; clear BK171; clear BK180; clear HB; have HO_3 := n0_; have HO_4 := n1_; have BK171 := n2_; have BK180 := n3_; have HB := n4_; clear n0_ n1_ n2_ n3_ n4_; clear hg hw hp_; have hnb63 := NB171_180.out; have hnc63 := NB180_171.out; have hcz64_0 : w62.cell? ⟨gb171, 0, none⟩ = some (.slice (some ad179) l0_0.length c0_0) := (blk_cell BK171.out 0).trans rfl; have hcz64_1 : w62.cell? ⟨gb171, 1, none⟩ = some (.slice A0_1 l0_1.length c0_1) := (blk_cell BK171.out 1).trans rfl; have hfz64_0 := blk_frozen BK171.out 0; have hfz64_1 := blk_frozen BK171.out 1; have p186 : 0 ≤ (x30_2 : Int) := of_decide_eq_true (by first | (with_reducible assumption) | assumption); have q186 : x30_2 < (l0_1.length : Int) := of_decide_eq_true (by first | (with_reducible assumption) | assumption); obtain ⟨ad186, A186_0, c186_0, e186, hx186_0, hl186_0, hi186_0⟩ := at_L4 HR0_1.out x30_2 p186 q186; cases e186; replace hx186_0 := (HB.out.cell (World.block_lt_of_cell? w _ hx186_0)).trans hx186_0; have HR186_0 := Aside0.mk hi186_0; have HC186_0 := Aside0.mk hl186_0; clear hi186_0 hl186_0; replace p186 := eq_true p186; replace q186 := eq_true q186; have p187 : 0 ≤ (x66_4 : Int) := of_decide_eq_true (by first | (with_reducible assumption) | assumption); have q187 : x66_4 < ((rd_L4 l0_1 x30_2).length : Int) := of_decide_eq_true (by first | (with_reducible assumption) | assumption); obtain ⟨ad187, e187, hx187_0⟩ := Kd.at_bool HR186_0.out x66_4 p187 q187; (try rw [← Nbq50.out] at hx187_0); cases e187; replace hx187_0 := (HB.out.cell (World.block_lt_of_cell? w _ hx187_0)).trans hx187_0; replace p187 := eq_true p187; replace q187 := eq_true q187))
                                                  repeat (go_quiet (first | ((with_reducible refine gate_store (t := 4) (p := 73) rfl ?_); (try (rw [drewN_self wr]; generalize hq_ : World.drewN wr _ = wr; have n0_ := Aside0.mk (Kd.R_at hq_ HO_3.out); have n1_ := Aside0.mk (Kd.R_at hq_ HO_4.out); have n2_ := Aside0.mk (blk_at hq_ BK171.out); have n3_ := Aside0.mk (blk_at hq_ BK180.out); have n4_ := Aside0.mk (below_at hq_ HB.out); clear hq_ HO_3 HO_4 BK171 BK180 HB; have HO_3 := n0_; have HO_4 := n1_; have BK171 := n2_; have BK180 := n3_; have HB := n4_; clear n0_ n1_ n2_ n3_ n4_; (try (have HP61 := Kd.R_putg HO_4.out ((rd ((rd_T88 l0_0 x30_2).f0) x66_4) : Int) true)))); refine store_event (t := 4) (p := 73) (v := ?vo_w62) (w1 := (wr.setCell ⟨go46, ((rd ((rd_T88 l0_0 x30_2).f0) x66_4) : Int).toNat, none⟩ (.bool true))) ?hg ?ho ?hn ?hr ?_; (case ho => rfl); (case hg => rfl); (case hn => rfl); (case hr => first | (go_simp; done) | (go_simp; rfl)); intro w62 hw; have hg : wr.grownBy w62 (some go46) := (by rw [hw]; exact HP61.2); have hp_ : Kd.R Kd.bool 4 w62 w.heap.size (fun _ => True) (.slice (some ⟨go46, 0, none⟩) x4_4.length co46) y185 := (by rw [hw, Ny185.out]; exact HP61.1); clear HP61; have n0_ := Aside0.mk (Kd.R_over' (v := (.slice (some ⟨go46, 0, none⟩) x4_4.length co46)) (by (with_reducible repeat (first | apply Kd.R_alloc | apply Kd.R_drewN | apply Kd.R_drew)); exact HO_3.out) (Kd.R_typed HO_4.out) (by decide) hg); have n1_ := Aside0.mk (hp_); have n2_ := Aside0.mk (blk_grown (g := gb171) (o := .cells #[.slice (some ad179) l0_0.length c0_0, .slice A0_1 l0_1.length c0_1] 30 (0, 0)) (by (with_reducible repeat (first | refine blk_drewN ?_ _ | refine blk_drew ?_ | refine blk_alloc ?_ _)); exact BK171.out) hg (Kd.R_ne HO_4.out BK171.out (by decide))); have n3_ := Aside0.mk (blk_grown (g := gb180) (o := .cells #[.slice (some ad184) ((rd_T88 l0_0 x30_2).f0).length c179_0, .int .i64 ((rd_T88 l0_0 x30_2).f1)] 88 (0, 0)) (by (with_reducible repeat (first | refine blk_drewN ?_ _ | refine blk_drew ?_ | refine blk_alloc ?_ _)); exact BK180.out) hg (Kd.R_ne HO_4.out BK180.out (by decide))); have n4_ := Aside0.mk ((by rw [hw]; exact below_set (HB.out) GB46.out : Below w.heap.size w w62)); clear HO_3; clear HO_4; clear BK171; clear BK180; clear HB; have HO_3 := n0_; have HO_4 := n1_; have BK171 := n2_; have BK180 := n3_; have HB := n4_; clear n0_ n1_ n2_ n3_ n4_; clear hg hw hp_; have hnb63 := NB171_180.out; have hnc63 := NB180_171.out; have hcz64_0 : w62.cell? ⟨gb171, 0, none⟩ = some (.slice (some ad179) l0_0.length c0_0) := (blk_cell BK171.out 0).trans rfl; have hcz64_1 : w62.cell? ⟨gb171, 1, none⟩ = some (.slice A0_1 l0_1.length c0_1) := (blk_cell BK171.out 1).trans rfl; have hfz64_0 := blk_frozen BK171.out 0; have hfz64_1 := blk_frozen BK171.out 1; have p186 : 0 ≤ (x30_2 : Int) := of_decide_eq_true (by first | (with_reducible assumption) | assumption); have q186 : x30_2 < (l0_1.length : Int) := of_decide_eq_true (by first | (with_reducible assumption) | assumption); obtain ⟨ad186, A186_0, c186_0, e186, hx186_0, hl186_0, hi186_0⟩ := at_L4 HR0_1.out x30_2 p186 q186; cases e186; replace hx186_0 := (HB.out.cell (World.block_lt_of_cell? w _ hx186_0)).trans hx186_0; have HR186_0 := Aside0.mk hi186_0; have HC186_0 := Aside0.mk hl186_0; clear hi186_0 hl186_0; replace p186 := eq_true p186; replace q186 := eq_true q186; have p187 : 0 ≤ (x66_4 : Int) := of_decide_eq_true (by first | (with_reducible assumption) | assumption); have q187 : x66_4 < ((rd_L4 l0_1 x30_2).length : Int) := of_decide_eq_true (by first | (with_reducible assumption) | assumption); obtain ⟨ad187, e187, hx187_0⟩ := Kd.at_bool HR186_0.out x66_4 p187 q187; (try rw [← Nbq50.out] at hx187_0); cases e187; replace hx187_0 := (HB.out.cell (World.block_lt_of_cell? w _ hx187_0)).trans hx187_0; replace p187 := eq_true p187; replace q187 := eq_true q187)); try go_wp2_with (first | ((with_reducible refine gate_store (t := 4) (p := 73) rfl ?_); (try (rw [drewN_self wr]; generalize hq_ : World.drewN wr _ = wr; have n0_ := Aside0.mk (Kd.R_at hq_ HO_3.out); have n1_ := Aside0.mk (Kd.R_at hq_ HO_4.out); have n2_ := Aside0.mk (blk_at hq_ BK171.out); have n3_ := Aside0.mk (blk_at hq_ BK180.out); have n4_ := Aside0.mk (below_at hq_ HB.out); clear hq_ HO_3 HO_4 BK171 BK180 HB; have HO_3 := n0_; have HO_4 := n1_; have BK171 := n2_; have BK180 := n3_; have HB := n4_; clear n0_ n1_ n2_ n3_ n4_; (try (have HP61 := Kd.R_putg HO_4.out ((rd ((rd_T88 l0_0 x30_2).f0) x66_4) : Int) true)))); refine store_event (t := 4) (p := 73) (v := ?vo_w62) (w1 := (wr.setCell ⟨go46, ((rd ((rd_T88 l0_0 x30_2).f0) x66_4) : Int).toNat, none⟩ (.bool true))) ?hg ?ho ?hn ?hr ?_; (case ho => rfl); (case hg => rfl); (case hn => rfl); (case hr => first | (go_simp; done) | (go_simp; rfl)); intro w62 hw; have hg : wr.grownBy w62 (some go46) := (by rw [hw]; exact HP61.2); have hp_ : Kd.R Kd.bool 4 w62 w.heap.size (fun _ => True) (.slice (some ⟨go46, 0, none⟩) x4_4.length co46) y185 := (by rw [hw, Ny185.out]; exact HP61.1); clear HP61; have n0_ := Aside0.mk (Kd.R_over' (v := (.slice (some ⟨go46, 0, none⟩) x4_4.length co46)) (by (with_reducible repeat (first | apply Kd.R_alloc | apply Kd.R_drewN | apply Kd.R_drew)); exact HO_3.out) (Kd.R_typed HO_4.out) (by decide) hg); have n1_ := Aside0.mk (hp_); have n2_ := Aside0.mk (blk_grown (g := gb171) (o := .cells #[.slice (some ad179) l0_0.length c0_0, .slice A0_1 l0_1.length c0_1] 30 (0, 0)) (by (with_reducible repeat (first | refine blk_drewN ?_ _ | refine blk_drew ?_ | refine blk_alloc ?_ _)); exact BK171.out) hg (Kd.R_ne HO_4.out BK171.out (by decide))); have n3_ := Aside0.mk (blk_grown (g := gb180) (o := .cells #[.slice (some ad184) ((rd_T88 l0_0 x30_2).f0).length c179_0, .int .i64 ((rd_T88 l0_0 x30_2).f1)] 88 (0, 0)) (by (with_reducible repeat (first | refine blk_drewN ?_ _ | refine blk_drew ?_ | refine blk_alloc ?_ _)); exact BK180.out) hg (Kd.R_ne HO_4.out BK180.out (by decide))); have n4_ := Aside0.mk ((by rw [hw]; exact below_set (HB.out) GB46.out : Below w.heap.size w w62)); clear HO_3; clear HO_4; clear BK171; clear BK180; clear HB; have HO_3 := n0_; have HO_4 := n1_; have BK171 := n2_; have BK180 := n3_; have HB := n4_; clear n0_ n1_ n2_ n3_ n4_; clear hg hw hp_; have hnb63 := NB171_180.out; have hnc63 := NB180_171.out; have hcz64_0 : w62.cell? ⟨gb171, 0, none⟩ = some (.slice (some ad179) l0_0.length c0_0) := (blk_cell BK171.out 0).trans rfl; have hcz64_1 : w62.cell? ⟨gb171, 1, none⟩ = some (.slice A0_1 l0_1.length c0_1) := (blk_cell BK171.out 1).trans rfl; have hfz64_0 := blk_frozen BK171.out 0; have hfz64_1 := blk_frozen BK171.out 1; have p186 : 0 ≤ (x30_2 : Int) := of_decide_eq_true (by first | (with_reducible assumption) | assumption); have q186 : x30_2 < (l0_1.length : Int) := of_decide_eq_true (by first | (with_reducible assumption) | assumption); obtain ⟨ad186, A186_0, c186_0, e186, hx186_0, hl186_0, hi186_0⟩ := at_L4 HR0_1.out x30_2 p186 q186; cases e186; replace hx186_0 := (HB.out.cell (World.block_lt_of_cell? w _ hx186_0)).trans hx186_0; have HR186_0 := Aside0.mk hi186_0; have HC186_0 := Aside0.mk hl186_0; clear hi186_0 hl186_0; replace p186 := eq_true p186; replace q186 := eq_true q186; have p187 : 0 ≤ (x66_4 : Int) := of_decide_eq_true (by first | (with_reducible assumption) | assumption); have q187 : x66_4 < ((rd_L4 l0_1 x30_2).length : Int) := of_decide_eq_true (by first | (with_reducible assumption) | assumption); obtain ⟨ad187, e187, hx187_0⟩ := Kd.at_bool HR186_0.out x66_4 p187 q187; (try rw [← Nbq50.out] at hx187_0); cases e187; replace hx187_0 := (HB.out.cell (World.block_lt_of_cell? w _ hx187_0)).trans hx187_0; replace p187 := eq_true p187; replace q187 := eq_true q187)))
                                                  go_roundg k4
                                                  case measure => have := HJ1.out; have := HK2.out; have := HJ18.out; have := HK4.out; omega
                                                  case rel => exact ⟨(x3_4), (y185), (wrap64 (x66_4 + 1)), (by first | rfl | (simp; done) | (simp [*]; done)), H', ⟨by have := HJ1.out; have := HK2.out; have := HJ18.out; have := HK4.out; omega⟩, ⟨by (with_reducible repeat (first | apply Kd.R_alloc | apply Kd.R_drewN | apply Kd.R_drew)); exact HO_3.out⟩, ⟨by (with_reducible repeat (first | apply Kd.R_alloc | apply Kd.R_drewN | apply Kd.R_drew)); exact HO_4.out⟩, ⟨by (with_reducible repeat (first | refine blk_drewN ?_ _ | refine blk_drew ?_ | refine blk_alloc ?_ _)); exact BK171.out⟩, ⟨by (with_reducible repeat (first | refine blk_drewN ?_ _ | refine blk_drew ?_ | refine blk_alloc ?_ _)); exact BK180.out⟩, ⟨by repeat (first | (with_reducible first | exact HB.out | apply below_alloc | apply pw_below_drewN | apply below_drew1 | refine below_set ?_ GE171.out | refine below_set ?_ GE180.out) | exact HB.out)⟩⟩
                                              · rw [if_neg c49] at H
                                                exact absurd H (by simp)
                                            · rw [if_neg c48] at H
                                              exact absurd H (by simp)
                                          · rw [if_neg c47] at H
                                            exact absurd H (by simp)
                                        · rw [if_neg c45] at H
                                          exact absurd H (by simp)
                                      · rw [if_neg c44] at H
                                        exact absurd H (by simp)
                                    · rw [if_neg c43] at H
                                      exact absurd H (by simp)
                                  · rw [if_neg c42] at H
                                    exact absurd H (by simp)
                                · rw [if_neg c41] at H
                                  have c41b0 : decide (x66_4 < (((rd_T88 l0_0 x30_2).f0).length : Int)) = false := decide_eq_false c41
                                  clear c41
                                  have H' := Aside0.mk H
                                  clear H
                                  go_wp2
                                  repeat (go_quiet (fail); try go_wp2)
                                  go_roundg k4
                                  case measure => have := HJ1.out; have := HK2.out; have := HJ18.out; have := HK4.out; omega
                                  case rel => exact ⟨(x3_4), (x4_4), (wrap64 (x30_2 + 1)), (by first | rfl | (simp; done) | (simp [*]; done)), H', ⟨by have := HJ1.out; have := HK2.out; have := HJ18.out; have := HK4.out; omega⟩, ⟨by (with_reducible repeat (first | apply Kd.R_alloc | apply Kd.R_drewN | apply Kd.R_drew)); exact HO_3.out⟩, ⟨by (with_reducible repeat (first | apply Kd.R_alloc | apply Kd.R_drewN | apply Kd.R_drew)); exact HO_4.out⟩, ⟨by (with_reducible repeat (first | refine blk_drewN ?_ _ | refine blk_drew ?_ | refine blk_alloc ?_ _)); exact BK171.out⟩, ⟨by repeat (first | (with_reducible first | exact HB.out | apply below_alloc | apply pw_below_drewN | apply below_drew1 | refine below_set ?_ GE171.out | refine below_set ?_ GE180.out) | exact HB.out)⟩⟩
                    · rw [if_neg c18] at H
                      exact absurd H (by simp)
                  · rw [if_neg c17] at H
                    exact absurd H (by simp)
                · rw [if_neg c16] at H
                  have c16b0 : decide (x30_2 < (l0_0.length : Int)) = false := decide_eq_false c16
                  clear c16
                  have H' := Aside0.mk H
                  clear H
                  obtain ⟨Ao65, co65, eo65⟩ := Kd.R_slice HO_4.out
                  subst eo65
                  go_wp2
                  repeat (go_quiet (fail); try go_wp2)
                  go_loopg [92] k2 (fun kq v92 w' => ∃ (x92_3 : Int), v92 = .int .i64 x92_3 ∧ Aside0 (spec_GoodHeap.l2 kq x3_2 x4_2 (x4_2.length : Int) x92_3 = some r) ∧ Aside0 (kq ≤ k2) ∧ Aside0 (Kd.R (Kd.int .i64) 3 w' w.heap.size (fun _ => True) v174 x3_2) ∧ Aside0 (Kd.R Kd.bool 4 w' w.heap.size (fun _ => True) (.slice Ao65 x4_2.length co65) x4_2) ∧ Aside0 (w'.heap[gb171]? = some (.cells #[(.slice A0_0 l0_0.length c0_0), (.slice A0_1 l0_1.length c0_1)] 30 (0, 0))) ∧ Aside0 (Below w.heap.size w w'))
                  case atStart => exact ⟨(0), (by first | rfl | (simp; done) | (simp [*]; done)), H', ⟨Nat.le_refl _⟩, ⟨by (with_reducible repeat (first | apply Kd.R_alloc | apply Kd.R_drewN | apply Kd.R_drew)); exact HO_3.out⟩, ⟨by (with_reducible repeat (first | apply Kd.R_alloc | apply Kd.R_drewN | apply Kd.R_drew)); exact HO_4.out⟩, ⟨by (with_reducible repeat (first | refine blk_drewN ?_ _ | refine blk_drew ?_ | refine blk_alloc ?_ _)); exact BK171.out⟩, ⟨by repeat (first | (with_reducible first | exact HB.out | apply below_alloc | apply pw_below_drewN | apply below_drew1 | refine below_set ?_ GE171.out) | exact HB.out)⟩⟩
                  case round =>
                    clear H'
                    try clear c1
                    try clear p1
                    try clear q1
                    try clear hx1
                    try clear c2
                    try clear p2
                    try clear c3
                    try clear c4
                    try clear p4
                    try clear q4
                    try clear hx4
                    try clear hf4
                    try clear c5
                    try clear p5
                    try clear q5
                    try clear hx5
                    try clear hf5
                    try clear c6
                    try clear p6
                    try clear c8
                    try clear c9
                    try clear c9b0
                    try clear c9b1
                    try clear c10
                    try clear c10b0
                    try clear c10b1
                    try clear c16
                    try clear c16b0
                    try clear c17
                    try clear c17b0
                    try clear p17
                    try clear q17
                    try clear hx17
                    try clear c18
                    try clear c18b0
                    try clear p18
                    try clear q18
                    try clear hx18
                    try clear c21
                    try clear c23
                    try clear c23b0
                    try clear c23b1
                    try clear c24
                    try clear c27
                    try clear c29
                    try clear c30
                    try clear c30b0
                    try clear c31
                    try clear c34
                    try clear c36
                    try clear c38
                    try clear c39
                    try clear c41
                    try clear c41b0
                    try clear c42
                    try clear c42b0
                    try clear c43
                    try clear c43b0
                    try clear c44
                    try clear c44b0
                    try clear c45
                    try clear c45b0
                    try clear p46
                    try clear q46
                    try clear hx46
                    try clear hf46
                    try clear c47
                    try clear c47b0
                    try clear c48
                    try clear c48b0
                    try clear c49
                    try clear c49b0
                    try clear q50
                    try clear c51
                    try clear c52
                    try clear c52b0
                    try clear p53
                    try clear q53
                    try clear hx53
                    try clear hf53
                    try clear c56
                    try clear c63
                    try clear p64
                    try clear hcz15_0
                    try clear hcz15_1
                    try clear hcz22_0
                    try clear hcz22_1
                    try clear hcz25_0
                    try clear hcz25_1
                    try clear hcz32_0
                    try clear hcz32_1
                    try clear hcz33_0
                    try clear hcz33_1
                    try clear hcz35_0
                    try clear hcz35_1
                    try clear hcz37_0
                    try clear hcz37_1
                    try clear hcz40_0
                    try clear hcz40_1
                    try clear hcz57_0
                    try clear hcz57_1
                    try clear hcz64_0
                    try clear hcz64_1
                    try clear hcz6_0
                    try clear hcz6_1
                    try clear hcz7_0
                    try clear hcz7_1
                    try clear hfz15_0
                    try clear hfz15_1
                    try clear hfz22_0
                    try clear hfz22_1
                    try clear hfz25_0
                    try clear hfz25_1
                    try clear hfz32_0
                    try clear hfz32_1
                    try clear hfz33_0
                    try clear hfz33_1
                    try clear hfz35_0
                    try clear hfz35_1
                    try clear hfz37_0
                    try clear hfz37_1
                    try clear hfz40_0
                    try clear hfz40_1
                    try clear hfz57_0
                    try clear hfz57_1
                    try clear hfz64_0
                    try clear hfz64_1
                    try clear hfz6_0
                    try clear hfz6_1
                    try clear hfz7_0
                    try clear hfz7_1
                    try clear hx179_0
                    try clear hx179_1
                    try clear hx183_0
                    try clear hx184_0
                    try clear hx186_0
                    try clear hx187_0
                    try clear hx188_0
                    try clear hx46_0
                    try clear hx53_0
                    try clear p1
                    try clear p17
                    try clear p179
                    try clear p18
                    try clear p183
                    try clear p184
                    try clear p186
                    try clear p187
                    try clear p188
                    try clear p2
                    try clear p46
                    try clear p53
                    try clear q1
                    try clear q17
                    try clear q179
                    try clear q18
                    try clear q183
                    try clear q184
                    try clear q186
                    try clear q187
                    try clear q188
                    try clear q46
                    try clear q53
                    obtain ⟨x92_3, rfl, HA, HK3, HO_3, HO_90, BK171, HB⟩ := hrel
                    cases gk with
                    | zero => exact absurd HA.out (by simp [spec_GoodHeap.l2])
                    | succ k3 =>
                      have H := HA.out
                      clear HA
                      simp only [spec_GoodHeap.l2] at H
                      by_cases c66 : x92_3 < (x4_2.length : Int)
                      · rw [if_pos c66] at H
                        have c66b0 : decide (x92_3 < (x4_2.length : Int)) = true := decide_eq_true c66
                        clear c66
                        by_cases c67 : 0 ≤ x92_3
                        · rw [if_pos c67] at H
                          have c67b0 : decide (0 ≤ x92_3) = true := decide_eq_true c67
                          clear c67
                          by_cases c68 : x92_3 < (x4_2.length : Int)
                          · rw [if_pos c68] at H
                            have c68b0 : decide (x92_3 < (x4_2.length : Int)) = true := decide_eq_true c68
                            clear c68
                            by_cases c69 : x92_3 < (x3_2.length : Int)
                            · rw [if_pos c69] at H
                              have c69b0 : decide (x92_3 < (x3_2.length : Int)) = true := decide_eq_true c69
                              clear c69
                              by_cases c70 : (rd x3_2 x92_3) > 1
                              · rw [if_pos c70] at H
                                have c70b0 : decide (1 < (rd x3_2 x92_3)) = true := decide_eq_true c70
                                clear c70
                                obtain rfl := Option.some.inj H
                                have p190 : 0 ≤ (x92_3 : Int) := of_decide_eq_true (by first | (with_reducible assumption) | assumption)
                                have q190 : x92_3 < (x4_2.length : Int) := of_decide_eq_true (by first | (with_reducible assumption) | assumption)
                                obtain ⟨ad190, e190, hx190_0⟩ := Kd.at_bool (Kd.R_reads' HO_90.out).2.2 x92_3 p190 q190
                                cases e190
                                replace p190 := eq_true p190
                                replace q190 := eq_true q190
                                obtain ⟨Ao71, co71, eo71⟩ := Kd.R_slice HO_3.out
                                subst eo71
                                have p191 : 0 ≤ (x92_3 : Int) := of_decide_eq_true (by first | (with_reducible assumption) | assumption)
                                have q191 : x92_3 < (x3_2.length : Int) := of_decide_eq_true (by first | (with_reducible assumption) | assumption)
                                obtain ⟨ad191, e191, hx191_0⟩ := Kd.at_int (Kd.R_reads' HO_3.out).2.2 x92_3 p191 q191
                                cases e191
                                replace p191 := eq_true p191
                                replace q191 := eq_true q191
                                go_wp2
                                repeat (go_quiet (fail); try go_wp2)
                                go_ret
                                exact ⟨by first | rfl | (simp [errW_none, errW_some] <;> rfl) | (simp [*, errW_none, errW_some] <;> rfl), by repeat (first | (with_reducible first | exact HB.out | apply below_alloc | apply pw_below_drewN | apply below_drew1 | refine below_set ?_ GE171.out) | exact HB.out)⟩
                              · rw [if_neg c70] at H
                                have c70b0 : decide (1 < (rd x3_2 x92_3)) = false := decide_eq_false c70
                                clear c70
                                obtain ⟨bq72, hbq72⟩ : ∃ b_ : Bool, b_ = (rdOf false x4_2 x92_3) := ⟨_, rfl⟩
                                replace H : (if bq72 = true then (if (rd x3_2 x92_3) = 0 then (some false) else (spec_GoodHeap.l2 k3 x3_2 x4_2 (x4_2.length : Int) (wrap64 (x92_3 + 1)))) else (spec_GoodHeap.l2 k3 x3_2 x4_2 (x4_2.length : Int) (wrap64 (x92_3 + 1)))) = some r := by rw [← hbq72] at H; exact H
                                have Nbq72 := Aside0.mk hbq72
                                clear hbq72
                                by_cases c73 : bq72 = true
                                · subst c73
                                  have H1 : (if (rd x3_2 x92_3) = 0 then (some false) else (spec_GoodHeap.l2 k3 x3_2 x4_2 (x4_2.length : Int) (wrap64 (x92_3 + 1)))) = some r := by rw [if_pos rfl] at H; exact H
                                  clear H
                                  have H := H1
                                  clear H1
                                  by_cases c74 : (rd x3_2 x92_3) = 0
                                  · rw [if_pos c74] at H
                                    have c74b0 : ((rd x3_2 x92_3) == 0) = true := beq_iff_eq.mpr c74
                                    have c74b1 : ((rd x3_2 x92_3) != 0) = false := bne_eq_false_iff_eq.mpr c74
                                    clear c74
                                    obtain rfl := Option.some.inj H
                                    have p190 : 0 ≤ (x92_3 : Int) := of_decide_eq_true (by first | (with_reducible assumption) | assumption)
                                    have q190 : x92_3 < (x4_2.length : Int) := of_decide_eq_true (by first | (with_reducible assumption) | assumption)
                                    obtain ⟨ad190, e190, hx190_0⟩ := Kd.at_bool (Kd.R_reads' HO_90.out).2.2 x92_3 p190 q190
                                    (try rw [← Nbq72.out] at hx190_0)
                                    cases e190
                                    replace p190 := eq_true p190
                                    replace q190 := eq_true q190
                                    obtain ⟨Ao75, co75, eo75⟩ := Kd.R_slice HO_3.out
                                    subst eo75
                                    have p191 : 0 ≤ (x92_3 : Int) := of_decide_eq_true (by first | (with_reducible assumption) | assumption)
                                    have q191 : x92_3 < (x3_2.length : Int) := of_decide_eq_true (by first | (with_reducible assumption) | assumption)
                                    obtain ⟨ad191, e191, hx191_0⟩ := Kd.at_int (Kd.R_reads' HO_3.out).2.2 x92_3 p191 q191
                                    cases e191
                                    replace p191 := eq_true p191
                                    replace q191 := eq_true q191
                                    have p192 : 0 ≤ (x92_3 : Int) := of_decide_eq_true (by first | (with_reducible assumption) | assumption)
                                    have q192 : x92_3 < (x3_2.length : Int) := of_decide_eq_true (by first | (with_reducible assumption) | assumption)
                                    obtain ⟨ad192, e192, hx192_0⟩ := Kd.at_int (Kd.R_reads' HO_3.out).2.2 x92_3 p192 q192
                                    obtain rfl : ad191 = ad192 := (by injection e192)
                                    replace p192 := eq_true p192
                                    replace q192 := eq_true q192
                                    go_wp2
                                    repeat (go_quiet (fail); try go_wp2)
                                    go_ret
                                    exact ⟨by first | rfl | (simp [errW_none, errW_some] <;> rfl) | (simp [*, errW_none, errW_some] <;> rfl), by repeat (first | (with_reducible first | exact HB.out | apply below_alloc | apply pw_below_drewN | apply below_drew1 | refine below_set ?_ GE171.out) | exact HB.out)⟩
                                  · rw [if_neg c74] at H
                                    have c74b0 : ((rd x3_2 x92_3) == 0) = false := beq_eq_false_iff_ne.mpr c74
                                    have c74b1 : ((rd x3_2 x92_3) != 0) = true := bne_iff_ne.mpr c74
                                    have H' := Aside0.mk H
                                    clear H
                                    have p190 : 0 ≤ (x92_3 : Int) := of_decide_eq_true (by first | (with_reducible assumption) | assumption)
                                    have q190 : x92_3 < (x4_2.length : Int) := of_decide_eq_true (by first | (with_reducible assumption) | assumption)
                                    obtain ⟨ad190, e190, hx190_0⟩ := Kd.at_bool (Kd.R_reads' HO_90.out).2.2 x92_3 p190 q190
                                    (try rw [← Nbq72.out] at hx190_0)
                                    cases e190
                                    replace p190 := eq_true p190
                                    replace q190 := eq_true q190
                                    obtain ⟨Ao76, co76, eo76⟩ := Kd.R_slice HO_3.out
                                    subst eo76
                                    have p191 : 0 ≤ (x92_3 : Int) := of_decide_eq_true (by first | (with_reducible assumption) | assumption)
                                    have q191 : x92_3 < (x3_2.length : Int) := of_decide_eq_true (by first | (with_reducible assumption) | assumption)
                                    obtain ⟨ad191, e191, hx191_0⟩ := Kd.at_int (Kd.R_reads' HO_3.out).2.2 x92_3 p191 q191
                                    cases e191
                                    replace p191 := eq_true p191
                                    replace q191 := eq_true q191
                                    have p192 : 0 ≤ (x92_3 : Int) := of_decide_eq_true (by first | (with_reducible assumption) | assumption)
                                    have q192 : x92_3 < (x3_2.length : Int) := of_decide_eq_true (by first | (with_reducible assumption) | assumption)
                                    obtain ⟨ad192, e192, hx192_0⟩ := Kd.at_int (Kd.R_reads' HO_3.out).2.2 x92_3 p192 q192
                                    obtain rfl : ad191 = ad192 := (by injection e192)
                                    replace p192 := eq_true p192
                                    replace q192 := eq_true q192
                                    go_wp2
                                    repeat (go_quiet (fail); try go_wp2)
                                    go_roundg k3
                                    case measure => have := HJ1.out; have := HK2.out; have := HK3.out; omega
                                    case rel => exact ⟨(wrap64 (x92_3 + 1)), (by first | rfl | (simp; done) | (simp [*]; done)), H', ⟨by have := HJ1.out; have := HK2.out; have := HK3.out; omega⟩, ⟨by (with_reducible repeat (first | apply Kd.R_alloc | apply Kd.R_drewN | apply Kd.R_drew)); exact HO_3.out⟩, ⟨by (with_reducible repeat (first | apply Kd.R_alloc | apply Kd.R_drewN | apply Kd.R_drew)); exact HO_90.out⟩, ⟨by (with_reducible repeat (first | refine blk_drewN ?_ _ | refine blk_drew ?_ | refine blk_alloc ?_ _)); exact BK171.out⟩, ⟨by repeat (first | (with_reducible first | exact HB.out | apply below_alloc | apply pw_below_drewN | apply below_drew1 | refine below_set ?_ GE171.out) | exact HB.out)⟩⟩
                                · replace c73 := Bool.eq_false_iff.mpr c73
                                  subst c73
                                  have H1 : (spec_GoodHeap.l2 k3 x3_2 x4_2 (x4_2.length : Int) (wrap64 (x92_3 + 1))) = some r := by rw [if_neg (show ¬ (false = true) by decide)] at H; exact H
                                  clear H
                                  have H := H1
                                  clear H1
                                  have H' := Aside0.mk H
                                  clear H
                                  have p190 : 0 ≤ (x92_3 : Int) := of_decide_eq_true (by first | (with_reducible assumption) | assumption)
                                  have q190 : x92_3 < (x4_2.length : Int) := of_decide_eq_true (by first | (with_reducible assumption) | assumption)
                                  obtain ⟨ad190, e190, hx190_0⟩ := Kd.at_bool (Kd.R_reads' HO_90.out).2.2 x92_3 p190 q190
                                  (try rw [← Nbq72.out] at hx190_0)
                                  cases e190
                                  replace p190 := eq_true p190
                                  replace q190 := eq_true q190
                                  obtain ⟨Ao77, co77, eo77⟩ := Kd.R_slice HO_3.out
                                  subst eo77
                                  have p191 : 0 ≤ (x92_3 : Int) := of_decide_eq_true (by first | (with_reducible assumption) | assumption)
                                  have q191 : x92_3 < (x3_2.length : Int) := of_decide_eq_true (by first | (with_reducible assumption) | assumption)
                                  obtain ⟨ad191, e191, hx191_0⟩ := Kd.at_int (Kd.R_reads' HO_3.out).2.2 x92_3 p191 q191
                                  cases e191
                                  replace p191 := eq_true p191
                                  replace q191 := eq_true q191
                                  go_wp2
                                  repeat (go_quiet (fail); try go_wp2)
                                  go_roundg k3
                                  case measure => have := HJ1.out; have := HK2.out; have := HK3.out; omega
                                  case rel => exact ⟨(wrap64 (x92_3 + 1)), (by first | rfl | (simp; done) | (simp [*]; done)), H', ⟨by have := HJ1.out; have := HK2.out; have := HK3.out; omega⟩, ⟨by (with_reducible repeat (first | apply Kd.R_alloc | apply Kd.R_drewN | apply Kd.R_drew)); exact HO_3.out⟩, ⟨by (with_reducible repeat (first | apply Kd.R_alloc | apply Kd.R_drewN | apply Kd.R_drew)); exact HO_90.out⟩, ⟨by (with_reducible repeat (first | refine blk_drewN ?_ _ | refine blk_drew ?_ | refine blk_alloc ?_ _)); exact BK171.out⟩, ⟨by repeat (first | (with_reducible first | exact HB.out | apply below_alloc | apply pw_below_drewN | apply below_drew1 | refine below_set ?_ GE171.out) | exact HB.out)⟩⟩
                            · rw [if_neg c69] at H
                              exact absurd H (by simp)
                          · rw [if_neg c68] at H
                            exact absurd H (by simp)
                        · rw [if_neg c67] at H
                          exact absurd H (by simp)
                      · rw [if_neg c66] at H
                        have c66b0 : decide (x92_3 < (x4_2.length : Int)) = false := decide_eq_false c66
                        clear c66
                        obtain rfl := Option.some.inj H
                        go_wp2
                        repeat (go_quiet (fail); try go_wp2)
                        go_ret
                        exact ⟨by first | rfl | (simp [errW_none, errW_some] <;> rfl) | (simp [*, errW_none, errW_some] <;> rfl), by repeat (first | (with_reducible first | exact HB.out | apply below_alloc | apply pw_below_drewN | apply below_drew1 | refine below_set ?_ GE171.out) | exact HB.out)⟩
          · rw [if_neg c10] at H
            exact absurd H (by simp)
        · rw [if_neg c9] at H
          exact absurd H (by simp)

end Go.Proofs.Ytafkbhkikdndnaa.PFnExactAllBlocks

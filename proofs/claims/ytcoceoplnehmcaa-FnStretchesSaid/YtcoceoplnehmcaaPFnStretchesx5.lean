/- Lean functions with the same answers as the Go functions that one law reaches, and for each a proof that its call comes to just these answers. No condition. Written by pr.py, a program of this session. -/
import Derived.Test.YtcoceoplnehmcaaPFnStretchesx0
import Derived.Test.YtcoceoplnehmcaaPFnStretchesx2
import Derived.Test.YtcoceoplnehmcaaPFnStretchesx3
import Derived.Test.YtcoceoplnehmcaaPFnStretchesx4
namespace Go.Proofs.Ytcoceoplnehmcaa.PFnStretches
open Go.RowKit Go.Proofs.YtcoceoplnehmcaaW.PrintWords Go.Proofs.YtcoceoplnehmcaaW.PrintLast Go.Proofs.YtcoceoplnehmcaaW.PrintMore
attribute [local go_sem] max2_int min2_int max_two min_two max_three min_three max_four min_four   -- for this text's walks alone
set_option linter.unusedVariables false
set_option linter.unusedSimpArgs false

/-! ### impl_run: function 57 -/
def impl_run.l0 : Nat → Int → List Int → Int → Int → Option (List Int)
  | 0, _, _, _, _ => none
  | k + 1, x0, x5, x7, x8 => if x8 < x7 then (if x5.length < 17592186044416 then (impl_run.l0 k x0 (x5 ++ [wrap64 (x0 + x8)]) x7 (wrap64 (x8 + 1))) else (none)) else (some x5)
def impl_run.f (k : Nat) (a0 : Int) (a1 : Int) : Option (List Int) := impl_run.l0 k a0 ([] : List Int) a1 0
theorem impl_run.mono_l : ∀ k, (∀ y0 y1 y2 y3, LeO (impl_run.l0 k y0 y1 y2 y3) (impl_run.l0 (k + 1) y0 y1 y2 y3))
  | 0 => fun _ _ _ _ r h => by simp [impl_run.l0] at h
  | k + 1 => by
    have ih0 := impl_run.mono_l k
    · intro y0 y1 y2 y3
      unfold impl_run.l0
      repeat' first
      | (with_reducible exact ih0 _ _ _ _)
      | (with_reducible exact LeO.refl _)
      | (with_reducible exact LeO.none _)
      | (with_reducible refine LeO.ite ?_ ?_)
      | (with_reducible refine LeO.bind ?_ (fun _ => ?_))
      | exact ih0 _ _ _ _
      | exact LeO.none _
      | refine LeO.ite ?_ ?_
      | refine LeO.bind ?_ (fun _ => ?_)
theorem impl_run.mono : ∀ a0 a1 k, LeO (impl_run.f k a0 a1) (impl_run.f (k + 1) a0 a1) := by
  intro a0 a1 k
  have ih0 := impl_run.mono_l k
  unfold impl_run.f
  repeat' first
      | (with_reducible exact ih0 _ _ _ _)
      | (with_reducible exact LeO.refl _)
      | (with_reducible exact LeO.none _)
      | (with_reducible refine LeO.ite ?_ ?_)
      | (with_reducible refine LeO.bind ?_ (fun _ => ?_))
      | exact ih0 _ _ _ _
      | exact LeO.none _
      | refine LeO.ite ?_ ?_
      | refine LeO.bind ?_ (fun _ => ?_)
set_option maxHeartbeats 8000000 in
set_option maxRecDepth 100000 in
theorem impl_run.calls (k : Nat) (a0 : Int) (a1 : Int) (r : List Int) (w : World) (h : impl_run.f k a0 a1 = some r) :
    Calls Try.prog 57 #[.int .i64 a0, .int .i64 a1] w fun e w' => ∃ v0_ : Value, e = .returned (v0_) ∧ Kd.R (Kd.int .i64) 3 w' w.heap.size (fun _ => True) v0_ r ∧ Below w.heap.size w w' := by
  have HB := Aside0.mk (Below.refl w.heap.size w)
  have H : (impl_run.l0 k a0 ([] : List Int) a1 0) = some r := h
  clear h
  have H' := Aside0.mk H
  clear H
  go_enter Try.func57, Try.ntmps57
  go_wp2
  go_loopg [5, 8] k (fun kq v5 v8 w' => ∃ (x5_1 : List Int) (x8_1 : Int), v8 = .int .i64 x8_1 ∧ Aside0 (impl_run.l0 kq a0 x5_1 a1 x8_1 = some r) ∧ Aside0 (kq ≤ k) ∧ Aside0 (Kd.R (Kd.int .i64) 3 w' w.heap.size (fun _ => True) v5 x5_1) ∧ Aside0 (Below w.heap.size w w'))
  case atStart => exact ⟨(([] : List Int)), (0), (by first | rfl | (simp; done) | (simp [*]; done)), H', ⟨Nat.le_refl _⟩, ⟨by first | exact Kd.R_nil _ _ _ _ _ | exact Kd.N_nil _ _ _ _ _ | exact Kd.V_nil _ _ _ _ _ | exact Kd.Q_nil _ _ _ _ _ | exact Kd.S_nil _ _ _ _ _⟩, ⟨by repeat (first | (with_reducible first | exact HB.out | apply below_alloc | apply pw_below_drewN | apply below_drew1) | exact HB.out)⟩⟩
  case round =>
    clear H'
    try clear p2
    obtain ⟨x5_1, x8_1, rfl, HA, HK1, HO_5, HB⟩ := hrel
    cases gk with
    | zero => exact absurd HA.out (by simp [impl_run.l0])
    | succ k1 =>
      have H := HA.out
      clear HA
      simp only [impl_run.l0] at H
      by_cases c3 : x8_1 < a1
      · rw [if_pos c3] at H
        have c3b0 : decide (x8_1 < a1) = true := decide_eq_true c3
        clear c3
        by_cases c4 : x5_1.length < 17592186044416
        · rw [if_pos c4] at H
          have LMc4 := Aside0.mk c4
          clear c4
          obtain ⟨y172, hy172⟩ : ∃ y_ : List Int, y_ = (x5_1 ++ [wrap64 (a0 + x8_1)]) := ⟨_, rfl⟩
          replace H : (impl_run.l0 k1 a0 y172 a1 (wrap64 (x8_1 + 1))) = some r := by first | (rw [hy172]; with_reducible exact H) | (have H2_ := (Option.bind_some _ _).symm.trans H; rw [hy172]; with_reducible exact H2_) | (have H2_ := (Option.bind_some _ _).symm.trans H; with_reducible exact H2_) | with_reducible exact H | (rw [hy172]; exact H) | exact H
          have Ny172 := Aside0.mk hy172
          clear hy172
          have H' := Aside0.mk H
          clear H
          go_wp2_with (first | ((with_reducible refine gate_builtin (b := .append) (xs := #[.tmp 11, .tmp 15]) rfl ?_); at_builtin; refine Kd.R_append (Kd.int .i64) (w0 := w) w.heap.size rfl (.tmp 11) (.tmp 15) 29 3 (.int .i64 0) 8 rfl Try.underlying29 info3 rfl (by decide) (by omega) u5 x5_1 (wrap64 (a0 + x8_1)) [.int .i64 (wrap64 (a0 + x8_1))] (fun _ => True) (fun _ => False) rfl rfl ?aP (fun _ hk => hk.elim) ?aF ?aO ?aB ?aS ?aL ?_; (case aP => exact rfl); (case aB => exact (by repeat (first | (with_reducible first | exact HB.out | apply below_alloc | apply pw_below_drewN | apply below_drew1) | exact HB.out))); (case aF => exact (fun _ _ => trivial)); (case aO => exact (by (with_reducible repeat (first | apply Kd.R_alloc | apply Kd.R_drewN | apply Kd.R_drew)); exact HO_5.out)); (case aS => exact (below_size (by repeat (first | (with_reducible first | exact HB.out | apply below_alloc | apply pw_below_drewN | apply below_drew1) | exact HB.out)))); (case aL => have := LMc4.out; omega); intro v173 w5 ho hb hg hat; rw [← Ny172.out] at ho; have n0_ := Aside0.mk (hb); have n1_ := Aside0.mk (ho); clear HB; clear HO_5; have HB := n0_; have HO174 := n1_; clear n0_ n1_; clear ho hb hg hat))
          go_roundg k1
          case measure => have := HK1.out; omega
          case rel => exact ⟨(y172), (wrap64 (x8_1 + 1)), (by first | rfl | (simp; done) | (simp [*]; done)), H', ⟨by have := HK1.out; omega⟩, ⟨by (with_reducible repeat (first | apply Kd.R_alloc | apply Kd.R_drewN | apply Kd.R_drew)); exact HO174.out⟩, ⟨by repeat (first | (with_reducible first | exact HB.out | apply below_alloc | apply pw_below_drewN | apply below_drew1) | exact HB.out)⟩⟩
        · rw [if_neg c4] at H
          exact absurd H (by simp)
      · rw [if_neg c3] at H
        have c3b0 : decide (x8_1 < a1) = false := decide_eq_false c3
        clear c3
        obtain rfl := Option.some.inj H
        go_wp2
        go_ret
        exact ⟨_, by first | rfl | (simp [errW_none, errW_some] <;> rfl) | (simp [*, errW_none, errW_some] <;> rfl), by (with_reducible repeat (first | apply Kd.R_alloc | apply Kd.R_drewN | apply Kd.R_drew)); exact HO_5.out, by repeat (first | (with_reducible first | exact HB.out | apply below_alloc | apply pw_below_drewN | apply below_drew1) | exact HB.out)⟩

/-! ### bits_Mul: function 72 (ours) -/
set_option maxHeartbeats 4000000 in
set_option maxRecDepth 100000 in
theorem fx_mul (w : World) : Calls Try.prog 72 #[.int .u64 1, .int .u64 16] w fun e w' => e = .returned (.tuple #[.int .u64 0, .int .u64 16]) ∧ w' = w := by
  go_enter Try.func72, Try.ntmps72
  go_wp2
  go_ret2
  exact ⟨by first | rfl | kernel_rfl, rfl⟩
theorem alloc_at (w : World) (o : Obj) : (w.alloc o).heap[w.heap.size]? = some o := by
  show (w.heap.push o)[w.heap.size]? = some o
  rw [Array.getElem?_push, if_pos rfl]
theorem rep_cell (W : World) (g : Nat) (vx : Value) {z : Value} {t : TypeId} (n j : Nat) (hj : j < n) (h : W.heap[g]? = some (.cells (List.replicate n vx ++ List.replicate (16 - n) z).toArray t (0, 0))) : W.cell? ((⟨g, 0, none⟩ : Addr).add j) = some vx := by
  rw [show ((⟨g, 0, none⟩ : Addr).add j) = ⟨g, j, none⟩ by rw [Addr.add_lit, Nat.zero_add]]
  rw [cell_of_row W g j _ t (0, 0) h]
  rw [List.getElem?_toArray, List.getElem?_append_left (by simpa using hj), List.getElem?_replicate, if_pos hj]
/-- One cell laid over a row that is half full: as many again. -/
theorem splice_rep (v z : Value) (n m : Nat) (h : m ≤ 16 - n) : splice (List.replicate n v ++ List.replicate (16 - n) z) n (List.replicate m v) = List.replicate (n + m) v ++ List.replicate (16 - (n + m)) z := by
  unfold splice
  rw [List.take_left' (by simp), List.drop_append]
  have e : List.drop (n + (List.replicate m v).length) (List.replicate n v) = [] := List.drop_eq_nil_of_le (by simp)
  rw [e, List.nil_append, List.drop_replicate, ← List.append_assoc, List.replicate_append_replicate]
  simp only [List.length_replicate]
  congr 2
  omega

/-! ### slices_Repeat_int_int: function 68 (ours) -/
set_option maxHeartbeats 4000000 in
set_option maxRecDepth 100000 in
theorem fx_rep_int (c : Nat) (vx : Value) (hv1 : vx.oneCell' = true) (ad : Addr) (w : World) (hc : w.cell? ad = some vx) (had : ad.block < w.heap.size) :
    Calls Try.prog 68 #[.slice (some ad) 1 c, .int .i64 16] w fun e w' => e = .returned (.slice (some ⟨w.heap.size, 0, none⟩) 16 16) ∧ Hid (w'.heap[w.heap.size]? = some (.cells (List.replicate 16 vx).toArray 3 (0, 0))) ∧ Below w.heap.size w w' := by
  have hmk := print_make_int (P := Try.prog) 29 3 (.int .i64 0) 8 Try.underlying29 (by kernel_rfl) rfl (by decide) 16 (by decide) (by decide)
  have hw1 : Below w.heap.size w (w.alloc (.cells (madeCells #[.int .i64 0] 16) 3)) := (Below.refl _ w).alloc (Nat.le_refl _) _
  have hc1 : (w.alloc (.cells (madeCells #[.int .i64 0] 16) 3)).cell? ad = some vx := (hw1.cell (p := ad) had).trans hc
  have hg1 : (w.alloc (.cells (madeCells #[.int .i64 0] 16) 3)).heap[w.heap.size]? = some (.cells (List.replicate 16 (.int .i64 0 : Value)).toArray 3 (0, 0)) := by
    rw [show madeCells #[(.int .i64 0 : Value)] 16 = (List.replicate 16 (.int .i64 0 : Value)).toArray from Array.ext' (by rw [toList_madeCells_one])]
    exact alloc_at _ _
  have hs1 : ∀ (j : Nat) (v : Value), [vx][j]? = some v → (w.alloc (.cells (madeCells #[.int .i64 0] 16) 3)).cell? (ad.add j) = some v := fun j v hj => by
    match j, hj with
    | 0, hj => simp at hj; subst hj; exact hc1
    | j + 1, hj => simp at hj
  have HS1 := Aside0.mk hs1
  clear hs1
  have HC1 := Aside0.mk hc1
  have HG1 := Aside0.mk hg1
  have HW1 := Aside0.mk hw1
  clear hw1 hc1 hg1
  go_enter Try.func68, Try.ntmps68
  go_wp2_with (first | (go_at_call 72; refine (fx_mul _).mono ?_; rintro e w' ⟨rfl, hw⟩; subst w') | ((with_reducible refine gate_dst (N := 33) rfl ?_); refine wpList_copy_splice rfl (.tmp 31) (.tmp 32) 29 29 rfl 3 Try.underlying29 (by kernel_rfl) _ _ 16 16 1 c rfl rfl w.heap.size 0 (List.replicate 16 (.int .i64 0 : Value)) 3 HG1.out [vx] (by simp) (fun _ => ⟨rfl, ad, rfl, HS1.out⟩) (by simp) (by simpa using hv1) w.heap.size w HW1.out (Nat.le_refl _) ?_; intro w2 hg2 hb2))
  have HG2 := Aside0.mk (show w2.heap[w.heap.size]? = some (.cells (List.replicate 1 vx ++ List.replicate (16 - 1) (.int .i64 0 : Value)).toArray 3 (0, 0)) from by
    have h : w2.heap[w.heap.size]? = some (.cells (splice (List.replicate 16 (.int .i64 0 : Value)) 0 [vx]).toArray 3 (0, 0)) := hg2
    rw [h]
    exact congrArg (fun z => some (Obj.cells (List.toArray z) 3 (0, 0))) (splice_rep vx (.int .i64 0) 0 1 (by decide)))
  have HB2 := Aside0.mk hb2
  clear hg2 hb2
  go_loopg [8] 4 (fun gk s8 wr => ∃ n : Nat, ∃ ni : Int, (n, ni, gk) ∈ ([(1, 1, 4), (2, 2, 3), (4, 4, 2), (8, 8, 1), (16, 16, 0)] : List (Nat × Int × Nat)) ∧ s8 = .int .i64 ni ∧ Aside0 (wr.heap[w.heap.size]? = some (.cells (List.replicate n vx ++ List.replicate (16 - n) (.int .i64 0 : Value)).toArray 3 (0, 0))) ∧ Aside0 (Below w.heap.size w wr))
  case atStart => exact ⟨1, 1, by simp, rfl, HG2, HB2⟩
  case round =>
    obtain ⟨n, ni, hm, rfl, HG, HB⟩ := hrel
    simp only [List.mem_cons, Prod.mk.injEq, List.not_mem_nil, or_false] at hm
    rcases hm with ⟨rfl, rfl, rfl⟩ | ⟨rfl, rfl, rfl⟩ | ⟨rfl, rfl, rfl⟩ | ⟨rfl, rfl, rfl⟩ | ⟨rfl, rfl, rfl⟩
    · have hcs : ∀ (W : World), W.heap = wr.heap → ∀ (j : Nat) (v : Value), (List.replicate 1 vx)[j]? = some v → W.cell? ((⟨w.heap.size, 0, none⟩ : Addr).add j) = some v := fun W hW j v hj => by
        have hj2 : j < 1 := by
          have := (List.getElem?_eq_some_iff.1 hj).1
          simpa using this
        rw [List.getElem?_replicate, if_pos hj2] at hj
        obtain rfl := Option.some.inj hj
        exact rep_cell W w.heap.size vx 1 j hj2 (by rw [hW]; exact HG.out)
      have HCS := Aside0.mk hcs
      clear hcs
      go_wp2
      go_region_law (refine step_copy_splice rfl (.tmp 41) (.tmp 44) 29 29 rfl 3 Try.underlying29 (by kernel_rfl) (some ⟨w.heap.size, 1, none⟩) (some ⟨w.heap.size, 0, none⟩) 15 15 1 16 (by simp [Act.eval, Act.put]) (by simp [Act.eval, Act.put]) w.heap.size 1 (List.replicate 1 vx ++ List.replicate (16 - 1) (.int .i64 0 : Value)) 3 HG.out (List.replicate 1 vx) (by simp) (fun _ => ⟨rfl, _, rfl, HCS.out _ rfl⟩) (by simp) (fun v hv => by rw [List.eq_of_mem_replicate hv]; exact hv1) w.heap.size w (pw_below_drewN HB.out 1) (Nat.le_refl _) ?_; intro w4 hg4 hb4; clear HG HB HCS; have HG := Aside0.mk hg4; have HB := Aside0.mk hb4; clear hg4 hb4)
      all_goals
        go_wp2
        go_roundg 3
        case measure => omega
        case rel =>
          refine ⟨2, 2, by simp, by go_num, ⟨?_⟩, HB⟩
          have h := HG.out
          rw [splice_rep vx (.int .i64 0) 1 1 (by decide)] at h
          exact h
    · have hcs : ∀ (W : World), W.heap = wr.heap → ∀ (j : Nat) (v : Value), (List.replicate 2 vx)[j]? = some v → W.cell? ((⟨w.heap.size, 0, none⟩ : Addr).add j) = some v := fun W hW j v hj => by
        have hj2 : j < 2 := by
          have := (List.getElem?_eq_some_iff.1 hj).1
          simpa using this
        rw [List.getElem?_replicate, if_pos hj2] at hj
        obtain rfl := Option.some.inj hj
        exact rep_cell W w.heap.size vx 2 j hj2 (by rw [hW]; exact HG.out)
      have HCS := Aside0.mk hcs
      clear hcs
      go_wp2
      go_region_law (refine step_copy_splice rfl (.tmp 41) (.tmp 44) 29 29 rfl 3 Try.underlying29 (by kernel_rfl) (some ⟨w.heap.size, 2, none⟩) (some ⟨w.heap.size, 0, none⟩) 14 14 2 16 (by simp [Act.eval, Act.put]) (by simp [Act.eval, Act.put]) w.heap.size 2 (List.replicate 2 vx ++ List.replicate (16 - 2) (.int .i64 0 : Value)) 3 HG.out (List.replicate 2 vx) (by simp) (fun _ => ⟨rfl, _, rfl, HCS.out _ rfl⟩) (by simp) (fun v hv => by rw [List.eq_of_mem_replicate hv]; exact hv1) w.heap.size w (pw_below_drewN HB.out 1) (Nat.le_refl _) ?_; intro w4 hg4 hb4; clear HG HB HCS; have HG := Aside0.mk hg4; have HB := Aside0.mk hb4; clear hg4 hb4)
      all_goals
        go_wp2
        go_roundg 2
        case measure => omega
        case rel =>
          refine ⟨4, 4, by simp, by go_num, ⟨?_⟩, HB⟩
          have h := HG.out
          rw [splice_rep vx (.int .i64 0) 2 2 (by decide)] at h
          exact h
    · have hcs : ∀ (W : World), W.heap = wr.heap → ∀ (j : Nat) (v : Value), (List.replicate 4 vx)[j]? = some v → W.cell? ((⟨w.heap.size, 0, none⟩ : Addr).add j) = some v := fun W hW j v hj => by
        have hj2 : j < 4 := by
          have := (List.getElem?_eq_some_iff.1 hj).1
          simpa using this
        rw [List.getElem?_replicate, if_pos hj2] at hj
        obtain rfl := Option.some.inj hj
        exact rep_cell W w.heap.size vx 4 j hj2 (by rw [hW]; exact HG.out)
      have HCS := Aside0.mk hcs
      clear hcs
      go_wp2
      go_region_law (refine step_copy_splice rfl (.tmp 41) (.tmp 44) 29 29 rfl 3 Try.underlying29 (by kernel_rfl) (some ⟨w.heap.size, 4, none⟩) (some ⟨w.heap.size, 0, none⟩) 12 12 4 16 (by simp [Act.eval, Act.put]) (by simp [Act.eval, Act.put]) w.heap.size 4 (List.replicate 4 vx ++ List.replicate (16 - 4) (.int .i64 0 : Value)) 3 HG.out (List.replicate 4 vx) (by simp) (fun _ => ⟨rfl, _, rfl, HCS.out _ rfl⟩) (by simp) (fun v hv => by rw [List.eq_of_mem_replicate hv]; exact hv1) w.heap.size w (pw_below_drewN HB.out 1) (Nat.le_refl _) ?_; intro w4 hg4 hb4; clear HG HB HCS; have HG := Aside0.mk hg4; have HB := Aside0.mk hb4; clear hg4 hb4)
      all_goals
        go_wp2
        go_roundg 1
        case measure => omega
        case rel =>
          refine ⟨8, 8, by simp, by go_num, ⟨?_⟩, HB⟩
          have h := HG.out
          rw [splice_rep vx (.int .i64 0) 4 4 (by decide)] at h
          exact h
    · have hcs : ∀ (W : World), W.heap = wr.heap → ∀ (j : Nat) (v : Value), (List.replicate 8 vx)[j]? = some v → W.cell? ((⟨w.heap.size, 0, none⟩ : Addr).add j) = some v := fun W hW j v hj => by
        have hj2 : j < 8 := by
          have := (List.getElem?_eq_some_iff.1 hj).1
          simpa using this
        rw [List.getElem?_replicate, if_pos hj2] at hj
        obtain rfl := Option.some.inj hj
        exact rep_cell W w.heap.size vx 8 j hj2 (by rw [hW]; exact HG.out)
      have HCS := Aside0.mk hcs
      clear hcs
      go_wp2
      go_region_law (refine step_copy_splice rfl (.tmp 41) (.tmp 44) 29 29 rfl 3 Try.underlying29 (by kernel_rfl) (some ⟨w.heap.size, 8, none⟩) (some ⟨w.heap.size, 0, none⟩) 8 8 8 16 (by simp [Act.eval, Act.put]) (by simp [Act.eval, Act.put]) w.heap.size 8 (List.replicate 8 vx ++ List.replicate (16 - 8) (.int .i64 0 : Value)) 3 HG.out (List.replicate 8 vx) (by simp) (fun _ => ⟨rfl, _, rfl, HCS.out _ rfl⟩) (by simp) (fun v hv => by rw [List.eq_of_mem_replicate hv]; exact hv1) w.heap.size w (pw_below_drewN HB.out 1) (Nat.le_refl _) ?_; intro w4 hg4 hb4; clear HG HB HCS; have HG := Aside0.mk hg4; have HB := Aside0.mk hb4; clear hg4 hb4)
      all_goals
        go_wp2
        go_roundg 0
        case measure => omega
        case rel =>
          refine ⟨16, 16, by simp, by go_num, ⟨?_⟩, HB⟩
          have h := HG.out
          rw [splice_rep vx (.int .i64 0) 8 8 (by decide)] at h
          exact h
    · go_wp2
      go_ret
      exact ⟨rfl, by have h := HG.out; simpa [Hid] using h, HB.out⟩
def slices_Repeat_int_int.f (l0 : List Int) (a1 : Int) : Option (List Int) := if a1 = 16 then (match l0 with | [x] => some (List.replicate 16 x) | _ => none) else none
theorem slices_Repeat_int_int_encs (x : Int) (n : Nat) : encs (fun y : Int => (.int .i64 y : Value)) (List.replicate n x) = List.replicate n (.int .i64 x : Value) := by simp [encs]
theorem slices_Repeat_int_int.calls (A0 : Option Addr) (c0 : Nat) (l0 : List Int) (a1 : Int) (r : List Int) (w : World) (hr0 : Kd.C (Kd.int .i64) w A0 l0.length l0) (hc0 : l0.length ≤ c0) (h : slices_Repeat_int_int.f l0 a1 = some r) :
    Calls Try.prog 68 #[.slice A0 l0.length c0, .int .i64 a1] w fun e w' => ∃ v0_ : Value, e = .returned v0_ ∧ Kd.R (Kd.int .i64) 3 w' w.heap.size (fun _ => True) v0_ r ∧ Below w.heap.size w w' := by
  unfold slices_Repeat_int_int.f at h
  by_cases ha : a1 = 16
  · rw [if_pos ha] at h
    subst ha
    match l0, h, hr0, hc0 with
    | [x], h, hr0, hc0 =>
      obtain rfl := Option.some.inj h
      obtain ⟨ad, rfl, hcells⟩ := hr0.2.2 (by simp)
      obtain ⟨cs, hcl, hk, hcell⟩ := hcells 0 x rfl
      obtain rfl : cs = [(.int .i64 x : Value)] := hk
      have h0 : w.cell? ad = some (.int .i64 x : Value) := hcell 0 _ rfl
      have hlt : ad.block < w.heap.size := World.block_lt_of_cell? w ad h0
      refine (fx_rep_int c0 (.int .i64 x : Value) rfl ad w h0 hlt).mono ?_
      rintro e w' ⟨rfl, hg, hb⟩
      have hg' : w'.heap[w.heap.size]? = some (.cells (List.replicate 16 (.int .i64 x : Value)).toArray 3 (0, 0)) := hg
      refine ⟨_, rfl, ⟨fun _ _ => trivial, List.replicate 16 (.int .i64 x : Value), ?_, ?_⟩, hb⟩
      · exact ⟨by simp; rfl, .inr ⟨w.heap.size, 16, _, by simp, Nat.le_refl _, hg', by simp, by decide, by simp; rfl, by simp; rfl⟩⟩
      · have := Kd.reps_scalar (enc := fun y : Int => (.int .i64 y : Value)) (List.replicate 16 x)
        rw [slices_Repeat_int_int_encs] at this
        exact this
    | [], h, _, _ => cases h
    | _ :: _ :: _, h, _, _ => cases h
  · rw [if_neg ha] at h
    cases h

/-! ### impl_places: function 55 (ours) -/
def encI (x : Int) : Value := .int .i64 x
theorem splice_map (out r : List Int) (a : Nat) : splice (out.map encI) a (r.map encI) = (splice out a r).map encI := by simp [splice, List.map_take, List.map_drop]
def placeStep (k : Nat) (out : List Int) (x : S47) : Option (List Int) := if 0 ≤ x.f0 then (impl_run.f k x.f2 x.f1).bind fun r => if 0 < r.length ∧ x.f0.toNat + r.length ≤ 16 then some (splice out x.f0.toNat r) else none else none
def placesF (k : Nat) : List Int → List S47 → Option (List Int)
  | out, [] => some out
  | out, x :: l => (placeStep k out x).bind fun o => placesF k o l
theorem placeStep_mono (k : Nat) (out : List Int) (x : S47) : LeO (placeStep k out x) (placeStep (k + 1) out x) := by
  unfold placeStep
  exact LeO.ite (LeO.bind (impl_run.mono x.f2 x.f1 k) fun _ => LeO.refl _) (LeO.refl _)
theorem placesF_mono (k : Nat) : ∀ (l : List S47) (out : List Int), LeO (placesF k out l) (placesF (k + 1) out l)
  | [], out => LeO.refl _
  | x :: l, out => LeO.bind (placeStep_mono k out x) fun o => placesF_mono k l o
def impl_places.f (k : Nat) (l0 : List S47) : Option (List Int) := placesF k (List.replicate 16 (-1)) l0
theorem reads_enc {W : World} {A : Option Addr} {rr : List Int} (hC : Kd.C (Kd.int .i64) W A rr.length rr) (h0 : 0 < rr.length) : ∃ ad, A = some ad ∧ ∀ (j : Nat) (v : Value), (rr.map encI)[j]? = some v → W.cell? (ad.add j) = some v := by
  obtain ⟨ad, rfl, hcells⟩ := hC.2.2 h0
  refine ⟨ad, rfl, fun j v hj => ?_⟩
  rw [List.getElem?_map] at hj
  obtain ⟨x, hx, rfl⟩ := Option.map_eq_some_iff.1 hj
  obtain ⟨cs, _, hk, hcell⟩ := hcells j x hx
  obtain rfl : cs = [.int .i64 x] := hk
  have := hcell 0 _ rfl
  simpa [show (Kd.int .i64).sz = 1 from rfl, encI] using this
theorem impl_places.mono : ∀ a0 k, LeO (impl_places.f k a0) (impl_places.f (k + 1) a0) := fun a0 k => placesF_mono k a0 _
set_option maxHeartbeats 4000000 in
set_option maxRecDepth 100000 in
theorem impl_places.row (k : Nat) (A0 : Option Addr) (c0 : Nat) (l0 : List S47) (r : List Int) (w : World) (hr0 : Kd.C k47 w A0 l0.length l0) (hc0 : l0.length ≤ c0) (h : impl_places.f k l0 = some r) :
    Calls Try.prog 55 #[.slice A0 l0.length c0] w fun e w' => e = .returned (.slice (some ⟨w.heap.size + 1, 0, none⟩) 16 16) ∧ r.length = 16 ∧ w'.heap[w.heap.size + 1]? = some (.cells (r.map encI).toArray 3 (0, 0)) ∧ Below w.heap.size w w' := by
  obtain ⟨W1, hW1⟩ : ∃ W1, W1 = w.alloc (.cells #[.int .i64 (-1)] 3) := ⟨_, rfl⟩
  have hs1 : W1.heap.size = w.heap.size + 1 := by rw [hW1]; simp
  have hcB : W1.cell? ⟨w.heap.size, 0, none⟩ = some (.int .i64 (-1)) := by rw [hW1]; simp
  have hw1 : Below w.heap.size w W1 := by rw [hW1]; exact (Below.refl _ w).alloc (Nat.le_refl _) _
  have hrep := fx_rep_int 1 (.int .i64 (-1)) rfl ⟨w.heap.size, 0, none⟩ W1 hcB (by show w.heap.size < W1.heap.size; omega)
  rw [hs1] at hrep
  rw [hW1] at hrep
  have HE := Aside0.mk hW1
  have HW1 := Aside0.mk hw1
  have HS1 := Aside0.mk hs1
  clear hcB hw1 hs1 hW1
  have HC0 := Aside0.mk hc0
  have HR0 := Aside0.mk hr0
  have HH := Aside0.mk h
  obtain ⟨n, hN⟩ : ∃ n, l0.length = n := ⟨_, rfl⟩
  have hbig : n ≤ 9223372036854775807 := by rw [← hN]; exact hr0.2.1
  have HN := Aside0.mk hN
  rw [hN]
  clear hc0 hr0 h hN
  go_enter Try.func55, Try.ntmps55
  go_wp2_with (go_at_call 68; refine hrep.mono ?_; rintro e w2 ⟨rfl, hg2, hb2⟩; have HG2 := Aside0.mk hg2; have HB2 := Aside0.mk (HW1.out.trans ((show Below (w.heap.size + 1) W1 w2 by rw [HE.out]; exact hb2).mono (by omega))); clear hg2 hb2)
  clear hrep
  go_loopg [5, 10] n (fun gk s5 s10 wr => ∃ i : Nat, i + gk = n ∧ s10 = .int .i64 i ∧ ∃ out : List Int, Aside0 (placesF k out (l0.drop i) = some r) ∧ Aside0 (out.length = 16) ∧ Aside0 (wr.heap[w.heap.size + 1]? = some (.cells (out.map encI).toArray 3 (0, 0))) ∧ Aside0 (Below w.heap.size w wr))
  case atStart => exact ⟨0, by omega, rfl, List.replicate 16 (-1), HH, ⟨by simp⟩, ⟨by have h := HG2.out; simpa [encI, Hid] using h⟩, HB2⟩
  case round =>
    obtain ⟨i, hi, rfl, out, HP, HL, HG, HB⟩ := hrel
    by_cases hlt : i < n
    · have hlt' : decide ((i : Int) < (n : Int)) = true := decide_eq_true (by omega)
      have hli : i < l0.length := by rw [HN.out]; exact hlt
      obtain ⟨x, hx⟩ : ∃ x, l0[i]? = some x := ⟨_, List.getElem?_eq_getElem hli⟩
      have hC := HR0.out
      obtain ⟨ad, rfl, hcells⟩ := hC.2.2 (by omega)
      obtain ⟨cs, hcl, hk, hcell0⟩ := hcells i x hx
      obtain rfl := k47_open hk
      have hx0 : wr.cell? (ad.add (i * 3)) = some (.int .i64 x.f0) := pw_cell_below HB.out (hcell0 0 _ rfl)
      have hx1 : wr.cell? ⟨(ad.add (i * 3)).block, (ad.add (i * 3)).off + 1, none⟩ = some (.int .i64 x.f1) := by
        rw [← add_field _ _ 1 (by omega)]
        exact pw_cell_below HB.out (hcell0 1 _ rfl)
      have hx2 : wr.cell? ⟨(ad.add (i * 3)).block, (ad.add (i * 3)).off + 2, none⟩ = some (.int .i64 x.f2) := by
        rw [← add_field _ _ 2 (by omega)]
        exact pw_cell_below HB.out (hcell0 2 _ rfl)
      have hdrop : l0.drop i = x :: l0.drop (i + 1) := by
        obtain ⟨h1, h2⟩ := List.getElem?_eq_some_iff.1 hx
        rw [← h2, ← List.drop_eq_getElem_cons h1]
      have hP := HP.out
      rw [hdrop] at hP
      obtain ⟨o2, ho2, hP2⟩ := Option.bind_eq_some_iff.mp (show (placeStep k out x).bind (fun o => placesF k o (l0.drop (i + 1))) = some r from hP)
      unfold placeStep at ho2
      by_cases hf0 : 0 ≤ x.f0
      · rw [if_pos hf0] at ho2
        obtain ⟨rr, hrr, ho3⟩ := Option.bind_eq_some_iff.mp ho2
        by_cases hfit : 0 < rr.length ∧ x.f0.toNat + rr.length ≤ 16
        · rw [if_pos hfit] at ho3
          obtain rfl := Option.some.inj ho3
          have hrun := fun (W : World) => impl_run.calls k x.f2 x.f1 rr W hrr
          have HRUN := Aside0.mk hrun
          have HP2 := Aside0.mk hP2
          have HFIT := Aside0.mk hfit
          have hgk : gk = (n - (i + 1)) + 1 := by omega
          have HGK := Aside0.mk hgk
          clear hP hP2 ho2 ho3 hrr hrun hdrop hk hcl hcell0 hcells hC hgk hli hx
          obtain ⟨f0, f1, f2⟩ := x
          obtain ⟨a, rfl⟩ := Int.eq_ofNat_of_zero_le (show (0 : Int) ≤ f0 from hf0)
          have ha : a < 16 := by have := HFIT.out; simp at this; omega
          have HA := Aside0.mk ha
          have hfit2 : 0 < rr.length ∧ a + rr.length ≤ 16 := by have := HFIT.out; simpa using this
          have HF2 := Aside0.mk hfit2
          clear hfit2
          have hlim : decide ((a : Int) ≤ (16 : Int)) = true := decide_eq_true (by omega)
          have hlim1 : ¬ a = 16 := by omega
          have hlim2 : a ≤ 16 := by omega
          have hlim3 : ¬ 16 = a := by omega
          have hlim4 : (a : Int) ≤ 16 := by omega
          have hglt : w.heap.size + 1 < wr.heap.size := (Array.getElem?_eq_some_iff.1 HG.out).1
          have hAb : Below wr.heap.size wr (wr.alloc (.cells #[.int .i64 (a : Int), .int .i64 f1, .int .i64 f2] 47)) := (Below.refl _ wr).alloc (Nat.le_refl _) _
          have hgA : (wr.alloc (.cells #[.int .i64 (a : Int), .int .i64 f1, .int .i64 f2] 47)).heap[w.heap.size + 1]? = some (.cells (out.map encI).toArray 3 (0, 0)) := (hAb.block _ hglt).trans HG.out
          have HGA := Aside0.mk hgA
          have HAB := Aside0.mk (below_drew (HB.out.trans (hAb.mono HB.out.size)))
          have HGL := Aside0.mk hglt
          have hdsz : (wr.alloc (.cells #[.int .i64 (a : Int), .int .i64 f1, .int .i64 f2] 47)).drew.heap.size = wr.heap.size + 1 := by simp
          have hdc : (wr.alloc (.cells #[.int .i64 (a : Int), .int .i64 f1, .int .i64 f2] 47)).drew.cell? ⟨wr.heap.size, 0, none⟩ = some (.int .i64 (a : Int)) := by simp
          have HDS := Aside0.mk hdsz
          have HDC := Aside0.mk hdc
          have HBS := Aside0.mk HB.out.size
          clear hdsz hdc
          clear hgA hAb hglt
          go_wp2
          go_region_law (first
            | (refine goes_ Try.func57 (by kernel_rfl) rfl #[.int .i64 f2, .int .i64 f1] (by rfl) rfl rfl (by (try simp only [List.map_toArray, List.map_cons, List.map_nil]); first | done | rfl | simp [Act.eval, Act.put]) ?_
               refine (HRUN.out _).mono ?_
               rintro e w5 ⟨v5, rfl, ho5, hb5⟩
               refine ⟨_, rfl, ?_⟩
               obtain ⟨A5, c5, rfl, hc5, hC5⟩ := Kd.R_reads ho5
               have hx50 : w5.cell? ⟨wr.heap.size, 0, none⟩ = some (.int .i64 (a : Int)) := (hb5.cell (p := ⟨wr.heap.size, 0, none⟩) (by show wr.heap.size < _; rw [HDS.out]; omega)).trans HDC.out
               have HG5 := Aside0.mk ((hb5.block (w.heap.size + 1) (by rw [HDS.out]; have := HGL.out; omega)).trans HGA.out)
               have HB5 := Aside0.mk (HAB.out.trans (hb5.mono (by rw [HDS.out]; have := HBS.out; omega)))
               have HC5 := Aside0.mk hC5
               clear hC5 ho5 hb5 hc5)
            | (refine step_copy_splice rfl (.tmp 17) (.tmp 22) 29 29 rfl 3 Try.underlying29 (by kernel_rfl) (some ⟨w.heap.size + 1, a, none⟩) _ (16 - a) (16 - a) rr.length _ (by simp [Act.eval, Act.put]) (by simp [Act.eval, Act.put]; rfl) (w.heap.size + 1) a (out.map encI) 3 HG5.out (rr.map encI) (by rw [List.length_map]; exact (Nat.min_eq_left (by have := HF2.out; omega)).symm) (fun h0 => ⟨rfl, reads_enc HC5.out (by simpa using h0)⟩) (by have := HF2.out; have := HL.out; rw [List.length_map, List.length_map]; omega) (fun v hv => by obtain ⟨y, _, rfl⟩ := List.mem_map.1 hv; rfl) w.heap.size w HB5.out (by omega) ?_
               intro w6 hg6 hb6
               have HG6 := Aside0.mk hg6
               have HB6 := Aside0.mk hb6
               clear hg6 hb6))
          all_goals
            go_wp2
            go_roundg (n - (i + 1))
            case measure => omega
            case rel =>
              have hsp : Aside0 (w6.heap[w.heap.size + 1]? = some (.cells ((splice out a rr).map encI).toArray 3 (0, 0))) := ⟨by
                have h : w6.heap[w.heap.size + 1]? = some (.cells (splice (out.map encI) a (rr.map encI)).toArray 3 (0, 0)) := HG6.out
                rw [splice_map] at h
                exact h⟩
              exact ⟨i + 1, by omega, by go_num, splice out a rr, HP2, ⟨by rw [length_splice _ _ _ (by have := HF2.out; have := HL.out; omega)]; exact HL.out⟩, hsp, HB6⟩
        · rw [if_neg hfit] at ho3; cases ho3
      · rw [if_neg hf0] at ho2; cases ho2
    · have hlt' : decide ((i : Int) < (n : Int)) = false := decide_eq_false (by omega)
      obtain rfl : gk = 0 := by omega
      have hP := HP.out
      rw [List.drop_of_length_le (by rw [HN.out]; omega)] at hP
      obtain rfl := Option.some.inj (show some out = some r from hP)
      clear hP
      go_wp2
      go_ret
      exact ⟨rfl, HL.out, HG.out, HB.out⟩
theorem impl_places.calls (k : Nat) (A0 : Option Addr) (c0 : Nat) (l0 : List S47) (r : List Int) (w : World) (hr0 : Kd.C k47 w A0 l0.length l0) (hc0 : l0.length ≤ c0) (h : impl_places.f k l0 = some r) :
    Calls Try.prog 55 #[.slice A0 l0.length c0] w fun e w' => ∃ v0_ : Value, e = .returned v0_ ∧ Kd.R (Kd.int .i64) 3 w' w.heap.size (fun _ => True) v0_ r ∧ Below w.heap.size w w' := by
  refine (impl_places.row k A0 c0 l0 r w hr0 hc0 h).mono ?_
  rintro e w' ⟨rfl, hl, hg, hb⟩
  refine ⟨_, rfl, ⟨fun _ _ => trivial, r.map encI, ?_, ?_⟩, hb⟩
  · exact ⟨by show (r.map encI).length = r.length * 1; simp, .inr ⟨w.heap.size + 1, 16, _, by rw [hl], by omega, hg, by omega, by decide, by show (r.map encI).toArray.size = 16 * 1; simp [hl], by
      show (r.map encI).toArray.toList.take (r.length * 1) = r.map encI
      exact List.take_of_length_le (by simp)⟩⟩
  · exact Kd.reps_scalar (enc := encI) r

/-! ### impl_PlaceOf: function 25 -/
def impl_PlaceOf.j0 : Nat → List (S47) → Int → Bool → Option (Int × Bool)
  | 0, _, _, _ => none
  | k + 1, x0, x1, x14 => if x14 = true then (some (0, false)) else ((impl_places.f k x0).bind fun t177 => (if 0 ≤ x1 then (if x1 < (t177.length : Int) then (if (rd t177 x1) = (-1) then (some (0, false)) else (some (rd t177 x1, true))) else (none)) else (none)))
def impl_PlaceOf.f (k : Nat) (l0 : List (S47)) (a1 : Int) : Option (Int × Bool) := (impl_GoodMap.f k l0).bind fun t175 => (if t175 = true then ((impl_within.f a1 0 15).bind fun t176 => (impl_PlaceOf.j0 k l0 a1 (!t176))) else (impl_PlaceOf.j0 k l0 a1 true))
theorem impl_PlaceOf.mono_l : ∀ k, (∀ y0 y1 y2, LeO (impl_PlaceOf.j0 k y0 y1 y2) (impl_PlaceOf.j0 (k + 1) y0 y1 y2))
  | 0 => fun _ _ _ r h => by simp [impl_PlaceOf.j0] at h
  | k + 1 => by
    have ih0 := impl_PlaceOf.mono_l k
    · intro y0 y1 y2
      unfold impl_PlaceOf.j0
      repeat' first
      | (with_reducible exact ih0 _ _ _)
      | (with_reducible exact impl_GoodMap.mono _ _)
      | (with_reducible exact impl_places.mono _ _)
      | (with_reducible exact LeO.refl _)
      | (with_reducible exact LeO.none _)
      | (with_reducible refine LeO.ite ?_ ?_)
      | (with_reducible refine LeO.bind ?_ (fun _ => ?_))
      | exact ih0 _ _ _
      | exact impl_GoodMap.mono _ _
      | exact impl_places.mono _ _
      | exact LeO.none _
      | refine LeO.ite ?_ ?_
      | refine LeO.bind ?_ (fun _ => ?_)
theorem impl_PlaceOf.mono : ∀ a0 a1 k, LeO (impl_PlaceOf.f k a0 a1) (impl_PlaceOf.f (k + 1) a0 a1) := by
  intro a0 a1 k
  have ih0 := impl_PlaceOf.mono_l k
  unfold impl_PlaceOf.f
  repeat' first
      | (with_reducible exact ih0 _ _ _)
      | (with_reducible exact impl_GoodMap.mono _ _)
      | (with_reducible exact impl_places.mono _ _)
      | (with_reducible exact LeO.refl _)
      | (with_reducible exact LeO.none _)
      | (with_reducible refine LeO.ite ?_ ?_)
      | (with_reducible refine LeO.bind ?_ (fun _ => ?_))
      | exact ih0 _ _ _
      | exact impl_GoodMap.mono _ _
      | exact impl_places.mono _ _
      | exact LeO.none _
      | refine LeO.ite ?_ ?_
      | refine LeO.bind ?_ (fun _ => ?_)
set_option maxHeartbeats 8000000 in
set_option maxRecDepth 100000 in
theorem impl_PlaceOf.calls (k : Nat) (A0 : Option Addr) (c0 : Nat) (l0 : List (S47)) (a1 : Int) (r1 : Int) (r2 : Bool) (w : World) (hr0 : Kd.C k47 w A0 l0.length l0) (hc0 : l0.length ≤ c0) (h : impl_PlaceOf.f k l0 a1 = some (r1, r2)) :
    Calls Try.prog 25 #[.slice A0 l0.length c0, .int .i64 a1] w fun e w' => e = .returned (.tuple #[.int .i64 r1, .bool r2]) ∧ Below w.heap.size w w' := by
  have HR0 := Aside0.mk hr0
  have HC0 := Aside0.mk hc0
  clear hr0 hc0
  have HB := Aside0.mk (Below.refl w.heap.size w)
  have H : ((impl_GoodMap.f k l0).bind fun t175 => (if t175 = true then ((impl_within.f a1 0 15).bind fun t176 => (impl_PlaceOf.j0 k l0 a1 (!t176))) else (impl_PlaceOf.j0 k l0 a1 true))) = some (r1, r2) := h
  clear h
  have HC3 := Aside0.mk H
  clear H
  go_enter Try.func25, Try.ntmps25
  go_upto_region 1 with (fail)
  go_cut [14] (fun v14 wc => ∃ (kq : Nat) (x14_2 : Bool), v14 = .bool x14_2 ∧ Aside0 (impl_PlaceOf.j0 kq l0 a1 x14_2 = some (r1, r2)) ∧ Aside0 (kq ≤ k) ∧ Aside0 (Below w.heap.size w wc))
  case first =>
    have H := HC3.out
    clear HC3
    replace H := Option.bind_eq_some_iff.mp H
    obtain ⟨t175, A40, H⟩ := H
    replace H : (if t175 = true then ((impl_within.f a1 0 15).bind fun t176 => (impl_PlaceOf.j0 k l0 a1 (!t176))) else (impl_PlaceOf.j0 k l0 a1 true)) = some (r1, r2) := H
    have A4 := Aside0.mk A40
    clear A40
    by_cases c5 : t175 = true
    · subst c5
      have H1 : ((impl_within.f a1 0 15).bind fun t176 => (impl_PlaceOf.j0 k l0 a1 (!t176))) = some (r1, r2) := by rw [if_pos rfl] at H; exact H
      clear H
      have H := H1
      clear H1
      replace H := Option.bind_eq_some_iff.mp H
      obtain ⟨t176, A60, H⟩ := H
      replace H : (impl_PlaceOf.j0 k l0 a1 (!t176)) = some (r1, r2) := H
      have A6 := Aside0.mk A60
      clear A60
      have H' := Aside0.mk H
      clear H
      go_wp2_with (first | ((with_reducible refine gate_callee (f := 15) rfl ?_); refine goesL_ (some 8) rfl rfl Try.func15 (by kernel_rfl) rfl #[.slice A0 l0.length c0] rfl (by (try simp only [List.map_toArray, List.map_cons, List.map_nil]); first | done | rfl | (simp only [List.length_drop, List.length_take]; rfl)) ?_; (with_reducible refine (impl_GoodMap.calls k _ _ l0 true _ ?side1 ?side2 A4.out).mono ?_); (case side1 => repeat (first | exact (Kd.C_below HR0.out HB.out) | (with_reducible refine Kd.C_alloc ?_ _) | (with_reducible refine Kd.C_drewN ?_ _) | (with_reducible refine Kd.C_drew ?_))); (case side2 => exact HC0.out); rintro e w7 ⟨rfl, hb⟩; refine ⟨_, rfl, ?_⟩; have n0_ := Aside0.mk (below_step (by repeat (first | (with_reducible first | exact HB.out | apply below_alloc | apply pw_below_drewN | apply below_drew1) | exact HB.out)) hb); clear HB; have HB := n0_; clear n0_; (try clear hb); (try clear hb2); (try clear hk); (try clear hi)) | (go_at_call 51; (with_reducible refine (impl_within.calls a1 0 15 t176 _ A6.out).mono ?_); rintro e w' ⟨rfl, ⟨nd, rfl⟩⟩))
      go_meet
      case rel => exact ⟨_, (!t176), (by first | rfl | (simp; done) | (simp [*]; done)), H', ⟨by first | omega | exact Nat.le_refl _⟩, ⟨by repeat (first | (with_reducible first | exact HB.out | apply below_alloc | apply pw_below_drewN | apply below_drew1) | exact HB.out)⟩⟩
    · replace c5 := Bool.eq_false_iff.mpr c5
      subst c5
      have H1 : (impl_PlaceOf.j0 k l0 a1 true) = some (r1, r2) := by rw [if_neg (show ¬ (false = true) by decide)] at H; exact H
      clear H
      have H := H1
      clear H1
      have H' := Aside0.mk H
      clear H
      go_wp2_with (first | ((with_reducible refine gate_callee (f := 15) rfl ?_); refine goesL_ (some 8) rfl rfl Try.func15 (by kernel_rfl) rfl #[.slice A0 l0.length c0] rfl (by (try simp only [List.map_toArray, List.map_cons, List.map_nil]); first | done | rfl | (simp only [List.length_drop, List.length_take]; rfl)) ?_; (with_reducible refine (impl_GoodMap.calls k _ _ l0 false _ ?side1 ?side2 A4.out).mono ?_); (case side1 => repeat (first | exact (Kd.C_below HR0.out HB.out) | (with_reducible refine Kd.C_alloc ?_ _) | (with_reducible refine Kd.C_drewN ?_ _) | (with_reducible refine Kd.C_drew ?_))); (case side2 => exact HC0.out); rintro e w8 ⟨rfl, hb⟩; refine ⟨_, rfl, ?_⟩; have n0_ := Aside0.mk (below_step (by repeat (first | (with_reducible first | exact HB.out | apply below_alloc | apply pw_below_drewN | apply below_drew1) | exact HB.out)) hb); clear HB; have HB := n0_; clear n0_; (try clear hb); (try clear hb2); (try clear hk); (try clear hi)))
      go_meet
      case rel => exact ⟨_, (true), (by first | rfl | (simp; done) | (simp [*]; done)), H', ⟨by first | omega | exact Nat.le_refl _⟩, ⟨by repeat (first | (with_reducible first | exact HB.out | apply below_alloc | apply pw_below_drewN | apply below_drew1) | exact HB.out)⟩⟩
  case rest =>
    clear HC3
    try clear c1
    try clear c2
    try clear p2
    try clear c5
    obtain ⟨kq, x14_2, rfl, HA, HJ2, HB⟩ := hcut
    cases kq with
    | zero => exact absurd HA.out (by simp [impl_PlaceOf.j0])
    | succ kj2 =>
      have H := HA.out
      clear HA
      simp only [impl_PlaceOf.j0] at H
      by_cases c9 : x14_2 = true
      · subst c9
        have H1 : (some (0, false)) = some (r1, r2) := by rw [if_pos rfl] at H; exact H
        clear H
        have H := H1
        clear H1
        simp only [Option.some.injEq, Prod.mk.injEq] at H
        obtain ⟨rfl, rfl⟩ := H
        go_wp2
        go_ret2
        exact ⟨by first | rfl | (simp [errW_none, errW_some] <;> rfl) | (simp [*, errW_none, errW_some] <;> rfl), by repeat (first | (with_reducible first | exact HB.out | apply below_alloc | apply pw_below_drewN | apply below_drew1) | exact HB.out)⟩
      · replace c9 := Bool.eq_false_iff.mpr c9
        subst c9
        have H1 : ((impl_places.f kj2 l0).bind fun t177 => (if 0 ≤ a1 then (if a1 < (t177.length : Int) then (if (rd t177 a1) = (-1) then (some (0, false)) else (some (rd t177 a1, true))) else (none)) else (none))) = some (r1, r2) := by rw [if_neg (show ¬ (false = true) by decide)] at H; exact H
        clear H
        have H := H1
        clear H1
        replace H := Option.bind_eq_some_iff.mp H
        obtain ⟨t177, A100, H⟩ := H
        replace H : (if 0 ≤ a1 then (if a1 < (t177.length : Int) then (if (rd t177 a1) = (-1) then (some (0, false)) else (some (rd t177 a1, true))) else (none)) else (none)) = some (r1, r2) := H
        have A10 := Aside0.mk A100
        clear A100
        by_cases c11 : 0 ≤ a1
        · rw [if_pos c11] at H
          have c11b0 : decide (0 ≤ a1) = true := decide_eq_true c11
          clear c11
          by_cases c12 : a1 < (t177.length : Int)
          · rw [if_pos c12] at H
            have c12b0 : decide (a1 < (t177.length : Int)) = true := decide_eq_true c12
            clear c12
            by_cases c13 : (rd t177 a1) = (-1)
            · rw [if_pos c13] at H
              have c13b0 : ((rd t177 a1) == (-1)) = true := beq_iff_eq.mpr c13
              have c13b1 : ((rd t177 a1) != (-1)) = false := bne_eq_false_iff_eq.mpr c13
              clear c13
              simp only [Option.some.injEq, Prod.mk.injEq] at H
              obtain ⟨rfl, rfl⟩ := H
              go_wp2_with (first | ((with_reducible refine gate_callee (f := 55) rfl ?_); refine goesL_ (some 16) rfl rfl Try.func55 (by kernel_rfl) rfl #[.slice A0 l0.length c0] rfl (by (try simp only [List.map_toArray, List.map_cons, List.map_nil]); first | done | rfl | (simp only [List.length_drop, List.length_take]; rfl)) ?_; (with_reducible refine (impl_places.calls kj2 _ _ l0 t177 _ ?side1 ?side2 A10.out).mono ?_); (case side1 => repeat (first | exact (Kd.C_below HR0.out HB.out) | (with_reducible refine Kd.C_alloc ?_ _) | (with_reducible refine Kd.C_drewN ?_ _) | (with_reducible refine Kd.C_drew ?_))); (case side2 => exact HC0.out); rintro e w14 ⟨v178, rfl, ho0, hb⟩; refine ⟨_, rfl, ?_⟩; have n0_ := Aside0.mk (Kd.R_lower ho0 (below_size (by repeat (first | (with_reducible first | exact HB.out | apply below_alloc | apply pw_below_drewN | apply below_drew1) | exact HB.out)))); have n1_ := Aside0.mk (below_step (by repeat (first | (with_reducible first | exact HB.out | apply below_alloc | apply pw_below_drewN | apply below_drew1) | exact HB.out)) hb); clear HB; have HO179 := n0_; have HB := n1_; clear n0_ n1_; (try clear hb); (try clear hb2); (try clear hk); (try clear hi); (try clear ho0); obtain ⟨Ao15, co15, eo15⟩ := Kd.R_slice HO179.out; subst eo15; have p180 : 0 ≤ (a1 : Int) := of_decide_eq_true (by first | (with_reducible assumption) | assumption); have q180 : a1 < (t177.length : Int) := of_decide_eq_true (by first | (with_reducible assumption) | assumption); obtain ⟨ad180, e180, hx180_0⟩ := Kd.at_int (Kd.R_reads' HO179.out).2.2 a1 p180 q180; cases e180; replace p180 := eq_true p180; replace q180 := eq_true q180))
              go_ret2
              exact ⟨by first | rfl | (simp [errW_none, errW_some] <;> rfl) | (simp [*, errW_none, errW_some] <;> rfl), by repeat (first | (with_reducible first | exact HB.out | apply below_alloc | apply pw_below_drewN | apply below_drew1) | exact HB.out)⟩
            · rw [if_neg c13] at H
              have c13b0 : ((rd t177 a1) == (-1)) = false := beq_eq_false_iff_ne.mpr c13
              have c13b1 : ((rd t177 a1) != (-1)) = true := bne_iff_ne.mpr c13
              simp only [Option.some.injEq, Prod.mk.injEq] at H
              obtain ⟨rfl, rfl⟩ := H
              go_wp2_with (first | ((with_reducible refine gate_callee (f := 55) rfl ?_); refine goesL_ (some 16) rfl rfl Try.func55 (by kernel_rfl) rfl #[.slice A0 l0.length c0] rfl (by (try simp only [List.map_toArray, List.map_cons, List.map_nil]); first | done | rfl | (simp only [List.length_drop, List.length_take]; rfl)) ?_; (with_reducible refine (impl_places.calls kj2 _ _ l0 t177 _ ?side1 ?side2 A10.out).mono ?_); (case side1 => repeat (first | exact (Kd.C_below HR0.out HB.out) | (with_reducible refine Kd.C_alloc ?_ _) | (with_reducible refine Kd.C_drewN ?_ _) | (with_reducible refine Kd.C_drew ?_))); (case side2 => exact HC0.out); rintro e w16 ⟨v178, rfl, ho0, hb⟩; refine ⟨_, rfl, ?_⟩; have n0_ := Aside0.mk (Kd.R_lower ho0 (below_size (by repeat (first | (with_reducible first | exact HB.out | apply below_alloc | apply pw_below_drewN | apply below_drew1) | exact HB.out)))); have n1_ := Aside0.mk (below_step (by repeat (first | (with_reducible first | exact HB.out | apply below_alloc | apply pw_below_drewN | apply below_drew1) | exact HB.out)) hb); clear HB; have HO179 := n0_; have HB := n1_; clear n0_ n1_; (try clear hb); (try clear hb2); (try clear hk); (try clear hi); (try clear ho0); obtain ⟨Ao17, co17, eo17⟩ := Kd.R_slice HO179.out; subst eo17; have p180 : 0 ≤ (a1 : Int) := of_decide_eq_true (by first | (with_reducible assumption) | assumption); have q180 : a1 < (t177.length : Int) := of_decide_eq_true (by first | (with_reducible assumption) | assumption); obtain ⟨ad180, e180, hx180_0⟩ := Kd.at_int (Kd.R_reads' HO179.out).2.2 a1 p180 q180; cases e180; replace p180 := eq_true p180; replace q180 := eq_true q180))
              go_ret2
              exact ⟨by first | rfl | (simp [errW_none, errW_some] <;> rfl) | (simp [*, errW_none, errW_some] <;> rfl), by repeat (first | (with_reducible first | exact HB.out | apply below_alloc | apply pw_below_drewN | apply below_drew1) | exact HB.out)⟩
          · rw [if_neg c12] at H
            exact absurd H (by simp)
        · rw [if_neg c11] at H
          exact absurd H (by simp)

/-! ### spec_PlacesOf: function 26 -/
def spec_PlacesOf.f (k : Nat) (l0 : List (S47)) : Option (List Int × Bool) := (spec_GoodMap.f k l0).bind fun t181 => (if t181 = true then ((spec_l4Places.f k l0).bind fun t182 => (some (t182, true))) else (some (([] : List Int), false)))
theorem spec_PlacesOf.mono : ∀ a0 k, LeO (spec_PlacesOf.f k a0) (spec_PlacesOf.f (k + 1) a0) := by
  intro a0 k
  unfold spec_PlacesOf.f
  repeat' first
      | (with_reducible exact spec_GoodMap.mono _ _)
      | (with_reducible exact spec_l4Places.mono _ _)
      | (with_reducible exact LeO.refl _)
      | (with_reducible exact LeO.none _)
      | (with_reducible refine LeO.ite ?_ ?_)
      | (with_reducible refine LeO.bind ?_ (fun _ => ?_))
      | exact spec_GoodMap.mono _ _
      | exact spec_l4Places.mono _ _
      | exact LeO.none _
      | refine LeO.ite ?_ ?_
      | refine LeO.bind ?_ (fun _ => ?_)
set_option maxHeartbeats 8000000 in
set_option maxRecDepth 100000 in
theorem spec_PlacesOf.calls (k : Nat) (A0 : Option Addr) (c0 : Nat) (l0 : List (S47)) (r1 : List Int) (r2 : Bool) (w : World) (hr0 : Kd.C k47 w A0 l0.length l0) (hc0 : l0.length ≤ c0) (h : spec_PlacesOf.f k l0 = some (r1, r2)) :
    Calls Try.prog 26 #[.slice A0 l0.length c0] w fun e w' => ∃ v0_ : Value, e = .returned (.tuple #[v0_, .bool r2]) ∧ Kd.R (Kd.int .i64) 3 w' w.heap.size (fun _ => True) v0_ r1 ∧ Below w.heap.size w w' := by
  have HR0 := Aside0.mk hr0
  have HC0 := Aside0.mk hc0
  clear hr0 hc0
  have HB := Aside0.mk (Below.refl w.heap.size w)
  have H : ((spec_GoodMap.f k l0).bind fun t181 => (if t181 = true then ((spec_l4Places.f k l0).bind fun t182 => (some (t182, true))) else (some (([] : List Int), false)))) = some (r1, r2) := h
  clear h
  replace H := Option.bind_eq_some_iff.mp H
  obtain ⟨t181, A20, H⟩ := H
  replace H : (if t181 = true then ((spec_l4Places.f k l0).bind fun t182 => (some (t182, true))) else (some (([] : List Int), false))) = some (r1, r2) := H
  have A2 := Aside0.mk A20
  clear A20
  by_cases c3 : t181 = true
  · subst c3
    have H1 : ((spec_l4Places.f k l0).bind fun t182 => (some (t182, true))) = some (r1, r2) := by rw [if_pos rfl] at H; exact H
    clear H
    have H := H1
    clear H1
    replace H := Option.bind_eq_some_iff.mp H
    obtain ⟨t182, A40, H⟩ := H
    replace H : (some (t182, true)) = some (r1, r2) := H
    have A4 := Aside0.mk A40
    clear A40
    simp only [Option.some.injEq, Prod.mk.injEq] at H
    obtain ⟨rfl, rfl⟩ := H
    go_enter Try.func26, Try.ntmps26
    go_wp2_with (first | ((with_reducible refine gate_callee (f := 13) rfl ?_); refine goesL_ (some 5) rfl rfl Try.func13 (by kernel_rfl) rfl #[.slice A0 l0.length c0] rfl (by (try simp only [List.map_toArray, List.map_cons, List.map_nil]); first | done | rfl | (simp only [List.length_drop, List.length_take]; rfl)) ?_; (with_reducible refine (spec_GoodMap.calls k _ _ l0 true _ ?side1 ?side2 A2.out).mono ?_); (case side1 => repeat (first | exact HR0.out | (with_reducible refine Kd.C_alloc ?_ _) | (with_reducible refine Kd.C_drewN ?_ _) | (with_reducible refine Kd.C_drew ?_))); (case side2 => exact HC0.out); rintro e w5 ⟨rfl, hb⟩; refine ⟨_, rfl, ?_⟩; have n0_ := Aside0.mk (below_step (by repeat (first | (with_reducible first | exact HB.out | apply below_alloc | apply pw_below_drewN | apply below_drew1) | exact HB.out)) hb); clear HB; have HB := n0_; clear n0_; (try clear hb); (try clear hb2); (try clear hk); (try clear hi)) | ((with_reducible refine gate_callee (f := 54) rfl ?_); refine goesL_ (some 8) rfl rfl Try.func54 (by kernel_rfl) rfl #[.slice A0 l0.length c0] rfl (by (try simp only [List.map_toArray, List.map_cons, List.map_nil]); first | done | rfl | (simp only [List.length_drop, List.length_take]; rfl)) ?_; (with_reducible refine (spec_l4Places.calls k _ _ l0 t182 _ ?side1 ?side2 A4.out).mono ?_); (case side1 => repeat (first | exact (Kd.C_below HR0.out HB.out) | (with_reducible refine Kd.C_alloc ?_ _) | (with_reducible refine Kd.C_drewN ?_ _) | (with_reducible refine Kd.C_drew ?_))); (case side2 => exact HC0.out); rintro e w6 ⟨v183, rfl, ho0, hb⟩; refine ⟨_, rfl, ?_⟩; have n0_ := Aside0.mk (Kd.R_lower ho0 (below_size (by repeat (first | (with_reducible first | exact HB.out | apply below_alloc | apply pw_below_drewN | apply below_drew1) | exact HB.out)))); have n1_ := Aside0.mk (below_step (by repeat (first | (with_reducible first | exact HB.out | apply below_alloc | apply pw_below_drewN | apply below_drew1) | exact HB.out)) hb); clear HB; have HO184 := n0_; have HB := n1_; clear n0_ n1_; (try clear hb); (try clear hb2); (try clear hk); (try clear hi); (try clear ho0)))
    go_ret2
    exact ⟨_, by first | rfl | (simp [errW_none, errW_some] <;> rfl) | (simp [*, errW_none, errW_some] <;> rfl), by (with_reducible repeat (first | apply Kd.R_alloc | apply Kd.R_drewN | apply Kd.R_drew)); exact HO184.out, by repeat (first | (with_reducible first | exact HB.out | apply below_alloc | apply pw_below_drewN | apply below_drew1) | exact HB.out)⟩
  · replace c3 := Bool.eq_false_iff.mpr c3
    subst c3
    have H1 : (some (([] : List Int), false)) = some (r1, r2) := by rw [if_neg (show ¬ (false = true) by decide)] at H; exact H
    clear H
    have H := H1
    clear H1
    simp only [Option.some.injEq, Prod.mk.injEq] at H
    obtain ⟨rfl, rfl⟩ := H
    go_enter Try.func26, Try.ntmps26
    go_wp2_with (first | ((with_reducible refine gate_callee (f := 13) rfl ?_); refine goesL_ (some 5) rfl rfl Try.func13 (by kernel_rfl) rfl #[.slice A0 l0.length c0] rfl (by (try simp only [List.map_toArray, List.map_cons, List.map_nil]); first | done | rfl | (simp only [List.length_drop, List.length_take]; rfl)) ?_; (with_reducible refine (spec_GoodMap.calls k _ _ l0 false _ ?side1 ?side2 A2.out).mono ?_); (case side1 => repeat (first | exact HR0.out | (with_reducible refine Kd.C_alloc ?_ _) | (with_reducible refine Kd.C_drewN ?_ _) | (with_reducible refine Kd.C_drew ?_))); (case side2 => exact HC0.out); rintro e w7 ⟨rfl, hb⟩; refine ⟨_, rfl, ?_⟩; have n0_ := Aside0.mk (below_step (by repeat (first | (with_reducible first | exact HB.out | apply below_alloc | apply pw_below_drewN | apply below_drew1) | exact HB.out)) hb); clear HB; have HB := n0_; clear n0_; (try clear hb); (try clear hb2); (try clear hk); (try clear hi)))
    go_ret2
    exact ⟨_, by first | rfl | (simp [errW_none, errW_some] <;> rfl) | (simp [*, errW_none, errW_some] <;> rfl), by first | exact Kd.R_nil _ _ _ _ _ | exact Kd.N_nil _ _ _ _ _ | exact Kd.V_nil _ _ _ _ _ | exact Kd.Q_nil _ _ _ _ _ | exact Kd.S_nil _ _ _ _ _, by repeat (first | (with_reducible first | exact HB.out | apply below_alloc | apply pw_below_drewN | apply below_drew1) | exact HB.out)⟩

/-! ### impl_PlacesOf: function 27 -/
def impl_PlacesOf.f (k : Nat) (l0 : List (S47)) : Option (List Int × Bool) := (impl_GoodMap.f k l0).bind fun t185 => (if t185 = true then ((impl_places.f k l0).bind fun t186 => (some (t186, true))) else (some (([] : List Int), false)))
theorem impl_PlacesOf.mono : ∀ a0 k, LeO (impl_PlacesOf.f k a0) (impl_PlacesOf.f (k + 1) a0) := by
  intro a0 k
  unfold impl_PlacesOf.f
  repeat' first
      | (with_reducible exact impl_GoodMap.mono _ _)
      | (with_reducible exact impl_places.mono _ _)
      | (with_reducible exact LeO.refl _)
      | (with_reducible exact LeO.none _)
      | (with_reducible refine LeO.ite ?_ ?_)
      | (with_reducible refine LeO.bind ?_ (fun _ => ?_))
      | exact impl_GoodMap.mono _ _
      | exact impl_places.mono _ _
      | exact LeO.none _
      | refine LeO.ite ?_ ?_
      | refine LeO.bind ?_ (fun _ => ?_)
set_option maxHeartbeats 8000000 in
set_option maxRecDepth 100000 in
theorem impl_PlacesOf.calls (k : Nat) (A0 : Option Addr) (c0 : Nat) (l0 : List (S47)) (r1 : List Int) (r2 : Bool) (w : World) (hr0 : Kd.C k47 w A0 l0.length l0) (hc0 : l0.length ≤ c0) (h : impl_PlacesOf.f k l0 = some (r1, r2)) :
    Calls Try.prog 27 #[.slice A0 l0.length c0] w fun e w' => ∃ v0_ : Value, e = .returned (.tuple #[v0_, .bool r2]) ∧ Kd.R (Kd.int .i64) 3 w' w.heap.size (fun _ => True) v0_ r1 ∧ Below w.heap.size w w' := by
  have HR0 := Aside0.mk hr0
  have HC0 := Aside0.mk hc0
  clear hr0 hc0
  have HB := Aside0.mk (Below.refl w.heap.size w)
  have H : ((impl_GoodMap.f k l0).bind fun t185 => (if t185 = true then ((impl_places.f k l0).bind fun t186 => (some (t186, true))) else (some (([] : List Int), false)))) = some (r1, r2) := h
  clear h
  replace H := Option.bind_eq_some_iff.mp H
  obtain ⟨t185, A20, H⟩ := H
  replace H : (if t185 = true then ((impl_places.f k l0).bind fun t186 => (some (t186, true))) else (some (([] : List Int), false))) = some (r1, r2) := H
  have A2 := Aside0.mk A20
  clear A20
  by_cases c3 : t185 = true
  · subst c3
    have H1 : ((impl_places.f k l0).bind fun t186 => (some (t186, true))) = some (r1, r2) := by rw [if_pos rfl] at H; exact H
    clear H
    have H := H1
    clear H1
    replace H := Option.bind_eq_some_iff.mp H
    obtain ⟨t186, A40, H⟩ := H
    replace H : (some (t186, true)) = some (r1, r2) := H
    have A4 := Aside0.mk A40
    clear A40
    simp only [Option.some.injEq, Prod.mk.injEq] at H
    obtain ⟨rfl, rfl⟩ := H
    go_enter Try.func27, Try.ntmps27
    go_wp2_with (first | ((with_reducible refine gate_callee (f := 15) rfl ?_); refine goesL_ (some 5) rfl rfl Try.func15 (by kernel_rfl) rfl #[.slice A0 l0.length c0] rfl (by (try simp only [List.map_toArray, List.map_cons, List.map_nil]); first | done | rfl | (simp only [List.length_drop, List.length_take]; rfl)) ?_; (with_reducible refine (impl_GoodMap.calls k _ _ l0 true _ ?side1 ?side2 A2.out).mono ?_); (case side1 => repeat (first | exact HR0.out | (with_reducible refine Kd.C_alloc ?_ _) | (with_reducible refine Kd.C_drewN ?_ _) | (with_reducible refine Kd.C_drew ?_))); (case side2 => exact HC0.out); rintro e w5 ⟨rfl, hb⟩; refine ⟨_, rfl, ?_⟩; have n0_ := Aside0.mk (below_step (by repeat (first | (with_reducible first | exact HB.out | apply below_alloc | apply pw_below_drewN | apply below_drew1) | exact HB.out)) hb); clear HB; have HB := n0_; clear n0_; (try clear hb); (try clear hb2); (try clear hk); (try clear hi)) | ((with_reducible refine gate_callee (f := 55) rfl ?_); refine goesL_ (some 8) rfl rfl Try.func55 (by kernel_rfl) rfl #[.slice A0 l0.length c0] rfl (by (try simp only [List.map_toArray, List.map_cons, List.map_nil]); first | done | rfl | (simp only [List.length_drop, List.length_take]; rfl)) ?_; (with_reducible refine (impl_places.calls k _ _ l0 t186 _ ?side1 ?side2 A4.out).mono ?_); (case side1 => repeat (first | exact (Kd.C_below HR0.out HB.out) | (with_reducible refine Kd.C_alloc ?_ _) | (with_reducible refine Kd.C_drewN ?_ _) | (with_reducible refine Kd.C_drew ?_))); (case side2 => exact HC0.out); rintro e w6 ⟨v187, rfl, ho0, hb⟩; refine ⟨_, rfl, ?_⟩; have n0_ := Aside0.mk (Kd.R_lower ho0 (below_size (by repeat (first | (with_reducible first | exact HB.out | apply below_alloc | apply pw_below_drewN | apply below_drew1) | exact HB.out)))); have n1_ := Aside0.mk (below_step (by repeat (first | (with_reducible first | exact HB.out | apply below_alloc | apply pw_below_drewN | apply below_drew1) | exact HB.out)) hb); clear HB; have HO188 := n0_; have HB := n1_; clear n0_ n1_; (try clear hb); (try clear hb2); (try clear hk); (try clear hi); (try clear ho0)))
    go_ret2
    exact ⟨_, by first | rfl | (simp [errW_none, errW_some] <;> rfl) | (simp [*, errW_none, errW_some] <;> rfl), by (with_reducible repeat (first | apply Kd.R_alloc | apply Kd.R_drewN | apply Kd.R_drew)); exact HO188.out, by repeat (first | (with_reducible first | exact HB.out | apply below_alloc | apply pw_below_drewN | apply below_drew1) | exact HB.out)⟩
  · replace c3 := Bool.eq_false_iff.mpr c3
    subst c3
    have H1 : (some (([] : List Int), false)) = some (r1, r2) := by rw [if_neg (show ¬ (false = true) by decide)] at H; exact H
    clear H
    have H := H1
    clear H1
    simp only [Option.some.injEq, Prod.mk.injEq] at H
    obtain ⟨rfl, rfl⟩ := H
    go_enter Try.func27, Try.ntmps27
    go_wp2_with (first | ((with_reducible refine gate_callee (f := 15) rfl ?_); refine goesL_ (some 5) rfl rfl Try.func15 (by kernel_rfl) rfl #[.slice A0 l0.length c0] rfl (by (try simp only [List.map_toArray, List.map_cons, List.map_nil]); first | done | rfl | (simp only [List.length_drop, List.length_take]; rfl)) ?_; (with_reducible refine (impl_GoodMap.calls k _ _ l0 false _ ?side1 ?side2 A2.out).mono ?_); (case side1 => repeat (first | exact HR0.out | (with_reducible refine Kd.C_alloc ?_ _) | (with_reducible refine Kd.C_drewN ?_ _) | (with_reducible refine Kd.C_drew ?_))); (case side2 => exact HC0.out); rintro e w7 ⟨rfl, hb⟩; refine ⟨_, rfl, ?_⟩; have n0_ := Aside0.mk (below_step (by repeat (first | (with_reducible first | exact HB.out | apply below_alloc | apply pw_below_drewN | apply below_drew1) | exact HB.out)) hb); clear HB; have HB := n0_; clear n0_; (try clear hb); (try clear hb2); (try clear hk); (try clear hi)))
    go_ret2
    exact ⟨_, by first | rfl | (simp [errW_none, errW_some] <;> rfl) | (simp [*, errW_none, errW_some] <;> rfl), by first | exact Kd.R_nil _ _ _ _ _ | exact Kd.N_nil _ _ _ _ _ | exact Kd.V_nil _ _ _ _ _ | exact Kd.Q_nil _ _ _ _ _ | exact Kd.S_nil _ _ _ _ _, by repeat (first | (with_reducible first | exact HB.out | apply below_alloc | apply pw_below_drewN | apply below_drew1) | exact HB.out)⟩

end Go.Proofs.Ytcoceoplnehmcaa.PFnStretches

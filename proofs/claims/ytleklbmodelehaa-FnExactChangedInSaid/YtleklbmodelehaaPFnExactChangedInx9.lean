/- Lean functions with the same answers as the Go functions that one law reaches, and for each a proof that its call comes to just these answers. No condition. Written by pr.py, a program of this session. -/
import Derived.Test.YtleklbmodelehaaPFnExactChangedInx0
import Derived.Test.YtleklbmodelehaaPFnExactChangedInx7
import Derived.Test.YtleklbmodelehaaPFnExactChangedInx8
namespace Go.Proofs.Ytleklbmodelehaa.PFnExactChangedIn
open Go.RowKit Go.Proofs.YtleklbmodelehaaW.PrintWords Go.Proofs.YtleklbmodelehaaW.PrintLast Go.Proofs.YtleklbmodelehaaW.PrintMore
attribute [local go_sem] max2_int min2_int max_two min_two max_three min_three max_four min_four   -- for this text's walks alone
set_option linter.unusedVariables false
set_option linter.unusedSimpArgs false

/-! ### impl_Marks_find_1: function 120 (ours) -/
set_option maxHeartbeats 4000000 in
set_option maxRecDepth 100000 in
theorem fx_find1 (m x0 : Int) (v1 v2 : Value) (B : Nat) (W : World) (hB : W.cell? ⟨B, 0, none⟩ = some (.int .i64 m)) (hBW : B < W.heap.size) :
    Calls Try.prog 120 #[.agg #[.int .i64 x0, v1, v2], .pointer (some ⟨B, 0, none⟩)] W fun e w' => e = .returned (.bool (decide (x0 = m))) ∧ Below W.heap.size W w' := by
  have hw1 : Below W.heap.size W (W.alloc (.cells #[.int .i64 x0, v1, v2] 94)) := (Below.refl _ W).alloc (Nat.le_refl _) _
  have hBc : (W.alloc (.cells #[.int .i64 x0, v1, v2] 94)).cell? ⟨B, 0, none⟩ = some (.int .i64 m) := (hw1.cell (p := ⟨B, 0, none⟩) hBW).trans hB
  have hne : B ≠ W.heap.size := by omega
  go_enter Try.func120, Try.ntmps120
  go_wp2
  go_ret
  exact ⟨by first | rfl | (congr 2; rw [Bool.eq_iff_iff]; simp), hw1⟩

/-! ### impl_Marks_find: function 86 (ours) -/
def impl_Marks_find.f (k : Nat) (l0_0 : List S94) (a1 : Int) : Option (Int × Bool) := if 0 ≤ idxOf_Layer (fun x => decide (x.f0 = a1)) l0_0 then ((impl_GoodMarks.f k l0_0).bind fun t => some (idxOf_Layer (fun x => decide (x.f0 = a1)) l0_0, t)) else some (idxOf_Layer (fun x => decide (x.f0 = a1)) l0_0, false)
theorem impl_Marks_find.mono : ∀ a0 a1 k, LeO (impl_Marks_find.f k a0 a1) (impl_Marks_find.f (k + 1) a0 a1) := by
  intro a0 a1 k
  unfold impl_Marks_find.f
  exact LeO.ite (LeO.bind (impl_GoodMarks.mono a0 k) fun _ => LeO.refl _) (LeO.refl _)
set_option maxHeartbeats 4000000 in
set_option maxRecDepth 100000 in
theorem impl_Marks_find.calls (k : Nat) (A0_0 : Option Addr) (c0_0 : Nat) (l0_0 : List S94) (a1 : Int) (r1 : Int) (r2 : Bool) (w : World) (hr0_0 : Kd.C k94 w A0_0 l0_0.length l0_0) (hc0_0 : l0_0.length ≤ c0_0) (h : impl_Marks_find.f k l0_0 a1 = some (r1, r2)) :
    Calls Try.prog 86 #[.agg #[.slice A0_0 l0_0.length c0_0], .int .i64 a1] w fun e w' => e = .returned (.tuple #[.int .i64 r1, .bool r2]) ∧ Below w.heap.size w w' := by
  have hw1 : Below w.heap.size w (w.alloc (.cells #[.slice A0_0 l0_0.length c0_0] 47)) := (Below.refl _ w).alloc (Nat.le_refl _) _
  have hw2 : Below w.heap.size w ((w.alloc (.cells #[.slice A0_0 l0_0.length c0_0] 47)).alloc (.cells #[.int .i64 a1] 3)) := hw1.alloc (by simp) _
  have e1 : ∀ args w, (callFunc 120 args).run Try.prog w = .ok (.enter 120 args) w := enters_of Try.func120 (by kernel_rfl) rfl
  obtain ⟨W2, hW2⟩ : ∃ W2, W2 = (w.alloc (.cells #[.slice A0_0 l0_0.length c0_0] 47)).alloc (.cells #[.int .i64 a1] 3) := ⟨_, rfl⟩
  have hs2 : W2.heap.size = w.heap.size + 2 := by rw [hW2]; simp
  have hcA : W2.cell? ⟨w.heap.size, 0, none⟩ = some (.slice A0_0 l0_0.length c0_0) := by rw [hW2]; simp
  have hcB : W2.cell? ⟨w.heap.size + 1, 0, none⟩ = some (.int .i64 a1) := by rw [hW2]; simp
  rw [← hW2] at hw2
  have hc := fx_index_Layer (fun x => decide (x.f0 = a1)) 120 #[.pointer (some ⟨w.heap.size + 1, 0, none⟩)] e1 A0_0 c0_0 l0_0 W2 (Kd.C_below hr0_0 hw2) (fun x hx W hW cs hk => by
    obtain ⟨A_1, c_1, A_2, c_2, rfl, hq⟩ := k94_open hk
    exact fx_find1 a1 x.f0 _ _ (w.heap.size + 1) W ((hW.cell (p := ⟨w.heap.size + 1, 0, none⟩) (by show w.heap.size + 1 < W2.heap.size; omega)).trans hcB) (Nat.lt_of_lt_of_le (by omega) hW.size))
  rw [hW2] at hc
  unfold impl_Marks_find.f at h
  have hgood := fun (W : World) (hW : Below w.heap.size w W) (q : Bool) (hq : impl_GoodMarks.f k l0_0 = some q) => impl_GoodMarks.calls k A0_0 c0_0 l0_0 q W (Kd.C_below hr0_0 hW) hc0_0 hq
  have HG := Aside0.mk hgood
  have HCA := Aside0.mk hcA
  have HW2 := Aside0.mk hw2
  have HS2 := Aside0.mk hs2
  have HE2 := Aside0.mk hW2
  clear hgood hcA hcB hw2 hs2 hW2 hw1 hr0_0 hc0_0 e1
  generalize idxOf_Layer (fun x => decide (x.f0 = a1)) l0_0 = i at h hc
  by_cases hi : 0 ≤ i
  · rw [if_pos hi] at h
    obtain ⟨q, hq, h2⟩ := Option.bind_eq_some_iff.mp h
    obtain ⟨rfl, rfl⟩ := Prod.mk.inj (Option.some.inj h2)
    have HQ := Aside0.mk hq
    clear h h2 hq
    have hd : decide (0 ≤ i) = true := decide_eq_true hi
    go_enter Try.func86, Try.ntmps86
    go_wp2_with (first | (go_at_call 119; refine hc.mono ?_; rintro e w' ⟨rfl, hb'⟩; rw [← HE2.out] at hb'; have hcl : w'.cell? ⟨w.heap.size, 0, none⟩ = some (.slice A0_0 l0_0.length c0_0) := (hb'.cell (p := ⟨w.heap.size, 0, none⟩) (by show w.heap.size < W2.heap.size; rw [HS2.out]; omega)).trans HCA.out; have HB1 := Aside0.mk (HW2.out.trans (hb'.mono (by rw [HS2.out]; omega))); clear hb') | (go_at_call 39; refine (HG.out _ HB1.out _ HQ.out).mono ?_; rintro e w'' ⟨rfl, hb''⟩))
    go_ret2
    exact ⟨rfl, HB1.out.trans (hb''.mono HB1.out.size)⟩
  · rw [if_neg hi] at h
    obtain ⟨rfl, rfl⟩ := Prod.mk.inj (Option.some.inj h)
    clear h
    have hd : decide (0 ≤ i) = false := decide_eq_false hi
    go_enter Try.func86, Try.ntmps86
    go_wp2_with (first | (go_at_call 119; refine hc.mono ?_; rintro e w' ⟨rfl, hb'⟩; rw [← HE2.out] at hb'; have HB1 := Aside0.mk (HW2.out.trans (hb'.mono (by rw [HS2.out]; omega))); clear hb'))
    go_ret2
    exact ⟨rfl, HB1.out⟩

/-! ### bits_Mul: function 145 (ours) -/
set_option maxHeartbeats 4000000 in
set_option maxRecDepth 100000 in
theorem fx_mul (w : World) : Calls Try.prog 145 #[.int .u64 1, .int .u64 16] w fun e w' => e = .returned (.tuple #[.int .u64 0, .int .u64 16]) ∧ w' = w := by
  go_enter Try.func145, Try.ntmps145
  go_wp2
  go_ret2
  exact ⟨by first | rfl | kernel_rfl, rfl⟩
theorem alloc_at (w : World) (o : Obj) : (w.alloc o).heap[w.heap.size]? = some o := by
  show (w.heap.push o)[w.heap.size]? = some o
  rw [Array.getElem?_push, if_pos rfl]
theorem rep_cell (W : World) (g : Nat) (vx : Value) {z : Value} {t : TypeId} (n j : Nat) (hj : j < n) (h : W.heap[g]? = some (.cells (List.replicate n vx ++ List.replicate (16 - n) z).toArray t (0, 0))) : W.cell? ((⟨g, 0, none⟩ : Addr).add j) = some vx := by
  rw [show ((⟨g, 0, none⟩ : Addr).add j) = ⟨g, j, none⟩ by rw [Addr.add_lit, Nat.zero_add]]
  rw [cell_of_row W g j _ t (0, 0) h]
  rw [List.getElem?_toArray, List.getElem?_append_left (by simpa using hj), List.getElem?_replicate, if_pos hj]
/-- One cell laid over a row that is half full: as many again. -/
theorem splice_rep (v z : Value) (n m : Nat) (h : m ≤ 16 - n) : splice (List.replicate n v ++ List.replicate (16 - n) z) n (List.replicate m v) = List.replicate (n + m) v ++ List.replicate (16 - (n + m)) z := by
  unfold splice
  rw [List.take_left' (by simp), List.drop_append]
  have e : List.drop (n + (List.replicate m v).length) (List.replicate n v) = [] := List.drop_eq_nil_of_le (by simp)
  rw [e, List.nil_append, List.drop_replicate, ← List.append_assoc, List.replicate_append_replicate]
  simp only [List.length_replicate]
  congr 2
  omega

/-! ### slices_Repeat_string_string: function 135 (ours) -/
set_option maxHeartbeats 4000000 in
set_option maxRecDepth 100000 in
theorem fx_rep_string (c : Nat) (vx : Value) (hv1 : vx.oneCell' = true) (ad : Addr) (w : World) (hc : w.cell? ad = some vx) (had : ad.block < w.heap.size) :
    Calls Try.prog 135 #[.slice (some ad) 1 c, .int .i64 16] w fun e w' => e = .returned (.slice (some ⟨w.heap.size, 0, none⟩) 16 16) ∧ Hid (w'.heap[w.heap.size]? = some (.cells (List.replicate 16 vx).toArray 9 (0, 0))) ∧ Below w.heap.size w w' := by
  have hmk := print_make_int (P := Try.prog) 62 9 (.string ByteArray.empty) 16 Try.underlying62 (by kernel_rfl) rfl (by decide) 16 (by decide) (by decide)
  have hw1 : Below w.heap.size w (w.alloc (.cells (madeCells #[.string ByteArray.empty] 16) 9)) := (Below.refl _ w).alloc (Nat.le_refl _) _
  have hc1 : (w.alloc (.cells (madeCells #[.string ByteArray.empty] 16) 9)).cell? ad = some vx := (hw1.cell (p := ad) had).trans hc
  have hg1 : (w.alloc (.cells (madeCells #[.string ByteArray.empty] 16) 9)).heap[w.heap.size]? = some (.cells (List.replicate 16 (.string ByteArray.empty : Value)).toArray 9 (0, 0)) := by
    rw [show madeCells #[(.string ByteArray.empty : Value)] 16 = (List.replicate 16 (.string ByteArray.empty : Value)).toArray from Array.ext' (by rw [toList_madeCells_one])]
    exact alloc_at _ _
  have hs1 : ∀ (j : Nat) (v : Value), [vx][j]? = some v → (w.alloc (.cells (madeCells #[.string ByteArray.empty] 16) 9)).cell? (ad.add j) = some v := fun j v hj => by
    match j, hj with
    | 0, hj => simp at hj; subst hj; exact hc1
    | j + 1, hj => simp at hj
  have HS1 := Aside0.mk hs1
  clear hs1
  have HC1 := Aside0.mk hc1
  have HG1 := Aside0.mk hg1
  have HW1 := Aside0.mk hw1
  clear hw1 hc1 hg1
  go_enter Try.func135, Try.ntmps135
  go_wp2_with (first | (go_at_call 145; refine (fx_mul _).mono ?_; rintro e w' ⟨rfl, hw⟩; subst w') | ((with_reducible refine gate_dst (N := 33) rfl ?_); refine wpList_copy_splice rfl (.tmp 31) (.tmp 32) 62 62 rfl 9 Try.underlying62 (by kernel_rfl) _ _ 16 16 1 c rfl rfl w.heap.size 0 (List.replicate 16 (.string ByteArray.empty : Value)) 9 HG1.out [vx] (by simp) (fun _ => ⟨rfl, ad, rfl, HS1.out⟩) (by simp) (by simpa using hv1) w.heap.size w HW1.out (Nat.le_refl _) ?_; intro w2 hg2 hb2))
  have HG2 := Aside0.mk (show w2.heap[w.heap.size]? = some (.cells (List.replicate 1 vx ++ List.replicate (16 - 1) (.string ByteArray.empty : Value)).toArray 9 (0, 0)) from by
    have h : w2.heap[w.heap.size]? = some (.cells (splice (List.replicate 16 (.string ByteArray.empty : Value)) 0 [vx]).toArray 9 (0, 0)) := hg2
    rw [h]
    exact congrArg (fun z => some (Obj.cells (List.toArray z) 9 (0, 0))) (splice_rep vx (.string ByteArray.empty) 0 1 (by decide)))
  have HB2 := Aside0.mk hb2
  clear hg2 hb2
  go_loopg [8] 4 (fun gk s8 wr => ∃ n : Nat, ∃ ni : Int, (n, ni, gk) ∈ ([(1, 1, 4), (2, 2, 3), (4, 4, 2), (8, 8, 1), (16, 16, 0)] : List (Nat × Int × Nat)) ∧ s8 = .int .i64 ni ∧ Aside0 (wr.heap[w.heap.size]? = some (.cells (List.replicate n vx ++ List.replicate (16 - n) (.string ByteArray.empty : Value)).toArray 9 (0, 0))) ∧ Aside0 (Below w.heap.size w wr))
  case atStart => exact ⟨1, 1, by simp, rfl, HG2, HB2⟩
  case round =>
    obtain ⟨n, ni, hm, rfl, HG, HB⟩ := hrel
    simp only [List.mem_cons, Prod.mk.injEq, List.not_mem_nil, or_false] at hm
    rcases hm with ⟨rfl, rfl, rfl⟩ | ⟨rfl, rfl, rfl⟩ | ⟨rfl, rfl, rfl⟩ | ⟨rfl, rfl, rfl⟩ | ⟨rfl, rfl, rfl⟩
    · have hcs : ∀ (W : World), W.heap = wr.heap → ∀ (j : Nat) (v : Value), (List.replicate 1 vx)[j]? = some v → W.cell? ((⟨w.heap.size, 0, none⟩ : Addr).add j) = some v := fun W hW j v hj => by
        have hj2 : j < 1 := by
          have := (List.getElem?_eq_some_iff.1 hj).1
          simpa using this
        rw [List.getElem?_replicate, if_pos hj2] at hj
        obtain rfl := Option.some.inj hj
        exact rep_cell W w.heap.size vx 1 j hj2 (by rw [hW]; exact HG.out)
      have HCS := Aside0.mk hcs
      clear hcs
      go_wp2
      go_region_law (refine step_copy_splice rfl (.tmp 41) (.tmp 44) 62 62 rfl 9 Try.underlying62 (by kernel_rfl) (some ⟨w.heap.size, 1, none⟩) (some ⟨w.heap.size, 0, none⟩) 15 15 1 16 (by simp [Act.eval, Act.put]) (by simp [Act.eval, Act.put]) w.heap.size 1 (List.replicate 1 vx ++ List.replicate (16 - 1) (.string ByteArray.empty : Value)) 9 HG.out (List.replicate 1 vx) (by simp) (fun _ => ⟨rfl, _, rfl, HCS.out _ rfl⟩) (by simp) (fun v hv => by rw [List.eq_of_mem_replicate hv]; exact hv1) w.heap.size w (pw_below_drewN HB.out 1) (Nat.le_refl _) ?_; intro w4 hg4 hb4; clear HG HB HCS; have HG := Aside0.mk hg4; have HB := Aside0.mk hb4; clear hg4 hb4)
      all_goals
        go_wp2
        go_roundg 3
        case measure => omega
        case rel =>
          refine ⟨2, 2, by simp, by go_num, ⟨?_⟩, HB⟩
          have h := HG.out
          rw [splice_rep vx (.string ByteArray.empty) 1 1 (by decide)] at h
          exact h
    · have hcs : ∀ (W : World), W.heap = wr.heap → ∀ (j : Nat) (v : Value), (List.replicate 2 vx)[j]? = some v → W.cell? ((⟨w.heap.size, 0, none⟩ : Addr).add j) = some v := fun W hW j v hj => by
        have hj2 : j < 2 := by
          have := (List.getElem?_eq_some_iff.1 hj).1
          simpa using this
        rw [List.getElem?_replicate, if_pos hj2] at hj
        obtain rfl := Option.some.inj hj
        exact rep_cell W w.heap.size vx 2 j hj2 (by rw [hW]; exact HG.out)
      have HCS := Aside0.mk hcs
      clear hcs
      go_wp2
      go_region_law (refine step_copy_splice rfl (.tmp 41) (.tmp 44) 62 62 rfl 9 Try.underlying62 (by kernel_rfl) (some ⟨w.heap.size, 2, none⟩) (some ⟨w.heap.size, 0, none⟩) 14 14 2 16 (by simp [Act.eval, Act.put]) (by simp [Act.eval, Act.put]) w.heap.size 2 (List.replicate 2 vx ++ List.replicate (16 - 2) (.string ByteArray.empty : Value)) 9 HG.out (List.replicate 2 vx) (by simp) (fun _ => ⟨rfl, _, rfl, HCS.out _ rfl⟩) (by simp) (fun v hv => by rw [List.eq_of_mem_replicate hv]; exact hv1) w.heap.size w (pw_below_drewN HB.out 1) (Nat.le_refl _) ?_; intro w4 hg4 hb4; clear HG HB HCS; have HG := Aside0.mk hg4; have HB := Aside0.mk hb4; clear hg4 hb4)
      all_goals
        go_wp2
        go_roundg 2
        case measure => omega
        case rel =>
          refine ⟨4, 4, by simp, by go_num, ⟨?_⟩, HB⟩
          have h := HG.out
          rw [splice_rep vx (.string ByteArray.empty) 2 2 (by decide)] at h
          exact h
    · have hcs : ∀ (W : World), W.heap = wr.heap → ∀ (j : Nat) (v : Value), (List.replicate 4 vx)[j]? = some v → W.cell? ((⟨w.heap.size, 0, none⟩ : Addr).add j) = some v := fun W hW j v hj => by
        have hj2 : j < 4 := by
          have := (List.getElem?_eq_some_iff.1 hj).1
          simpa using this
        rw [List.getElem?_replicate, if_pos hj2] at hj
        obtain rfl := Option.some.inj hj
        exact rep_cell W w.heap.size vx 4 j hj2 (by rw [hW]; exact HG.out)
      have HCS := Aside0.mk hcs
      clear hcs
      go_wp2
      go_region_law (refine step_copy_splice rfl (.tmp 41) (.tmp 44) 62 62 rfl 9 Try.underlying62 (by kernel_rfl) (some ⟨w.heap.size, 4, none⟩) (some ⟨w.heap.size, 0, none⟩) 12 12 4 16 (by simp [Act.eval, Act.put]) (by simp [Act.eval, Act.put]) w.heap.size 4 (List.replicate 4 vx ++ List.replicate (16 - 4) (.string ByteArray.empty : Value)) 9 HG.out (List.replicate 4 vx) (by simp) (fun _ => ⟨rfl, _, rfl, HCS.out _ rfl⟩) (by simp) (fun v hv => by rw [List.eq_of_mem_replicate hv]; exact hv1) w.heap.size w (pw_below_drewN HB.out 1) (Nat.le_refl _) ?_; intro w4 hg4 hb4; clear HG HB HCS; have HG := Aside0.mk hg4; have HB := Aside0.mk hb4; clear hg4 hb4)
      all_goals
        go_wp2
        go_roundg 1
        case measure => omega
        case rel =>
          refine ⟨8, 8, by simp, by go_num, ⟨?_⟩, HB⟩
          have h := HG.out
          rw [splice_rep vx (.string ByteArray.empty) 4 4 (by decide)] at h
          exact h
    · have hcs : ∀ (W : World), W.heap = wr.heap → ∀ (j : Nat) (v : Value), (List.replicate 8 vx)[j]? = some v → W.cell? ((⟨w.heap.size, 0, none⟩ : Addr).add j) = some v := fun W hW j v hj => by
        have hj2 : j < 8 := by
          have := (List.getElem?_eq_some_iff.1 hj).1
          simpa using this
        rw [List.getElem?_replicate, if_pos hj2] at hj
        obtain rfl := Option.some.inj hj
        exact rep_cell W w.heap.size vx 8 j hj2 (by rw [hW]; exact HG.out)
      have HCS := Aside0.mk hcs
      clear hcs
      go_wp2
      go_region_law (refine step_copy_splice rfl (.tmp 41) (.tmp 44) 62 62 rfl 9 Try.underlying62 (by kernel_rfl) (some ⟨w.heap.size, 8, none⟩) (some ⟨w.heap.size, 0, none⟩) 8 8 8 16 (by simp [Act.eval, Act.put]) (by simp [Act.eval, Act.put]) w.heap.size 8 (List.replicate 8 vx ++ List.replicate (16 - 8) (.string ByteArray.empty : Value)) 9 HG.out (List.replicate 8 vx) (by simp) (fun _ => ⟨rfl, _, rfl, HCS.out _ rfl⟩) (by simp) (fun v hv => by rw [List.eq_of_mem_replicate hv]; exact hv1) w.heap.size w (pw_below_drewN HB.out 1) (Nat.le_refl _) ?_; intro w4 hg4 hb4; clear HG HB HCS; have HG := Aside0.mk hg4; have HB := Aside0.mk hb4; clear hg4 hb4)
      all_goals
        go_wp2
        go_roundg 0
        case measure => omega
        case rel =>
          refine ⟨16, 16, by simp, by go_num, ⟨?_⟩, HB⟩
          have h := HG.out
          rw [splice_rep vx (.string ByteArray.empty) 8 8 (by decide)] at h
          exact h
    · go_wp2
      go_ret
      exact ⟨rfl, by have h := HG.out; simpa [Hid] using h, HB.out⟩
def slices_Repeat_string_string.f (l0 : List ByteArray) (a1 : Int) : Option (List ByteArray) := if a1 = 16 then (match l0 with | [x] => some (List.replicate 16 x) | _ => none) else none
theorem slices_Repeat_string_string_encs (x : ByteArray) (n : Nat) : encs (fun y : ByteArray => (.string y : Value)) (List.replicate n x) = List.replicate n (.string x : Value) := by simp [encs]
theorem slices_Repeat_string_string.calls (A0 : Option Addr) (c0 : Nat) (l0 : List ByteArray) (a1 : Int) (r : List ByteArray) (w : World) (hr0 : Kd.C Kd.string w A0 l0.length l0) (hc0 : l0.length ≤ c0) (h : slices_Repeat_string_string.f l0 a1 = some r) :
    Calls Try.prog 135 #[.slice A0 l0.length c0, .int .i64 a1] w fun e w' => ∃ v0_ : Value, e = .returned v0_ ∧ Kd.R Kd.string 9 w' w.heap.size (fun _ => True) v0_ r ∧ Below w.heap.size w w' := by
  unfold slices_Repeat_string_string.f at h
  by_cases ha : a1 = 16
  · rw [if_pos ha] at h
    subst ha
    match l0, h, hr0, hc0 with
    | [x], h, hr0, hc0 =>
      obtain rfl := Option.some.inj h
      obtain ⟨ad, rfl, hcells⟩ := hr0.2.2 (by simp)
      obtain ⟨cs, hcl, hk, hcell⟩ := hcells 0 x rfl
      obtain rfl : cs = [(.string x : Value)] := hk
      have h0 : w.cell? ad = some (.string x : Value) := hcell 0 _ rfl
      have hlt : ad.block < w.heap.size := World.block_lt_of_cell? w ad h0
      refine (fx_rep_string c0 (.string x : Value) rfl ad w h0 hlt).mono ?_
      rintro e w' ⟨rfl, hg, hb⟩
      have hg' : w'.heap[w.heap.size]? = some (.cells (List.replicate 16 (.string x : Value)).toArray 9 (0, 0)) := hg
      refine ⟨_, rfl, ⟨fun _ _ => trivial, List.replicate 16 (.string x : Value), ?_, ?_⟩, hb⟩
      · exact ⟨by simp; rfl, .inr ⟨w.heap.size, 16, _, by simp, Nat.le_refl _, hg', by simp, by decide, by simp; rfl, by simp; rfl⟩⟩
      · have := Kd.reps_scalar (enc := fun y : ByteArray => (.string y : Value)) (List.replicate 16 x)
        rw [slices_Repeat_string_string_encs] at this
        exact this
    | [], h, _, _ => cases h
    | _ :: _ :: _, h, _, _ => cases h
  · rw [if_neg ha] at h
    cases h

/-! ### impl_emptyBlocks: function 121 -/
def impl_emptyBlocks.f  : Option (List ByteArray) := (slices_Repeat_string_string.f (([(⟨#[0, 0]⟩ : ByteArray)] : List ByteArray)) 16).bind fun t224 => (some t224)
set_option maxHeartbeats 8000000 in
set_option maxRecDepth 100000 in
theorem impl_emptyBlocks.calls  (r : List ByteArray) (w : World) (h : impl_emptyBlocks.f  = some r) :
    Calls Try.prog 121 #[] w fun e w' => ∃ v0_ : Value, e = .returned (v0_) ∧ Kd.R Kd.string 9 w' w.heap.size (fun _ => True) v0_ r ∧ Below w.heap.size w w' := by
  have HB := Aside0.mk (Below.refl w.heap.size w)
  have H : ((slices_Repeat_string_string.f (([(⟨#[0, 0]⟩ : ByteArray)] : List ByteArray)) 16).bind fun t224 => (some t224)) = some r := h
  clear h
  obtain ⟨y221, hy221⟩ : ∃ y_ : List ByteArray, y_ = (([(⟨#[0, 0]⟩ : ByteArray)] : List ByteArray)) := ⟨_, rfl⟩
  replace H : ((slices_Repeat_string_string.f y221 16).bind fun t224 => (some t224)) = some r := by first | (rw [hy221]; with_reducible exact H) | (have H2_ := (Option.bind_some _ _).symm.trans H; rw [hy221]; with_reducible exact H2_) | (have H2_ := (Option.bind_some _ _).symm.trans H; with_reducible exact H2_) | with_reducible exact H | (rw [hy221]; exact H) | exact H
  have Ny221 := Aside0.mk hy221
  clear hy221
  replace H := Option.bind_eq_some_iff.mp H
  obtain ⟨t224, A10, H⟩ := H
  replace H : (some t224) = some r := H
  have A1 := Aside0.mk A10
  clear A10
  obtain rfl := Option.some.inj H
  go_enter Try.func121, Try.ntmps121
  go_wp2_with (first | ((with_reducible refine gate_dst (N := 1) rfl ?_); refine Kd.R_lit Kd.string _ 9 ?hg (N := 1) ?hd (xs := ([(⟨#[0, 0]⟩ : ByteArray)] : List ByteArray)) (inner := [.string (⟨#[0, 0]⟩ : ByteArray)]) (ok := fun _ => True) (okp := fun _ => True) ?hr ?hp (fun _ hk => hk) trivial (Below.refl _ _) (Nat.le_refl _) (by simp) ?_; (case hd => rfl); (case hg => rfl); (case hr => first | (go_simp; done) | (go_simp; rfl)); (case hp => exact (Reps.one (show Kd.M Kd.string _ _ _ (⟨#[0, 0]⟩ : ByteArray) [.string (⟨#[0, 0]⟩ : ByteArray)] from rfl) (Reps.none _ _))); intro v222 w2 ho3 hb hg_ hnew_; clear hg_ hnew_; (first | rw [← Ny221.out] at ho3 | (simp only [Int.reduceToNat] at ho3; rw [← Ny221.out] at ho3)); have n0_ := Aside0.mk (Kd.R_lower ho3 (below_size (by repeat (first | (with_reducible first | exact HB.out | apply below_alloc | apply pw_below_drewN | apply below_drew1) | exact HB.out)))); have n1_ := Aside0.mk (below_step (by repeat (first | (with_reducible first | exact HB.out | apply below_alloc | apply pw_below_drewN | apply below_drew1) | exact HB.out)) hb); clear HB; have HO223 := n0_; have HB := n1_; clear n0_ n1_; clear hb ho3; obtain ⟨Ao4, co4, eo4⟩ := Kd.R_slice HO223.out; subst eo4) | ((with_reducible refine gate_callee (f := 135) rfl ?_); refine goesL_ (some 2) rfl rfl Try.func135 (by kernel_rfl) rfl #[.slice Ao4 y221.length co4, .int .i64 16] rfl (by (try simp only [List.map_toArray, List.map_cons, List.map_nil]); first | done | rfl | (simp only [List.length_drop, List.length_take]; rfl)) ?_; (with_reducible refine (slices_Repeat_string_string.calls _ _ y221 16 t224 _ ?side1 ?side2 A1.out).mono ?_); (case side1 => repeat (first | exact (Kd.R_reads' HO223.out).2.2 | (with_reducible refine Kd.C_alloc ?_ _) | (with_reducible refine Kd.C_drewN ?_ _) | (with_reducible refine Kd.C_drew ?_))); (case side2 => exact (Kd.R_reads' HO223.out).2.1); rintro e w5 ⟨v225, rfl, ho0, hb⟩; refine ⟨_, rfl, ?_⟩; have n0_ := Aside0.mk (Kd.R_elder' (by (with_reducible repeat (first | apply Kd.R_alloc | apply Kd.R_drewN | apply Kd.R_drew)); exact HO223.out) (Kd.R_base ho0) hb); have n1_ := Aside0.mk (Kd.R_lower (Kd.R_new' ho0 (Kd.R_lt (by (with_reducible repeat (first | apply Kd.R_alloc | apply Kd.R_drewN | apply Kd.R_drew)); exact HO223.out))) (below_size (by repeat (first | (with_reducible first | exact HB.out | apply below_alloc | apply pw_below_drewN | apply below_drew1) | exact HB.out)))); have n2_ := Aside0.mk (below_step (by repeat (first | (with_reducible first | exact HB.out | apply below_alloc | apply pw_below_drewN | apply below_drew1) | exact HB.out)) hb); clear HO223; clear HB; have HO223 := n0_; have HO226 := n1_; have HB := n2_; clear n0_ n1_ n2_; (try clear hb); (try clear hb2); (try clear hk); (try clear hi); (try clear ho0)))
  go_ret
  exact ⟨_, by first | rfl | (simp [errW_none, errW_some] <;> rfl) | (simp [*, errW_none, errW_some] <;> rfl), by (with_reducible repeat (first | apply Kd.R_alloc | apply Kd.R_drewN | apply Kd.R_drew)); exact Kd.R_mono HO226.out (fun _ hk => trivial), by repeat (first | (with_reducible first | exact HB.out | apply below_alloc | apply pw_below_drewN | apply below_drew1) | exact HB.out)⟩

/-! ### impl_Marks_at: function 88 -/
mutual
def impl_Marks_at.l0 : Nat → List ByteArray → List (S94) → Int → Int → Option (List ByteArray)
  | 0, _, _, _, _ => none
  | k + 1, x5, x15, x16, x17 => if x17 < x16 then (if 0 ≤ x17 then (if x17 < (x15.length : Int) then (impl_Marks_at.l1 k x5 x15 x16 x17 ((rd_T94 x15 x17).f1) (((rd_T94 x15 x17).f1).length : Int) 0 ((rd_T94 x15 x17).f0) ((rd_T94 x15 x17).f1) ((rd_T94 x15 x17).f2)) else (none)) else (none)) else (some x5)
def impl_Marks_at.l1 : Nat → List ByteArray → List (S94) → Int → Int → List Int → Int → Int → Int → List Int → List ByteArray → Option (List ByteArray)
  | 0, _, _, _, _, _, _, _, _, _, _ => none
  | k + 1, x5, x15, x16, x17, x22, x23, x24, x237000, x237001, x237002 => if x24 < x23 then (if 0 ≤ x24 then (if x24 < (x22.length : Int) then (if x24 < (x237002.length : Int) then (if 0 ≤ (rd x22 x24) then (if (rd x22 x24) < (x5.length : Int) then (impl_Marks_at.l1 k (x5.set ((rd x22 x24) : Int).toNat (rdOf ByteArray.empty x237002 x24)) x15 x16 x17 x22 x23 (wrap64 (x24 + 1)) x237000 x237001 x237002) else (none)) else (none)) else (none)) else (none)) else (none)) else (impl_Marks_at.l0 k x5 x15 x16 (wrap64 (x17 + 1)))
end
def impl_Marks_at.f (k : Nat) (l0_0 : List (S94)) (a1 : Int) : Option (List ByteArray) := (impl_emptyBlocks.f).bind fun t228 => (if 0 ≤ (wrap64 (a1 + 1)) then (if (wrap64 (a1 + 1)) ≤ (l0_0.length : Int) then ((some (l0_0.take ((wrap64 (a1 + 1)) : Int).toNat : List (S94))).bind fun y231 => (impl_Marks_at.l0 k t228 y231 (y231.length : Int) 0)) else (none)) else (none))
theorem impl_Marks_at.mono_l : ∀ k, (∀ y0 y1 y2 y3, LeO (impl_Marks_at.l0 k y0 y1 y2 y3) (impl_Marks_at.l0 (k + 1) y0 y1 y2 y3)) ∧ (∀ y0 y1 y2 y3 y4 y5 y6 y7 y8 y9, LeO (impl_Marks_at.l1 k y0 y1 y2 y3 y4 y5 y6 y7 y8 y9) (impl_Marks_at.l1 (k + 1) y0 y1 y2 y3 y4 y5 y6 y7 y8 y9))
  | 0 => ⟨fun _ _ _ _ r h => by simp [impl_Marks_at.l0] at h, fun _ _ _ _ _ _ _ _ _ _ r h => by simp [impl_Marks_at.l1] at h⟩
  | k + 1 => by
    obtain ⟨ih0, ih1⟩ := impl_Marks_at.mono_l k
    refine ⟨?_, ?_⟩
    · intro y0 y1 y2 y3
      unfold impl_Marks_at.l0
      repeat' first
      | (with_reducible exact ih0 _ _ _ _)
      | (with_reducible exact ih1 _ _ _ _ _ _ _ _ _ _)
      | (with_reducible exact LeO.refl _)
      | (with_reducible exact LeO.none _)
      | (with_reducible refine LeO.ite ?_ ?_)
      | (with_reducible refine LeO.bind ?_ (fun _ => ?_))
      | exact ih0 _ _ _ _
      | exact ih1 _ _ _ _ _ _ _ _ _ _
      | exact LeO.none _
      | refine LeO.ite ?_ ?_
      | refine LeO.bind ?_ (fun _ => ?_)
    · intro y0 y1 y2 y3 y4 y5 y6 y7 y8 y9
      unfold impl_Marks_at.l1
      repeat' first
      | (with_reducible exact ih0 _ _ _ _)
      | (with_reducible exact ih1 _ _ _ _ _ _ _ _ _ _)
      | (with_reducible exact LeO.refl _)
      | (with_reducible exact LeO.none _)
      | (with_reducible refine LeO.ite ?_ ?_)
      | (with_reducible refine LeO.bind ?_ (fun _ => ?_))
      | exact ih0 _ _ _ _
      | exact ih1 _ _ _ _ _ _ _ _ _ _
      | exact LeO.none _
      | refine LeO.ite ?_ ?_
      | refine LeO.bind ?_ (fun _ => ?_)
theorem impl_Marks_at.mono : ∀ a0 a1 k, LeO (impl_Marks_at.f k a0 a1) (impl_Marks_at.f (k + 1) a0 a1) := by
  intro a0 a1 k
  obtain ⟨ih0, ih1⟩ := impl_Marks_at.mono_l k
  unfold impl_Marks_at.f
  repeat' first
      | (with_reducible exact ih0 _ _ _ _)
      | (with_reducible exact ih1 _ _ _ _ _ _ _ _ _ _)
      | (with_reducible exact LeO.refl _)
      | (with_reducible exact LeO.none _)
      | (with_reducible refine LeO.ite ?_ ?_)
      | (with_reducible refine LeO.bind ?_ (fun _ => ?_))
      | exact ih0 _ _ _ _
      | exact ih1 _ _ _ _ _ _ _ _ _ _
      | exact LeO.none _
      | refine LeO.ite ?_ ?_
      | refine LeO.bind ?_ (fun _ => ?_)
set_option maxHeartbeats 8000000 in
set_option maxRecDepth 100000 in
theorem impl_Marks_at.calls (k : Nat) (A0_0 : Option Addr) (c0_0 : Nat) (l0_0 : List (S94)) (a1 : Int) (r : List ByteArray) (w : World) (hr0_0 : Kd.C k94 w A0_0 l0_0.length l0_0) (hc0_0 : l0_0.length ≤ c0_0) (h : impl_Marks_at.f k l0_0 a1 = some r) :
    Calls Try.prog 88 #[.agg #[.slice A0_0 l0_0.length c0_0], .int .i64 a1] w fun e w' => ∃ v0_ : Value, e = .returned (v0_) ∧ Kd.R Kd.string 9 w' w.heap.size (fun _ => True) v0_ r ∧ Below w.heap.size w w' := by
  have hu47 := Try.underlying47
  have hu94 := Try.underlying94
  have HR0_0 := Aside0.mk hr0_0
  have HC0_0 := Aside0.mk hc0_0
  clear hr0_0 hc0_0
  have HB := Aside0.mk (Below.refl w.heap.size w)
  have H : ((impl_emptyBlocks.f).bind fun t228 => (if 0 ≤ (wrap64 (a1 + 1)) then (if (wrap64 (a1 + 1)) ≤ (l0_0.length : Int) then ((some (l0_0.take ((wrap64 (a1 + 1)) : Int).toNat : List (S94))).bind fun y231 => (impl_Marks_at.l0 k t228 y231 (y231.length : Int) 0)) else (none)) else (none))) = some r := h
  clear h
  replace H := Option.bind_eq_some_iff.mp H
  obtain ⟨t228, A30, H⟩ := H
  replace H : (if 0 ≤ (wrap64 (a1 + 1)) then (if (wrap64 (a1 + 1)) ≤ (l0_0.length : Int) then ((some (l0_0.take ((wrap64 (a1 + 1)) : Int).toNat : List (S94))).bind fun y231 => (impl_Marks_at.l0 k t228 y231 (y231.length : Int) 0)) else (none)) else (none)) = some r := H
  have A3 := Aside0.mk A30
  clear A30
  obtain ⟨ji4, hji4⟩ : ∃ j_ : Int, (wrap64 (a1 + 1)) = j_ := ⟨_, rfl⟩
  replace H : (if 0 ≤ (ji4) then (if (ji4) ≤ (l0_0.length : Int) then ((some (l0_0.take ((ji4) : Int).toNat : List (S94))).bind fun y231 => (impl_Marks_at.l0 k t228 y231 (y231.length : Int) 0)) else (none)) else (none)) = some r := by first | (rw [hji4] at H; exact H) | (simp only [hji4] at H ⊢; exact H)
  (try rw [hji4] at A3)
  have hji4w : (IntKind.i64.wrap (a1 + 1)) = ji4 := (i64_w _).trans hji4
  by_cases c5 : 0 ≤ (ji4)
  · rw [if_pos c5] at H
    have c5b0 := eq_true c5
    have c5b1 : decide (0 ≤ (ji4)) = true := decide_eq_true c5
    clear c5
    by_cases c6 : (ji4) ≤ (l0_0.length : Int)
    · rw [if_pos c6] at H
      have c6b0 := eq_true c6
      have c6b1 : decide ((ji4) ≤ (l0_0.length : Int)) = true := decide_eq_true c6
      clear c6
      obtain ⟨y231, hy231⟩ : ∃ y_ : List (S94), y_ = (l0_0.take ((ji4) : Int).toNat) := ⟨_, rfl⟩
      replace H : (impl_Marks_at.l0 k t228 y231 (y231.length : Int) 0) = some r := by first | (rw [hy231]; with_reducible exact H) | (have H2_ := (Option.bind_some _ _).symm.trans H; rw [hy231]; with_reducible exact H2_) | (have H2_ := (Option.bind_some _ _).symm.trans H; with_reducible exact H2_) | with_reducible exact H | (rw [hy231]; exact H) | exact H
      have Ny231 := Aside0.mk hy231
      clear hy231
      have H' := Aside0.mk H
      clear H
      go_enter Try.func88, Try.ntmps88
      go_wp2_with (first | ((with_reducible refine gate_dst (N := 2) rfl ?_); refine box_event ?hg (N := 2) ?hd (cs := #[.slice A0_0 l0_0.length c0_0]) (t := 47) ?hr ?_; (case hd => rfl); (case hg => rfl); (case hr => first | (go_simp; done) | (go_simp; rfl)); intro gb227 hg w7 hbox hb; have n0_ := Aside0.mk (below_step (by repeat (first | (with_reducible first | exact HB.out | apply below_alloc | apply pw_below_drewN | apply below_drew1) | exact HB.out)) hb); have n1_ := Aside0.mk (hbox); have n2_ := Aside0.mk ((by rw [hg]; exact (below_size (by repeat (first | (with_reducible first | exact HB.out | apply below_alloc | apply pw_below_drewN | apply below_drew1) | exact HB.out))) : w.heap.size ≤ gb227)); have n3_ := Aside0.mk ((by rw [hg]; exact (below_size (by repeat (first | (with_reducible first | exact HB.out | apply below_alloc | apply pw_below_drewN | apply below_drew1) | exact HB.out))) : w.heap.size ≤ gb227)); clear HB; have HB := n0_; have BK227 := n1_; have GW227 := n2_; have GE227 := n3_; clear n0_ n1_ n2_ n3_; clear hb hbox hg) | ((with_reducible refine gate_callee (f := 121) rfl ?_); refine goesL_ (some 10) rfl rfl Try.func121 (by kernel_rfl) rfl #[] rfl (by (try simp only [List.map_toArray, List.map_cons, List.map_nil]); first | done | rfl | (simp only [List.length_drop, List.length_take]; rfl)) ?_; (with_reducible refine (impl_emptyBlocks.calls  t228 _ A3.out).mono ?_); rintro e w8 ⟨v229, rfl, ho0, hb⟩; refine ⟨_, rfl, ?_⟩; have n0_ := Aside0.mk (Kd.R_lower ho0 (below_size (by repeat (first | (with_reducible first | exact HB.out | apply below_alloc | apply pw_below_drewN | apply below_drew1 | refine below_set ?_ GE227.out) | exact HB.out)))); have n1_ := Aside0.mk (blk_below (g := gb227) (o := .cells #[.slice A0_0 l0_0.length c0_0] 47 (0, 0)) (by (with_reducible repeat (first | refine blk_drewN ?_ _ | refine blk_drew ?_ | refine blk_alloc ?_ _)); exact BK227.out) hb); have n2_ := Aside0.mk (below_step (by repeat (first | (with_reducible first | exact HB.out | apply below_alloc | apply pw_below_drewN | apply below_drew1 | refine below_set ?_ GE227.out) | exact HB.out)) hb); clear BK227; clear HB; have HO230 := n0_; have BK227 := n1_; have HB := n2_; clear n0_ n1_ n2_; (try clear hb); (try clear hb2); (try clear hk); (try clear hi); (try clear ho0); have hcz9_0 : w8.cell? ⟨gb227, 0, none⟩ = some (.slice A0_0 l0_0.length c0_0) := (blk_cell BK227.out 0).trans rfl; have hfz9_0 := blk_frozen BK227.out 0; have q10 : ((ji4) : Int) ≤ ((l0_0.length : Int) : Int) := of_decide_eq_true (by first | (with_reducible assumption) | assumption); obtain ⟨i010, hi010, _, hsz10, _⟩ := info_parts info94; have hroom10 : l0_0.length ≤ c0_0 := HC0_0.out; have hC10 : Kd.C k94 _ A0_0 l0_0.length l0_0 := HR0_0.out; have hcut10 := cut_to (P := Try.prog) 45 94 .i64 Try.underlying45 hi010 A0_0 l0_0.length c0_0 (ji4) (of_decide_eq_true (by first | (with_reducible assumption) | assumption)) q10 hroom10; have hr10 := Kd.C_take (m := ((ji4) : Int).toNat) hC10 (by omega); have hy10 : y231.length = ((ji4) : Int).toNat := (by rw [Ny231.out, List.length_take]; omega); rw [← Ny231.out] at hr10; rw [← hy10] at hcut10; have HR234 := Aside0.mk hr10; have HC234 := Aside0.mk (show y231.length ≤ c0_0 from by omega); clear hr10 hC10 hroom10 hi010 hsz10; have KY10 := Aside0.mk hy10; clear hy10; replace q10 := eq_true q10))
      go_loopg [17] k (fun kq v17 w' => ∃ (x5_1 : List ByteArray) (x17_1 : Int), v17 = .int .i64 x17_1 ∧ Aside0 (impl_Marks_at.l0 kq x5_1 y231 (y231.length : Int) x17_1 = some r) ∧ Aside0 (kq ≤ k) ∧ Aside0 (Kd.R Kd.string 9 w' w.heap.size (fun _ => True) v229 x5_1) ∧ Aside0 (w'.heap[gb227]? = some (.cells #[(.slice A0_0 l0_0.length c0_0)] 47 (0, 0))) ∧ Aside0 (Below w.heap.size w w'))
      case atStart => exact ⟨(t228), (0), (by first | rfl | (simp; done) | (simp [*]; done)), H', ⟨Nat.le_refl _⟩, ⟨by (with_reducible repeat (first | apply Kd.R_alloc | apply Kd.R_drewN | apply Kd.R_drew)); exact HO230.out⟩, ⟨by (with_reducible repeat (first | refine blk_drewN ?_ _ | refine blk_drew ?_ | refine blk_alloc ?_ _)); exact BK227.out⟩, ⟨by repeat (first | (with_reducible first | exact HB.out | apply below_alloc | apply pw_below_drewN | apply below_drew1 | refine below_set ?_ GE227.out) | exact HB.out)⟩⟩
      case round =>
        clear H'
        try clear c1
        try clear q1
        try clear p2
        try clear c5
        try clear c5b0
        try clear c5b1
        try clear c6
        try clear c6b0
        try clear c6b1
        try clear p6
        try clear c8
        try clear q10
        try clear hcz9_0
        try clear hfz9_0
        try clear q10
        obtain ⟨x5_1, x17_1, rfl, HA, HK1, HO_5, BK227, HB⟩ := hrel
        cases gk with
        | zero => exact absurd HA.out (by simp [impl_Marks_at.l0])
        | succ k1 =>
          have H := HA.out
          clear HA
          simp only [impl_Marks_at.l0] at H
          by_cases c11 : x17_1 < (y231.length : Int)
          · rw [if_pos c11] at H
            have c11b0 : decide (x17_1 < (y231.length : Int)) = true := decide_eq_true c11
            clear c11
            by_cases c12 : 0 ≤ x17_1
            · rw [if_pos c12] at H
              have c12b0 : decide (0 ≤ x17_1) = true := decide_eq_true c12
              clear c12
              by_cases c13 : x17_1 < (y231.length : Int)
              · rw [if_pos c13] at H
                have c13b0 : decide (x17_1 < (y231.length : Int)) = true := decide_eq_true c13
                clear c13
                have H' := Aside0.mk H
                clear H
                have p235 : 0 ≤ (x17_1 : Int) := of_decide_eq_true (by first | (with_reducible assumption) | assumption)
                have q235 : x17_1 < (y231.length : Int) := of_decide_eq_true (by first | (with_reducible assumption) | assumption)
                obtain ⟨ad235, A235_1, c235_1, A235_2, c235_2, e235, hx235_0, hx235_1, hx235_2, hl235_1, hi235_1, hl235_2, hi235_2⟩ := at_T94 HR234.out x17_1 p235 q235
                cases e235
                replace hx235_0 := (HB.out.cell (World.block_lt_of_cell? w _ hx235_0)).trans hx235_0
                replace hx235_1 := (HB.out.cell (World.block_lt_of_cell? w _ hx235_1)).trans hx235_1
                replace hx235_2 := (HB.out.cell (World.block_lt_of_cell? w _ hx235_2)).trans hx235_2
                have HR235_1 := Aside0.mk hi235_1
                have HC235_1 := Aside0.mk hl235_1
                clear hi235_1 hl235_1
                have HR235_2 := Aside0.mk hi235_2
                have HC235_2 := Aside0.mk hl235_2
                clear hi235_2 hl235_2
                replace p235 := eq_true p235
                replace q235 := eq_true q235
                go_wp2_with (first | ((with_reducible refine gate_dst (N := 7) rfl ?_); refine box_event ?hg (N := 7) ?hd (cs := #[.int .i64 0, .slice none 0 0, .slice none 0 0]) (t := 94) ?hr ?_; (case hd => rfl); (case hg => rfl); (case hr => first | (go_simp; done) | (go_simp; rfl)); intro gb236 hg w14 hbox hb; have n0_ := Aside0.mk (Kd.R_below (by (with_reducible repeat (first | apply Kd.R_alloc | apply Kd.R_drewN | apply Kd.R_drew)); exact HO_5.out) hb); have n1_ := Aside0.mk (blk_below (g := gb227) (o := .cells #[.slice (some ad235) l0_0.length c0_0] 47 (0, 0)) (by (with_reducible repeat (first | refine blk_drewN ?_ _ | refine blk_drew ?_ | refine blk_alloc ?_ _)); exact BK227.out) hb); have n2_ := Aside0.mk (below_step (by repeat (first | (with_reducible first | exact HB.out | apply below_alloc | apply pw_below_drewN | apply below_drew1 | refine below_set ?_ GE227.out) | exact HB.out)) hb); have n3_ := Aside0.mk (hbox); have n4_ := Aside0.mk ((by rw [hg]; exact (below_size (by repeat (first | (with_reducible first | exact HB.out | apply below_alloc | apply pw_below_drewN | apply below_drew1 | refine below_set ?_ GE227.out) | exact HB.out))) : w.heap.size ≤ gb236)); have n5_ := Aside0.mk ((by rw [hg]; exact (below_size (by repeat (first | (with_reducible first | exact HB.out | apply below_alloc | apply pw_below_drewN | apply below_drew1 | refine below_set ?_ GE227.out) | exact HB.out))) : w.heap.size ≤ gb236)); have n6_ := Aside0.mk ((by rw [hg]; exact Nat.ne_of_lt (blk_lt (g := gb227) (o := .cells #[.slice (some ad235) l0_0.length c0_0] 47 (0, 0)) (by (with_reducible repeat (first | refine blk_drewN ?_ _ | refine blk_drew ?_ | refine blk_alloc ?_ _)); exact BK227.out)) : gb227 ≠ gb236)); have n7_ := Aside0.mk ((by rw [hg]; exact Nat.ne_of_gt (blk_lt (g := gb227) (o := .cells #[.slice (some ad235) l0_0.length c0_0] 47 (0, 0)) (by (with_reducible repeat (first | refine blk_drewN ?_ _ | refine blk_drew ?_ | refine blk_alloc ?_ _)); exact BK227.out)) : gb236 ≠ gb227)); clear HO_5; clear BK227; clear HB; have HO_5 := n0_; have BK227 := n1_; have HB := n2_; have BK236 := n3_; have GW236 := n4_; have GE236 := n5_; have NB227_236 := n6_; have NB236_227 := n7_; clear n0_ n1_ n2_ n3_ n4_ n5_ n6_ n7_; clear hb hbox hg; have hnb15 := NB236_227.out; have hnc15 := NB227_236.out; have hcz16_0 : w14.cell? ⟨gb236, 0, none⟩ = some (.int .i64 0) := (blk_cell BK236.out 0).trans rfl; have hcz16_1 : w14.cell? ⟨gb236, 1, none⟩ = some (.slice none 0 0) := (blk_cell BK236.out 1).trans rfl; have hcz16_2 : w14.cell? ⟨gb236, 2, none⟩ = some (.slice none 0 0) := (blk_cell BK236.out 2).trans rfl; have hfz16_0 := blk_frozen BK236.out 0; have hfz16_1 := blk_frozen BK236.out 1; have hfz16_2 := blk_frozen BK236.out 2))
                go_loopg [24] k1 (fun kq v24 w' => ∃ (x5_2 : List ByteArray) (x24_2 : Int), v24 = .int .i64 x24_2 ∧ Aside0 (impl_Marks_at.l1 kq x5_2 y231 (y231.length : Int) x17_1 ((rd_T94 y231 x17_1).f1) (((rd_T94 y231 x17_1).f1).length : Int) x24_2 ((rd_T94 y231 x17_1).f0) ((rd_T94 y231 x17_1).f1) ((rd_T94 y231 x17_1).f2) = some r) ∧ Aside0 (kq ≤ k1) ∧ Aside0 (Kd.R Kd.string 9 w' w.heap.size (fun _ => True) v229 x5_2) ∧ Aside0 (w'.heap[gb227]? = some (.cells #[(.slice (some ad235) l0_0.length c0_0)] 47 (0, 0))) ∧ Aside0 (w'.heap[gb236]? = some (.cells #[.int .i64 ((rd_T94 y231 x17_1).f0), (.slice A235_1 ((rd_T94 y231 x17_1).f1).length c235_1), (.slice A235_2 ((rd_T94 y231 x17_1).f2).length c235_2)] 94 (0, 0))) ∧ Aside0 (Below w.heap.size w w'))
                case atStart => exact ⟨(x5_1), (0), (by first | rfl | (simp; done) | (simp [*]; done)), H', ⟨Nat.le_refl _⟩, ⟨by (with_reducible repeat (first | apply Kd.R_alloc | apply Kd.R_drewN | apply Kd.R_drew)); exact Kd.R_mono (Kd.R_far (p := ⟨gb236, 2, none⟩) (Kd.R_far (p := ⟨gb236, 1, none⟩) (Kd.R_far (p := ⟨gb236, 0, none⟩) (Kd.R_types HO_5.out BK236.out (by decide)) (fun _ hk => hk.2) (.int .i64 ((rd_T94 y231 x17_1).f0))) (fun _ hk => hk.2) (.slice A235_1 ((rd_T94 y231 x17_1).f1).length c235_1)) (fun _ hk => hk.2) (.slice A235_2 ((rd_T94 y231 x17_1).f2).length c235_2)) (fun _ hk => trivial)⟩, ⟨by (with_reducible repeat (first | refine blk_drewN ?_ _ | refine blk_drew ?_ | refine blk_alloc ?_ _)); refine blk_far ?_ NB227_236.out _; (with_reducible repeat (first | refine blk_drewN ?_ _ | refine blk_drew ?_ | refine blk_alloc ?_ _)); refine blk_far ?_ NB227_236.out _; (with_reducible repeat (first | refine blk_drewN ?_ _ | refine blk_drew ?_ | refine blk_alloc ?_ _)); refine blk_far ?_ NB227_236.out _; (with_reducible repeat (first | refine blk_drewN ?_ _ | refine blk_drew ?_ | refine blk_alloc ?_ _)); exact BK227.out⟩, ⟨by (with_reducible repeat (first | refine blk_drewN ?_ _ | refine blk_drew ?_ | refine blk_alloc ?_ _)); refine blk_put (cs := #[.int .i64 ((rd_T94 y231 x17_1).f0), .slice A235_1 ((rd_T94 y231 x17_1).f1).length c235_1, .slice none 0 0]) ?_ 2 _ rfl; (with_reducible repeat (first | refine blk_drewN ?_ _ | refine blk_drew ?_ | refine blk_alloc ?_ _)); refine blk_put (cs := #[.int .i64 ((rd_T94 y231 x17_1).f0), .slice none 0 0, .slice none 0 0]) ?_ 1 _ rfl; (with_reducible repeat (first | refine blk_drewN ?_ _ | refine blk_drew ?_ | refine blk_alloc ?_ _)); refine blk_put (cs := #[.int .i64 0, .slice none 0 0, .slice none 0 0]) ?_ 0 _ rfl; (with_reducible repeat (first | refine blk_drewN ?_ _ | refine blk_drew ?_ | refine blk_alloc ?_ _)); exact BK236.out⟩, ⟨by repeat (first | (with_reducible first | exact HB.out | apply below_alloc | apply pw_below_drewN | apply below_drew1 | refine below_set ?_ GE227.out | refine below_set ?_ GE236.out) | exact HB.out)⟩⟩
                case round =>
                  clear H'
                  try clear c1
                  try clear q1
                  try clear c2
                  try clear p2
                  try clear q2
                  try clear hx2
                  try clear c5
                  try clear c5b0
                  try clear c5b1
                  try clear c6
                  try clear c6b0
                  try clear c6b1
                  try clear p6
                  try clear c8
                  try clear q10
                  try clear c11
                  try clear c11b0
                  try clear c12
                  try clear c12b0
                  try clear c13
                  try clear c13b0
                  try clear c15
                  try clear hcz16_0
                  try clear hcz16_1
                  try clear hcz16_2
                  try clear hcz9_0
                  try clear hfz16_0
                  try clear hfz16_1
                  try clear hfz16_2
                  try clear hfz9_0
                  try clear hx235_0
                  try clear hx235_1
                  try clear hx235_2
                  try clear p2
                  try clear p235
                  try clear p6
                  try clear q1
                  try clear q10
                  try clear q235
                  obtain ⟨x5_2, x24_2, rfl, HA, HK2, HO_5, BK227, BK236, HB⟩ := hrel
                  cases gk with
                  | zero => exact absurd HA.out (by simp [impl_Marks_at.l1])
                  | succ k2 =>
                    have H := HA.out
                    clear HA
                    simp only [impl_Marks_at.l1] at H
                    by_cases c17 : x24_2 < (((rd_T94 y231 x17_1).f1).length : Int)
                    · rw [if_pos c17] at H
                      have c17b0 : decide (x24_2 < (((rd_T94 y231 x17_1).f1).length : Int)) = true := decide_eq_true c17
                      clear c17
                      by_cases c18 : 0 ≤ x24_2
                      · rw [if_pos c18] at H
                        have c18b0 : decide (0 ≤ x24_2) = true := decide_eq_true c18
                        clear c18
                        by_cases c19 : x24_2 < (((rd_T94 y231 x17_1).f1).length : Int)
                        · rw [if_pos c19] at H
                          have c19b0 : decide (x24_2 < (((rd_T94 y231 x17_1).f1).length : Int)) = true := decide_eq_true c19
                          clear c19
                          by_cases c20 : x24_2 < (((rd_T94 y231 x17_1).f2).length : Int)
                          · rw [if_pos c20] at H
                            have c20b0 : decide (x24_2 < (((rd_T94 y231 x17_1).f2).length : Int)) = true := decide_eq_true c20
                            clear c20
                            by_cases c21 : 0 ≤ (rd ((rd_T94 y231 x17_1).f1) x24_2)
                            · rw [if_pos c21] at H
                              have c21b0 : decide (0 ≤ (rd ((rd_T94 y231 x17_1).f1) x24_2)) = true := decide_eq_true c21
                              clear c21
                              by_cases c22 : (rd ((rd_T94 y231 x17_1).f1) x24_2) < (x5_2.length : Int)
                              · rw [if_pos c22] at H
                                have c22b0 : decide ((rd ((rd_T94 y231 x17_1).f1) x24_2) < (x5_2.length : Int)) = true := decide_eq_true c22
                                clear c22
                                obtain ⟨y239, hy239⟩ : ∃ y_ : List ByteArray, y_ = (x5_2.set ((rd ((rd_T94 y231 x17_1).f1) x24_2) : Int).toNat (rdOf ByteArray.empty ((rd_T94 y231 x17_1).f2) x24_2)) := ⟨_, rfl⟩
                                replace H : (impl_Marks_at.l1 k2 y239 y231 (y231.length : Int) x17_1 ((rd_T94 y231 x17_1).f1) (((rd_T94 y231 x17_1).f1).length : Int) (wrap64 (x24_2 + 1)) ((rd_T94 y231 x17_1).f0) ((rd_T94 y231 x17_1).f1) ((rd_T94 y231 x17_1).f2)) = some r := by first | (rw [hy239]; with_reducible exact H) | (have H2_ := (Option.bind_some _ _).symm.trans H; rw [hy239]; with_reducible exact H2_) | (have H2_ := (Option.bind_some _ _).symm.trans H; with_reducible exact H2_) | with_reducible exact H | (rw [hy239]; exact H) | exact H
                                have Ny239 := Aside0.mk hy239
                                clear hy239
                                have H' := Aside0.mk H
                                clear H
                                have p237 : 0 ≤ (x24_2 : Int) := of_decide_eq_true (by first | (with_reducible assumption) | assumption)
                                have q237 : x24_2 < (((rd_T94 y231 x17_1).f1).length : Int) := of_decide_eq_true (by first | (with_reducible assumption) | assumption)
                                obtain ⟨ad237, e237, hx237_0⟩ := Kd.at_int HR235_1.out x24_2 p237 q237
                                cases e237
                                replace hx237_0 := (HB.out.cell (World.block_lt_of_cell? w _ hx237_0)).trans hx237_0
                                replace p237 := eq_true p237
                                replace q237 := eq_true q237
                                have hnb24 := NB236_227.out
                                have hnc24 := NB227_236.out
                                have hcz25_0 : wr.cell? ⟨gb236, 0, none⟩ = some (.int .i64 ((rd_T94 y231 x17_1).f0)) := (blk_cell BK236.out 0).trans rfl
                                have hcz25_1 : wr.cell? ⟨gb236, 1, none⟩ = some (.slice (some ad237) ((rd_T94 y231 x17_1).f1).length c235_1) := (blk_cell BK236.out 1).trans rfl
                                have hcz25_2 : wr.cell? ⟨gb236, 2, none⟩ = some (.slice A235_2 ((rd_T94 y231 x17_1).f2).length c235_2) := (blk_cell BK236.out 2).trans rfl
                                have hfz25_0 := blk_frozen BK236.out 0
                                have hfz25_1 := blk_frozen BK236.out 1
                                have hfz25_2 := blk_frozen BK236.out 2
                                have p238 : 0 ≤ (x24_2 : Int) := of_decide_eq_true (by first | (with_reducible assumption) | assumption)
                                have q238 : x24_2 < (((rd_T94 y231 x17_1).f2).length : Int) := of_decide_eq_true (by first | (with_reducible assumption) | assumption)
                                obtain ⟨ad238, e238, hx238_0⟩ := Kd.at_string HR235_2.out x24_2 p238 q238
                                cases e238
                                replace hx238_0 := (HB.out.cell (World.block_lt_of_cell? w _ hx238_0)).trans hx238_0
                                replace p238 := eq_true p238
                                replace q238 := eq_true q238
                                have p23 : 0 ≤ ((rd ((rd_T94 y231 x17_1).f1) x24_2) : Int) := of_decide_eq_true (by first | (with_reducible assumption) | assumption)
                                have q23 : ((rd ((rd_T94 y231 x17_1).f1) x24_2) : Int) < ((x5_2.length : Int) : Int) := of_decide_eq_true (by first | (with_reducible assumption) | assumption)
                                obtain ⟨go23, co23, eo23, gb23, gl23, cl23, HG23⟩ := Kd.R_form HO_5.out (by omega)
                                (first | cases eo23 | (injection eo23 with ea_ en_ ec_; (first | subst ea_ | (injection ea_ with ea_; subst ea_)); subst ec_; clear en_))
                                have GB23 := Aside0.mk gb23
                                have GG23 := Aside0.mk HG23
                                clear gb23 gl23 HG23
                                obtain ⟨hx23_0, hf23_0⟩ := Kd.R_celln (⟨#[]⟩ : ByteArray) HO_5.out ((rd ((rd_T94 y231 x17_1).f1) x24_2) : Int) p23 q23
                                replace p23 := eq_true p23
                                replace q23 := eq_true q23
                                have HP26 := Kd.R_putg HO_5.out ((rd ((rd_T94 y231 x17_1).f1) x24_2) : Int) (rdOf ByteArray.empty ((rd_T94 y231 x17_1).f2) x24_2)
                                go_wp2_with (first | ((with_reducible refine gate_store (t := 9) (p := 36) rfl ?_); refine store_event (t := 9) (p := 36) (v := ?vo_w27) (w1 := (wr.setCell ⟨go23, ((rd ((rd_T94 y231 x17_1).f1) x24_2) : Int).toNat, none⟩ (.string (rdOf ByteArray.empty ((rd_T94 y231 x17_1).f2) x24_2)))) ?hg ?ho ?hn ?hr ?_; (case ho => rfl); (case hg => rfl); (case hn => rfl); (case hr => first | (go_simp; done) | (go_simp; rfl)); intro w27 hw; have hg : wr.grownBy w27 (some go23) := (by rw [hw]; exact HP26.2); have hp_ : Kd.R Kd.string 9 w27 w.heap.size (fun _ => True) (.slice (some ⟨go23, 0, none⟩) x5_2.length co23) y239 := (by rw [hw, Ny239.out]; exact HP26.1); clear HP26; have n0_ := Aside0.mk (hp_); have n1_ := Aside0.mk (blk_grown (g := gb227) (o := .cells #[.slice (some ad235) l0_0.length c0_0] 47 (0, 0)) (by (with_reducible repeat (first | refine blk_drewN ?_ _ | refine blk_drew ?_ | refine blk_alloc ?_ _)); exact BK227.out) hg (Kd.R_ne HO_5.out BK227.out (by decide))); have n2_ := Aside0.mk (blk_grown (g := gb236) (o := .cells #[.int .i64 ((rd_T94 y231 x17_1).f0), .slice (some ad237) ((rd_T94 y231 x17_1).f1).length c235_1, .slice (some ad238) ((rd_T94 y231 x17_1).f2).length c235_2] 94 (0, 0)) (by (with_reducible repeat (first | refine blk_drewN ?_ _ | refine blk_drew ?_ | refine blk_alloc ?_ _)); exact BK236.out) hg (Kd.R_ne HO_5.out BK236.out (by decide))); have n3_ := Aside0.mk ((by rw [hw]; exact below_set (HB.out) GB23.out : Below w.heap.size w w27)); clear HO_5; clear BK227; clear BK236; clear HB; have HO_5 := n0_; have BK227 := n1_; have BK236 := n2_; have HB := n3_; clear n0_ n1_ n2_ n3_; clear hg hw hp_))
                                go_roundg k2
                                case measure => have := HK1.out; have := HK2.out; omega
                                case rel => exact ⟨(y239), (wrap64 (x24_2 + 1)), (by first | rfl | (simp; done) | (simp [*]; done)), H', ⟨by have := HK1.out; have := HK2.out; omega⟩, ⟨by (with_reducible repeat (first | apply Kd.R_alloc | apply Kd.R_drewN | apply Kd.R_drew)); exact HO_5.out⟩, ⟨by (with_reducible repeat (first | refine blk_drewN ?_ _ | refine blk_drew ?_ | refine blk_alloc ?_ _)); exact BK227.out⟩, ⟨by (with_reducible repeat (first | refine blk_drewN ?_ _ | refine blk_drew ?_ | refine blk_alloc ?_ _)); exact BK236.out⟩, ⟨by repeat (first | (with_reducible first | exact HB.out | apply below_alloc | apply pw_below_drewN | apply below_drew1 | refine below_set ?_ GE227.out | refine below_set ?_ GE236.out) | exact HB.out)⟩⟩
                              · rw [if_neg c22] at H
                                exact absurd H (by simp)
                            · rw [if_neg c21] at H
                              exact absurd H (by simp)
                          · rw [if_neg c20] at H
                            exact absurd H (by simp)
                        · rw [if_neg c19] at H
                          exact absurd H (by simp)
                      · rw [if_neg c18] at H
                        exact absurd H (by simp)
                    · rw [if_neg c17] at H
                      have c17b0 : decide (x24_2 < (((rd_T94 y231 x17_1).f1).length : Int)) = false := decide_eq_false c17
                      clear c17
                      have H' := Aside0.mk H
                      clear H
                      go_wp2
                      go_roundg k2
                      case measure => have := HK1.out; have := HK2.out; omega
                      case rel => exact ⟨(x5_2), (wrap64 (x17_1 + 1)), (by first | rfl | (simp; done) | (simp [*]; done)), H', ⟨by have := HK1.out; have := HK2.out; omega⟩, ⟨by (with_reducible repeat (first | apply Kd.R_alloc | apply Kd.R_drewN | apply Kd.R_drew)); exact HO_5.out⟩, ⟨by (with_reducible repeat (first | refine blk_drewN ?_ _ | refine blk_drew ?_ | refine blk_alloc ?_ _)); exact BK227.out⟩, ⟨by repeat (first | (with_reducible first | exact HB.out | apply below_alloc | apply pw_below_drewN | apply below_drew1 | refine below_set ?_ GE227.out | refine below_set ?_ GE236.out) | exact HB.out)⟩⟩
              · rw [if_neg c13] at H
                exact absurd H (by simp)
            · rw [if_neg c12] at H
              exact absurd H (by simp)
          · rw [if_neg c11] at H
            have c11b0 : decide (x17_1 < (y231.length : Int)) = false := decide_eq_false c11
            clear c11
            obtain rfl := Option.some.inj H
            go_wp2
            go_ret
            exact ⟨_, by first | rfl | (simp [errW_none, errW_some] <;> rfl) | (simp only [← hji4]; first | rfl | (simp [errW_none, errW_some] <;> rfl)) | (simp [*, errW_none, errW_some] <;> rfl), by (with_reducible repeat (first | apply Kd.R_alloc | apply Kd.R_drewN | apply Kd.R_drew)); exact HO_5.out, by repeat (first | (with_reducible first | exact HB.out | apply below_alloc | apply pw_below_drewN | apply below_drew1 | refine below_set ?_ GE227.out) | exact HB.out)⟩
    · rw [if_neg c6] at H
      exact absurd H (by simp)
  · rw [if_neg c5] at H
    exact absurd H (by simp)

/-! ### impl_unlike_string: function 89 -/
def impl_unlike_string.l0 : Nat → List ByteArray → List ByteArray → List Int → Int → Int → Option (List Int)
  | 0, _, _, _, _, _ => none
  | k + 1, x0, x1, x5, x8, x9 => if x9 < x8 then (if 0 ≤ x9 then (if x9 < (x0.length : Int) then (if x9 < (x1.length : Int) then (if (rdOf ByteArray.empty x0 x9).toList = (rdOf ByteArray.empty x1 x9).toList then (impl_unlike_string.l0 k x0 x1 x5 x8 (wrap64 (x9 + 1))) else (if x5.length < 17592186044416 then (impl_unlike_string.l0 k x0 x1 (x5 ++ [x9]) x8 (wrap64 (x9 + 1))) else (none))) else (none)) else (none)) else (none)) else (some x5)
def impl_unlike_string.f (k : Nat) (l0 : List ByteArray) (l1 : List ByteArray) : Option (List Int) := impl_unlike_string.l0 k l0 l1 ([] : List Int) (l0.length : Int) 0
theorem impl_unlike_string.mono_l : ∀ k, (∀ y0 y1 y2 y3 y4, LeO (impl_unlike_string.l0 k y0 y1 y2 y3 y4) (impl_unlike_string.l0 (k + 1) y0 y1 y2 y3 y4))
  | 0 => fun _ _ _ _ _ r h => by simp [impl_unlike_string.l0] at h
  | k + 1 => by
    have ih0 := impl_unlike_string.mono_l k
    · intro y0 y1 y2 y3 y4
      unfold impl_unlike_string.l0
      repeat' first
      | (with_reducible exact ih0 _ _ _ _ _)
      | (with_reducible exact LeO.refl _)
      | (with_reducible exact LeO.none _)
      | (with_reducible refine LeO.ite ?_ ?_)
      | (with_reducible refine LeO.bind ?_ (fun _ => ?_))
      | exact ih0 _ _ _ _ _
      | exact LeO.none _
      | refine LeO.ite ?_ ?_
      | refine LeO.bind ?_ (fun _ => ?_)
theorem impl_unlike_string.mono : ∀ a0 a1 k, LeO (impl_unlike_string.f k a0 a1) (impl_unlike_string.f (k + 1) a0 a1) := by
  intro a0 a1 k
  have ih0 := impl_unlike_string.mono_l k
  unfold impl_unlike_string.f
  repeat' first
      | (with_reducible exact ih0 _ _ _ _ _)
      | (with_reducible exact LeO.refl _)
      | (with_reducible exact LeO.none _)
      | (with_reducible refine LeO.ite ?_ ?_)
      | (with_reducible refine LeO.bind ?_ (fun _ => ?_))
      | exact ih0 _ _ _ _ _
      | exact LeO.none _
      | refine LeO.ite ?_ ?_
      | refine LeO.bind ?_ (fun _ => ?_)
set_option maxHeartbeats 8000000 in
set_option maxRecDepth 100000 in
theorem impl_unlike_string.calls (k : Nat) (A0 : Option Addr) (c0 : Nat) (l0 : List ByteArray) (A1 : Option Addr) (c1 : Nat) (l1 : List ByteArray) (r : List Int) (w : World) (hr0 : Kd.C Kd.string w A0 l0.length l0) (hc0 : l0.length ≤ c0) (hr1 : Kd.C Kd.string w A1 l1.length l1) (hc1 : l1.length ≤ c1) (h : impl_unlike_string.f k l0 l1 = some r) :
    Calls Try.prog 89 #[.slice A0 l0.length c0, .slice A1 l1.length c1] w fun e w' => ∃ v0_ : Value, e = .returned (v0_) ∧ Kd.R (Kd.int .i64) 3 w' w.heap.size (fun _ => True) v0_ r ∧ Below w.heap.size w w' := by
  have HR0 := Aside0.mk hr0
  have HC0 := Aside0.mk hc0
  clear hr0 hc0
  have HR1 := Aside0.mk hr1
  have HC1 := Aside0.mk hc1
  clear hr1 hc1
  have HB := Aside0.mk (Below.refl w.heap.size w)
  have H : (impl_unlike_string.l0 k l0 l1 ([] : List Int) (l0.length : Int) 0) = some r := h
  clear h
  have H' := Aside0.mk H
  clear H
  go_enter Try.func89, Try.ntmps89
  go_wp2
  repeat (go_quiet (fail); try go_wp2)
  go_loopg [5, 9] k (fun kq v5 v9 w' => ∃ (x5_1 : List Int) (x9_1 : Int), v9 = .int .i64 x9_1 ∧ Aside0 (impl_unlike_string.l0 kq l0 l1 x5_1 (l0.length : Int) x9_1 = some r) ∧ Aside0 (kq ≤ k) ∧ Aside0 (Kd.R (Kd.int .i64) 3 w' w.heap.size (fun _ => True) v5 x5_1) ∧ Aside0 (Below w.heap.size w w'))
  case atStart => exact ⟨(([] : List Int)), (0), (by first | rfl | (simp; done) | (simp [*]; done)), H', ⟨Nat.le_refl _⟩, ⟨by first | exact Kd.R_nil _ _ _ _ _ | exact Kd.N_nil _ _ _ _ _ | exact Kd.V_nil _ _ _ _ _ | exact Kd.Q_nil _ _ _ _ _ | exact Kd.S_nil _ _ _ _ _⟩, ⟨by repeat (first | (with_reducible first | exact HB.out | apply below_alloc | apply pw_below_drewN | apply below_drew1) | exact HB.out)⟩⟩
  case round =>
    clear H'
    try clear c1
    try clear p2
    obtain ⟨x5_1, x9_1, rfl, HA, HK1, HO_5, HB⟩ := hrel
    cases gk with
    | zero => exact absurd HA.out (by simp [impl_unlike_string.l0])
    | succ k1 =>
      have H := HA.out
      clear HA
      simp only [impl_unlike_string.l0] at H
      by_cases c3 : x9_1 < (l0.length : Int)
      · rw [if_pos c3] at H
        have c3b0 : decide (x9_1 < (l0.length : Int)) = true := decide_eq_true c3
        clear c3
        by_cases c4 : 0 ≤ x9_1
        · rw [if_pos c4] at H
          have c4b0 : decide (0 ≤ x9_1) = true := decide_eq_true c4
          clear c4
          by_cases c5 : x9_1 < (l0.length : Int)
          · rw [if_pos c5] at H
            have c5b0 : decide (x9_1 < (l0.length : Int)) = true := decide_eq_true c5
            clear c5
            by_cases c6 : x9_1 < (l1.length : Int)
            · rw [if_pos c6] at H
              have c6b0 : decide (x9_1 < (l1.length : Int)) = true := decide_eq_true c6
              clear c6
              by_cases c7 : (rdOf ByteArray.empty l0 x9_1).toList = (rdOf ByteArray.empty l1 x9_1).toList
              · rw [if_pos c7] at H
                have c7b0 : ((rdOf ByteArray.empty l0 x9_1).toList == (rdOf ByteArray.empty l1 x9_1).toList) = true := beq_iff_eq.mpr c7
                have c7b1 : ((rdOf ByteArray.empty l0 x9_1).toList != (rdOf ByteArray.empty l1 x9_1).toList) = false := bne_eq_false_iff_eq.mpr c7
                clear c7
                have H' := Aside0.mk H
                clear H
                have p240 : 0 ≤ (x9_1 : Int) := of_decide_eq_true (by first | (with_reducible assumption) | assumption)
                have q240 : x9_1 < (l0.length : Int) := of_decide_eq_true (by first | (with_reducible assumption) | assumption)
                obtain ⟨ad240, e240, hx240_0⟩ := Kd.at_string HR0.out x9_1 p240 q240
                cases e240
                replace hx240_0 := (HB.out.cell (World.block_lt_of_cell? w _ hx240_0)).trans hx240_0
                replace p240 := eq_true p240
                replace q240 := eq_true q240
                have p241 : 0 ≤ (x9_1 : Int) := of_decide_eq_true (by first | (with_reducible assumption) | assumption)
                have q241 : x9_1 < (l1.length : Int) := of_decide_eq_true (by first | (with_reducible assumption) | assumption)
                obtain ⟨ad241, e241, hx241_0⟩ := Kd.at_string HR1.out x9_1 p241 q241
                cases e241
                replace hx241_0 := (HB.out.cell (World.block_lt_of_cell? w _ hx241_0)).trans hx241_0
                replace p241 := eq_true p241
                replace q241 := eq_true q241
                go_wp2
                repeat (go_quiet (fail); try go_wp2)
                go_roundg k1
                case measure => have := HK1.out; omega
                case rel => exact ⟨(x5_1), (wrap64 (x9_1 + 1)), (by first | rfl | (simp; done) | (simp [*]; done)), H', ⟨by have := HK1.out; omega⟩, ⟨by (with_reducible repeat (first | apply Kd.R_alloc | apply Kd.R_drewN | apply Kd.R_drew)); exact HO_5.out⟩, ⟨by repeat (first | (with_reducible first | exact HB.out | apply below_alloc | apply pw_below_drewN | apply below_drew1) | exact HB.out)⟩⟩
              · rw [if_neg c7] at H
                have c7b0 : ((rdOf ByteArray.empty l0 x9_1).toList == (rdOf ByteArray.empty l1 x9_1).toList) = false := beq_eq_false_iff_ne.mpr c7
                have c7b1 : ((rdOf ByteArray.empty l0 x9_1).toList != (rdOf ByteArray.empty l1 x9_1).toList) = true := bne_iff_ne.mpr c7
                by_cases c8 : x5_1.length < 17592186044416
                · rw [if_pos c8] at H
                  have LMc8 := Aside0.mk c8
                  clear c8
                  obtain ⟨y242, hy242⟩ : ∃ y_ : List Int, y_ = (x5_1 ++ [x9_1]) := ⟨_, rfl⟩
                  replace H : (impl_unlike_string.l0 k1 l0 l1 y242 (l0.length : Int) (wrap64 (x9_1 + 1))) = some r := by first | (rw [hy242]; with_reducible exact H) | (have H2_ := (Option.bind_some _ _).symm.trans H; rw [hy242]; with_reducible exact H2_) | (have H2_ := (Option.bind_some _ _).symm.trans H; with_reducible exact H2_) | with_reducible exact H | (rw [hy242]; exact H) | exact H
                  have Ny242 := Aside0.mk hy242
                  clear hy242
                  have H' := Aside0.mk H
                  clear H
                  have p240 : 0 ≤ (x9_1 : Int) := of_decide_eq_true (by first | (with_reducible assumption) | assumption)
                  have q240 : x9_1 < (l0.length : Int) := of_decide_eq_true (by first | (with_reducible assumption) | assumption)
                  obtain ⟨ad240, e240, hx240_0⟩ := Kd.at_string HR0.out x9_1 p240 q240
                  cases e240
                  replace hx240_0 := (HB.out.cell (World.block_lt_of_cell? w _ hx240_0)).trans hx240_0
                  replace p240 := eq_true p240
                  replace q240 := eq_true q240
                  have p241 : 0 ≤ (x9_1 : Int) := of_decide_eq_true (by first | (with_reducible assumption) | assumption)
                  have q241 : x9_1 < (l1.length : Int) := of_decide_eq_true (by first | (with_reducible assumption) | assumption)
                  obtain ⟨ad241, e241, hx241_0⟩ := Kd.at_string HR1.out x9_1 p241 q241
                  cases e241
                  replace hx241_0 := (HB.out.cell (World.block_lt_of_cell? w _ hx241_0)).trans hx241_0
                  replace p241 := eq_true p241
                  replace q241 := eq_true q241
                  go_wp2_with (first | ((with_reducible refine gate_builtin (b := .append) (xs := #[.tmp 21, .tmp 23]) rfl ?_); at_builtin; refine Kd.R_append (Kd.int .i64) (w0 := w) w.heap.size rfl (.tmp 21) (.tmp 23) 40 3 (.int .i64 0) 8 rfl Try.underlying40 info3 rfl (by decide) (by omega) u5 x5_1 x9_1 [.int .i64 x9_1] (fun _ => True) (fun _ => False) rfl rfl ?aP (fun _ hk => hk.elim) ?aF ?aO ?aB ?aS ?aL ?_; (case aP => exact rfl); (case aB => exact (by repeat (first | (with_reducible first | exact HB.out | apply below_alloc | apply pw_below_drewN | apply below_drew1) | exact HB.out))); (case aF => exact (fun _ _ => trivial)); (case aO => exact (by (with_reducible repeat (first | apply Kd.R_alloc | apply Kd.R_drewN | apply Kd.R_drew)); exact HO_5.out)); (case aS => exact (below_size (by repeat (first | (with_reducible first | exact HB.out | apply below_alloc | apply pw_below_drewN | apply below_drew1) | exact HB.out)))); (case aL => have := LMc8.out; omega); intro v243 w9 ho hb hg hat; rw [← Ny242.out] at ho; have n0_ := Aside0.mk (hb); have n1_ := Aside0.mk (ho); clear HB; clear HO_5; have HB := n0_; have HO244 := n1_; clear n0_ n1_; clear ho hb hg hat))
                  repeat (go_quiet (first | ((with_reducible refine gate_builtin (b := .append) (xs := #[.tmp 21, .tmp 23]) rfl ?_); at_builtin; refine Kd.R_append (Kd.int .i64) (w0 := w) w.heap.size rfl (.tmp 21) (.tmp 23) 40 3 (.int .i64 0) 8 rfl Try.underlying40 info3 rfl (by decide) (by omega) u5 x5_1 x9_1 [.int .i64 x9_1] (fun _ => True) (fun _ => False) rfl rfl ?aP (fun _ hk => hk.elim) ?aF ?aO ?aB ?aS ?aL ?_; (case aP => exact rfl); (case aB => exact (by repeat (first | (with_reducible first | exact HB.out | apply below_alloc | apply pw_below_drewN | apply below_drew1) | exact HB.out))); (case aF => exact (fun _ _ => trivial)); (case aO => exact (by (with_reducible repeat (first | apply Kd.R_alloc | apply Kd.R_drewN | apply Kd.R_drew)); exact HO_5.out)); (case aS => exact (below_size (by repeat (first | (with_reducible first | exact HB.out | apply below_alloc | apply pw_below_drewN | apply below_drew1) | exact HB.out)))); (case aL => have := LMc8.out; omega); intro v243 w9 ho hb hg hat; rw [← Ny242.out] at ho; have n0_ := Aside0.mk (hb); have n1_ := Aside0.mk (ho); clear HB; clear HO_5; have HB := n0_; have HO244 := n1_; clear n0_ n1_; clear ho hb hg hat)); try go_wp2_with (first | ((with_reducible refine gate_builtin (b := .append) (xs := #[.tmp 21, .tmp 23]) rfl ?_); at_builtin; refine Kd.R_append (Kd.int .i64) (w0 := w) w.heap.size rfl (.tmp 21) (.tmp 23) 40 3 (.int .i64 0) 8 rfl Try.underlying40 info3 rfl (by decide) (by omega) u5 x5_1 x9_1 [.int .i64 x9_1] (fun _ => True) (fun _ => False) rfl rfl ?aP (fun _ hk => hk.elim) ?aF ?aO ?aB ?aS ?aL ?_; (case aP => exact rfl); (case aB => exact (by repeat (first | (with_reducible first | exact HB.out | apply below_alloc | apply pw_below_drewN | apply below_drew1) | exact HB.out))); (case aF => exact (fun _ _ => trivial)); (case aO => exact (by (with_reducible repeat (first | apply Kd.R_alloc | apply Kd.R_drewN | apply Kd.R_drew)); exact HO_5.out)); (case aS => exact (below_size (by repeat (first | (with_reducible first | exact HB.out | apply below_alloc | apply pw_below_drewN | apply below_drew1) | exact HB.out)))); (case aL => have := LMc8.out; omega); intro v243 w9 ho hb hg hat; rw [← Ny242.out] at ho; have n0_ := Aside0.mk (hb); have n1_ := Aside0.mk (ho); clear HB; clear HO_5; have HB := n0_; have HO244 := n1_; clear n0_ n1_; clear ho hb hg hat)))
                  go_roundg k1
                  case measure => have := HK1.out; omega
                  case rel => exact ⟨(y242), (wrap64 (x9_1 + 1)), (by first | rfl | (simp; done) | (simp [*]; done)), H', ⟨by have := HK1.out; omega⟩, ⟨by (with_reducible repeat (first | apply Kd.R_alloc | apply Kd.R_drewN | apply Kd.R_drew)); exact HO244.out⟩, ⟨by repeat (first | (with_reducible first | exact HB.out | apply below_alloc | apply pw_below_drewN | apply below_drew1) | exact HB.out)⟩⟩
                · rw [if_neg c8] at H
                  exact absurd H (by simp)
            · rw [if_neg c6] at H
              exact absurd H (by simp)
          · rw [if_neg c5] at H
            exact absurd H (by simp)
        · rw [if_neg c4] at H
          exact absurd H (by simp)
      · rw [if_neg c3] at H
        have c3b0 : decide (x9_1 < (l0.length : Int)) = false := decide_eq_false c3
        clear c3
        obtain rfl := Option.some.inj H
        go_wp2
        repeat (go_quiet (fail); try go_wp2)
        go_ret
        exact ⟨_, by first | rfl | (simp [errW_none, errW_some] <;> rfl) | (simp [*, errW_none, errW_some] <;> rfl), by (with_reducible repeat (first | apply Kd.R_alloc | apply Kd.R_drewN | apply Kd.R_drew)); exact HO_5.out, by repeat (first | (with_reducible first | exact HB.out | apply below_alloc | apply pw_below_drewN | apply below_drew1) | exact HB.out)⟩

end Go.Proofs.Ytleklbmodelehaa.PFnExactChangedIn

/- Lean functions with the same answers as the Go functions that one law reaches, and for each a proof that its call comes to just these answers. No condition. Written by pr.py, a program of this session. -/
import Derived.Test.YtcoceoplnehmcaaPFnExactUnlikeMapsx0
import Derived.Test.YtcoceoplnehmcaaPFnExactUnlikeMapsx3
namespace Go.Proofs.Ytcoceoplnehmcaa.PFnExactUnlikeMaps
open Go.RowKit Go.Proofs.YtcoceoplnehmcaaW.PrintWords Go.Proofs.YtcoceoplnehmcaaW.PrintLast Go.Proofs.YtcoceoplnehmcaaW.PrintMore
attribute [local go_sem] max2_int min2_int max_two min_two max_three min_three max_four min_four   -- for this text's walks alone
set_option linter.unusedVariables false
set_option linter.unusedSimpArgs false

/-! ### impl_places: function 55 (ours) -/
def encI (x : Int) : Value := .int .i64 x
theorem splice_map (out r : List Int) (a : Nat) : splice (out.map encI) a (r.map encI) = (splice out a r).map encI := by simp [splice, List.map_take, List.map_drop]
def placeStep (k : Nat) (out : List Int) (x : S47) : Option (List Int) := if 0 ≤ x.f0 then (impl_run.f k x.f2 x.f1).bind fun r => if 0 < r.length ∧ x.f0.toNat + r.length ≤ 16 then some (splice out x.f0.toNat r) else none else none
def placesF (k : Nat) : List Int → List S47 → Option (List Int)
  | out, [] => some out
  | out, x :: l => (placeStep k out x).bind fun o => placesF k o l
theorem placeStep_mono (k : Nat) (out : List Int) (x : S47) : LeO (placeStep k out x) (placeStep (k + 1) out x) := by
  unfold placeStep
  exact LeO.ite (LeO.bind (impl_run.mono x.f2 x.f1 k) fun _ => LeO.refl _) (LeO.refl _)
theorem placesF_mono (k : Nat) : ∀ (l : List S47) (out : List Int), LeO (placesF k out l) (placesF (k + 1) out l)
  | [], out => LeO.refl _
  | x :: l, out => LeO.bind (placeStep_mono k out x) fun o => placesF_mono k l o
def impl_places.f (k : Nat) (l0 : List S47) : Option (List Int) := placesF k (List.replicate 16 (-1)) l0
theorem reads_enc {W : World} {A : Option Addr} {rr : List Int} (hC : Kd.C (Kd.int .i64) W A rr.length rr) (h0 : 0 < rr.length) : ∃ ad, A = some ad ∧ ∀ (j : Nat) (v : Value), (rr.map encI)[j]? = some v → W.cell? (ad.add j) = some v := by
  obtain ⟨ad, rfl, hcells⟩ := hC.2.2 h0
  refine ⟨ad, rfl, fun j v hj => ?_⟩
  rw [List.getElem?_map] at hj
  obtain ⟨x, hx, rfl⟩ := Option.map_eq_some_iff.1 hj
  obtain ⟨cs, _, hk, hcell⟩ := hcells j x hx
  obtain rfl : cs = [.int .i64 x] := hk
  have := hcell 0 _ rfl
  simpa [show (Kd.int .i64).sz = 1 from rfl, encI] using this
theorem impl_places.mono : ∀ a0 k, LeO (impl_places.f k a0) (impl_places.f (k + 1) a0) := fun a0 k => placesF_mono k a0 _
set_option maxHeartbeats 4000000 in
set_option maxRecDepth 100000 in
theorem impl_places.calls (k : Nat) (A0 : Option Addr) (c0 : Nat) (l0 : List S47) (r : List Int) (w : World) (hr0 : Kd.C k47 w A0 l0.length l0) (hc0 : l0.length ≤ c0) (h : impl_places.f k l0 = some r) :
    Calls Try.prog 55 #[.slice A0 l0.length c0] w fun e w' => ∃ v0_ : Value, e = .returned v0_ ∧ Kd.R (Kd.int .i64) 3 w' w.heap.size (fun _ => True) v0_ r ∧ Below w.heap.size w w' := by
  obtain ⟨W1, hW1⟩ : ∃ W1, W1 = w.alloc (.cells #[.int .i64 (-1)] 3) := ⟨_, rfl⟩
  have hs1 : W1.heap.size = w.heap.size + 1 := by rw [hW1]; simp
  have hcB : W1.cell? ⟨w.heap.size, 0, none⟩ = some (.int .i64 (-1)) := by rw [hW1]; simp
  have hw1 : Below w.heap.size w W1 := by rw [hW1]; exact (Below.refl _ w).alloc (Nat.le_refl _) _
  have hrep := fx_rep_int 1 (.int .i64 (-1)) rfl ⟨w.heap.size, 0, none⟩ W1 hcB (by show w.heap.size < W1.heap.size; omega)
  rw [hs1] at hrep
  rw [hW1] at hrep
  have HE := Aside0.mk hW1
  have HW1 := Aside0.mk hw1
  have HS1 := Aside0.mk hs1
  clear hcB hw1 hs1 hW1
  have HC0 := Aside0.mk hc0
  have HR0 := Aside0.mk hr0
  have HH := Aside0.mk h
  obtain ⟨n, hN⟩ : ∃ n, l0.length = n := ⟨_, rfl⟩
  have hbig : n ≤ 9223372036854775807 := by rw [← hN]; exact hr0.2.1
  have HN := Aside0.mk hN
  rw [hN]
  clear hc0 hr0 h hN
  go_enter Try.func55, Try.ntmps55
  go_wp2_with (go_at_call 68; refine hrep.mono ?_; rintro e w2 ⟨rfl, hg2, hb2⟩; have HG2 := Aside0.mk hg2; have HB2 := Aside0.mk (HW1.out.trans ((show Below (w.heap.size + 1) W1 w2 by rw [HE.out]; exact hb2).mono (by omega))); clear hg2 hb2)
  clear hrep
  go_loopg [5, 10] n (fun gk s5 s10 wr => ∃ i : Nat, i + gk = n ∧ s10 = .int .i64 i ∧ ∃ out : List Int, Aside0 (placesF k out (l0.drop i) = some r) ∧ Aside0 (out.length = 16) ∧ Aside0 (wr.heap[w.heap.size + 1]? = some (.cells (out.map encI).toArray 3 (0, 0))) ∧ Aside0 (Below w.heap.size w wr))
  case atStart => exact ⟨0, by omega, rfl, List.replicate 16 (-1), HH, ⟨by simp⟩, ⟨by have h := HG2.out; simpa [encI, Hid] using h⟩, HB2⟩
  case round =>
    obtain ⟨i, hi, rfl, out, HP, HL, HG, HB⟩ := hrel
    by_cases hlt : i < n
    · have hlt' : decide ((i : Int) < (n : Int)) = true := decide_eq_true (by omega)
      have hli : i < l0.length := by rw [HN.out]; exact hlt
      obtain ⟨x, hx⟩ : ∃ x, l0[i]? = some x := ⟨_, List.getElem?_eq_getElem hli⟩
      have hC := HR0.out
      obtain ⟨ad, rfl, hcells⟩ := hC.2.2 (by omega)
      obtain ⟨cs, hcl, hk, hcell0⟩ := hcells i x hx
      obtain rfl := k47_open hk
      have hx0 : wr.cell? (ad.add (i * 3)) = some (.int .i64 x.f0) := pw_cell_below HB.out (hcell0 0 _ rfl)
      have hx1 : wr.cell? ⟨(ad.add (i * 3)).block, (ad.add (i * 3)).off + 1, none⟩ = some (.int .i64 x.f1) := by
        rw [← add_field _ _ 1 (by omega)]
        exact pw_cell_below HB.out (hcell0 1 _ rfl)
      have hx2 : wr.cell? ⟨(ad.add (i * 3)).block, (ad.add (i * 3)).off + 2, none⟩ = some (.int .i64 x.f2) := by
        rw [← add_field _ _ 2 (by omega)]
        exact pw_cell_below HB.out (hcell0 2 _ rfl)
      have hdrop : l0.drop i = x :: l0.drop (i + 1) := by
        obtain ⟨h1, h2⟩ := List.getElem?_eq_some_iff.1 hx
        rw [← h2, ← List.drop_eq_getElem_cons h1]
      have hP := HP.out
      rw [hdrop] at hP
      obtain ⟨o2, ho2, hP2⟩ := Option.bind_eq_some_iff.mp (show (placeStep k out x).bind (fun o => placesF k o (l0.drop (i + 1))) = some r from hP)
      unfold placeStep at ho2
      by_cases hf0 : 0 ≤ x.f0
      · rw [if_pos hf0] at ho2
        obtain ⟨rr, hrr, ho3⟩ := Option.bind_eq_some_iff.mp ho2
        by_cases hfit : 0 < rr.length ∧ x.f0.toNat + rr.length ≤ 16
        · rw [if_pos hfit] at ho3
          obtain rfl := Option.some.inj ho3
          have hrun := fun (W : World) => impl_run.calls k x.f2 x.f1 rr W hrr
          have HRUN := Aside0.mk hrun
          have HP2 := Aside0.mk hP2
          have HFIT := Aside0.mk hfit
          have hgk : gk = (n - (i + 1)) + 1 := by omega
          have HGK := Aside0.mk hgk
          clear hP hP2 ho2 ho3 hrr hrun hdrop hk hcl hcell0 hcells hC hgk hli hx
          obtain ⟨f0, f1, f2⟩ := x
          obtain ⟨a, rfl⟩ := Int.eq_ofNat_of_zero_le (show (0 : Int) ≤ f0 from hf0)
          have ha : a < 16 := by have := HFIT.out; simp at this; omega
          have HA := Aside0.mk ha
          have hfit2 : 0 < rr.length ∧ a + rr.length ≤ 16 := by have := HFIT.out; simpa using this
          have HF2 := Aside0.mk hfit2
          clear hfit2
          have hlim : decide ((a : Int) ≤ (16 : Int)) = true := decide_eq_true (by omega)
          have hlim1 : ¬ a = 16 := by omega
          have hlim2 : a ≤ 16 := by omega
          have hlim3 : ¬ 16 = a := by omega
          have hlim4 : (a : Int) ≤ 16 := by omega
          have hglt : w.heap.size + 1 < wr.heap.size := (Array.getElem?_eq_some_iff.1 HG.out).1
          have hAb : Below wr.heap.size wr (wr.alloc (.cells #[.int .i64 (a : Int), .int .i64 f1, .int .i64 f2] 47)) := (Below.refl _ wr).alloc (Nat.le_refl _) _
          have hgA : (wr.alloc (.cells #[.int .i64 (a : Int), .int .i64 f1, .int .i64 f2] 47)).heap[w.heap.size + 1]? = some (.cells (out.map encI).toArray 3 (0, 0)) := (hAb.block _ hglt).trans HG.out
          have HGA := Aside0.mk hgA
          have HAB := Aside0.mk (below_drew (HB.out.trans (hAb.mono HB.out.size)))
          have HGL := Aside0.mk hglt
          have hdsz : (wr.alloc (.cells #[.int .i64 (a : Int), .int .i64 f1, .int .i64 f2] 47)).drew.heap.size = wr.heap.size + 1 := by simp
          have hdc : (wr.alloc (.cells #[.int .i64 (a : Int), .int .i64 f1, .int .i64 f2] 47)).drew.cell? ⟨wr.heap.size, 0, none⟩ = some (.int .i64 (a : Int)) := by simp
          have HDS := Aside0.mk hdsz
          have HDC := Aside0.mk hdc
          have HBS := Aside0.mk HB.out.size
          clear hdsz hdc
          clear hgA hAb hglt
          go_wp2
          go_region_law (first
            | (refine goes_ Try.func57 (by kernel_rfl) rfl #[.int .i64 f2, .int .i64 f1] (by rfl) rfl rfl (by (try simp only [List.map_toArray, List.map_cons, List.map_nil]); first | done | rfl | simp [Act.eval, Act.put]) ?_
               refine (HRUN.out _).mono ?_
               rintro e w5 ⟨v5, rfl, ho5, hb5⟩
               refine ⟨_, rfl, ?_⟩
               obtain ⟨A5, c5, rfl, hc5, hC5⟩ := Kd.R_reads ho5
               have hx50 : w5.cell? ⟨wr.heap.size, 0, none⟩ = some (.int .i64 (a : Int)) := (hb5.cell (p := ⟨wr.heap.size, 0, none⟩) (by show wr.heap.size < _; rw [HDS.out]; omega)).trans HDC.out
               have HG5 := Aside0.mk ((hb5.block (w.heap.size + 1) (by rw [HDS.out]; have := HGL.out; omega)).trans HGA.out)
               have HB5 := Aside0.mk (HAB.out.trans (hb5.mono (by rw [HDS.out]; have := HBS.out; omega)))
               have HC5 := Aside0.mk hC5
               clear hC5 ho5 hb5 hc5)
            | (refine step_copy_splice rfl (.tmp 17) (.tmp 22) 29 29 rfl 3 Try.underlying29 (by kernel_rfl) (some ⟨w.heap.size + 1, a, none⟩) _ (16 - a) (16 - a) rr.length _ (by simp [Act.eval, Act.put]) (by simp [Act.eval, Act.put]; rfl) (w.heap.size + 1) a (out.map encI) 3 HG5.out (rr.map encI) (by rw [List.length_map]; exact (Nat.min_eq_left (by have := HF2.out; omega)).symm) (fun h0 => ⟨rfl, reads_enc HC5.out (by simpa using h0)⟩) (by have := HF2.out; have := HL.out; rw [List.length_map, List.length_map]; omega) (fun v hv => by obtain ⟨y, _, rfl⟩ := List.mem_map.1 hv; rfl) w.heap.size w HB5.out (by omega) ?_
               intro w6 hg6 hb6
               have HG6 := Aside0.mk hg6
               have HB6 := Aside0.mk hb6
               clear hg6 hb6))
          all_goals
            go_wp2
            go_roundg (n - (i + 1))
            case measure => omega
            case rel =>
              have hsp : Aside0 (w6.heap[w.heap.size + 1]? = some (.cells ((splice out a rr).map encI).toArray 3 (0, 0))) := ⟨by
                have h : w6.heap[w.heap.size + 1]? = some (.cells (splice (out.map encI) a (rr.map encI)).toArray 3 (0, 0)) := HG6.out
                rw [splice_map] at h
                exact h⟩
              exact ⟨i + 1, by omega, by go_num, splice out a rr, HP2, ⟨by rw [length_splice _ _ _ (by have := HF2.out; have := HL.out; omega)]; exact HL.out⟩, hsp, HB6⟩
        · rw [if_neg hfit] at ho3; cases ho3
      · rw [if_neg hf0] at ho2; cases ho2
    · have hlt' : decide ((i : Int) < (n : Int)) = false := decide_eq_false (by omega)
      obtain rfl : gk = 0 := by omega
      have hP := HP.out
      rw [List.drop_of_length_le (by rw [HN.out]; omega)] at hP
      obtain rfl := Option.some.inj (show some out = some r from hP)
      clear hP
      go_wp2
      go_ret
      refine ⟨_, rfl, ⟨fun _ _ => trivial, out.map encI, ?_, ?_⟩, HB.out⟩
      · have hl := HL.out
        exact ⟨by show (out.map encI).length = out.length * 1; simp, .inr ⟨w.heap.size + 1, 16, _, by rw [hl]; rfl, by omega, HG.out, by omega, by decide, by show (out.map encI).toArray.size = 16 * 1; simp [hl], by
          show (out.map encI).toArray.toList.take (out.length * 1) = out.map encI
          exact List.take_of_length_le (by simp)⟩⟩
      · exact Kd.reps_scalar (enc := encI) out

/-! ### impl_unlike_int: function 56 -/
def impl_unlike_int.l0 : Nat → List Int → List Int → List Int → Int → Int → Option (List Int)
  | 0, _, _, _, _, _ => none
  | k + 1, x0, x1, x5, x8, x9 => if x9 < x8 then (if 0 ≤ x9 then (if x9 < (x0.length : Int) then (if x9 < (x1.length : Int) then (if (rd x0 x9) = (rd x1 x9) then (impl_unlike_int.l0 k x0 x1 x5 x8 (wrap64 (x9 + 1))) else (if x5.length < 17592186044416 then (impl_unlike_int.l0 k x0 x1 (x5 ++ [x9]) x8 (wrap64 (x9 + 1))) else (none))) else (none)) else (none)) else (none)) else (some x5)
def impl_unlike_int.f (k : Nat) (l0 : List Int) (l1 : List Int) : Option (List Int) := impl_unlike_int.l0 k l0 l1 ([] : List Int) (l0.length : Int) 0
theorem impl_unlike_int.mono_l : ∀ k, (∀ y0 y1 y2 y3 y4, LeO (impl_unlike_int.l0 k y0 y1 y2 y3 y4) (impl_unlike_int.l0 (k + 1) y0 y1 y2 y3 y4))
  | 0 => fun _ _ _ _ _ r h => by simp [impl_unlike_int.l0] at h
  | k + 1 => by
    have ih0 := impl_unlike_int.mono_l k
    · intro y0 y1 y2 y3 y4
      unfold impl_unlike_int.l0
      repeat' first
      | (with_reducible exact ih0 _ _ _ _ _)
      | (with_reducible exact LeO.refl _)
      | (with_reducible exact LeO.none _)
      | (with_reducible refine LeO.ite ?_ ?_)
      | (with_reducible refine LeO.bind ?_ (fun _ => ?_))
      | exact ih0 _ _ _ _ _
      | exact LeO.none _
      | refine LeO.ite ?_ ?_
      | refine LeO.bind ?_ (fun _ => ?_)
theorem impl_unlike_int.mono : ∀ a0 a1 k, LeO (impl_unlike_int.f k a0 a1) (impl_unlike_int.f (k + 1) a0 a1) := by
  intro a0 a1 k
  have ih0 := impl_unlike_int.mono_l k
  unfold impl_unlike_int.f
  repeat' first
      | (with_reducible exact ih0 _ _ _ _ _)
      | (with_reducible exact LeO.refl _)
      | (with_reducible exact LeO.none _)
      | (with_reducible refine LeO.ite ?_ ?_)
      | (with_reducible refine LeO.bind ?_ (fun _ => ?_))
      | exact ih0 _ _ _ _ _
      | exact LeO.none _
      | refine LeO.ite ?_ ?_
      | refine LeO.bind ?_ (fun _ => ?_)
set_option maxHeartbeats 8000000 in
set_option maxRecDepth 100000 in
theorem impl_unlike_int.calls (k : Nat) (A0 : Option Addr) (c0 : Nat) (l0 : List Int) (A1 : Option Addr) (c1 : Nat) (l1 : List Int) (r : List Int) (w : World) (hr0 : Kd.C (Kd.int .i64) w A0 l0.length l0) (hc0 : l0.length ≤ c0) (hr1 : Kd.C (Kd.int .i64) w A1 l1.length l1) (hc1 : l1.length ≤ c1) (h : impl_unlike_int.f k l0 l1 = some r) :
    Calls Try.prog 56 #[.slice A0 l0.length c0, .slice A1 l1.length c1] w fun e w' => ∃ v0_ : Value, e = .returned (v0_) ∧ Kd.R (Kd.int .i64) 3 w' w.heap.size (fun _ => True) v0_ r ∧ Below w.heap.size w w' := by
  have HR0 := Aside0.mk hr0
  have HC0 := Aside0.mk hc0
  clear hr0 hc0
  have HR1 := Aside0.mk hr1
  have HC1 := Aside0.mk hc1
  clear hr1 hc1
  have HB := Aside0.mk (Below.refl w.heap.size w)
  have H : (impl_unlike_int.l0 k l0 l1 ([] : List Int) (l0.length : Int) 0) = some r := h
  clear h
  have H' := Aside0.mk H
  clear H
  go_enter Try.func56, Try.ntmps56
  go_wp2
  repeat (go_quiet (fail); try go_wp2)
  go_loopg [5, 9] k (fun kq v5 v9 w' => ∃ (x5_1 : List Int) (x9_1 : Int), v9 = .int .i64 x9_1 ∧ Aside0 (impl_unlike_int.l0 kq l0 l1 x5_1 (l0.length : Int) x9_1 = some r) ∧ Aside0 (kq ≤ k) ∧ Aside0 (Kd.R (Kd.int .i64) 3 w' w.heap.size (fun _ => True) v5 x5_1) ∧ Aside0 (Below w.heap.size w w'))
  case atStart => exact ⟨(([] : List Int)), (0), (by first | rfl | (simp; done) | (simp [*]; done)), H', ⟨Nat.le_refl _⟩, ⟨by first | exact Kd.R_nil _ _ _ _ _ | exact Kd.N_nil _ _ _ _ _ | exact Kd.V_nil _ _ _ _ _ | exact Kd.Q_nil _ _ _ _ _ | exact Kd.S_nil _ _ _ _ _⟩, ⟨by repeat (first | (with_reducible first | exact HB.out | apply below_alloc | apply pw_below_drewN | apply below_drew1) | exact HB.out)⟩⟩
  case round =>
    clear H'
    try clear c1
    try clear p2
    obtain ⟨x5_1, x9_1, rfl, HA, HK1, HO_5, HB⟩ := hrel
    cases gk with
    | zero => exact absurd HA.out (by simp [impl_unlike_int.l0])
    | succ k1 =>
      have H := HA.out
      clear HA
      simp only [impl_unlike_int.l0] at H
      by_cases c3 : x9_1 < (l0.length : Int)
      · rw [if_pos c3] at H
        have c3b0 : decide (x9_1 < (l0.length : Int)) = true := decide_eq_true c3
        clear c3
        by_cases c4 : 0 ≤ x9_1
        · rw [if_pos c4] at H
          have c4b0 : decide (0 ≤ x9_1) = true := decide_eq_true c4
          clear c4
          by_cases c5 : x9_1 < (l0.length : Int)
          · rw [if_pos c5] at H
            have c5b0 : decide (x9_1 < (l0.length : Int)) = true := decide_eq_true c5
            clear c5
            by_cases c6 : x9_1 < (l1.length : Int)
            · rw [if_pos c6] at H
              have c6b0 : decide (x9_1 < (l1.length : Int)) = true := decide_eq_true c6
              clear c6
              by_cases c7 : (rd l0 x9_1) = (rd l1 x9_1)
              · rw [if_pos c7] at H
                have c7b0 : ((rd l0 x9_1) == (rd l1 x9_1)) = true := beq_iff_eq.mpr c7
                have c7b1 : ((rd l0 x9_1) != (rd l1 x9_1)) = false := bne_eq_false_iff_eq.mpr c7
                clear c7
                have H' := Aside0.mk H
                clear H
                have p162 : 0 ≤ (x9_1 : Int) := of_decide_eq_true (by first | (with_reducible assumption) | assumption)
                have q162 : x9_1 < (l0.length : Int) := of_decide_eq_true (by first | (with_reducible assumption) | assumption)
                obtain ⟨ad162, e162, hx162_0⟩ := Kd.at_int HR0.out x9_1 p162 q162
                cases e162
                replace hx162_0 := (HB.out.cell (World.block_lt_of_cell? w _ hx162_0)).trans hx162_0
                replace p162 := eq_true p162
                replace q162 := eq_true q162
                have p163 : 0 ≤ (x9_1 : Int) := of_decide_eq_true (by first | (with_reducible assumption) | assumption)
                have q163 : x9_1 < (l1.length : Int) := of_decide_eq_true (by first | (with_reducible assumption) | assumption)
                obtain ⟨ad163, e163, hx163_0⟩ := Kd.at_int HR1.out x9_1 p163 q163
                cases e163
                replace hx163_0 := (HB.out.cell (World.block_lt_of_cell? w _ hx163_0)).trans hx163_0
                replace p163 := eq_true p163
                replace q163 := eq_true q163
                go_wp2
                repeat (go_quiet (fail); try go_wp2)
                go_roundg k1
                case measure => have := HK1.out; omega
                case rel => exact ⟨(x5_1), (wrap64 (x9_1 + 1)), (by first | rfl | (simp; done) | (simp [*]; done)), H', ⟨by have := HK1.out; omega⟩, ⟨by (with_reducible repeat (first | apply Kd.R_alloc | apply Kd.R_drewN | apply Kd.R_drew)); exact HO_5.out⟩, ⟨by repeat (first | (with_reducible first | exact HB.out | apply below_alloc | apply pw_below_drewN | apply below_drew1) | exact HB.out)⟩⟩
              · rw [if_neg c7] at H
                have c7b0 : ((rd l0 x9_1) == (rd l1 x9_1)) = false := beq_eq_false_iff_ne.mpr c7
                have c7b1 : ((rd l0 x9_1) != (rd l1 x9_1)) = true := bne_iff_ne.mpr c7
                by_cases c8 : x5_1.length < 17592186044416
                · rw [if_pos c8] at H
                  have LMc8 := Aside0.mk c8
                  clear c8
                  obtain ⟨y164, hy164⟩ : ∃ y_ : List Int, y_ = (x5_1 ++ [x9_1]) := ⟨_, rfl⟩
                  replace H : (impl_unlike_int.l0 k1 l0 l1 y164 (l0.length : Int) (wrap64 (x9_1 + 1))) = some r := by first | (rw [hy164]; with_reducible exact H) | (have H2_ := (Option.bind_some _ _).symm.trans H; rw [hy164]; with_reducible exact H2_) | (have H2_ := (Option.bind_some _ _).symm.trans H; with_reducible exact H2_) | with_reducible exact H | (rw [hy164]; exact H) | exact H
                  have Ny164 := Aside0.mk hy164
                  clear hy164
                  have H' := Aside0.mk H
                  clear H
                  have p162 : 0 ≤ (x9_1 : Int) := of_decide_eq_true (by first | (with_reducible assumption) | assumption)
                  have q162 : x9_1 < (l0.length : Int) := of_decide_eq_true (by first | (with_reducible assumption) | assumption)
                  obtain ⟨ad162, e162, hx162_0⟩ := Kd.at_int HR0.out x9_1 p162 q162
                  cases e162
                  replace hx162_0 := (HB.out.cell (World.block_lt_of_cell? w _ hx162_0)).trans hx162_0
                  replace p162 := eq_true p162
                  replace q162 := eq_true q162
                  have p163 : 0 ≤ (x9_1 : Int) := of_decide_eq_true (by first | (with_reducible assumption) | assumption)
                  have q163 : x9_1 < (l1.length : Int) := of_decide_eq_true (by first | (with_reducible assumption) | assumption)
                  obtain ⟨ad163, e163, hx163_0⟩ := Kd.at_int HR1.out x9_1 p163 q163
                  cases e163
                  replace hx163_0 := (HB.out.cell (World.block_lt_of_cell? w _ hx163_0)).trans hx163_0
                  replace p163 := eq_true p163
                  replace q163 := eq_true q163
                  go_wp2_with (first | ((with_reducible refine gate_builtin (b := .append) (xs := #[.tmp 21, .tmp 23]) rfl ?_); at_builtin; refine Kd.R_append (Kd.int .i64) (w0 := w) w.heap.size rfl (.tmp 21) (.tmp 23) 29 3 (.int .i64 0) 8 rfl Try.underlying29 info3 rfl (by decide) (by omega) u5 x5_1 x9_1 [.int .i64 x9_1] (fun _ => True) (fun _ => False) rfl rfl ?aP (fun _ hk => hk.elim) ?aF ?aO ?aB ?aS ?aL ?_; (case aP => exact rfl); (case aB => exact (by repeat (first | (with_reducible first | exact HB.out | apply below_alloc | apply pw_below_drewN | apply below_drew1) | exact HB.out))); (case aF => exact (fun _ _ => trivial)); (case aO => exact (by (with_reducible repeat (first | apply Kd.R_alloc | apply Kd.R_drewN | apply Kd.R_drew)); exact HO_5.out)); (case aS => exact (below_size (by repeat (first | (with_reducible first | exact HB.out | apply below_alloc | apply pw_below_drewN | apply below_drew1) | exact HB.out)))); (case aL => have := LMc8.out; omega); intro v165 w9 ho hb hg hat; rw [← Ny164.out] at ho; have n0_ := Aside0.mk (hb); have n1_ := Aside0.mk (ho); clear HB; clear HO_5; have HB := n0_; have HO166 := n1_; clear n0_ n1_; clear ho hb hg hat))
                  repeat (go_quiet (first | ((with_reducible refine gate_builtin (b := .append) (xs := #[.tmp 21, .tmp 23]) rfl ?_); at_builtin; refine Kd.R_append (Kd.int .i64) (w0 := w) w.heap.size rfl (.tmp 21) (.tmp 23) 29 3 (.int .i64 0) 8 rfl Try.underlying29 info3 rfl (by decide) (by omega) u5 x5_1 x9_1 [.int .i64 x9_1] (fun _ => True) (fun _ => False) rfl rfl ?aP (fun _ hk => hk.elim) ?aF ?aO ?aB ?aS ?aL ?_; (case aP => exact rfl); (case aB => exact (by repeat (first | (with_reducible first | exact HB.out | apply below_alloc | apply pw_below_drewN | apply below_drew1) | exact HB.out))); (case aF => exact (fun _ _ => trivial)); (case aO => exact (by (with_reducible repeat (first | apply Kd.R_alloc | apply Kd.R_drewN | apply Kd.R_drew)); exact HO_5.out)); (case aS => exact (below_size (by repeat (first | (with_reducible first | exact HB.out | apply below_alloc | apply pw_below_drewN | apply below_drew1) | exact HB.out)))); (case aL => have := LMc8.out; omega); intro v165 w9 ho hb hg hat; rw [← Ny164.out] at ho; have n0_ := Aside0.mk (hb); have n1_ := Aside0.mk (ho); clear HB; clear HO_5; have HB := n0_; have HO166 := n1_; clear n0_ n1_; clear ho hb hg hat)); try go_wp2_with (first | ((with_reducible refine gate_builtin (b := .append) (xs := #[.tmp 21, .tmp 23]) rfl ?_); at_builtin; refine Kd.R_append (Kd.int .i64) (w0 := w) w.heap.size rfl (.tmp 21) (.tmp 23) 29 3 (.int .i64 0) 8 rfl Try.underlying29 info3 rfl (by decide) (by omega) u5 x5_1 x9_1 [.int .i64 x9_1] (fun _ => True) (fun _ => False) rfl rfl ?aP (fun _ hk => hk.elim) ?aF ?aO ?aB ?aS ?aL ?_; (case aP => exact rfl); (case aB => exact (by repeat (first | (with_reducible first | exact HB.out | apply below_alloc | apply pw_below_drewN | apply below_drew1) | exact HB.out))); (case aF => exact (fun _ _ => trivial)); (case aO => exact (by (with_reducible repeat (first | apply Kd.R_alloc | apply Kd.R_drewN | apply Kd.R_drew)); exact HO_5.out)); (case aS => exact (below_size (by repeat (first | (with_reducible first | exact HB.out | apply below_alloc | apply pw_below_drewN | apply below_drew1) | exact HB.out)))); (case aL => have := LMc8.out; omega); intro v165 w9 ho hb hg hat; rw [← Ny164.out] at ho; have n0_ := Aside0.mk (hb); have n1_ := Aside0.mk (ho); clear HB; clear HO_5; have HB := n0_; have HO166 := n1_; clear n0_ n1_; clear ho hb hg hat)))
                  go_roundg k1
                  case measure => have := HK1.out; omega
                  case rel => exact ⟨(y164), (wrap64 (x9_1 + 1)), (by first | rfl | (simp; done) | (simp [*]; done)), H', ⟨by have := HK1.out; omega⟩, ⟨by (with_reducible repeat (first | apply Kd.R_alloc | apply Kd.R_drewN | apply Kd.R_drew)); exact HO166.out⟩, ⟨by repeat (first | (with_reducible first | exact HB.out | apply below_alloc | apply pw_below_drewN | apply below_drew1) | exact HB.out)⟩⟩
                · rw [if_neg c8] at H
                  exact absurd H (by simp)
            · rw [if_neg c6] at H
              exact absurd H (by simp)
          · rw [if_neg c5] at H
            exact absurd H (by simp)
        · rw [if_neg c4] at H
          exact absurd H (by simp)
      · rw [if_neg c3] at H
        have c3b0 : decide (x9_1 < (l0.length : Int)) = false := decide_eq_false c3
        clear c3
        obtain rfl := Option.some.inj H
        go_wp2
        repeat (go_quiet (fail); try go_wp2)
        go_ret
        exact ⟨_, by first | rfl | (simp [errW_none, errW_some] <;> rfl) | (simp [*, errW_none, errW_some] <;> rfl), by (with_reducible repeat (first | apply Kd.R_alloc | apply Kd.R_drewN | apply Kd.R_drew)); exact HO_5.out, by repeat (first | (with_reducible first | exact HB.out | apply below_alloc | apply pw_below_drewN | apply below_drew1) | exact HB.out)⟩

/-! ### impl_UnlikeMaps: function 30 -/
def impl_UnlikeMaps.j0 : Nat → List (S47) → List (S47) → Bool → Option (List Int × Bool)
  | 0, _, _, _ => none
  | k + 1, x0, x1, x13 => if x13 = true then (some (([] : List Int), false)) else ((impl_places.f k x0).bind fun t169 => ((impl_places.f k x1).bind fun t172 => ((impl_unlike_int.f k t169 t172).bind fun t175 => (some (t175, true)))))
def impl_UnlikeMaps.f (k : Nat) (l0 : List (S47)) (l1 : List (S47)) : Option (List Int × Bool) := (impl_GoodMap.f k l0).bind fun t167 => (if t167 = true then ((impl_GoodMap.f k l1).bind fun t168 => (impl_UnlikeMaps.j0 k l0 l1 (!t168))) else (impl_UnlikeMaps.j0 k l0 l1 true))
theorem impl_UnlikeMaps.mono_l : ∀ k, (∀ y0 y1 y2, LeO (impl_UnlikeMaps.j0 k y0 y1 y2) (impl_UnlikeMaps.j0 (k + 1) y0 y1 y2))
  | 0 => fun _ _ _ r h => by simp [impl_UnlikeMaps.j0] at h
  | k + 1 => by
    have ih0 := impl_UnlikeMaps.mono_l k
    · intro y0 y1 y2
      unfold impl_UnlikeMaps.j0
      repeat' first
      | (with_reducible exact ih0 _ _ _)
      | (with_reducible exact impl_GoodMap.mono _ _)
      | (with_reducible exact impl_places.mono _ _)
      | (with_reducible exact impl_unlike_int.mono _ _ _)
      | (with_reducible exact LeO.refl _)
      | (with_reducible exact LeO.none _)
      | (with_reducible refine LeO.ite ?_ ?_)
      | (with_reducible refine LeO.bind ?_ (fun _ => ?_))
      | exact ih0 _ _ _
      | exact impl_GoodMap.mono _ _
      | exact impl_places.mono _ _
      | exact impl_unlike_int.mono _ _ _
      | exact LeO.none _
      | refine LeO.ite ?_ ?_
      | refine LeO.bind ?_ (fun _ => ?_)
theorem impl_UnlikeMaps.mono : ∀ a0 a1 k, LeO (impl_UnlikeMaps.f k a0 a1) (impl_UnlikeMaps.f (k + 1) a0 a1) := by
  intro a0 a1 k
  have ih0 := impl_UnlikeMaps.mono_l k
  unfold impl_UnlikeMaps.f
  repeat' first
      | (with_reducible exact ih0 _ _ _)
      | (with_reducible exact impl_GoodMap.mono _ _)
      | (with_reducible exact impl_places.mono _ _)
      | (with_reducible exact impl_unlike_int.mono _ _ _)
      | (with_reducible exact LeO.refl _)
      | (with_reducible exact LeO.none _)
      | (with_reducible refine LeO.ite ?_ ?_)
      | (with_reducible refine LeO.bind ?_ (fun _ => ?_))
      | exact ih0 _ _ _
      | exact impl_GoodMap.mono _ _
      | exact impl_places.mono _ _
      | exact impl_unlike_int.mono _ _ _
      | exact LeO.none _
      | refine LeO.ite ?_ ?_
      | refine LeO.bind ?_ (fun _ => ?_)
set_option maxHeartbeats 8000000 in
set_option maxRecDepth 100000 in
theorem impl_UnlikeMaps.calls (k : Nat) (A0 : Option Addr) (c0 : Nat) (l0 : List (S47)) (A1 : Option Addr) (c1 : Nat) (l1 : List (S47)) (r1 : List Int) (r2 : Bool) (w : World) (hr0 : Kd.C k47 w A0 l0.length l0) (hc0 : l0.length ≤ c0) (hr1 : Kd.C k47 w A1 l1.length l1) (hc1 : l1.length ≤ c1) (h : impl_UnlikeMaps.f k l0 l1 = some (r1, r2)) :
    Calls Try.prog 30 #[.slice A0 l0.length c0, .slice A1 l1.length c1] w fun e w' => ∃ v0_ : Value, e = .returned (.tuple #[v0_, .bool r2]) ∧ Kd.R (Kd.int .i64) 3 w' w.heap.size (fun _ => True) v0_ r1 ∧ Below w.heap.size w w' := by
  have HR0 := Aside0.mk hr0
  have HC0 := Aside0.mk hc0
  clear hr0 hc0
  have HR1 := Aside0.mk hr1
  have HC1 := Aside0.mk hc1
  clear hr1 hc1
  have HB := Aside0.mk (Below.refl w.heap.size w)
  have H : ((impl_GoodMap.f k l0).bind fun t167 => (if t167 = true then ((impl_GoodMap.f k l1).bind fun t168 => (impl_UnlikeMaps.j0 k l0 l1 (!t168))) else (impl_UnlikeMaps.j0 k l0 l1 true))) = some (r1, r2) := h
  clear h
  have HC3 := Aside0.mk H
  clear H
  go_enter Try.func30, Try.ntmps30
  go_upto_region 1 with (fail)
  go_cut [13] (fun v13 wc => ∃ (kq : Nat) (x13_2 : Bool), v13 = .bool x13_2 ∧ Aside0 (impl_UnlikeMaps.j0 kq l0 l1 x13_2 = some (r1, r2)) ∧ Aside0 (kq ≤ k) ∧ Aside0 (Below w.heap.size w wc))
  case first =>
    have H := HC3.out
    clear HC3
    replace H := Option.bind_eq_some_iff.mp H
    obtain ⟨t167, A40, H⟩ := H
    replace H : (if t167 = true then ((impl_GoodMap.f k l1).bind fun t168 => (impl_UnlikeMaps.j0 k l0 l1 (!t168))) else (impl_UnlikeMaps.j0 k l0 l1 true)) = some (r1, r2) := H
    have A4 := Aside0.mk A40
    clear A40
    by_cases c5 : t167 = true
    · subst c5
      have H1 : ((impl_GoodMap.f k l1).bind fun t168 => (impl_UnlikeMaps.j0 k l0 l1 (!t168))) = some (r1, r2) := by rw [if_pos rfl] at H; exact H
      clear H
      have H := H1
      clear H1
      replace H := Option.bind_eq_some_iff.mp H
      obtain ⟨t168, A60, H⟩ := H
      replace H : (impl_UnlikeMaps.j0 k l0 l1 (!t168)) = some (r1, r2) := H
      have A6 := Aside0.mk A60
      clear A60
      have H' := Aside0.mk H
      clear H
      go_wp2_with (first | ((with_reducible refine gate_callee (f := 15) rfl ?_); refine goesL_ (some 7) rfl rfl Try.func15 (by kernel_rfl) rfl #[.slice A0 l0.length c0] rfl (by (try simp only [List.map_toArray, List.map_cons, List.map_nil]); first | done | rfl | (simp only [List.length_drop, List.length_take]; rfl)) ?_; (with_reducible refine (impl_GoodMap.calls k _ _ l0 true _ ?side1 ?side2 A4.out).mono ?_); (case side1 => repeat (first | exact (Kd.C_below HR0.out HB.out) | (with_reducible refine Kd.C_alloc ?_ _) | (with_reducible refine Kd.C_drewN ?_ _) | (with_reducible refine Kd.C_drew ?_))); (case side2 => exact HC0.out); rintro e w7 ⟨rfl, hb⟩; refine ⟨_, rfl, ?_⟩; have n0_ := Aside0.mk (below_step (by repeat (first | (with_reducible first | exact HB.out | apply below_alloc | apply pw_below_drewN | apply below_drew1) | exact HB.out)) hb); clear HB; have HB := n0_; clear n0_; (try clear hb); (try clear hb2); (try clear hk); (try clear hi)) | (go_at_call 15; (with_reducible refine (impl_GoodMap.calls k _ _ l1 t168 _ ?side1 ?side2 A6.out).mono ?_); (case side1 => repeat (first | exact (Kd.C_below HR1.out HB.out) | (with_reducible refine Kd.C_alloc ?_ _) | (with_reducible refine Kd.C_drewN ?_ _) | (with_reducible refine Kd.C_drew ?_))); (case side2 => exact HC1.out); rintro e w8 ⟨rfl, hb⟩; have n0_ := Aside0.mk (below_step (by repeat (first | (with_reducible first | exact HB.out | apply below_alloc | apply pw_below_drewN | apply below_drew1) | exact HB.out)) hb); clear HB; have HB := n0_; clear n0_; (try clear hb); (try clear hb2); (try clear hk); (try clear hi)))
      go_meet
      case rel => exact ⟨_, (!t168), (by first | rfl | (simp; done) | (simp [*]; done)), H', ⟨by first | omega | exact Nat.le_refl _⟩, ⟨by repeat (first | (with_reducible first | exact HB.out | apply below_alloc | apply pw_below_drewN | apply below_drew1) | exact HB.out)⟩⟩
    · replace c5 := Bool.eq_false_iff.mpr c5
      subst c5
      have H1 : (impl_UnlikeMaps.j0 k l0 l1 true) = some (r1, r2) := by rw [if_neg (show ¬ (false = true) by decide)] at H; exact H
      clear H
      have H := H1
      clear H1
      have H' := Aside0.mk H
      clear H
      go_wp2_with (first | ((with_reducible refine gate_callee (f := 15) rfl ?_); refine goesL_ (some 7) rfl rfl Try.func15 (by kernel_rfl) rfl #[.slice A0 l0.length c0] rfl (by (try simp only [List.map_toArray, List.map_cons, List.map_nil]); first | done | rfl | (simp only [List.length_drop, List.length_take]; rfl)) ?_; (with_reducible refine (impl_GoodMap.calls k _ _ l0 false _ ?side1 ?side2 A4.out).mono ?_); (case side1 => repeat (first | exact (Kd.C_below HR0.out HB.out) | (with_reducible refine Kd.C_alloc ?_ _) | (with_reducible refine Kd.C_drewN ?_ _) | (with_reducible refine Kd.C_drew ?_))); (case side2 => exact HC0.out); rintro e w9 ⟨rfl, hb⟩; refine ⟨_, rfl, ?_⟩; have n0_ := Aside0.mk (below_step (by repeat (first | (with_reducible first | exact HB.out | apply below_alloc | apply pw_below_drewN | apply below_drew1) | exact HB.out)) hb); clear HB; have HB := n0_; clear n0_; (try clear hb); (try clear hb2); (try clear hk); (try clear hi)))
      go_meet
      case rel => exact ⟨_, (true), (by first | rfl | (simp; done) | (simp [*]; done)), H', ⟨by first | omega | exact Nat.le_refl _⟩, ⟨by repeat (first | (with_reducible first | exact HB.out | apply below_alloc | apply pw_below_drewN | apply below_drew1) | exact HB.out)⟩⟩
  case rest =>
    clear HC3
    try clear c1
    try clear p2
    try clear c3
    try clear c5
    obtain ⟨kq, x13_2, rfl, HA, HJ2, HB⟩ := hcut
    cases kq with
    | zero => exact absurd HA.out (by simp [impl_UnlikeMaps.j0])
    | succ kj2 =>
      have H := HA.out
      clear HA
      simp only [impl_UnlikeMaps.j0] at H
      by_cases c10 : x13_2 = true
      · subst c10
        have H1 : (some (([] : List Int), false)) = some (r1, r2) := by rw [if_pos rfl] at H; exact H
        clear H
        have H := H1
        clear H1
        simp only [Option.some.injEq, Prod.mk.injEq] at H
        obtain ⟨rfl, rfl⟩ := H
        go_wp2
        go_ret2
        exact ⟨_, by first | rfl | (simp [errW_none, errW_some] <;> rfl) | (simp [*, errW_none, errW_some] <;> rfl), by first | exact Kd.R_nil _ _ _ _ _ | exact Kd.N_nil _ _ _ _ _ | exact Kd.V_nil _ _ _ _ _ | exact Kd.Q_nil _ _ _ _ _ | exact Kd.S_nil _ _ _ _ _, by repeat (first | (with_reducible first | exact HB.out | apply below_alloc | apply pw_below_drewN | apply below_drew1) | exact HB.out)⟩
      · replace c10 := Bool.eq_false_iff.mpr c10
        subst c10
        have H1 : ((impl_places.f kj2 l0).bind fun t169 => ((impl_places.f kj2 l1).bind fun t172 => ((impl_unlike_int.f kj2 t169 t172).bind fun t175 => (some (t175, true))))) = some (r1, r2) := by rw [if_neg (show ¬ (false = true) by decide)] at H; exact H
        clear H
        have H := H1
        clear H1
        replace H := Option.bind_eq_some_iff.mp H
        obtain ⟨t169, A110, H⟩ := H
        replace H : ((impl_places.f kj2 l1).bind fun t172 => ((impl_unlike_int.f kj2 t169 t172).bind fun t175 => (some (t175, true)))) = some (r1, r2) := H
        have A11 := Aside0.mk A110
        clear A110
        replace H := Option.bind_eq_some_iff.mp H
        obtain ⟨t172, A120, H⟩ := H
        replace H : ((impl_unlike_int.f kj2 t169 t172).bind fun t175 => (some (t175, true))) = some (r1, r2) := H
        have A12 := Aside0.mk A120
        clear A120
        replace H := Option.bind_eq_some_iff.mp H
        obtain ⟨t175, A130, H⟩ := H
        replace H : (some (t175, true)) = some (r1, r2) := H
        have A13 := Aside0.mk A130
        clear A130
        simp only [Option.some.injEq, Prod.mk.injEq] at H
        obtain ⟨rfl, rfl⟩ := H
        go_wp2_with (first | ((with_reducible refine gate_callee (f := 55) rfl ?_); refine goesL_ (some 15) rfl rfl Try.func55 (by kernel_rfl) rfl #[.slice A0 l0.length c0] rfl (by (try simp only [List.map_toArray, List.map_cons, List.map_nil]); first | done | rfl | (simp only [List.length_drop, List.length_take]; rfl)) ?_; (with_reducible refine (impl_places.calls kj2 _ _ l0 t169 _ ?side1 ?side2 A11.out).mono ?_); (case side1 => repeat (first | exact (Kd.C_below HR0.out HB.out) | (with_reducible refine Kd.C_alloc ?_ _) | (with_reducible refine Kd.C_drewN ?_ _) | (with_reducible refine Kd.C_drew ?_))); (case side2 => exact HC0.out); rintro e w14 ⟨v170, rfl, ho0, hb⟩; refine ⟨_, rfl, ?_⟩; have n0_ := Aside0.mk (Kd.R_lower ho0 (below_size (by repeat (first | (with_reducible first | exact HB.out | apply below_alloc | apply pw_below_drewN | apply below_drew1) | exact HB.out)))); have n1_ := Aside0.mk (below_step (by repeat (first | (with_reducible first | exact HB.out | apply below_alloc | apply pw_below_drewN | apply below_drew1) | exact HB.out)) hb); clear HB; have HO171 := n0_; have HB := n1_; clear n0_ n1_; (try clear hb); (try clear hb2); (try clear hk); (try clear hi); (try clear ho0)) | ((with_reducible refine gate_callee (f := 55) rfl ?_); refine goesL_ (some 17) rfl rfl Try.func55 (by kernel_rfl) rfl #[.slice A1 l1.length c1] rfl (by (try simp only [List.map_toArray, List.map_cons, List.map_nil]); first | done | rfl | (simp only [List.length_drop, List.length_take]; rfl)) ?_; (with_reducible refine (impl_places.calls kj2 _ _ l1 t172 _ ?side1 ?side2 A12.out).mono ?_); (case side1 => repeat (first | exact (Kd.C_below HR1.out HB.out) | (with_reducible refine Kd.C_alloc ?_ _) | (with_reducible refine Kd.C_drewN ?_ _) | (with_reducible refine Kd.C_drew ?_))); (case side2 => exact HC1.out); rintro e w15 ⟨v173, rfl, ho0, hb⟩; refine ⟨_, rfl, ?_⟩; have n0_ := Aside0.mk (Kd.R_elder' (by (with_reducible repeat (first | apply Kd.R_alloc | apply Kd.R_drewN | apply Kd.R_drew)); exact HO171.out) (Kd.R_base ho0) hb); have n1_ := Aside0.mk (Kd.R_lower (Kd.R_new' ho0 (Kd.R_lt (by (with_reducible repeat (first | apply Kd.R_alloc | apply Kd.R_drewN | apply Kd.R_drew)); exact HO171.out))) (below_size (by repeat (first | (with_reducible first | exact HB.out | apply below_alloc | apply pw_below_drewN | apply below_drew1) | exact HB.out)))); have n2_ := Aside0.mk (below_step (by repeat (first | (with_reducible first | exact HB.out | apply below_alloc | apply pw_below_drewN | apply below_drew1) | exact HB.out)) hb); clear HO171; clear HB; have HO171 := n0_; have HO174 := n1_; have HB := n2_; clear n0_ n1_ n2_; (try clear hb); (try clear hb2); (try clear hk); (try clear hi); (try clear ho0); obtain ⟨Ao16, co16, eo16⟩ := Kd.R_slice HO171.out; subst eo16; obtain ⟨Ao17, co17, eo17⟩ := Kd.R_slice HO174.out; subst eo17) | ((with_reducible refine gate_callee (f := 56) rfl ?_); refine goesL_ (some 18) rfl rfl Try.func56 (by kernel_rfl) rfl #[.slice Ao16 t169.length co16, .slice Ao17 t172.length co17] rfl (by (try simp only [List.map_toArray, List.map_cons, List.map_nil]); first | done | rfl | (simp only [List.length_drop, List.length_take]; rfl)) ?_; (with_reducible refine (impl_unlike_int.calls kj2 _ _ t169 _ _ t172 t175 _ ?side1 ?side2 ?side3 ?side4 A13.out).mono ?_); (case side1 => repeat (first | exact (Kd.R_reads' HO171.out).2.2 | (with_reducible refine Kd.C_alloc ?_ _) | (with_reducible refine Kd.C_drewN ?_ _) | (with_reducible refine Kd.C_drew ?_))); (case side2 => exact (Kd.R_reads' HO171.out).2.1); (case side3 => repeat (first | exact (Kd.R_reads' HO174.out).2.2 | (with_reducible refine Kd.C_alloc ?_ _) | (with_reducible refine Kd.C_drewN ?_ _) | (with_reducible refine Kd.C_drew ?_))); (case side4 => exact (Kd.R_reads' HO174.out).2.1); rintro e w18 ⟨v176, rfl, ho0, hb⟩; refine ⟨_, rfl, ?_⟩; have n0_ := Aside0.mk (Kd.R_elder' (by (with_reducible repeat (first | apply Kd.R_alloc | apply Kd.R_drewN | apply Kd.R_drew)); exact HO171.out) (Kd.R_base ho0) hb); have n1_ := Aside0.mk (Kd.R_elder' (by (with_reducible repeat (first | apply Kd.R_alloc | apply Kd.R_drewN | apply Kd.R_drew)); exact HO174.out) (Kd.R_base ho0) hb); have n2_ := Aside0.mk (Kd.R_lower (Kd.R_new' (Kd.R_new' ho0 (Kd.R_lt (by (with_reducible repeat (first | apply Kd.R_alloc | apply Kd.R_drewN | apply Kd.R_drew)); exact HO171.out))) (Kd.R_lt (by (with_reducible repeat (first | apply Kd.R_alloc | apply Kd.R_drewN | apply Kd.R_drew)); exact HO174.out))) (below_size (by repeat (first | (with_reducible first | exact HB.out | apply below_alloc | apply pw_below_drewN | apply below_drew1) | exact HB.out)))); have n3_ := Aside0.mk (below_step (by repeat (first | (with_reducible first | exact HB.out | apply below_alloc | apply pw_below_drewN | apply below_drew1) | exact HB.out)) hb); clear HO171; clear HO174; clear HB; have HO171 := n0_; have HO174 := n1_; have HO177 := n2_; have HB := n3_; clear n0_ n1_ n2_ n3_; (try clear hb); (try clear hb2); (try clear hk); (try clear hi); (try clear ho0)))
        go_ret2
        exact ⟨_, by first | rfl | (simp [errW_none, errW_some] <;> rfl) | (simp [*, errW_none, errW_some] <;> rfl), by (with_reducible repeat (first | apply Kd.R_alloc | apply Kd.R_drewN | apply Kd.R_drew)); exact Kd.R_mono HO177.out (fun _ hk => trivial), by repeat (first | (with_reducible first | exact HB.out | apply below_alloc | apply pw_below_drewN | apply below_drew1) | exact HB.out)⟩

end Go.Proofs.Ytcoceoplnehmcaa.PFnExactUnlikeMaps

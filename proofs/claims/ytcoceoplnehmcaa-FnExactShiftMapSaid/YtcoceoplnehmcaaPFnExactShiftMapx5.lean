/- Lean functions with the same answers as the Go functions that one law reaches, and for each a proof that its call comes to just these answers. No condition. Written by pr.py, a program of this session. -/
import Derived.Test.YtcoceoplnehmcaaPFnExactShiftMapx0
import Derived.Test.YtcoceoplnehmcaaPFnExactShiftMapx4
namespace Go.Proofs.Ytcoceoplnehmcaa.PFnExactShiftMap
open Go.RowKit Go.Proofs.YtcoceoplnehmcaaW.PrintWords Go.Proofs.YtcoceoplnehmcaaW.PrintLast Go.Proofs.YtcoceoplnehmcaaW.PrintMore
attribute [local go_sem] max2_int min2_int max_two min_two max_three min_three max_four min_four   -- for this text's walks alone
set_option linter.unusedVariables false
set_option linter.unusedSimpArgs false

/-! ### impl_places: function 55 (ours) -/
def encI (x : Int) : Value := .int .i64 x
theorem splice_map (out r : List Int) (a : Nat) : splice (out.map encI) a (r.map encI) = (splice out a r).map encI := by simp [splice, List.map_take, List.map_drop]
def placeStep (k : Nat) (out : List Int) (x : S47) : Option (List Int) := if 0 ≤ x.f0 then (impl_run.f k x.f2 x.f1).bind fun r => if 0 < r.length ∧ x.f0.toNat + r.length ≤ 16 then some (splice out x.f0.toNat r) else none else none
def placesF (k : Nat) : List Int → List S47 → Option (List Int)
  | out, [] => some out
  | out, x :: l => (placeStep k out x).bind fun o => placesF k o l
theorem placeStep_mono (k : Nat) (out : List Int) (x : S47) : LeO (placeStep k out x) (placeStep (k + 1) out x) := by
  unfold placeStep
  exact LeO.ite (LeO.bind (impl_run.mono x.f2 x.f1 k) fun _ => LeO.refl _) (LeO.refl _)
theorem placesF_mono (k : Nat) : ∀ (l : List S47) (out : List Int), LeO (placesF k out l) (placesF (k + 1) out l)
  | [], out => LeO.refl _
  | x :: l, out => LeO.bind (placeStep_mono k out x) fun o => placesF_mono k l o
def impl_places.f (k : Nat) (l0 : List S47) : Option (List Int) := placesF k (List.replicate 16 (-1)) l0
theorem reads_enc {W : World} {A : Option Addr} {rr : List Int} (hC : Kd.C (Kd.int .i64) W A rr.length rr) (h0 : 0 < rr.length) : ∃ ad, A = some ad ∧ ∀ (j : Nat) (v : Value), (rr.map encI)[j]? = some v → W.cell? (ad.add j) = some v := by
  obtain ⟨ad, rfl, hcells⟩ := hC.2.2 h0
  refine ⟨ad, rfl, fun j v hj => ?_⟩
  rw [List.getElem?_map] at hj
  obtain ⟨x, hx, rfl⟩ := Option.map_eq_some_iff.1 hj
  obtain ⟨cs, _, hk, hcell⟩ := hcells j x hx
  obtain rfl : cs = [.int .i64 x] := hk
  have := hcell 0 _ rfl
  simpa [show (Kd.int .i64).sz = 1 from rfl, encI] using this
theorem impl_places.mono : ∀ a0 k, LeO (impl_places.f k a0) (impl_places.f (k + 1) a0) := fun a0 k => placesF_mono k a0 _
set_option maxHeartbeats 4000000 in
set_option maxRecDepth 100000 in
theorem impl_places.row (k : Nat) (A0 : Option Addr) (c0 : Nat) (l0 : List S47) (r : List Int) (w : World) (hr0 : Kd.C k47 w A0 l0.length l0) (hc0 : l0.length ≤ c0) (h : impl_places.f k l0 = some r) :
    Calls Try.prog 55 #[.slice A0 l0.length c0] w fun e w' => e = .returned (.slice (some ⟨w.heap.size + 1, 0, none⟩) 16 16) ∧ r.length = 16 ∧ w'.heap[w.heap.size + 1]? = some (.cells (r.map encI).toArray 3 (0, 0)) ∧ Below w.heap.size w w' := by
  obtain ⟨W1, hW1⟩ : ∃ W1, W1 = w.alloc (.cells #[.int .i64 (-1)] 3) := ⟨_, rfl⟩
  have hs1 : W1.heap.size = w.heap.size + 1 := by rw [hW1]; simp
  have hcB : W1.cell? ⟨w.heap.size, 0, none⟩ = some (.int .i64 (-1)) := by rw [hW1]; simp
  have hw1 : Below w.heap.size w W1 := by rw [hW1]; exact (Below.refl _ w).alloc (Nat.le_refl _) _
  have hrep := fx_rep_int 1 (.int .i64 (-1)) rfl ⟨w.heap.size, 0, none⟩ W1 hcB (by show w.heap.size < W1.heap.size; omega)
  rw [hs1] at hrep
  rw [hW1] at hrep
  have HE := Aside0.mk hW1
  have HW1 := Aside0.mk hw1
  have HS1 := Aside0.mk hs1
  clear hcB hw1 hs1 hW1
  have HC0 := Aside0.mk hc0
  have HR0 := Aside0.mk hr0
  have HH := Aside0.mk h
  obtain ⟨n, hN⟩ : ∃ n, l0.length = n := ⟨_, rfl⟩
  have hbig : n ≤ 9223372036854775807 := by rw [← hN]; exact hr0.2.1
  have HN := Aside0.mk hN
  rw [hN]
  clear hc0 hr0 h hN
  go_enter Try.func55, Try.ntmps55
  go_wp2_with (go_at_call 68; refine hrep.mono ?_; rintro e w2 ⟨rfl, hg2, hb2⟩; have HG2 := Aside0.mk hg2; have HB2 := Aside0.mk (HW1.out.trans ((show Below (w.heap.size + 1) W1 w2 by rw [HE.out]; exact hb2).mono (by omega))); clear hg2 hb2)
  clear hrep
  go_loopg [5, 10] n (fun gk s5 s10 wr => ∃ i : Nat, i + gk = n ∧ s10 = .int .i64 i ∧ ∃ out : List Int, Aside0 (placesF k out (l0.drop i) = some r) ∧ Aside0 (out.length = 16) ∧ Aside0 (wr.heap[w.heap.size + 1]? = some (.cells (out.map encI).toArray 3 (0, 0))) ∧ Aside0 (Below w.heap.size w wr))
  case atStart => exact ⟨0, by omega, rfl, List.replicate 16 (-1), HH, ⟨by simp⟩, ⟨by have h := HG2.out; simpa [encI, Hid] using h⟩, HB2⟩
  case round =>
    obtain ⟨i, hi, rfl, out, HP, HL, HG, HB⟩ := hrel
    by_cases hlt : i < n
    · have hlt' : decide ((i : Int) < (n : Int)) = true := decide_eq_true (by omega)
      have hli : i < l0.length := by rw [HN.out]; exact hlt
      obtain ⟨x, hx⟩ : ∃ x, l0[i]? = some x := ⟨_, List.getElem?_eq_getElem hli⟩
      have hC := HR0.out
      obtain ⟨ad, rfl, hcells⟩ := hC.2.2 (by omega)
      obtain ⟨cs, hcl, hk, hcell0⟩ := hcells i x hx
      obtain rfl := k47_open hk
      have hx0 : wr.cell? (ad.add (i * 3)) = some (.int .i64 x.f0) := pw_cell_below HB.out (hcell0 0 _ rfl)
      have hx1 : wr.cell? ⟨(ad.add (i * 3)).block, (ad.add (i * 3)).off + 1, none⟩ = some (.int .i64 x.f1) := by
        rw [← add_field _ _ 1 (by omega)]
        exact pw_cell_below HB.out (hcell0 1 _ rfl)
      have hx2 : wr.cell? ⟨(ad.add (i * 3)).block, (ad.add (i * 3)).off + 2, none⟩ = some (.int .i64 x.f2) := by
        rw [← add_field _ _ 2 (by omega)]
        exact pw_cell_below HB.out (hcell0 2 _ rfl)
      have hdrop : l0.drop i = x :: l0.drop (i + 1) := by
        obtain ⟨h1, h2⟩ := List.getElem?_eq_some_iff.1 hx
        rw [← h2, ← List.drop_eq_getElem_cons h1]
      have hP := HP.out
      rw [hdrop] at hP
      obtain ⟨o2, ho2, hP2⟩ := Option.bind_eq_some_iff.mp (show (placeStep k out x).bind (fun o => placesF k o (l0.drop (i + 1))) = some r from hP)
      unfold placeStep at ho2
      by_cases hf0 : 0 ≤ x.f0
      · rw [if_pos hf0] at ho2
        obtain ⟨rr, hrr, ho3⟩ := Option.bind_eq_some_iff.mp ho2
        by_cases hfit : 0 < rr.length ∧ x.f0.toNat + rr.length ≤ 16
        · rw [if_pos hfit] at ho3
          obtain rfl := Option.some.inj ho3
          have hrun := fun (W : World) => impl_run.calls k x.f2 x.f1 rr W hrr
          have HRUN := Aside0.mk hrun
          have HP2 := Aside0.mk hP2
          have HFIT := Aside0.mk hfit
          have hgk : gk = (n - (i + 1)) + 1 := by omega
          have HGK := Aside0.mk hgk
          clear hP hP2 ho2 ho3 hrr hrun hdrop hk hcl hcell0 hcells hC hgk hli hx
          obtain ⟨f0, f1, f2⟩ := x
          obtain ⟨a, rfl⟩ := Int.eq_ofNat_of_zero_le (show (0 : Int) ≤ f0 from hf0)
          have ha : a < 16 := by have := HFIT.out; simp at this; omega
          have HA := Aside0.mk ha
          have hfit2 : 0 < rr.length ∧ a + rr.length ≤ 16 := by have := HFIT.out; simpa using this
          have HF2 := Aside0.mk hfit2
          clear hfit2
          have hlim : decide ((a : Int) ≤ (16 : Int)) = true := decide_eq_true (by omega)
          have hlim1 : ¬ a = 16 := by omega
          have hlim2 : a ≤ 16 := by omega
          have hlim3 : ¬ 16 = a := by omega
          have hlim4 : (a : Int) ≤ 16 := by omega
          have hglt : w.heap.size + 1 < wr.heap.size := (Array.getElem?_eq_some_iff.1 HG.out).1
          have hAb : Below wr.heap.size wr (wr.alloc (.cells #[.int .i64 (a : Int), .int .i64 f1, .int .i64 f2] 47)) := (Below.refl _ wr).alloc (Nat.le_refl _) _
          have hgA : (wr.alloc (.cells #[.int .i64 (a : Int), .int .i64 f1, .int .i64 f2] 47)).heap[w.heap.size + 1]? = some (.cells (out.map encI).toArray 3 (0, 0)) := (hAb.block _ hglt).trans HG.out
          have HGA := Aside0.mk hgA
          have HAB := Aside0.mk (below_drew (HB.out.trans (hAb.mono HB.out.size)))
          have HGL := Aside0.mk hglt
          have hdsz : (wr.alloc (.cells #[.int .i64 (a : Int), .int .i64 f1, .int .i64 f2] 47)).drew.heap.size = wr.heap.size + 1 := by simp
          have hdc : (wr.alloc (.cells #[.int .i64 (a : Int), .int .i64 f1, .int .i64 f2] 47)).drew.cell? ⟨wr.heap.size, 0, none⟩ = some (.int .i64 (a : Int)) := by simp
          have HDS := Aside0.mk hdsz
          have HDC := Aside0.mk hdc
          have HBS := Aside0.mk HB.out.size
          clear hdsz hdc
          clear hgA hAb hglt
          go_wp2
          go_region_law (first
            | (refine goes_ Try.func57 (by kernel_rfl) rfl #[.int .i64 f2, .int .i64 f1] (by rfl) rfl rfl (by (try simp only [List.map_toArray, List.map_cons, List.map_nil]); first | done | rfl | simp [Act.eval, Act.put]) ?_
               refine (HRUN.out _).mono ?_
               rintro e w5 ⟨v5, rfl, ho5, hb5⟩
               refine ⟨_, rfl, ?_⟩
               obtain ⟨A5, c5, rfl, hc5, hC5⟩ := Kd.R_reads ho5
               have hx50 : w5.cell? ⟨wr.heap.size, 0, none⟩ = some (.int .i64 (a : Int)) := (hb5.cell (p := ⟨wr.heap.size, 0, none⟩) (by show wr.heap.size < _; rw [HDS.out]; omega)).trans HDC.out
               have HG5 := Aside0.mk ((hb5.block (w.heap.size + 1) (by rw [HDS.out]; have := HGL.out; omega)).trans HGA.out)
               have HB5 := Aside0.mk (HAB.out.trans (hb5.mono (by rw [HDS.out]; have := HBS.out; omega)))
               have HC5 := Aside0.mk hC5
               clear hC5 ho5 hb5 hc5)
            | (refine step_copy_splice rfl (.tmp 17) (.tmp 22) 29 29 rfl 3 Try.underlying29 (by kernel_rfl) (some ⟨w.heap.size + 1, a, none⟩) _ (16 - a) (16 - a) rr.length _ (by simp [Act.eval, Act.put]) (by simp [Act.eval, Act.put]; rfl) (w.heap.size + 1) a (out.map encI) 3 HG5.out (rr.map encI) (by rw [List.length_map]; exact (Nat.min_eq_left (by have := HF2.out; omega)).symm) (fun h0 => ⟨rfl, reads_enc HC5.out (by simpa using h0)⟩) (by have := HF2.out; have := HL.out; rw [List.length_map, List.length_map]; omega) (fun v hv => by obtain ⟨y, _, rfl⟩ := List.mem_map.1 hv; rfl) w.heap.size w HB5.out (by omega) ?_
               intro w6 hg6 hb6
               have HG6 := Aside0.mk hg6
               have HB6 := Aside0.mk hb6
               clear hg6 hb6))
          all_goals
            go_wp2
            go_roundg (n - (i + 1))
            case measure => omega
            case rel =>
              have hsp : Aside0 (w6.heap[w.heap.size + 1]? = some (.cells ((splice out a rr).map encI).toArray 3 (0, 0))) := ⟨by
                have h : w6.heap[w.heap.size + 1]? = some (.cells (splice (out.map encI) a (rr.map encI)).toArray 3 (0, 0)) := HG6.out
                rw [splice_map] at h
                exact h⟩
              exact ⟨i + 1, by omega, by go_num, splice out a rr, HP2, ⟨by rw [length_splice _ _ _ (by have := HF2.out; have := HL.out; omega)]; exact HL.out⟩, hsp, HB6⟩
        · rw [if_neg hfit] at ho3; cases ho3
      · rw [if_neg hf0] at ho2; cases ho2
    · have hlt' : decide ((i : Int) < (n : Int)) = false := decide_eq_false (by omega)
      obtain rfl : gk = 0 := by omega
      have hP := HP.out
      rw [List.drop_of_length_le (by rw [HN.out]; omega)] at hP
      obtain rfl := Option.some.inj (show some out = some r from hP)
      clear hP
      go_wp2
      go_ret
      exact ⟨rfl, HL.out, HG.out, HB.out⟩
theorem impl_places.calls (k : Nat) (A0 : Option Addr) (c0 : Nat) (l0 : List S47) (r : List Int) (w : World) (hr0 : Kd.C k47 w A0 l0.length l0) (hc0 : l0.length ≤ c0) (h : impl_places.f k l0 = some r) :
    Calls Try.prog 55 #[.slice A0 l0.length c0] w fun e w' => ∃ v0_ : Value, e = .returned v0_ ∧ Kd.R (Kd.int .i64) 3 w' w.heap.size (fun _ => True) v0_ r ∧ Below w.heap.size w w' := by
  refine (impl_places.row k A0 c0 l0 r w hr0 hc0 h).mono ?_
  rintro e w' ⟨rfl, hl, hg, hb⟩
  refine ⟨_, rfl, ⟨fun _ _ => trivial, r.map encI, ?_, ?_⟩, hb⟩
  · exact ⟨by show (r.map encI).length = r.length * 1; simp, .inr ⟨w.heap.size + 1, 16, _, by rw [hl], by omega, hg, by omega, by decide, by show (r.map encI).toArray.size = 16 * 1; simp [hl], by
      show (r.map encI).toArray.toList.take (r.length * 1) = r.map encI
      exact List.take_of_length_le (by simp)⟩⟩
  · exact Kd.reps_scalar (enc := encI) r

/-! ### impl_isPlace: function 59 -/
def impl_isPlace.f (a0 : Int) : Option (Bool) := (impl_within.f a0 0 10000).bind fun t194 => (some t194)
set_option maxHeartbeats 8000000 in
set_option maxRecDepth 100000 in
theorem impl_isPlace.calls (a0 : Int) (r : Bool) (w : World) (h : impl_isPlace.f a0 = some r) :
    Calls Try.prog 59 #[.int .i64 a0] w fun e w' => e = .returned (.bool r) ∧ Drawn0 w w' := by
  have H : ((impl_within.f a0 0 10000).bind fun t194 => (some t194)) = some r := h
  clear h
  replace H := Option.bind_eq_some_iff.mp H
  obtain ⟨t194, A20, H⟩ := H
  replace H : (some t194) = some r := H
  have A2 := Aside0.mk A20
  clear A20
  obtain rfl := Option.some.inj H
  go_enter Try.func59, Try.ntmps59
  go_wp2_with (first | ((with_reducible refine gate_callee (f := 51) rfl ?_); refine goesL_ (some 4) rfl rfl Try.func51 (by kernel_rfl) rfl #[.int .i64 a0, .int .i64 0, .int .i64 10000] rfl (by (try simp only [List.map_toArray, List.map_cons, List.map_nil]); first | done | rfl | (simp only [List.length_drop, List.length_take]; rfl)) ?_; (with_reducible refine (impl_within.calls a0 0 10000 t194 _ A2.out).mono ?_); rintro e w' ⟨rfl, ⟨nd, rfl⟩⟩; refine ⟨_, rfl, ?_⟩))
  go_ret
  exact ⟨by first | rfl | (simp; done) | (simp [*]; done), by repeat (first | exact Drawn0.refl _ | apply Drawn0.step)⟩

/-! ### impl_ShiftMap: function 37 -/
mutual
def impl_ShiftMap.j0 : Nat → List (S47) → Int → Int → Int → Bool → Option ((List (S47)) × Bool)
  | 0, _, _, _, _, _ => none
  | k + 1, x0, x1, x2, x3, x35 => if x35 = true then (some (([] : List (S47)), false)) else ((impl_places.f k x0).bind fun t199 => (impl_ShiftMap.l0 k x1 x2 x3 t199 (t199.length : Int) 0))
def impl_ShiftMap.l0 : Nat → Int → Int → Int → List Int → Int → Int → Option ((List (S47)) × Bool)
  | 0, _, _, _, _, _, _ => none
  | k + 1, x1, x2, x3, x10, x39, x40 => if x40 < x39 then (if 0 ≤ x40 then (if x40 < (x10.length : Int) then ((impl_within.f (rd x10 x40) x1 x2).bind fun t206 => (if t206 = true then ((some (x10.set (x40 : Int).toNat (wrap64 ((rd x10 x40) + x3)) : List Int)).bind fun y208 => ((impl_isPlace.f (rd y208 x40)).bind fun t210 => (if t210 = true then (impl_ShiftMap.l0 k x1 x2 x3 y208 x39 (wrap64 (x40 + 1))) else (some (([] : List (S47)), false))))) else (impl_ShiftMap.l0 k x1 x2 x3 x10 x39 (wrap64 (x40 + 1))))) else (none)) else (none)) else ((impl_mapOf.f k x10).bind fun t202 => (some (t202, true)))
end
def impl_ShiftMap.f (k : Nat) (l0 : List (S47)) (a1 : Int) (a2 : Int) (a3 : Int) : Option ((List (S47)) × Bool) := (impl_GoodMap.f k l0).bind fun t195 => (if t195 = true then ((impl_isPlace.f a1).bind fun t196 => (if t196 = true then ((impl_isPlace.f a2).bind fun t197 => (if t197 = true then (if a1 > a2 then (impl_ShiftMap.j0 k l0 a1 a2 a3 true) else ((impl_within.f a3 (-10000) 10000).bind fun t198 => (impl_ShiftMap.j0 k l0 a1 a2 a3 (!t198)))) else (impl_ShiftMap.j0 k l0 a1 a2 a3 true))) else (impl_ShiftMap.j0 k l0 a1 a2 a3 true))) else (impl_ShiftMap.j0 k l0 a1 a2 a3 true))
theorem impl_ShiftMap.mono_l : ∀ k, (∀ y0 y1 y2 y3 y4, LeO (impl_ShiftMap.j0 k y0 y1 y2 y3 y4) (impl_ShiftMap.j0 (k + 1) y0 y1 y2 y3 y4)) ∧ (∀ y0 y1 y2 y3 y4 y5, LeO (impl_ShiftMap.l0 k y0 y1 y2 y3 y4 y5) (impl_ShiftMap.l0 (k + 1) y0 y1 y2 y3 y4 y5))
  | 0 => ⟨fun _ _ _ _ _ r h => by simp [impl_ShiftMap.j0] at h, fun _ _ _ _ _ _ r h => by simp [impl_ShiftMap.l0] at h⟩
  | k + 1 => by
    obtain ⟨ih0, ih1⟩ := impl_ShiftMap.mono_l k
    refine ⟨?_, ?_⟩
    · intro y0 y1 y2 y3 y4
      unfold impl_ShiftMap.j0
      repeat' first
      | (with_reducible exact ih0 _ _ _ _ _)
      | (with_reducible exact ih1 _ _ _ _ _ _)
      | (with_reducible exact impl_GoodMap.mono _ _)
      | (with_reducible exact impl_mapOf.mono _ _)
      | (with_reducible exact impl_places.mono _ _)
      | (with_reducible exact LeO.refl _)
      | (with_reducible exact LeO.none _)
      | (with_reducible refine LeO.ite ?_ ?_)
      | (with_reducible refine LeO.bind ?_ (fun _ => ?_))
      | exact ih0 _ _ _ _ _
      | exact ih1 _ _ _ _ _ _
      | exact impl_GoodMap.mono _ _
      | exact impl_mapOf.mono _ _
      | exact impl_places.mono _ _
      | exact LeO.none _
      | refine LeO.ite ?_ ?_
      | refine LeO.bind ?_ (fun _ => ?_)
    · intro y0 y1 y2 y3 y4 y5
      unfold impl_ShiftMap.l0
      repeat' first
      | (with_reducible exact ih0 _ _ _ _ _)
      | (with_reducible exact ih1 _ _ _ _ _ _)
      | (with_reducible exact impl_GoodMap.mono _ _)
      | (with_reducible exact impl_mapOf.mono _ _)
      | (with_reducible exact impl_places.mono _ _)
      | (with_reducible exact LeO.refl _)
      | (with_reducible exact LeO.none _)
      | (with_reducible refine LeO.ite ?_ ?_)
      | (with_reducible refine LeO.bind ?_ (fun _ => ?_))
      | exact ih0 _ _ _ _ _
      | exact ih1 _ _ _ _ _ _
      | exact impl_GoodMap.mono _ _
      | exact impl_mapOf.mono _ _
      | exact impl_places.mono _ _
      | exact LeO.none _
      | refine LeO.ite ?_ ?_
      | refine LeO.bind ?_ (fun _ => ?_)
theorem impl_ShiftMap.mono : ∀ a0 a1 a2 a3 k, LeO (impl_ShiftMap.f k a0 a1 a2 a3) (impl_ShiftMap.f (k + 1) a0 a1 a2 a3) := by
  intro a0 a1 a2 a3 k
  obtain ⟨ih0, ih1⟩ := impl_ShiftMap.mono_l k
  unfold impl_ShiftMap.f
  repeat' first
      | (with_reducible exact ih0 _ _ _ _ _)
      | (with_reducible exact ih1 _ _ _ _ _ _)
      | (with_reducible exact impl_GoodMap.mono _ _)
      | (with_reducible exact impl_mapOf.mono _ _)
      | (with_reducible exact impl_places.mono _ _)
      | (with_reducible exact LeO.refl _)
      | (with_reducible exact LeO.none _)
      | (with_reducible refine LeO.ite ?_ ?_)
      | (with_reducible refine LeO.bind ?_ (fun _ => ?_))
      | exact ih0 _ _ _ _ _
      | exact ih1 _ _ _ _ _ _
      | exact impl_GoodMap.mono _ _
      | exact impl_mapOf.mono _ _
      | exact impl_places.mono _ _
      | exact LeO.none _
      | refine LeO.ite ?_ ?_
      | refine LeO.bind ?_ (fun _ => ?_)
set_option maxHeartbeats 8000000 in
set_option maxRecDepth 100000 in
theorem impl_ShiftMap.calls (k : Nat) (A0 : Option Addr) (c0 : Nat) (l0 : List (S47)) (a1 : Int) (a2 : Int) (a3 : Int) (r1 : List (S47)) (r2 : Bool) (w : World) (hr0 : Kd.C k47 w A0 l0.length l0) (hc0 : l0.length ≤ c0) (h : impl_ShiftMap.f k l0 a1 a2 a3 = some (r1, r2)) :
    Calls Try.prog 37 #[.slice A0 l0.length c0, .int .i64 a1, .int .i64 a2, .int .i64 a3] w fun e w' => ∃ v0_ : Value, e = .returned (.tuple #[v0_, .bool r2]) ∧ Kd.R k47 47 w' w.heap.size (fun _ => True) v0_ r1 ∧ Below w.heap.size w w' := by
  have HR0 := Aside0.mk hr0
  have HC0 := Aside0.mk hc0
  clear hr0 hc0
  have HB := Aside0.mk (Below.refl w.heap.size w)
  have H : ((impl_GoodMap.f k l0).bind fun t195 => (if t195 = true then ((impl_isPlace.f a1).bind fun t196 => (if t196 = true then ((impl_isPlace.f a2).bind fun t197 => (if t197 = true then (if a1 > a2 then (impl_ShiftMap.j0 k l0 a1 a2 a3 true) else ((impl_within.f a3 (-10000) 10000).bind fun t198 => (impl_ShiftMap.j0 k l0 a1 a2 a3 (!t198)))) else (impl_ShiftMap.j0 k l0 a1 a2 a3 true))) else (impl_ShiftMap.j0 k l0 a1 a2 a3 true))) else (impl_ShiftMap.j0 k l0 a1 a2 a3 true))) = some (r1, r2) := h
  clear h
  have HC5 := Aside0.mk H
  clear H
  go_enter Try.func37, Try.ntmps37
  go_upto_region 1 with (fail)
  go_cut [35] (fun v35 wc => ∃ (kq : Nat) (x35_4 : Bool), v35 = .bool x35_4 ∧ Aside0 (impl_ShiftMap.j0 kq l0 a1 a2 a3 x35_4 = some (r1, r2)) ∧ Aside0 (kq ≤ k) ∧ Aside0 (Below w.heap.size w wc))
  case first =>
    have H := HC5.out
    clear HC5
    replace H := Option.bind_eq_some_iff.mp H
    obtain ⟨t195, A60, H⟩ := H
    replace H : (if t195 = true then ((impl_isPlace.f a1).bind fun t196 => (if t196 = true then ((impl_isPlace.f a2).bind fun t197 => (if t197 = true then (if a1 > a2 then (impl_ShiftMap.j0 k l0 a1 a2 a3 true) else ((impl_within.f a3 (-10000) 10000).bind fun t198 => (impl_ShiftMap.j0 k l0 a1 a2 a3 (!t198)))) else (impl_ShiftMap.j0 k l0 a1 a2 a3 true))) else (impl_ShiftMap.j0 k l0 a1 a2 a3 true))) else (impl_ShiftMap.j0 k l0 a1 a2 a3 true)) = some (r1, r2) := H
    have A6 := Aside0.mk A60
    clear A60
    by_cases c7 : t195 = true
    · subst c7
      have H1 : ((impl_isPlace.f a1).bind fun t196 => (if t196 = true then ((impl_isPlace.f a2).bind fun t197 => (if t197 = true then (if a1 > a2 then (impl_ShiftMap.j0 k l0 a1 a2 a3 true) else ((impl_within.f a3 (-10000) 10000).bind fun t198 => (impl_ShiftMap.j0 k l0 a1 a2 a3 (!t198)))) else (impl_ShiftMap.j0 k l0 a1 a2 a3 true))) else (impl_ShiftMap.j0 k l0 a1 a2 a3 true))) = some (r1, r2) := by rw [if_pos rfl] at H; exact H
      clear H
      have H := H1
      clear H1
      replace H := Option.bind_eq_some_iff.mp H
      obtain ⟨t196, A80, H⟩ := H
      replace H : (if t196 = true then ((impl_isPlace.f a2).bind fun t197 => (if t197 = true then (if a1 > a2 then (impl_ShiftMap.j0 k l0 a1 a2 a3 true) else ((impl_within.f a3 (-10000) 10000).bind fun t198 => (impl_ShiftMap.j0 k l0 a1 a2 a3 (!t198)))) else (impl_ShiftMap.j0 k l0 a1 a2 a3 true))) else (impl_ShiftMap.j0 k l0 a1 a2 a3 true)) = some (r1, r2) := H
      have A8 := Aside0.mk A80
      clear A80
      by_cases c9 : t196 = true
      · subst c9
        have H1 : ((impl_isPlace.f a2).bind fun t197 => (if t197 = true then (if a1 > a2 then (impl_ShiftMap.j0 k l0 a1 a2 a3 true) else ((impl_within.f a3 (-10000) 10000).bind fun t198 => (impl_ShiftMap.j0 k l0 a1 a2 a3 (!t198)))) else (impl_ShiftMap.j0 k l0 a1 a2 a3 true))) = some (r1, r2) := by rw [if_pos rfl] at H; exact H
        clear H
        have H := H1
        clear H1
        replace H := Option.bind_eq_some_iff.mp H
        obtain ⟨t197, A100, H⟩ := H
        replace H : (if t197 = true then (if a1 > a2 then (impl_ShiftMap.j0 k l0 a1 a2 a3 true) else ((impl_within.f a3 (-10000) 10000).bind fun t198 => (impl_ShiftMap.j0 k l0 a1 a2 a3 (!t198)))) else (impl_ShiftMap.j0 k l0 a1 a2 a3 true)) = some (r1, r2) := H
        have A10 := Aside0.mk A100
        clear A100
        by_cases c11 : t197 = true
        · subst c11
          have H1 : (if a1 > a2 then (impl_ShiftMap.j0 k l0 a1 a2 a3 true) else ((impl_within.f a3 (-10000) 10000).bind fun t198 => (impl_ShiftMap.j0 k l0 a1 a2 a3 (!t198)))) = some (r1, r2) := by rw [if_pos rfl] at H; exact H
          clear H
          have H := H1
          clear H1
          by_cases c12 : a1 > a2
          · rw [if_pos c12] at H
            have c12b0 : decide (a2 < a1) = true := decide_eq_true c12
            clear c12
            (first | rw [c12b0] | (simp only [i64_w, i32_w]; rw [c12b0]) | skip)
            have H' := Aside0.mk H
            clear H
            go_wp2_with (first | ((with_reducible refine gate_callee (f := 15) rfl ?_); refine goesL_ (some 14) rfl rfl Try.func15 (by kernel_rfl) rfl #[.slice A0 l0.length c0] rfl (by (try simp only [List.map_toArray, List.map_cons, List.map_nil]); first | done | rfl | (simp only [List.length_drop, List.length_take]; rfl)) ?_; (with_reducible refine (impl_GoodMap.calls k _ _ l0 true _ ?side1 ?side2 A6.out).mono ?_); (case side1 => repeat (first | exact (Kd.C_below HR0.out HB.out) | (with_reducible refine Kd.C_alloc ?_ _) | (with_reducible refine Kd.C_drewN ?_ _) | (with_reducible refine Kd.C_drew ?_))); (case side2 => exact HC0.out); rintro e w13 ⟨rfl, hb⟩; refine ⟨_, rfl, ?_⟩; have n0_ := Aside0.mk (below_step (by repeat (first | (with_reducible first | exact HB.out | apply below_alloc | apply pw_below_drewN | apply below_drew1) | exact HB.out)) hb); clear HB; have HB := n0_; clear n0_; (try clear hb); (try clear hb2); (try clear hk); (try clear hi)) | (go_at_call 59; (with_reducible refine (impl_isPlace.calls a1 true _ A8.out).mono ?_); rintro e w' ⟨rfl, ⟨nd, rfl⟩⟩) | (go_at_call 59; (with_reducible refine (impl_isPlace.calls a2 true _ A10.out).mono ?_); rintro e w' ⟨rfl, ⟨nd, rfl⟩⟩))
            go_meet
            case rel => exact ⟨_, (true), (by first | rfl | (simp; done) | (simp [*]; done)), H', ⟨by first | omega | exact Nat.le_refl _⟩, ⟨by repeat (first | (with_reducible first | exact HB.out | apply below_alloc | apply pw_below_drewN | apply below_drew1) | exact HB.out)⟩⟩
          · rw [if_neg c12] at H
            have c12b0 : decide (a2 < a1) = false := decide_eq_false c12
            clear c12
            (first | rw [c12b0] | (simp only [i64_w, i32_w]; rw [c12b0]) | skip)
            replace H := Option.bind_eq_some_iff.mp H
            obtain ⟨t198, A140, H⟩ := H
            replace H : (impl_ShiftMap.j0 k l0 a1 a2 a3 (!t198)) = some (r1, r2) := H
            have A14 := Aside0.mk A140
            clear A140
            have H' := Aside0.mk H
            clear H
            go_wp2_with (first | ((with_reducible refine gate_callee (f := 15) rfl ?_); refine goesL_ (some 14) rfl rfl Try.func15 (by kernel_rfl) rfl #[.slice A0 l0.length c0] rfl (by (try simp only [List.map_toArray, List.map_cons, List.map_nil]); first | done | rfl | (simp only [List.length_drop, List.length_take]; rfl)) ?_; (with_reducible refine (impl_GoodMap.calls k _ _ l0 true _ ?side1 ?side2 A6.out).mono ?_); (case side1 => repeat (first | exact (Kd.C_below HR0.out HB.out) | (with_reducible refine Kd.C_alloc ?_ _) | (with_reducible refine Kd.C_drewN ?_ _) | (with_reducible refine Kd.C_drew ?_))); (case side2 => exact HC0.out); rintro e w15 ⟨rfl, hb⟩; refine ⟨_, rfl, ?_⟩; have n0_ := Aside0.mk (below_step (by repeat (first | (with_reducible first | exact HB.out | apply below_alloc | apply pw_below_drewN | apply below_drew1) | exact HB.out)) hb); clear HB; have HB := n0_; clear n0_; (try clear hb); (try clear hb2); (try clear hk); (try clear hi)) | (go_at_call 59; (with_reducible refine (impl_isPlace.calls a1 true _ A8.out).mono ?_); rintro e w' ⟨rfl, ⟨nd, rfl⟩⟩) | (go_at_call 59; (with_reducible refine (impl_isPlace.calls a2 true _ A10.out).mono ?_); rintro e w' ⟨rfl, ⟨nd, rfl⟩⟩) | (go_at_call 51; (with_reducible refine (impl_within.calls a3 (-10000) 10000 t198 _ A14.out).mono ?_); rintro e w' ⟨rfl, ⟨nd, rfl⟩⟩))
            go_meet
            case rel => exact ⟨_, (!t198), (by first | rfl | (simp; done) | (simp [*]; done)), H', ⟨by first | omega | exact Nat.le_refl _⟩, ⟨by repeat (first | (with_reducible first | exact HB.out | apply below_alloc | apply pw_below_drewN | apply below_drew1) | exact HB.out)⟩⟩
        · replace c11 := Bool.eq_false_iff.mpr c11
          subst c11
          have H1 : (impl_ShiftMap.j0 k l0 a1 a2 a3 true) = some (r1, r2) := by rw [if_neg (show ¬ (false = true) by decide)] at H; exact H
          clear H
          have H := H1
          clear H1
          have H' := Aside0.mk H
          clear H
          go_wp2_with (first | ((with_reducible refine gate_callee (f := 15) rfl ?_); refine goesL_ (some 14) rfl rfl Try.func15 (by kernel_rfl) rfl #[.slice A0 l0.length c0] rfl (by (try simp only [List.map_toArray, List.map_cons, List.map_nil]); first | done | rfl | (simp only [List.length_drop, List.length_take]; rfl)) ?_; (with_reducible refine (impl_GoodMap.calls k _ _ l0 true _ ?side1 ?side2 A6.out).mono ?_); (case side1 => repeat (first | exact (Kd.C_below HR0.out HB.out) | (with_reducible refine Kd.C_alloc ?_ _) | (with_reducible refine Kd.C_drewN ?_ _) | (with_reducible refine Kd.C_drew ?_))); (case side2 => exact HC0.out); rintro e w16 ⟨rfl, hb⟩; refine ⟨_, rfl, ?_⟩; have n0_ := Aside0.mk (below_step (by repeat (first | (with_reducible first | exact HB.out | apply below_alloc | apply pw_below_drewN | apply below_drew1) | exact HB.out)) hb); clear HB; have HB := n0_; clear n0_; (try clear hb); (try clear hb2); (try clear hk); (try clear hi)) | (go_at_call 59; (with_reducible refine (impl_isPlace.calls a1 true _ A8.out).mono ?_); rintro e w' ⟨rfl, ⟨nd, rfl⟩⟩) | (go_at_call 59; (with_reducible refine (impl_isPlace.calls a2 false _ A10.out).mono ?_); rintro e w' ⟨rfl, ⟨nd, rfl⟩⟩))
          go_meet
          case rel => exact ⟨_, (true), (by first | rfl | (simp; done) | (simp [*]; done)), H', ⟨by first | omega | exact Nat.le_refl _⟩, ⟨by repeat (first | (with_reducible first | exact HB.out | apply below_alloc | apply pw_below_drewN | apply below_drew1) | exact HB.out)⟩⟩
      · replace c9 := Bool.eq_false_iff.mpr c9
        subst c9
        have H1 : (impl_ShiftMap.j0 k l0 a1 a2 a3 true) = some (r1, r2) := by rw [if_neg (show ¬ (false = true) by decide)] at H; exact H
        clear H
        have H := H1
        clear H1
        have H' := Aside0.mk H
        clear H
        go_wp2_with (first | ((with_reducible refine gate_callee (f := 15) rfl ?_); refine goesL_ (some 14) rfl rfl Try.func15 (by kernel_rfl) rfl #[.slice A0 l0.length c0] rfl (by (try simp only [List.map_toArray, List.map_cons, List.map_nil]); first | done | rfl | (simp only [List.length_drop, List.length_take]; rfl)) ?_; (with_reducible refine (impl_GoodMap.calls k _ _ l0 true _ ?side1 ?side2 A6.out).mono ?_); (case side1 => repeat (first | exact (Kd.C_below HR0.out HB.out) | (with_reducible refine Kd.C_alloc ?_ _) | (with_reducible refine Kd.C_drewN ?_ _) | (with_reducible refine Kd.C_drew ?_))); (case side2 => exact HC0.out); rintro e w17 ⟨rfl, hb⟩; refine ⟨_, rfl, ?_⟩; have n0_ := Aside0.mk (below_step (by repeat (first | (with_reducible first | exact HB.out | apply below_alloc | apply pw_below_drewN | apply below_drew1) | exact HB.out)) hb); clear HB; have HB := n0_; clear n0_; (try clear hb); (try clear hb2); (try clear hk); (try clear hi)) | (go_at_call 59; (with_reducible refine (impl_isPlace.calls a1 false _ A8.out).mono ?_); rintro e w' ⟨rfl, ⟨nd, rfl⟩⟩))
        go_meet
        case rel => exact ⟨_, (true), (by first | rfl | (simp; done) | (simp [*]; done)), H', ⟨by first | omega | exact Nat.le_refl _⟩, ⟨by repeat (first | (with_reducible first | exact HB.out | apply below_alloc | apply pw_below_drewN | apply below_drew1) | exact HB.out)⟩⟩
    · replace c7 := Bool.eq_false_iff.mpr c7
      subst c7
      have H1 : (impl_ShiftMap.j0 k l0 a1 a2 a3 true) = some (r1, r2) := by rw [if_neg (show ¬ (false = true) by decide)] at H; exact H
      clear H
      have H := H1
      clear H1
      have H' := Aside0.mk H
      clear H
      go_wp2_with (first | ((with_reducible refine gate_callee (f := 15) rfl ?_); refine goesL_ (some 14) rfl rfl Try.func15 (by kernel_rfl) rfl #[.slice A0 l0.length c0] rfl (by (try simp only [List.map_toArray, List.map_cons, List.map_nil]); first | done | rfl | (simp only [List.length_drop, List.length_take]; rfl)) ?_; (with_reducible refine (impl_GoodMap.calls k _ _ l0 false _ ?side1 ?side2 A6.out).mono ?_); (case side1 => repeat (first | exact (Kd.C_below HR0.out HB.out) | (with_reducible refine Kd.C_alloc ?_ _) | (with_reducible refine Kd.C_drewN ?_ _) | (with_reducible refine Kd.C_drew ?_))); (case side2 => exact HC0.out); rintro e w18 ⟨rfl, hb⟩; refine ⟨_, rfl, ?_⟩; have n0_ := Aside0.mk (below_step (by repeat (first | (with_reducible first | exact HB.out | apply below_alloc | apply pw_below_drewN | apply below_drew1) | exact HB.out)) hb); clear HB; have HB := n0_; clear n0_; (try clear hb); (try clear hb2); (try clear hk); (try clear hi)))
      go_meet
      case rel => exact ⟨_, (true), (by first | rfl | (simp; done) | (simp [*]; done)), H', ⟨by first | omega | exact Nat.le_refl _⟩, ⟨by repeat (first | (with_reducible first | exact HB.out | apply below_alloc | apply pw_below_drewN | apply below_drew1) | exact HB.out)⟩⟩
  case rest =>
    clear HC5
    try clear c1
    try clear p2
    try clear c3
    try clear c7
    try clear c9
    try clear c11
    try clear c12
    try clear c12b0
    try clear c15
    obtain ⟨kq, x35_4, rfl, HA, HJ4, HB⟩ := hcut
    cases kq with
    | zero => exact absurd HA.out (by simp [impl_ShiftMap.j0])
    | succ kj4 =>
      have H := HA.out
      clear HA
      simp only [impl_ShiftMap.j0] at H
      by_cases c19 : x35_4 = true
      · subst c19
        have H1 : (some (([] : List (S47)), false)) = some (r1, r2) := by rw [if_pos rfl] at H; exact H
        clear H
        have H := H1
        clear H1
        simp only [Option.some.injEq, Prod.mk.injEq] at H
        obtain ⟨rfl, rfl⟩ := H
        go_wp2
        go_ret2
        exact ⟨_, by first | rfl | (simp [errW_none, errW_some] <;> rfl) | (simp [*, errW_none, errW_some] <;> rfl), by first | exact Kd.R_nil _ _ _ _ _ | exact Kd.N_nil _ _ _ _ _ | exact Kd.V_nil _ _ _ _ _ | exact Kd.Q_nil _ _ _ _ _ | exact Kd.S_nil _ _ _ _ _, by repeat (first | (with_reducible first | exact HB.out | apply below_alloc | apply pw_below_drewN | apply below_drew1) | exact HB.out)⟩
      · replace c19 := Bool.eq_false_iff.mpr c19
        subst c19
        have H1 : ((impl_places.f kj4 l0).bind fun t199 => (impl_ShiftMap.l0 kj4 a1 a2 a3 t199 (t199.length : Int) 0)) = some (r1, r2) := by rw [if_neg (show ¬ (false = true) by decide)] at H; exact H
        clear H
        have H := H1
        clear H1
        replace H := Option.bind_eq_some_iff.mp H
        obtain ⟨t199, A200, H⟩ := H
        replace H : (impl_ShiftMap.l0 kj4 a1 a2 a3 t199 (t199.length : Int) 0) = some (r1, r2) := H
        have A20 := Aside0.mk A200
        clear A200
        have H' := Aside0.mk H
        clear H
        go_wp2_with (first | ((with_reducible refine gate_callee (f := 55) rfl ?_); refine goesL_ (some 37) rfl rfl Try.func55 (by kernel_rfl) rfl #[.slice A0 l0.length c0] rfl (by (try simp only [List.map_toArray, List.map_cons, List.map_nil]); first | done | rfl | (simp only [List.length_drop, List.length_take]; rfl)) ?_; (with_reducible refine (impl_places.calls kj4 _ _ l0 t199 _ ?side1 ?side2 A20.out).mono ?_); (case side1 => repeat (first | exact (Kd.C_below HR0.out HB.out) | (with_reducible refine Kd.C_alloc ?_ _) | (with_reducible refine Kd.C_drewN ?_ _) | (with_reducible refine Kd.C_drew ?_))); (case side2 => exact HC0.out); rintro e w21 ⟨v200, rfl, ho0, hb⟩; refine ⟨_, rfl, ?_⟩; have n0_ := Aside0.mk (Kd.R_lower ho0 (below_size (by repeat (first | (with_reducible first | exact HB.out | apply below_alloc | apply pw_below_drewN | apply below_drew1) | exact HB.out)))); have n1_ := Aside0.mk (below_step (by repeat (first | (with_reducible first | exact HB.out | apply below_alloc | apply pw_below_drewN | apply below_drew1) | exact HB.out)) hb); clear HB; have HO201 := n0_; have HB := n1_; clear n0_ n1_; (try clear hb); (try clear hb2); (try clear hk); (try clear hi); (try clear ho0); obtain ⟨Ao22, co22, eo22⟩ := Kd.R_slice HO201.out; subst eo22))
        go_loopg [40] kj4 (fun kq v40 w' => ∃ (x10_2 : List Int) (x40_2 : Int), v40 = .int .i64 x40_2 ∧ Aside0 (impl_ShiftMap.l0 kq a1 a2 a3 x10_2 (t199.length : Int) x40_2 = some (r1, r2)) ∧ Aside0 (kq ≤ kj4) ∧ Aside0 (Kd.R (Kd.int .i64) 3 w' w.heap.size (fun _ => True) (.slice Ao22 t199.length co22) x10_2) ∧ Aside0 (Below w.heap.size w w'))
        case atStart => exact ⟨(t199), (0), (by first | rfl | (simp; done) | (simp [*]; done)), H', ⟨Nat.le_refl _⟩, ⟨by (with_reducible repeat (first | apply Kd.R_alloc | apply Kd.R_drewN | apply Kd.R_drew)); exact HO201.out⟩, ⟨by repeat (first | (with_reducible first | exact HB.out | apply below_alloc | apply pw_below_drewN | apply below_drew1) | exact HB.out)⟩⟩
        case round =>
          clear H'
          try clear c1
          try clear p2
          try clear c3
          try clear c5
          try clear c7
          try clear c9
          try clear c11
          try clear c12
          try clear c12b0
          try clear c15
          try clear c19
          try clear p2
          obtain ⟨x10_2, x40_2, rfl, HA, HK2, HO_10, HB⟩ := hrel
          have hl10_2 := (Kd.R_reads' HO_10.out).1
          rw [hl10_2] at HO_10
          (try simp only [hl10_2])
          cases gk with
          | zero => exact absurd HA.out (by simp [impl_ShiftMap.l0])
          | succ k2 =>
            have H := HA.out
            clear HA
            simp only [impl_ShiftMap.l0] at H
            by_cases c23 : x40_2 < (t199.length : Int)
            · rw [if_pos c23] at H
              have c23b0 : decide (x40_2 < (t199.length : Int)) = true := decide_eq_true c23
              clear c23
              by_cases c24 : 0 ≤ x40_2
              · rw [if_pos c24] at H
                have c24b0 : decide (0 ≤ x40_2) = true := decide_eq_true c24
                clear c24
                by_cases c25 : x40_2 < (x10_2.length : Int)
                · rw [if_pos c25] at H
                  have c25b0 : decide (x40_2 < (x10_2.length : Int)) = true := decide_eq_true c25
                  clear c25
                  replace H := Option.bind_eq_some_iff.mp H
                  obtain ⟨t206, A260, H⟩ := H
                  replace H : (if t206 = true then ((some (x10_2.set (x40_2 : Int).toNat (wrap64 ((rd x10_2 x40_2) + a3)) : List Int)).bind fun y208 => ((impl_isPlace.f (rd y208 x40_2)).bind fun t210 => (if t210 = true then (impl_ShiftMap.l0 k2 a1 a2 a3 y208 (t199.length : Int) (wrap64 (x40_2 + 1))) else (some (([] : List (S47)), false))))) else (impl_ShiftMap.l0 k2 a1 a2 a3 x10_2 (t199.length : Int) (wrap64 (x40_2 + 1)))) = some (r1, r2) := H
                  have A26 := Aside0.mk A260
                  clear A260
                  by_cases c27 : t206 = true
                  · subst c27
                    have H1 : ((some (x10_2.set (x40_2 : Int).toNat (wrap64 ((rd x10_2 x40_2) + a3)) : List Int)).bind fun y208 => ((impl_isPlace.f (rd y208 x40_2)).bind fun t210 => (if t210 = true then (impl_ShiftMap.l0 k2 a1 a2 a3 y208 (t199.length : Int) (wrap64 (x40_2 + 1))) else (some (([] : List (S47)), false))))) = some (r1, r2) := by rw [if_pos rfl] at H; exact H
                    clear H
                    have H := H1
                    clear H1
                    obtain ⟨y208, hy208⟩ : ∃ y_ : List Int, y_ = (x10_2.set (x40_2 : Int).toNat (wrap64 ((rd x10_2 x40_2) + a3))) := ⟨_, rfl⟩
                    replace H : ((impl_isPlace.f (rd y208 x40_2)).bind fun t210 => (if t210 = true then (impl_ShiftMap.l0 k2 a1 a2 a3 y208 (t199.length : Int) (wrap64 (x40_2 + 1))) else (some (([] : List (S47)), false)))) = some (r1, r2) := by first | (rw [hy208]; with_reducible exact H) | (have H2_ := (Option.bind_some _ _).symm.trans H; rw [hy208]; with_reducible exact H2_) | (have H2_ := (Option.bind_some _ _).symm.trans H; with_reducible exact H2_) | with_reducible exact H | (rw [hy208]; exact H) | exact H
                    have Ny208 := Aside0.mk hy208
                    clear hy208
                    replace H := Option.bind_eq_some_iff.mp H
                    obtain ⟨t210, A290, H⟩ := H
                    replace H : (if t210 = true then (impl_ShiftMap.l0 k2 a1 a2 a3 y208 (t199.length : Int) (wrap64 (x40_2 + 1))) else (some (([] : List (S47)), false))) = some (r1, r2) := H
                    have A29 := Aside0.mk A290
                    clear A290
                    by_cases c30 : t210 = true
                    · subst c30
                      have H1 : (impl_ShiftMap.l0 k2 a1 a2 a3 y208 (t199.length : Int) (wrap64 (x40_2 + 1))) = some (r1, r2) := by rw [if_pos rfl] at H; exact H
                      clear H
                      have H := H1
                      clear H1
                      have H' := Aside0.mk H
                      clear H
                      have p205 : 0 ≤ (x40_2 : Int) := of_decide_eq_true (by first | (with_reducible assumption) | assumption)
                      have q205 : x40_2 < (x10_2.length : Int) := of_decide_eq_true (by first | (with_reducible assumption) | assumption)
                      obtain ⟨ad205, e205, hx205_0⟩ := Kd.at_int (Kd.R_reads' HO_10.out).2.2 x40_2 p205 q205
                      cases e205
                      replace p205 := eq_true p205
                      replace q205 := eq_true q205
                      go_wp2_with (first | ((with_reducible refine gate_callee (f := 51) rfl ?_); refine goesL_ (some 48) rfl rfl Try.func51 (by kernel_rfl) rfl #[.int .i64 (rd x10_2 x40_2), .int .i64 a1, .int .i64 a2] rfl (by (try simp only [List.map_toArray, List.map_cons, List.map_nil]); first | done | rfl | (simp only [List.length_drop, List.length_take]; rfl)) ?_; (with_reducible refine (impl_within.calls (rd x10_2 x40_2) a1 a2 true _ A26.out).mono ?_); rintro e w' ⟨rfl, ⟨nd, rfl⟩⟩; refine ⟨_, rfl, ?_⟩; (try (rw [drewN_self wr]; generalize hq_ : World.drewN wr _ = wr; have n0_ : Aside0 (Kd.R (Kd.int .i64) 3 wr w.heap.size (fun _ => True) (.slice (some ad205) x10_2.length co22) x10_2) := ⟨by rw [← hq_]; exact (by (with_reducible repeat (first | apply Kd.R_alloc | apply Kd.R_drewN | apply Kd.R_drew)); exact HO_10.out)⟩; have n1_ : Aside0 (Below w.heap.size w wr) := ⟨by rw [← hq_]; exact (by repeat (first | (with_reducible first | exact HB.out | apply below_alloc | apply pw_below_drewN | apply below_drew1) | exact HB.out))⟩; clear HO_10 HB hq_; have HO_10 := n0_; have HB := n1_; clear n0_ n1_)); have p207 : 0 ≤ (x40_2 : Int) := of_decide_eq_true (by first | (with_reducible assumption) | assumption); have q207 : x40_2 < (x10_2.length : Int) := of_decide_eq_true (by first | (with_reducible assumption) | assumption); obtain ⟨ad207, e207, hx207_0⟩ := Kd.at_int (Kd.R_reads' HO_10.out).2.2 x40_2 p207 q207; obtain rfl : ad205 = ad207 := (by injection e207); replace p207 := eq_true p207; replace q207 := eq_true q207; have p28 : 0 ≤ (x40_2 : Int) := of_decide_eq_true (by first | (with_reducible assumption) | assumption); have q28 : (x40_2 : Int) < ((x10_2.length : Int) : Int) := of_decide_eq_true (by first | (with_reducible assumption) | assumption); obtain ⟨go28, co28, eo28, gb28, gl28, cl28, HG28⟩ := Kd.R_form HO_10.out (by omega); (first | cases eo28 | (injection eo28 with ea_ en_ ec_; (first | subst ea_ | (injection ea_ with ea_; subst ea_)); subst ec_; clear en_)); have GB28 := Aside0.mk gb28; have GG28 := Aside0.mk HG28; clear gb28 gl28 HG28; (first | simp only [add_plain] at hx205_0 | skip); (first | simp only [add_plain] at hx207_0 | skip); obtain ⟨hx28_0, hf28_0⟩ := Kd.R_celln 0 HO_10.out (x40_2 : Int) p28 q28; replace p28 := eq_true p28; replace q28 := eq_true q28; obtain ⟨hy31_, hz31_⟩ := Kd.R_celln 0 HO_10.out (x40_2 : Int) (of_decide_eq_true (by first | (with_reducible assumption) | assumption)) (of_decide_eq_true (by first | (with_reducible assumption) | assumption)); have HP31 := Kd.R_putg HO_10.out (x40_2 : Int) (wrap64 ((rd x10_2 x40_2) + a3))) | ((with_reducible refine gate_store (t := 3) (p := 56) rfl ?_); refine store_event (t := 3) (p := 56) (v := ?vo_w32) (w1 := (wr.setCell ⟨go28, (x40_2 : Int).toNat, none⟩ (.int .i64 (wrap64 ((rd x10_2 x40_2) + a3))))) ?hg ?ho ?hn ?hr ?_; (case ho => rfl); (case hg => rfl); (case hn => rfl); (case hr => first | (go_simp; done) | (go_simp; rfl)); intro w32 hw; have hg : wr.grownBy w32 (some go28) := (by rw [hw]; exact HP31.2); have hp_ : Kd.R (Kd.int .i64) 3 w32 w.heap.size (fun _ => True) (.slice (some ⟨go28, 0, none⟩) x10_2.length co22) y208 := (by rw [hw, Ny208.out]; exact HP31.1); clear HP31; have n0_ := Aside0.mk (hp_); have n1_ := Aside0.mk ((by rw [hw]; exact below_set (HB.out) GB28.out : Below w.heap.size w w32)); clear HO_10; clear HB; have HO_10 := n0_; have HB := n1_; clear n0_ n1_; clear hg hw hp_; have p209 : 0 ≤ (x40_2 : Int) := of_decide_eq_true (by first | (with_reducible assumption) | assumption); have q209 : x40_2 < (y208.length : Int) := (by have h_ : (x40_2 : Int) < ((x10_2.length : Int) : Int) := of_decide_eq_true (by first | (with_reducible assumption) | assumption); first | (have e_ := (Kd.R_reads' HO_10.out).1; omega) | simpa only [Ny208.out, List.length_set] using h_); have ql209 : ((x40_2 : Int) < ((x10_2.length : Int) : Int)) = True := eq_true (of_decide_eq_true (by first | (with_reducible assumption) | assumption)); obtain ⟨ad209, e209, hx209_0⟩ := Kd.at_int (Kd.R_reads' HO_10.out).2.2 x40_2 p209 q209; obtain rfl : (⟨go28, 0, none⟩ : Addr) = ad209 := (by injection e209); (first | simp only [add_plain] at hx209_0 | simp only [add_at] at hx209_0 | simp only [Addr.add, Nat.zero_add] at hx209_0 | skip); replace p209 := eq_true p209; replace q209 := eq_true q209) | ((with_reducible refine gate_callee (f := 59) rfl ?_); refine goesL_ (some 61) rfl rfl Try.func59 (by kernel_rfl) rfl #[.int .i64 (rd y208 x40_2)] rfl (by (try simp only [List.map_toArray, List.map_cons, List.map_nil]); first | done | rfl | (simp only [List.length_drop, List.length_take]; rfl)) ?_; (with_reducible refine (impl_isPlace.calls (rd y208 x40_2) true _ A29.out).mono ?_); rintro e w' ⟨rfl, ⟨nd, rfl⟩⟩; refine ⟨_, rfl, ?_⟩))
                      (try simp only [← hl10_2])
                      go_roundg k2
                      case measure => have := HJ4.out; have := HK2.out; omega
                      case rel => exact ⟨(y208), (wrap64 (x40_2 + 1)), (by first | rfl | (simp; done) | (simp [*]; done)), H', ⟨by have := HJ4.out; have := HK2.out; omega⟩, ⟨by (try simp only [hl10_2]); (with_reducible repeat (first | apply Kd.R_alloc | apply Kd.R_drewN | apply Kd.R_drew)); exact HO_10.out⟩, ⟨by repeat (first | (with_reducible first | exact HB.out | apply below_alloc | apply pw_below_drewN | apply below_drew1) | exact HB.out)⟩⟩
                    · replace c30 := Bool.eq_false_iff.mpr c30
                      subst c30
                      have H1 : (some (([] : List (S47)), false)) = some (r1, r2) := by rw [if_neg (show ¬ (false = true) by decide)] at H; exact H
                      clear H
                      have H := H1
                      clear H1
                      simp only [Option.some.injEq, Prod.mk.injEq] at H
                      obtain ⟨rfl, rfl⟩ := H
                      have p205 : 0 ≤ (x40_2 : Int) := of_decide_eq_true (by first | (with_reducible assumption) | assumption)
                      have q205 : x40_2 < (x10_2.length : Int) := of_decide_eq_true (by first | (with_reducible assumption) | assumption)
                      obtain ⟨ad205, e205, hx205_0⟩ := Kd.at_int (Kd.R_reads' HO_10.out).2.2 x40_2 p205 q205
                      cases e205
                      replace p205 := eq_true p205
                      replace q205 := eq_true q205
                      go_wp2_with (first | ((with_reducible refine gate_callee (f := 51) rfl ?_); refine goesL_ (some 48) rfl rfl Try.func51 (by kernel_rfl) rfl #[.int .i64 (rd x10_2 x40_2), .int .i64 a1, .int .i64 a2] rfl (by (try simp only [List.map_toArray, List.map_cons, List.map_nil]); first | done | rfl | (simp only [List.length_drop, List.length_take]; rfl)) ?_; (with_reducible refine (impl_within.calls (rd x10_2 x40_2) a1 a2 true _ A26.out).mono ?_); rintro e w' ⟨rfl, ⟨nd, rfl⟩⟩; refine ⟨_, rfl, ?_⟩; (try (rw [drewN_self wr]; generalize hq_ : World.drewN wr _ = wr; have n0_ : Aside0 (Kd.R (Kd.int .i64) 3 wr w.heap.size (fun _ => True) (.slice (some ad205) x10_2.length co22) x10_2) := ⟨by rw [← hq_]; exact (by (with_reducible repeat (first | apply Kd.R_alloc | apply Kd.R_drewN | apply Kd.R_drew)); exact HO_10.out)⟩; have n1_ : Aside0 (Below w.heap.size w wr) := ⟨by rw [← hq_]; exact (by repeat (first | (with_reducible first | exact HB.out | apply below_alloc | apply pw_below_drewN | apply below_drew1) | exact HB.out))⟩; clear HO_10 HB hq_; have HO_10 := n0_; have HB := n1_; clear n0_ n1_)); have p207 : 0 ≤ (x40_2 : Int) := of_decide_eq_true (by first | (with_reducible assumption) | assumption); have q207 : x40_2 < (x10_2.length : Int) := of_decide_eq_true (by first | (with_reducible assumption) | assumption); obtain ⟨ad207, e207, hx207_0⟩ := Kd.at_int (Kd.R_reads' HO_10.out).2.2 x40_2 p207 q207; obtain rfl : ad205 = ad207 := (by injection e207); replace p207 := eq_true p207; replace q207 := eq_true q207; have p28 : 0 ≤ (x40_2 : Int) := of_decide_eq_true (by first | (with_reducible assumption) | assumption); have q28 : (x40_2 : Int) < ((x10_2.length : Int) : Int) := of_decide_eq_true (by first | (with_reducible assumption) | assumption); obtain ⟨go28, co28, eo28, gb28, gl28, cl28, HG28⟩ := Kd.R_form HO_10.out (by omega); (first | cases eo28 | (injection eo28 with ea_ en_ ec_; (first | subst ea_ | (injection ea_ with ea_; subst ea_)); subst ec_; clear en_)); have GB28 := Aside0.mk gb28; have GG28 := Aside0.mk HG28; clear gb28 gl28 HG28; (first | simp only [add_plain] at hx205_0 | skip); (first | simp only [add_plain] at hx207_0 | skip); obtain ⟨hx28_0, hf28_0⟩ := Kd.R_celln 0 HO_10.out (x40_2 : Int) p28 q28; replace p28 := eq_true p28; replace q28 := eq_true q28; obtain ⟨hy33_, hz33_⟩ := Kd.R_celln 0 HO_10.out (x40_2 : Int) (of_decide_eq_true (by first | (with_reducible assumption) | assumption)) (of_decide_eq_true (by first | (with_reducible assumption) | assumption)); have HP33 := Kd.R_putg HO_10.out (x40_2 : Int) (wrap64 ((rd x10_2 x40_2) + a3))) | ((with_reducible refine gate_store (t := 3) (p := 56) rfl ?_); refine store_event (t := 3) (p := 56) (v := ?vo_w34) (w1 := (wr.setCell ⟨go28, (x40_2 : Int).toNat, none⟩ (.int .i64 (wrap64 ((rd x10_2 x40_2) + a3))))) ?hg ?ho ?hn ?hr ?_; (case ho => rfl); (case hg => rfl); (case hn => rfl); (case hr => first | (go_simp; done) | (go_simp; rfl)); intro w34 hw; have hg : wr.grownBy w34 (some go28) := (by rw [hw]; exact HP33.2); have hp_ : Kd.R (Kd.int .i64) 3 w34 w.heap.size (fun _ => True) (.slice (some ⟨go28, 0, none⟩) x10_2.length co22) y208 := (by rw [hw, Ny208.out]; exact HP33.1); clear HP33; have n0_ := Aside0.mk (hp_); have n1_ := Aside0.mk ((by rw [hw]; exact below_set (HB.out) GB28.out : Below w.heap.size w w34)); clear HO_10; clear HB; have HO_10 := n0_; have HB := n1_; clear n0_ n1_; clear hg hw hp_; have p209 : 0 ≤ (x40_2 : Int) := of_decide_eq_true (by first | (with_reducible assumption) | assumption); have q209 : x40_2 < (y208.length : Int) := (by have h_ : (x40_2 : Int) < ((x10_2.length : Int) : Int) := of_decide_eq_true (by first | (with_reducible assumption) | assumption); first | (have e_ := (Kd.R_reads' HO_10.out).1; omega) | simpa only [Ny208.out, List.length_set] using h_); have ql209 : ((x40_2 : Int) < ((x10_2.length : Int) : Int)) = True := eq_true (of_decide_eq_true (by first | (with_reducible assumption) | assumption)); obtain ⟨ad209, e209, hx209_0⟩ := Kd.at_int (Kd.R_reads' HO_10.out).2.2 x40_2 p209 q209; obtain rfl : (⟨go28, 0, none⟩ : Addr) = ad209 := (by injection e209); (first | simp only [add_plain] at hx209_0 | simp only [add_at] at hx209_0 | simp only [Addr.add, Nat.zero_add] at hx209_0 | skip); replace p209 := eq_true p209; replace q209 := eq_true q209) | ((with_reducible refine gate_callee (f := 59) rfl ?_); refine goesL_ (some 61) rfl rfl Try.func59 (by kernel_rfl) rfl #[.int .i64 (rd y208 x40_2)] rfl (by (try simp only [List.map_toArray, List.map_cons, List.map_nil]); first | done | rfl | (simp only [List.length_drop, List.length_take]; rfl)) ?_; (with_reducible refine (impl_isPlace.calls (rd y208 x40_2) false _ A29.out).mono ?_); rintro e w' ⟨rfl, ⟨nd, rfl⟩⟩; refine ⟨_, rfl, ?_⟩))
                      go_ret2
                      exact ⟨_, by first | rfl | (simp [errW_none, errW_some] <;> rfl) | (simp [*, errW_none, errW_some] <;> rfl), by first | exact Kd.R_nil _ _ _ _ _ | exact Kd.N_nil _ _ _ _ _ | exact Kd.V_nil _ _ _ _ _ | exact Kd.Q_nil _ _ _ _ _ | exact Kd.S_nil _ _ _ _ _, by repeat (first | (with_reducible first | exact HB.out | apply below_alloc | apply pw_below_drewN | apply below_drew1) | exact HB.out)⟩
                  · replace c27 := Bool.eq_false_iff.mpr c27
                    subst c27
                    have H1 : (impl_ShiftMap.l0 k2 a1 a2 a3 x10_2 (t199.length : Int) (wrap64 (x40_2 + 1))) = some (r1, r2) := by rw [if_neg (show ¬ (false = true) by decide)] at H; exact H
                    clear H
                    have H := H1
                    clear H1
                    have H' := Aside0.mk H
                    clear H
                    have p205 : 0 ≤ (x40_2 : Int) := of_decide_eq_true (by first | (with_reducible assumption) | assumption)
                    have q205 : x40_2 < (x10_2.length : Int) := of_decide_eq_true (by first | (with_reducible assumption) | assumption)
                    obtain ⟨ad205, e205, hx205_0⟩ := Kd.at_int (Kd.R_reads' HO_10.out).2.2 x40_2 p205 q205
                    cases e205
                    replace p205 := eq_true p205
                    replace q205 := eq_true q205
                    go_wp2_with (first | ((with_reducible refine gate_callee (f := 51) rfl ?_); refine goesL_ (some 48) rfl rfl Try.func51 (by kernel_rfl) rfl #[.int .i64 (rd x10_2 x40_2), .int .i64 a1, .int .i64 a2] rfl (by (try simp only [List.map_toArray, List.map_cons, List.map_nil]); first | done | rfl | (simp only [List.length_drop, List.length_take]; rfl)) ?_; (with_reducible refine (impl_within.calls (rd x10_2 x40_2) a1 a2 false _ A26.out).mono ?_); rintro e w' ⟨rfl, ⟨nd, rfl⟩⟩; refine ⟨_, rfl, ?_⟩))
                    (try simp only [← hl10_2])
                    go_roundg k2
                    case measure => have := HJ4.out; have := HK2.out; omega
                    case rel => exact ⟨(x10_2), (wrap64 (x40_2 + 1)), (by first | rfl | (simp; done) | (simp [*]; done)), H', ⟨by have := HJ4.out; have := HK2.out; omega⟩, ⟨by (try simp only [hl10_2]); (with_reducible repeat (first | apply Kd.R_alloc | apply Kd.R_drewN | apply Kd.R_drew)); exact HO_10.out⟩, ⟨by repeat (first | (with_reducible first | exact HB.out | apply below_alloc | apply pw_below_drewN | apply below_drew1) | exact HB.out)⟩⟩
                · rw [if_neg c25] at H
                  exact absurd H (by simp)
              · rw [if_neg c24] at H
                exact absurd H (by simp)
            · rw [if_neg c23] at H
              have c23b0 : decide (x40_2 < (t199.length : Int)) = false := decide_eq_false c23
              (try simp only [hl10_2] at c23b0)
              clear c23
              replace H := Option.bind_eq_some_iff.mp H
              obtain ⟨t202, A350, H⟩ := H
              replace H : (some (t202, true)) = some (r1, r2) := H
              have A35 := Aside0.mk A350
              clear A350
              simp only [Option.some.injEq, Prod.mk.injEq] at H
              obtain ⟨rfl, rfl⟩ := H
              go_wp2_with (first | ((with_reducible refine gate_callee (f := 52) rfl ?_); refine goesL_ (some 65) rfl rfl Try.func52 (by kernel_rfl) rfl #[.slice Ao22 x10_2.length co22] rfl (by (try simp only [List.map_toArray, List.map_cons, List.map_nil]); first | done | rfl | (simp only [List.length_drop, List.length_take]; rfl)) ?_; (with_reducible refine (impl_mapOf.calls k2 _ _ x10_2 t202 _ ?side1 ?side2 A35.out).mono ?_); (case side1 => repeat (first | exact (Kd.R_reads' HO_10.out).2.2 | (with_reducible refine Kd.C_alloc ?_ _) | (with_reducible refine Kd.C_drewN ?_ _) | (with_reducible refine Kd.C_drew ?_))); (case side2 => exact (Kd.R_reads' HO_10.out).2.1); rintro e w36 ⟨v203, rfl, ho0, hb⟩; refine ⟨_, rfl, ?_⟩; have n0_ := Aside0.mk (Kd.R_below (by (with_reducible repeat (first | apply Kd.R_alloc | apply Kd.R_drewN | apply Kd.R_drew)); exact HO_10.out) hb); have n1_ := Aside0.mk (Kd.R_lower ho0 (below_size (by repeat (first | (with_reducible first | exact HB.out | apply below_alloc | apply pw_below_drewN | apply below_drew1) | exact HB.out)))); have n2_ := Aside0.mk (below_step (by repeat (first | (with_reducible first | exact HB.out | apply below_alloc | apply pw_below_drewN | apply below_drew1) | exact HB.out)) hb); clear HO_10; clear HB; have HO_10 := n0_; have HO204 := n1_; have HB := n2_; clear n0_ n1_ n2_; (try clear hb); (try clear hb2); (try clear hk); (try clear hi); (try clear ho0)))
              go_ret2
              exact ⟨_, by first | rfl | (simp [errW_none, errW_some] <;> rfl) | (simp [*, errW_none, errW_some] <;> rfl), by (with_reducible repeat (first | apply Kd.R_alloc | apply Kd.R_drewN | apply Kd.R_drew)); exact HO204.out, by repeat (first | (with_reducible first | exact HB.out | apply below_alloc | apply pw_below_drewN | apply below_drew1) | exact HB.out)⟩

end Go.Proofs.Ytcoceoplnehmcaa.PFnExactShiftMap

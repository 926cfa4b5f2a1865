/- Lean functions with the same answers as the Go functions that one law reaches, and for each a proof that its call comes to just these answers. No condition. Written by pr.py, a program of this session. -/
import Derived.Test.YtcoceoplnehmcaaPFnExactPutStretchx0
import Derived.Test.YtcoceoplnehmcaaPFnExactPutStretchx3
import Derived.Test.YtcoceoplnehmcaaPFnExactPutStretchx4
namespace Go.Proofs.Ytcoceoplnehmcaa.PFnExactPutStretch
open Go.RowKit Go.Proofs.YtcoceoplnehmcaaW.PrintWords Go.Proofs.YtcoceoplnehmcaaW.PrintLast Go.Proofs.YtcoceoplnehmcaaW.PrintMore
attribute [local go_sem] max2_int min2_int max_two min_two max_three min_three max_four min_four   -- for this text's walks alone
set_option linter.unusedVariables false
set_option linter.unusedSimpArgs false

/-! ### impl_PutStretch: function 33 (ours) -/
theorem row_reads {W : World} {g n : Nat} {t : TypeId} {out : List Int} (hl : out.length = n) (hn : n ≤ 9223372036854775807) (h : W.heap[g]? = some (.cells (out.map encI).toArray t (0, 0))) : Kd.C (Kd.int .i64) W (some ⟨g, 0, none⟩) n out :=
  ⟨hl, hn, fun _ => ⟨_, rfl, fun j x hj => ⟨[.int .i64 x], rfl, rfl, fun i u hi => by
    match i, hi with
    | 0, hi =>
      obtain rfl : Value.int .i64 x = u := by simpa using hi
      rw [show ((⟨g, 0, none⟩ : Addr).add (j * (Kd.int .i64).sz + 0)) = ⟨g, j, none⟩ by rw [Addr.add_lit, Nat.zero_add]; show (⟨g, j * 1 + 0, none⟩ : Addr) = _; simp]
      rw [cell_of_row W g j _ t (0, 0) h]
      rw [List.getElem?_toArray, List.getElem?_map, hj]
      rfl
    | i + 1, hi => simp at hi⟩⟩⟩
def putG (k : Nat) (l0 : List S47) (a1_0 a1_1 a1_2 : Int) : Option (List S47 × Bool) :=
  (impl_places.f k l0).bind fun P => (impl_run.f k a1_2 a1_1).bind fun rr => if (0 ≤ a1_0 ∧ 0 < rr.length ∧ a1_0.toNat + rr.length ≤ 16) ∧ P.length = 16 then ((impl_mapOf.f k (splice P a1_0.toNat rr)).bind fun m => some (m, true)) else none
def impl_PutStretch.f (k : Nat) (l0 : List S47) (a1_0 a1_1 a1_2 : Int) : Option (List S47 × Bool) :=
  (impl_GoodMap.f k l0).bind fun t => if t = true then ((impl_Stretch_isGood.f a1_0 a1_1 a1_2).bind fun u => if u = true then putG k l0 a1_0 a1_1 a1_2 else some ([], false)) else some ([], false)
theorem impl_PutStretch.mono : ∀ a0 a1 a2 a3 k, LeO (impl_PutStretch.f k a0 a1 a2 a3) (impl_PutStretch.f (k + 1) a0 a1 a2 a3) := by
  intro a0 a1 a2 a3 k
  unfold impl_PutStretch.f putG
  refine LeO.bind (impl_GoodMap.mono a0 k) fun t => LeO.ite (LeO.bind (LeO.refl _) fun u => LeO.ite ?_ (LeO.refl _)) (LeO.refl _)
  exact LeO.bind (impl_places.mono a0 k) fun P => LeO.bind (impl_run.mono a3 a2 k) fun rr => LeO.ite (LeO.bind (impl_mapOf.mono _ k) fun m => LeO.refl _) (LeO.refl _)
set_option maxHeartbeats 8000000 in
set_option maxRecDepth 100000 in
theorem impl_PutStretch.calls (k : Nat) (A0 : Option Addr) (c0 : Nat) (l0 : List S47) (a1_0 : Int) (a1_1 : Int) (a1_2 : Int) (r1 : List S47) (r2 : Bool) (w : World) (hr0 : Kd.C k47 w A0 l0.length l0) (hc0 : l0.length ≤ c0) (h : impl_PutStretch.f k l0 a1_0 a1_1 a1_2 = some (r1, r2)) :
    Calls Try.prog 33 #[.slice A0 l0.length c0, .agg #[.int .i64 a1_0, .int .i64 a1_1, .int .i64 a1_2]] w fun e w' => ∃ v0_ : Value, e = .returned (.tuple #[v0_, .bool r2]) ∧ Kd.R k47 47 w' w.heap.size (fun _ => True) v0_ r1 ∧ Below w.heap.size w w' := by
  obtain ⟨W1, hW1⟩ : ∃ W1, W1 = w.alloc (.cells #[.int .i64 a1_0, .int .i64 a1_1, .int .i64 a1_2] 47) := ⟨_, rfl⟩
  have hs1 : W1.heap.size = w.heap.size + 1 := by rw [hW1]; simp
  have hx0 : W1.cell? ⟨w.heap.size, 0, none⟩ = some (.int .i64 a1_0) := by rw [hW1]; simp
  have hx1 : W1.cell? ⟨w.heap.size, 1, none⟩ = some (.int .i64 a1_1) := by rw [hW1]; simp
  have hx2 : W1.cell? ⟨w.heap.size, 2, none⟩ = some (.int .i64 a1_2) := by rw [hW1]; simp
  have hw1 : Below w.heap.size w W1 := by rw [hW1]; exact (Below.refl _ w).alloc (Nat.le_refl _) _
  have HE := Aside0.mk hW1
  have HS := Aside0.mk hs1
  have HW := Aside0.mk hw1
  have HX := Aside0.mk (And.intro hx0 (And.intro hx1 hx2))
  clear hW1 hs1 hw1 hx0 hx1 hx2
  -- the box's cells stay
  have hbox : ∀ W : World, Below W1.heap.size W1 W → W.cell? ⟨w.heap.size, 0, none⟩ = some (.int .i64 a1_0) ∧ W.cell? ⟨w.heap.size, 1, none⟩ = some (.int .i64 a1_1) ∧ W.cell? ⟨w.heap.size, 2, none⟩ = some (.int .i64 a1_2) := fun W hW =>
    ⟨(hW.cell (p := ⟨w.heap.size, 0, none⟩) (by show w.heap.size < W1.heap.size; rw [HS.out]; omega)).trans HX.out.1, (hW.cell (p := ⟨w.heap.size, 1, none⟩) (by show w.heap.size < W1.heap.size; rw [HS.out]; omega)).trans HX.out.2.1, (hW.cell (p := ⟨w.heap.size, 2, none⟩) (by show w.heap.size < W1.heap.size; rw [HS.out]; omega)).trans HX.out.2.2⟩
  have hread : ∀ W : World, Below W1.heap.size W1 W → Kd.C k47 W A0 l0.length l0 := fun W hW => Kd.C_below hr0 (HW.out.trans (hW.mono (by rw [HS.out]; omega)))
  have HBX := Aside0.mk hbox
  have HRD := Aside0.mk hread
  have HC0 := Aside0.mk hc0
  clear hbox hread hr0 hc0
  obtain ⟨t, ht, h1⟩ := Option.bind_eq_some_iff.mp (show (impl_GoodMap.f k l0).bind _ = some (r1, r2) from h)
  clear h
  have HT := Aside0.mk ht
  clear ht
  cases t with
  | false =>
    rw [if_neg (by decide)] at h1
    obtain ⟨rfl, rfl⟩ := Prod.mk.inj (Option.some.inj h1)
    clear h1
    go_enter Try.func33, Try.ntmps33
    go_wp2_with (first | (go_at_call 15; refine (impl_GoodMap.calls k A0 c0 l0 false _ (by rw [← HE.out]; exact HRD.out _ (Below.refl _ _)) HC0.out HT.out).mono ?_; rintro e w2 ⟨rfl, hb2⟩; rw [← HE.out] at hb2; have HB2 := Aside0.mk hb2; clear hb2))
    go_ret2
    exact ⟨_, rfl, Kd.R_nil _ _ _ _ _, HW.out.trans (HB2.out.mono (by rw [HS.out]; omega))⟩
  | true =>
    rw [if_pos rfl] at h1
    obtain ⟨u, hu, h2⟩ := Option.bind_eq_some_iff.mp h1
    clear h1
    have HU := Aside0.mk hu
    clear hu
    cases u with
    | false =>
      rw [if_neg (by decide)] at h2
      obtain ⟨rfl, rfl⟩ := Prod.mk.inj (Option.some.inj h2)
      clear h2
      go_enter Try.func33, Try.ntmps33
      go_wp2_with (first | (go_at_call 15; refine (impl_GoodMap.calls k A0 c0 l0 true _ (by rw [← HE.out]; exact HRD.out _ (Below.refl _ _)) HC0.out HT.out).mono ?_; rintro e w2 ⟨rfl, hb2⟩; rw [← HE.out] at hb2; have HB2 := Aside0.mk hb2; clear hb2; obtain ⟨hy0, hy1, hy2⟩ := HBX.out _ HB2.out) | (go_at_call 45; refine (impl_Stretch_isGood.calls a1_0 a1_1 a1_2 false _ HU.out).mono ?_; rintro e w3 ⟨rfl, hb3⟩; have HB3 := Aside0.mk (HB2.out.trans (hb3.mono HB2.out.size)); clear hb3))
      go_ret2
      exact ⟨_, rfl, Kd.R_nil _ _ _ _ _, HW.out.trans (HB3.out.mono (by rw [HS.out]; omega))⟩
    | true =>
      rw [if_pos rfl] at h2
      unfold putG at h2
      obtain ⟨P, hP, h3⟩ := Option.bind_eq_some_iff.mp h2
      obtain ⟨rr, hrr, h4⟩ := Option.bind_eq_some_iff.mp h3
      by_cases hfit : (0 ≤ a1_0 ∧ 0 < rr.length ∧ a1_0.toNat + rr.length ≤ 16) ∧ P.length = 16
      · rw [if_pos hfit] at h4
        obtain ⟨m, hm, h5⟩ := Option.bind_eq_some_iff.mp h4
        obtain ⟨rfl, rfl⟩ := Prod.mk.inj (Option.some.inj h5)
        obtain ⟨a, rfl⟩ := Int.eq_ofNat_of_zero_le hfit.1.1
        have hfit2 : (0 < rr.length ∧ a + rr.length ≤ 16) ∧ P.length = 16 := by simpa using hfit
        rw [show ((a : Int)).toNat = a by omega] at hm
        have HP := Aside0.mk hP
        have HRR := Aside0.mk hrr
        have HM := Aside0.mk hm
        have HF := Aside0.mk hfit2
        have ha : a < 16 := by omega
        have hlim3 : ¬ 16 = a := by omega
        have hlim4 : (a : Int) ≤ 16 := by omega
        have hlim2 : a ≤ 16 := by omega
        clear h2 h3 h4 h5 hP hrr hm hfit hfit2
        go_enter Try.func33, Try.ntmps33
        go_wp2_with (first | (go_at_call 15; refine (impl_GoodMap.calls k A0 c0 l0 true _ (by rw [← HE.out]; exact HRD.out _ (Below.refl _ _)) HC0.out HT.out).mono ?_; rintro e w2 ⟨rfl, hb2⟩; rw [← HE.out] at hb2; have HB2 := Aside0.mk hb2; clear hb2; obtain ⟨hy0, hy1, hy2⟩ := HBX.out _ HB2.out) | (go_at_call 45; refine (impl_Stretch_isGood.calls a a1_1 a1_2 true _ HU.out).mono ?_; rintro e w3 ⟨rfl, hb3⟩; have HB3 := Aside0.mk (HB2.out.trans (hb3.mono HB2.out.size)); clear hb3) | (go_at_call 55; refine (impl_places.row k A0 c0 l0 P _ (HRD.out _ HB3.out) HC0.out HP.out).mono ?_; rintro e w4 ⟨rfl, hl4, hg4, hb4⟩; have HG4 := Aside0.mk hg4; have HB4 := Aside0.mk (HB3.out.trans (hb4.mono HB3.out.size)); clear hl4 hg4 hb4; obtain ⟨hz0, hz1, hz2⟩ := HBX.out _ HB4.out))
        have hglt : w3.heap.size + 1 < w4.heap.size := (Array.getElem?_eq_some_iff.1 HG4.out).1
        have HGL := Aside0.mk hglt
        have HS3 := Aside0.mk HB3.out.size
        have HS4 := Aside0.mk HB4.out.size
        clear hglt
        go_region_law (first
          | (refine goes_ Try.func57 (by kernel_rfl) rfl #[.int .i64 a1_2, .int .i64 a1_1] (by rfl) rfl rfl (by (try simp only [List.map_toArray, List.map_cons, List.map_nil]); first | done | rfl | simp [Act.eval, Act.put]) ?_
             refine (impl_run.calls k a1_2 a1_1 rr _ HRR.out).mono ?_
             rintro e w5 ⟨v5, rfl, ho5, hb5⟩
             refine ⟨_, rfl, ?_⟩
             obtain ⟨A5, c5, rfl, hc5, hC5⟩ := Kd.R_reads ho5
             have hB5 : Below W1.heap.size W1 w5 := (below_drew HB4.out).trans (hb5.mono (by show W1.heap.size ≤ w4.heap.size; exact HS4.out))
             obtain ⟨hq0, hq1, hq2⟩ := HBX.out _ hB5
             have HG5 := Aside0.mk ((hb5.block (w3.heap.size + 1) (by show w3.heap.size + 1 < w4.heap.size; exact HGL.out)).trans HG4.out)
             have HB5 := Aside0.mk hB5
             have HC5 := Aside0.mk hC5
             clear hC5 ho5 hb5 hc5 hB5)
          | (refine step_copy_splice rfl (.tmp 20) (.tmp 25) 29 29 rfl 3 Try.underlying29 (by kernel_rfl) (some ⟨w3.heap.size + 1, a, none⟩) _ (16 - a) (16 - a) rr.length _ (by simp [Act.eval, Act.put]) (by simp [Act.eval, Act.put]; rfl) (w3.heap.size + 1) a (P.map encI) 3 HG5.out (rr.map encI) (by rw [List.length_map]; exact (Nat.min_eq_left (by have := HF.out; omega)).symm) (fun h0 => ⟨rfl, reads_enc HC5.out (by simpa using h0)⟩) (by have := HF.out; rw [List.length_map, List.length_map]; omega) (fun v hv => by obtain ⟨y, _, rfl⟩ := List.mem_map.1 hv; rfl) W1.heap.size W1 HB5.out (by have := HS3.out; omega) ?_
             intro w6 hg6 hb6
             have HG6 := Aside0.mk hg6
             have HB6 := Aside0.mk hb6
             clear hg6 hb6))
        all_goals
          have hrow : w6.heap[w3.heap.size + 1]? = some (.cells ((splice P a rr).map encI).toArray 3 (0, 0)) := by
            have h : w6.heap[w3.heap.size + 1]? = some (.cells (splice (P.map encI) a (rr.map encI)).toArray 3 (0, 0)) := HG6.out
            rw [splice_map] at h
            exact h
          have hlen : (splice P a rr).length = 16 := by rw [length_splice _ _ _ (by have := HF.out; omega)]; exact HF.out.2
          have hC6 : Kd.C (Kd.int .i64) w6 (some ⟨w3.heap.size + 1, 0, none⟩) (splice P a rr).length (splice P a rr) := row_reads rfl (by rw [hlen]; decide) hrow
          have hmp := impl_mapOf.calls k (some ⟨w3.heap.size + 1, 0, none⟩) 16 (splice P a rr) _ w6 hC6 (by rw [hlen]; omega) HM.out
          rw [hlen] at hmp
          clear hrow hC6 hlen
          go_wp2_with (go_at_call 52; refine hmp.mono ?_; rintro e w7 ⟨v7, rfl, ho7, hb7⟩; have HO7 := Aside0.mk ho7; have HB7 := Aside0.mk hb7; clear ho7 hb7)
          go_ret2
          exact ⟨_, rfl, Kd.R_lower HO7.out (by have := HB6.out.size; have := HS.out; omega), HW.out.trans ((HB6.out.trans (HB7.out.mono HB6.out.size)).mono (by rw [HS.out]; omega))⟩
      · rw [if_neg hfit] at h4; cases h4

end Go.Proofs.Ytcoceoplnehmcaa.PFnExactPutStretch

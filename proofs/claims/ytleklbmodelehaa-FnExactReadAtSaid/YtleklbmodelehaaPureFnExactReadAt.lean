/- The plain law behind FnExactReadAt: what the two sides compute is the same, for every input. No condition. -/
import Derived.Test.YtleklbmodelehaaPFnExactReadAtx8
set_option linter.unusedVariables false
set_option linter.unusedSimpArgs false
namespace Go.Proofs.Ytleklbmodelehaa.Pure
open Go.RowKit Go.Proofs.Ytleklbmodelehaa.PFnExactReadAt Go.Proofs.YtleklbmodelehaaW.PrintWords Go.Proofs.YtleklbmodelehaaW.PrintLast Go.Proofs.YtleklbmodelehaaW.PrintMore

theorem wrap_in {x : Int} (h0 : -9223372036854775808 ≤ x) (h1 : x ≤ 9223372036854775807) : wrap64 x = x := by unfold wrap64; omega
theorem wf_in {x : Int} (h : (Lit.int .i64 x).wf = true) : -9223372036854775808 ≤ x ∧ x ≤ 9223372036854775807 := by
  simp only [Lit.wf, IntKind.min, IntKind.max, IntKind.bits, IntKind.signed, Bool.and_eq_true, decide_eq_true_eq] at h
  exact ⟨by have := h.1; simpa using this, by have := h.2; simpa using this⟩
theorem toList_nil (s : ByteArray) : (s.toList == ([] : List UInt8)) = decide (s.size = 0) := by
  rw [Bool.eq_iff_iff]
  simp only [beq_iff_eq, decide_eq_true_eq, ByteArray.toList_eq]
  constructor
  · intro h
    have h2 : s.data.toList.length = 0 := by rw [h]; rfl
    rw [Array.length_toList] at h2
    exact h2
  · intro h
    have h2 : s.data.toList.length = 0 := by rw [Array.length_toList]; exact h
    exact List.eq_nil_of_length_eq_zero h2

/-- From some number of rounds on the answer is r. -/
def Tot {α : Type} (g : Nat → Option α) (r : α) : Prop := ∃ K, ∀ k, K ≤ k → g k = some r
theorem Tot.at_ {α : Type} {g : Nat → Option α} {r : α} (h : Tot g r) : ∃ k, g k = some r := by
  obtain ⟨K, hK⟩ := h
  exact ⟨K, hK K (Nat.le_refl _)⟩
theorem Tot.pure {α : Type} (r : α) : Tot (fun _ => some r) r := ⟨0, fun _ _ => rfl⟩
theorem Tot.of_eq {α : Type} {g : Nat → Option α} {r : α} (h : ∀ k, g k = some r) : Tot g r := ⟨0, fun k _ => h k⟩
theorem Tot.congr {α : Type} {g g' : Nat → Option α} {r : α} (he : ∀ k, g k = g' k) (h : Tot g' r) : Tot g r := by
  obtain ⟨K, hK⟩ := h
  exact ⟨K, fun k hk => (he k).trans (hK k hk)⟩
theorem Tot.bind {α β : Type} {g : Nat → Option α} {h : Nat → α → Option β} {a : α} {r : β} (hg : Tot g a) (hh : Tot (fun k => h k a) r) : Tot (fun k => (g k).bind (h k)) r := by
  obtain ⟨K, hK⟩ := hg
  obtain ⟨L, hL⟩ := hh
  refine ⟨max K L, fun k hk => ?_⟩
  show (g k).bind (h k) = some r
  rw [hK k (by omega)]
  exact hL k (by omega)
theorem Tot.step {α : Type} {F G : Nat → Option α} {r : α} (hF : ∀ k, F (k + 1) = G k) (h : Tot G r) : Tot F r := by
  obtain ⟨K, hK⟩ := h
  refine ⟨K + 1, fun k hk => ?_⟩
  obtain ⟨m, rfl⟩ : ∃ m, k = m + 1 := ⟨k - 1, by omega⟩
  rw [hF]
  exact hK m (by omega)
theorem Tot.yes {α : Type} {p : Prop} [Decidable p] {g h : Nat → Option α} {r : α} (hp : p) (hg : Tot g r) : Tot (fun k => if p then g k else h k) r := by
  simpa only [if_pos hp] using hg
theorem Tot.no {α : Type} {p : Prop} [Decidable p] {g h : Nat → Option α} {r : α} (hp : ¬ p) (hg : Tot h r) : Tot (fun k => if p then g k else h k) r := by
  simpa only [if_neg hp] using hg
theorem Tot.some_bind {α β : Type} {h : Nat → α → Option β} {a : α} {r : β} (hh : Tot (fun k => h k a) r) : Tot (fun k => (some a).bind (h k)) r := hh

theorem in_v (a b c : Int) : spec_l1In.f a b c = some (decide (b ≤ a ∧ a ≤ c)) := by
  unfold spec_l1In.f
  by_cases h : a ≥ b
  · rw [if_pos h]; congr 1; rw [decide_eq_decide]; omega
  · rw [if_neg h]; congr 1; symm; rw [decide_eq_false_iff_not]; omega

theorem within_v (a b c : Int) : impl_within.f a b c = some (decide (b ≤ a ∧ a ≤ c)) := by
  unfold impl_within.f
  by_cases h : b ≤ a
  · rw [if_pos h]; congr 1; rw [decide_eq_decide]; omega
  · rw [if_neg h]; congr 1; symm; rw [decide_eq_false_iff_not]; omega


/-- Each is greater than the one ahead of it. -/
def rising : Option Int → List Int → Bool
  | _, [] => true
  | none, x :: r => rising (some x) r
  | some p, x :: r => decide (p < x) && rising (some x) r
theorem rd_ahead (a b : List Int) (x : Int) : rd (a ++ x :: b) (a.length : Int) = x := by simp [rd, List.getD]
theorem rd_prev1 (a b : List Int) (y : Int) : rd ((a ++ [y]) ++ b) (a.length : Int) = y := by simp [rd, List.getD]
theorem specRising_l (lo hi : Int) : ∀ (b a : List Int), ((a ++ b).length : Int) ≤ 9223372036850000000 → Tot (fun k => spec_l1Rising.l0 k (a ++ b) lo hi (a ++ b) ((a ++ b).length : Int) a.length) ((b.all fun x => decide (lo ≤ x ∧ x ≤ hi)) && rising a.getLast? b)
  | [], a, h => by
    refine Tot.step (fun k => spec_l1Rising.l0.eq_2 ..) (Tot.no (by simp) ?_)
    have e : rising a.getLast? [] = true := by cases a.getLast? <;> rfl
    rw [e]; exact Tot.pure _
  | x :: b, a, h => by
    have hl : ((a ++ x :: b).length : Int) = a.length + b.length + 1 := by simp; omega
    have next : Tot (fun k => spec_l1Rising.l0 k (a ++ x :: b) lo hi (a ++ x :: b) ((a ++ x :: b).length : Int) ((a.length : Int) + 1)) ((b.all fun x => decide (lo ≤ x ∧ x ≤ hi)) && rising (some x) b) := by
      have := specRising_l lo hi b (a ++ [x]) (by simpa using h)
      rw [List.getLast?_concat] at this
      simpa using this
    refine Tot.step (fun k => spec_l1Rising.l0.eq_2 ..) (Tot.yes (by omega) (Tot.yes (by omega) (Tot.yes (by omega) ?_)))
    rw [rd_ahead, wrap_in (x := (a.length : Int) + 1) (by omega) (by omega), List.all_cons]
    simp only [in_v, Option.bind_some]
    by_cases hx : lo ≤ x ∧ x ≤ hi
    · rw [decide_eq_true hx, Bool.true_and]
      refine Tot.yes rfl ?_
      rcases List.eq_nil_or_concat a with rfl | ⟨a', y, rfl⟩
      · have e : rising (List.getLast? []) (x :: b) = rising (some x) b := rfl
        rw [e]
        exact Tot.no (by simp) next
      · rw [List.concat_eq_append] at *
        have hL : ((a' ++ [y]).length : Int) = a'.length + 1 := by simp
        have hw : wrap64 (((a' ++ [y]).length : Int) - 1) = (a'.length : Int) := (wrap_in (by omega) (by omega)).trans (by omega)
        have e : rising (List.getLast? (a' ++ [y])) (x :: b) = (decide (y < x) && rising (some x) b) := by rw [List.getLast?_concat]; rfl
        rw [e, hw]
        refine Tot.yes (by omega) (Tot.yes (by omega) (Tot.yes (by omega) ?_))
        rw [rd_prev1]
        by_cases hy : y < x
        · rw [decide_eq_true hy, Bool.true_and]
          exact Tot.no (by omega) next
        · rw [decide_eq_false hy, Bool.false_and, Bool.and_false]
          exact Tot.yes (by omega) (Tot.pure _)
    · rw [decide_eq_false hx]
      exact Tot.no (by decide) (Tot.pure _)
theorem specRising_v (l : List Int) (lo hi : Int) (h : (l.length : Int) ≤ 9223372036850000000) : Tot (fun k => spec_l1Rising.f k l lo hi) ((l.all fun x => decide (lo ≤ x ∧ x ≤ hi)) && rising none l) := by
  have := specRising_l lo hi l [] (by simpa using h)
  unfold spec_l1Rising.f
  simpa using this
theorem implRising_l : ∀ (b a : List Int) (y : Int), ((a ++ y :: b).length : Int) ≤ 9223372036850000000 → Tot (fun k => impl_areRising.l0 k (a ++ y :: b) ((a.length : Int) + 1)) (rising (some y) b)
  | [], a, y, h => Tot.step (fun k => impl_areRising.l0.eq_2 ..) (Tot.no (by simp) (Tot.pure _))
  | x :: b, a, y, h => by
    have hl : ((a ++ y :: x :: b).length : Int) = a.length + b.length + 2 := by simp; omega
    have next := implRising_l b (a ++ [y]) x (by simpa using h)
    have hL : ((a ++ [y]).length : Int) = a.length + 1 := by simp
    have e1 : rd (a ++ y :: x :: b) ((a.length : Int) + 1) = x := by
      rw [← hL, show a ++ y :: x :: b = (a ++ [y]) ++ x :: b by simp]; exact rd_ahead ..
    have e2 : rd (a ++ y :: x :: b) (wrap64 ((a.length : Int) + 1 - 1)) = y := by
      rw [wrap_in (by omega) (by omega), show (a.length : Int) + 1 - 1 = a.length by omega]; exact rd_ahead ..
    refine Tot.step (fun k => impl_areRising.l0.eq_2 ..) (Tot.yes (by omega) (Tot.yes (by omega) ?_))
    rw [e1, e2]
    have hw : wrap64 ((a.length : Int) + 1 - 1) = a.length := (wrap_in (by omega) (by omega)).trans (by omega)
    have hw2 : wrap64 ((a.length : Int) + 1 + 1) = ((a ++ [y]).length : Int) + 1 := (wrap_in (by omega) (by omega)).trans (by omega)
    rw [hw, hw2]
    refine Tot.yes (by omega) (Tot.yes (by omega) ?_)
    have e : rising (some y) (x :: b) = (decide (y < x) && rising (some x) b) := rfl
    rw [e]
    by_cases hy : y < x
    · rw [decide_eq_true hy, Bool.true_and]
      exact Tot.no (by omega) (by simpa using next)
    · rw [decide_eq_false hy]
      exact Tot.yes (by omega) (Tot.pure _)
theorem implRising_v (l : List Int) (h : (l.length : Int) ≤ 9223372036850000000) : Tot (fun k => impl_areRising.f k l) (rising none l) := by
  unfold impl_areRising.f
  cases l with
  | nil => exact Tot.step (fun k => impl_areRising.l0.eq_2 ..) (Tot.no (by decide) (Tot.pure _))
  | cons y b =>
    have := implRising_l b [] y (by simpa using h)
    simpa [rising] using this

theorem allO_tot {α : Type} {f : Nat → α → Option Bool} {p : α → Bool} : ∀ {l : List α}, (∀ x ∈ l, Tot (fun k => f k x) (p x)) → Tot (fun k => Open.allO (f k) l) (l.all p)
  | [], _ => Tot.pure _
  | x :: l, h => by
    show Tot (fun k => (f k x).bind fun b => (Open.allO (f k) l).bind fun c => some (b && c)) ((x :: l).all p)
    rw [List.all_cons]
    exact Tot.bind (h x (by simp)) (Tot.bind (allO_tot fun y hy => h y (by simp [hy])) (Tot.pure _))

theorem rd_at {l : List Int} {i : Int} (h0 : 0 ≤ i) (h1 : i < (l.length : Int)) : rd l i = l[i.toNat]'(by omega) := by
  unfold rd
  rw [List.getD_eq_getElem?_getD, List.getElem?_eq_getElem (by omega : i.toNat < l.length)]
  rfl
theorem eqInt_l (a : List Int) (ha : (a.length : Int) ≤ 9223372036854775806) : ∀ (d : Nat) (i : Int), 0 ≤ i → i + d = a.length → Tot (fun k => laws_eqIntS.l0 k a a i) true
  | 0, i, h0, h => by
    refine Tot.step (fun k => laws_eqIntS.l0.eq_2 ..) ?_
    exact Tot.no (by omega) (Tot.pure _)
  | d + 1, i, h0, h => by
    refine Tot.step (fun k => laws_eqIntS.l0.eq_2 ..) ?_
    refine Tot.yes (by omega) (Tot.yes h0 (Tot.yes (by omega) (Tot.yes rfl ?_)))
    rw [wrap_in (by omega) (by omega)]
    exact eqInt_l a ha d (i + 1) (by omega) (by omega)
theorem eqInt_v (a : List Int) (ha : (a.length : Int) ≤ 9223372036854775806) : Tot (fun k => laws_eqIntS.f k a a) true := by
  unfold laws_eqIntS.f
  exact Tot.yes rfl (eqInt_l a ha a.length 0 (by omega) (by omega))

theorem szInt_v (l : List Int) (m : Int) (h0 : 0 ≤ m) (h1 : m ≤ 1048576) (hl : (l.length : Int) ≤ 9223372036850000000) : ∃ v, laws_szIntS.f l m = some v ∧ v ≤ 1048576 ∧ (0 ≤ v → (l.length : Int) ≤ 1048576) := by
  unfold laws_szIntS.f
  rw [wrap_in (by omega) (by omega)]
  by_cases h : m - (l.length : Int) < 0
  · exact ⟨-1, by rw [if_pos h], by omega, fun h => by omega⟩
  · exact ⟨_, by rw [if_neg h], by omega, fun _ => by omega⟩
theorem rdStr_at (a b : List ByteArray) (x : ByteArray) : (rdOf ByteArray.empty (a ++ x :: b) (a.length : Int)) = x := by simp [rdOf, List.getD]
theorem szStr_l : ∀ (b a : List ByteArray) (m : Int), 0 ≤ m → m ≤ 1048576 → ((a ++ b).length : Int) ≤ 1048576 → (∀ y ∈ b, y.size ≤ 140737488351232) → ∃ v, Tot (fun k => laws_szStringS.l0 k (a ++ b) m a.length) v ∧ v ≤ 1048576
  | [], a, m, h0, h1, hl, hs => ⟨m, by
    refine Tot.step (fun k => laws_szStringS.l0.eq_2 ..) ?_
    simp only [List.append_nil]
    exact Tot.no (by omega) (Tot.pure _), h1⟩
  | x :: b, a, m, h0, h1, hl, hs => by
    have hx := hs x (by simp)
    have hll : ((a ++ x :: b).length : Int) = a.length + b.length + 1 := by simp; omega
    by_cases hc : m - (x.size : Int) < 0
    · refine ⟨-1, Tot.step (fun k => laws_szStringS.l0.eq_2 ..) (Tot.yes (by omega) (Tot.yes (by omega) (Tot.yes ?_ (Tot.pure _)))), by omega⟩
      rw [rdStr_at, wrap_in (by omega) (by omega)]; exact hc
    · obtain ⟨v, hv, hv2⟩ := szStr_l b (a ++ [x]) (m - (x.size : Int)) (by omega) (by omega) (by simp at hll hl ⊢; omega) (fun y hy => hs y (by simp [hy]))
      refine ⟨v, Tot.step (fun k => laws_szStringS.l0.eq_2 ..) (Tot.yes (by omega) (Tot.yes (by omega) (Tot.no ?_ ?_))), hv2⟩
      · rw [rdStr_at, wrap_in (by omega) (by omega)]; exact hc
      · rw [rdStr_at, wrap_in (x := m - (x.size : Int)) (by omega) (by omega), wrap_in (x := (a.length : Int) + 1) (by omega) (by omega)]
        simpa using hv
theorem szStr_v (l : List ByteArray) (m : Int) (h0 : 0 ≤ m) (h1 : m ≤ 1048576) (hl : (l.length : Int) ≤ 9223372036850000000) (hs : ∀ y ∈ l, y.size ≤ 140737488351232) : ∃ v, Tot (fun k => laws_szStringS.f k l m) v ∧ v ≤ 1048576 ∧ (0 ≤ v → (l.length : Int) ≤ 1048576) := by
  unfold laws_szStringS.f
  rw [wrap_in (by omega) (by omega)]
  by_cases h : m - (l.length : Int) < 0
  · exact ⟨-1, Tot.yes h (Tot.pure _), by omega, fun h => by omega⟩
  · obtain ⟨v, hv, hv2⟩ := szStr_l l [] (m - (l.length : Int)) (by omega) (by omega) (by simp; omega) hs
    exact ⟨v, Tot.no h (by simpa using hv), hv2, fun _ => by omega⟩
theorem rdLLayer_at (a b : List S128) (x : S128) : rd_T128 (a ++ x :: b) (a.length : Int) = x := by simp [rd_T128, List.getD]
theorem szLayer_v (x : S128) (m : Int) (h0 : 0 ≤ m) (h1 : m ≤ 1048576) (hx : (x.f1.length : Int) ≤ 9223372036850000000 ∧ (x.f2.length : Int) ≤ 9223372036850000000 ∧ (∀ y ∈ x.f2, y.size ≤ 140737488351232)) : ∃ v, Tot (fun k => laws_szLayer.f k x.f0 x.f1 x.f2 m) v ∧ v ≤ 1048576 ∧ (0 ≤ v → (x.f1.length : Int) ≤ 1048576 ∧ (x.f2.length : Int) ≤ 1048576) := by
  unfold laws_szLayer.f
  obtain ⟨v, hv, hv1, hv2⟩ := szInt_v x.f1 m h0 h1 hx.1
  rw [hv]
  by_cases h : v < 0
  · exact ⟨-1, Tot.some_bind (Tot.yes h (Tot.pure _)), by omega, fun h => by omega⟩
  · obtain ⟨u, hu, hu1, hu2⟩ := szStr_v x.f2 v (by omega) hv1 hx.2.1 hx.2.2
    by_cases h2 : u < 0
    · exact ⟨-1, Tot.some_bind (Tot.no h (Tot.bind hu (Tot.yes h2 (Tot.pure _)))), by omega, fun h => by omega⟩
    · exact ⟨u, Tot.some_bind (Tot.no h (Tot.bind hu (Tot.no h2 (Tot.pure _)))), hu1, fun h3 => ⟨hv2 (by omega), hu2 h3⟩⟩
theorem szLayerS_l : ∀ (b a : List S128) (m : Int), 0 ≤ m → m ≤ 1048576 → ((a ++ b).length : Int) ≤ 1048576 → (∀ x ∈ b, (x.f1.length : Int) ≤ 9223372036850000000 ∧ (x.f2.length : Int) ≤ 9223372036850000000 ∧ (∀ y ∈ x.f2, y.size ≤ 140737488351232)) → ∃ v, Tot (fun k => laws_szLayerS.l0 k (a ++ b) m a.length) v ∧ v ≤ 1048576 ∧ (0 ≤ v → ∀ y ∈ b, (y.f1.length : Int) ≤ 1048576 ∧ (y.f2.length : Int) ≤ 1048576)
  | [], a, m, h0, h1, hl, hs => ⟨m, by
    refine Tot.step (fun k => laws_szLayerS.l0.eq_2 ..) ?_
    simp only [List.append_nil]
    exact Tot.no (by omega) (Tot.pure _), h1, fun _ y hy => by simp at hy⟩
  | x :: b, a, m, h0, h1, hl, hs => by
    have hll : ((a ++ x :: b).length : Int) = a.length + b.length + 1 := by simp; omega
    obtain ⟨u, hu, hu1, hu2⟩ := szLayer_v x m h0 h1 (hs x (by simp))
    by_cases hc : u < 0
    · refine ⟨-1, Tot.step (fun k => laws_szLayerS.l0.eq_2 ..) (Tot.yes (by omega) (Tot.yes (by omega) ?_)), by omega, fun h => by omega⟩
      rw [rdLLayer_at]
      exact Tot.bind hu (Tot.yes hc (Tot.pure _))
    · obtain ⟨v, hv, hv1, hv2⟩ := szLayerS_l b (a ++ [x]) u (by omega) hu1 (by simp at hll hl ⊢; omega) (fun y hy => hs y (by simp [hy]))
      refine ⟨v, Tot.step (fun k => laws_szLayerS.l0.eq_2 ..) (Tot.yes (by omega) (Tot.yes (by omega) ?_)), hv1, fun h y hy => ?_⟩
      · rw [rdLLayer_at, wrap_in (x := (a.length : Int) + 1) (by omega) (by omega)]
        exact Tot.bind hu (Tot.no hc (by simpa using hv))
      · rcases List.mem_cons.1 hy with rfl | hy
        · exact hu2 (by omega)
        · exact hv2 h y hy
theorem szLayerS_v (l : List S128) (m : Int) (h0 : 0 ≤ m) (h1 : m ≤ 1048576) (hl : (l.length : Int) ≤ 9223372036850000000) (hs : ∀ x ∈ l, (x.f1.length : Int) ≤ 9223372036850000000 ∧ (x.f2.length : Int) ≤ 9223372036850000000 ∧ (∀ y ∈ x.f2, y.size ≤ 140737488351232)) : ∃ v, Tot (fun k => laws_szLayerS.f k l m) v ∧ v ≤ 1048576 ∧ (0 ≤ v → (l.length : Int) ≤ 1048576 ∧ ∀ y ∈ l, (y.f1.length : Int) ≤ 1048576 ∧ (y.f2.length : Int) ≤ 1048576) := by
  unfold laws_szLayerS.f
  rw [wrap_in (by omega) (by omega)]
  by_cases h : m - (l.length : Int) < 0
  · exact ⟨-1, Tot.yes h (Tot.pure _), by omega, fun h => by omega⟩
  · obtain ⟨v, hv, hv1, hv2⟩ := szLayerS_l l [] (m - (l.length : Int)) (by omega) (by omega) (by simp; omega) hs
    exact ⟨v, Tot.no h (by simpa using hv), hv1, fun h3 => ⟨by omega, hv2 h3⟩⟩
theorem rdInt_at (a b : List Int) (x : Int) : (rd (a ++ x :: b) (a.length : Int)) = x := by simp [rd, List.getD]
theorem toInt_l : ∀ (b a : List Int), ((a ++ b).length : Int) ≤ 9223372036854775806 → Tot (fun k => laws_toIntS.l0 k (a ++ b) (a ++ List.replicate b.length 0) a.length) (a ++ b)
  | [], a, h => by
    refine Tot.step (fun k => laws_toIntS.l0.eq_2 ..) ?_
    simp only [List.append_nil, List.length_nil, List.replicate_zero]
    exact Tot.no (by omega) (Tot.pure _)
  | x :: b, a, h => by
    refine Tot.step (fun k => laws_toIntS.l0.eq_2 ..) ?_
    have hl : ((a ++ x :: b).length : Int) = a.length + b.length + 1 := by simp; omega
    have hl2 : ((a ++ List.replicate (x :: b).length 0).length : Int) = a.length + b.length + 1 := by simp; omega
    refine Tot.yes (by omega) (Tot.yes (by omega) (Tot.yes (by omega) ?_))
    rw [rdInt_at, wrap_in (x := (a.length : Int) + 1) (by omega) (by omega)]
    have e : (a ++ List.replicate (x :: b).length 0).set ((a.length : Int)).toNat x = (a ++ [x]) ++ List.replicate b.length 0 := by simp [List.replicate_succ]
    rw [e]
    have := toInt_l b (a ++ [x]) (by simp at hl h ⊢; omega)
    simpa using this
theorem toInt_v (l : List Int) (h : (l.length : Int) ≤ 1048576) : Tot (fun k => laws_toIntS.f k l) l := by
  unfold laws_toIntS.f
  refine Tot.yes (by omega) (Tot.yes (by omega) ?_)
  have := toInt_l l [] (by simp; omega)
  simpa using this
theorem toStr_l : ∀ (b a : List ByteArray), ((a ++ b).length : Int) ≤ 9223372036854775806 → Tot (fun k => laws_toStringS.l0 k (a ++ b) (a ++ List.replicate b.length (⟨#[]⟩ : ByteArray)) a.length) (a ++ b)
  | [], a, h => by
    refine Tot.step (fun k => laws_toStringS.l0.eq_2 ..) ?_
    simp only [List.append_nil, List.length_nil, List.replicate_zero]
    exact Tot.no (by omega) (Tot.pure _)
  | x :: b, a, h => by
    refine Tot.step (fun k => laws_toStringS.l0.eq_2 ..) ?_
    have hl : ((a ++ x :: b).length : Int) = a.length + b.length + 1 := by simp; omega
    have hl2 : ((a ++ List.replicate (x :: b).length (⟨#[]⟩ : ByteArray)).length : Int) = a.length + b.length + 1 := by simp; omega
    refine Tot.yes (by omega) (Tot.yes (by omega) (Tot.yes (by omega) ?_))
    rw [rdStr_at, wrap_in (x := (a.length : Int) + 1) (by omega) (by omega)]
    have e : (a ++ List.replicate (x :: b).length (⟨#[]⟩ : ByteArray)).set ((a.length : Int)).toNat x = (a ++ [x]) ++ List.replicate b.length (⟨#[]⟩ : ByteArray) := by simp [List.replicate_succ]
    rw [e]
    have := toStr_l b (a ++ [x]) (by simp at hl h ⊢; omega)
    simpa using this
theorem toStr_v (l : List ByteArray) (h : (l.length : Int) ≤ 1048576) : Tot (fun k => laws_toStringS.f k l) l := by
  unfold laws_toStringS.f
  refine Tot.yes (by omega) (Tot.yes (by omega) ?_)
  have := toStr_l l [] (by simp; omega)
  simpa using this
def cvLayer (x : S128) : S94 := ⟨x.f0, x.f1, x.f2⟩
theorem toLayer_v (x : S128) (hs : (x.f1.length : Int) ≤ 1048576 ∧ (x.f2.length : Int) ≤ 1048576) : Tot (fun k => laws_toLayer.f k x.f0 x.f1 x.f2) (x.f0, x.f1, x.f2) := by
  unfold laws_toLayer.f
  exact (Tot.bind (toInt_v x.f1 (by omega)) (Tot.bind (toStr_v x.f2 (by omega)) (Tot.pure _)))
theorem toLayerS_l : ∀ (b a : List S128), ((a ++ b).length : Int) ≤ 9223372036854775806 → (∀ y ∈ b, (y.f1.length : Int) ≤ 1048576 ∧ (y.f2.length : Int) ≤ 1048576) → Tot (fun k => laws_toLayerS.l0 k (a ++ b) (a.map cvLayer ++ List.replicate b.length z94) a.length) ((a ++ b).map cvLayer)
  | [], a, h, hs => by
    refine Tot.step (fun k => laws_toLayerS.l0.eq_2 ..) ?_
    simp only [List.append_nil, List.length_nil, List.replicate_zero]
    exact Tot.no (by omega) (Tot.pure _)
  | x :: b, a, h, hs => by
    refine Tot.step (fun k => laws_toLayerS.l0.eq_2 ..) ?_
    have hl : ((a ++ x :: b).length : Int) = a.length + b.length + 1 := by simp; omega
    have hl2 : ((a.map cvLayer ++ List.replicate (x :: b).length z94).length : Int) = a.length + b.length + 1 := by simp; omega
    refine Tot.yes (by omega) (Tot.yes (by omega) ?_)
    rw [rdLLayer_at, wrap_in (x := (a.length : Int) + 1) (by omega) (by omega)]
    refine Tot.bind (toLayer_v x (hs x (by simp))) (Tot.yes (by omega) ?_)
    have e : (a.map cvLayer ++ List.replicate (x :: b).length z94).set ((a.length : Int)).toNat (cvLayer x) = (a ++ [x]).map cvLayer ++ List.replicate b.length z94 := by
      rw [List.length_cons, List.replicate_succ, List.set_append_right _ _ (by simp)]
      simp
    have e2 : (⟨x.f0, x.f1, x.f2⟩ : S94) = cvLayer x := rfl
    dsimp only
    rw [e2, e]
    have := toLayerS_l b (a ++ [x]) (by simp at hl h ⊢; omega) (fun y hy => hs y (by simp [hy]))
    simpa using this
theorem toLayerS_v (l : List S128) (h : (l.length : Int) ≤ 1048576) (hs : ∀ y ∈ l, (y.f1.length : Int) ≤ 1048576 ∧ (y.f2.length : Int) ≤ 1048576) : Tot (fun k => laws_toLayerS.f k l) (l.map cvLayer) := by
  unfold laws_toLayerS.f
  refine Tot.yes (by omega) (Tot.yes (by omega) ?_)
  have := toLayerS_l l [] (by simp; omega) hs
  simpa using this
theorem eqStr_l (a : List ByteArray) (ha : (a.length : Int) ≤ 9223372036854775806) : ∀ (d : Nat) (i : Int), 0 ≤ i → i + d = a.length → Tot (fun k => laws_eqStringS.l0 k a a i) true
  | 0, i, h0, h => by
    refine Tot.step (fun k => laws_eqStringS.l0.eq_2 ..) ?_
    exact Tot.no (by omega) (Tot.pure _)
  | d + 1, i, h0, h => by
    refine Tot.step (fun k => laws_eqStringS.l0.eq_2 ..) ?_
    refine Tot.yes (by omega) (Tot.yes h0 (Tot.yes (by omega) (Tot.yes rfl ?_)))
    rw [wrap_in (by omega) (by omega)]
    exact eqStr_l a ha d (i + 1) (by omega) (by omega)
theorem eqStr_v (a : List ByteArray) (ha : (a.length : Int) ≤ 9223372036854775806) : Tot (fun k => laws_eqStringS.f k a a) true := by
  unfold laws_eqStringS.f
  exact Tot.yes rfl (eqStr_l a ha a.length 0 (by omega) (by omega))
theorem rdILayer_at (a b : List S94) (x : S94) : rd_T94 (a ++ x :: b) (a.length : Int) = x := by simp [rd_T94, List.getD]
theorem eqLayer_v (x : S94) (hs : (x.f1.length : Int) ≤ 1048576 ∧ (x.f2.length : Int) ≤ 1048576) : Tot (fun k => laws_eqLayer.f k x.f0 x.f1 x.f2 x.f0 x.f1 x.f2) true := by
  unfold laws_eqLayer.f
  exact (Tot.yes rfl (Tot.bind (eqInt_v x.f1 (by omega)) (Tot.yes rfl (Tot.bind (eqStr_v x.f2 (by omega)) (Tot.yes rfl (Tot.pure _))))))
theorem eqLayerS_l : ∀ (b a : List S94), ((a ++ b).length : Int) ≤ 9223372036854775806 → (∀ y ∈ b, (y.f1.length : Int) ≤ 1048576 ∧ (y.f2.length : Int) ≤ 1048576) → Tot (fun k => laws_eqLayerS.l0 k (a ++ b) (a ++ b) a.length) true
  | [], a, h, hs => by
    refine Tot.step (fun k => laws_eqLayerS.l0.eq_2 ..) ?_
    simp only [List.append_nil]
    exact Tot.no (by omega) (Tot.pure _)
  | x :: b, a, h, hs => by
    refine Tot.step (fun k => laws_eqLayerS.l0.eq_2 ..) ?_
    have hl : ((a ++ x :: b).length : Int) = a.length + b.length + 1 := by simp; omega
    refine Tot.yes (by omega) (Tot.yes (by omega) (Tot.yes (by omega) ?_))
    rw [rdILayer_at, wrap_in (x := (a.length : Int) + 1) (by omega) (by omega)]
    refine Tot.bind (eqLayer_v x (hs x (by simp))) (Tot.yes rfl ?_)
    have := eqLayerS_l b (a ++ [x]) (by simp at hl h ⊢; omega) (fun y hy => hs y (by simp [hy]))
    simpa using this
theorem eqLayerS_v (l : List S94) (h : (l.length : Int) ≤ 9223372036854775806) (hs : ∀ y ∈ l, (y.f1.length : Int) ≤ 1048576 ∧ (y.f2.length : Int) ≤ 1048576) : Tot (fun k => laws_eqLayerS.f k l l) true := by
  unfold laws_eqLayerS.f
  refine Tot.yes rfl ?_
  have := eqLayerS_l l [] (by simpa using h) hs
  simpa using this
def blockB (x : Int) : Bool := decide (0 ≤ x ∧ x ≤ 15)
def dataB (s : ByteArray) : Bool := decide ((s.size : Int) = 2)
def layB (x : S94) : Bool := decide (0 ≤ x.f0 ∧ x.f0 ≤ 200) && ((x.f1.all blockB && rising none x.f1) && (decide ((x.f2.length : Int) = x.f1.length) && x.f2.all dataB))
def marksB (l : List S94) : Bool := (l.all layB && rising none (l.map (·.f0))) && decide (1 ≤ (l.length : Int) ∧ (l.length : Int) ≤ 8)
def smallL (l : List S94) : Prop := (l.length : Int) ≤ 1048576 ∧ ∀ x ∈ l, (x.f1.length : Int) ≤ 1048576 ∧ (x.f2.length : Int) ≤ 1048576
theorem specData_l (L : List S94) (n i : Int) (R : Bool) (hR : Tot (fun k => spec_GoodMarks.l0 k L n (wrap64 (i + 1)) L) R) : ∀ (b a : List ByteArray), ((a ++ b).length : Int) ≤ 9223372036850000000 → Tot (fun k => spec_GoodMarks.l1 k L n i (a ++ b) ((a ++ b).length : Int) a.length L) (b.all dataB && R)
  | [], a, h => by
    refine Tot.step (fun k => spec_GoodMarks.l1.eq_2 ..) (Tot.no (by simp) ?_)
    rw [List.all_nil, Bool.true_and]
    exact hR
  | x :: b, a, h => by
    have hl : ((a ++ x :: b).length : Int) = a.length + b.length + 1 := by simp; omega
    refine Tot.step (fun k => spec_GoodMarks.l1.eq_2 ..) (Tot.yes (by omega) (Tot.yes (by omega) (Tot.yes (by omega) ?_)))
    rw [rdStr_at, wrap_in (x := (a.length : Int) + 1) (by omega) (by omega), List.all_cons]
    have e : spec_l7Data.f x = some (dataB x) := by unfold spec_l7Data.f dataB; congr 1
    simp only [e, Option.bind_some]
    by_cases hx : dataB x = true
    · rw [hx, Bool.true_and]
      refine Tot.yes rfl ?_
      have := specData_l L n i R hR b (a ++ [x]) (by simpa using h)
      simpa using this
    · rw [Bool.eq_false_iff.2 hx, Bool.false_and, Bool.false_and]
      exact Tot.no (by decide) (Tot.pure _)
theorem rdLay_prev (a b : List S94) (y : S94) : rd_T94 ((a ++ [y]) ++ b) (a.length : Int) = y := by simp [rd_T94, List.getD]
theorem specLay_l : ∀ (b a : List S94), ((a ++ b).length : Int) ≤ 9223372036850000000 → (∀ x ∈ b, (x.f1.length : Int) ≤ 1048576 ∧ (x.f2.length : Int) ≤ 1048576) → Tot (fun k => spec_GoodMarks.l0 k (a ++ b) ((a ++ b).length : Int) a.length (a ++ b)) ((b.all layB && rising (a.getLast?.map (·.f0)) (b.map (·.f0))) && decide (1 ≤ ((a ++ b).length : Int) ∧ ((a ++ b).length : Int) ≤ 8))
  | [], a, h, hs => by
    refine Tot.step (fun k => spec_GoodMarks.l0.eq_2 ..) (Tot.no (by simp) ?_)
    simp only [in_v, Option.bind_some]
    have e : rising (a.getLast?.map (·.f0)) (([] : List S94).map (·.f0)) = true := by cases a.getLast? <;> rfl
    rw [e]
    exact Tot.pure _
  | x :: b, a, h, hs => by
    have hl : ((a ++ x :: b).length : Int) = a.length + b.length + 1 := by simp; omega
    have hx := hs x (by simp)
    have ih := specLay_l b (a ++ [x]) (by simpa using h) (fun y hy => hs y (by simp [hy]))
    rw [List.getLast?_concat] at ih
    have next0 : ∀ bad : Bool, Tot (fun k => spec_GoodMarks.j1 k (a ++ x :: b) ((a ++ x :: b).length : Int) a.length bad (a ++ x :: b) x.f0 x.f1 x.f2) ((!bad && x.f2.all dataB) && ((b.all layB && rising (some x.f0) (b.map (·.f0))) && decide (1 ≤ ((a ++ x :: b).length : Int) ∧ ((a ++ x :: b).length : Int) ≤ 8))) := by
      intro bad
      refine Tot.step (fun k => spec_GoodMarks.j1.eq_2 ..) ?_
      cases bad with
      | true => exact Tot.yes rfl (Tot.pure _)
      | false =>
        refine Tot.no (by decide) ?_
        rw [Bool.not_false, Bool.true_and]
        have := specData_l (a ++ x :: b) ((a ++ x :: b).length : Int) a.length ((b.all layB && rising (some x.f0) (b.map (·.f0))) && decide (1 ≤ ((a ++ x :: b).length : Int) ∧ ((a ++ x :: b).length : Int) ≤ 8)) (by
          rw [wrap_in (x := (a.length : Int) + 1) (by omega) (by omega)]
          simpa using ih) x.f2 [] (by simp; omega)
        simpa using this
    have rest : Tot (fun k => (spec_l1Rising.f k x.f1 0 15).bind fun t133 => (if t133 = true then (spec_GoodMarks.j1 k (a ++ x :: b) ((a ++ x :: b).length : Int) a.length ((x.f2.length : Int) != (x.f1.length : Int)) (a ++ x :: b) x.f0 x.f1 x.f2) else (spec_GoodMarks.j1 k (a ++ x :: b) ((a ++ x :: b).length : Int) a.length true (a ++ x :: b) x.f0 x.f1 x.f2)))
        (((x.f1.all blockB && rising none x.f1) && (decide ((x.f2.length : Int) = x.f1.length) && x.f2.all dataB)) && ((b.all layB && rising (some x.f0) (b.map (·.f0))) && decide (1 ≤ ((a ++ x :: b).length : Int) ∧ ((a ++ x :: b).length : Int) ≤ 8))) := by
      refine Tot.bind (specRising_v x.f1 0 15 (by omega)) ?_
      show Tot _ (((x.f1.all blockB && rising none x.f1) && _) && _)
      cases hq : (x.f1.all blockB && rising none x.f1) with
      | false =>
        have := next0 true
        exact Tot.no (by rw [show (x.f1.all fun x => decide (0 ≤ x ∧ x ≤ 15)) = x.f1.all blockB from rfl, hq]; decide) (by simpa using this)
      | true =>
        have := next0 ((x.f2.length : Int) != (x.f1.length : Int))
        refine Tot.yes (by rw [show (x.f1.all fun x => decide (0 ≤ x ∧ x ≤ 15)) = x.f1.all blockB from rfl, hq]) ?_
        have e : (!((x.f2.length : Int) != (x.f1.length : Int))) = decide ((x.f2.length : Int) = x.f1.length) := by
          by_cases c : (x.f2.length : Int) = x.f1.length
          · rw [decide_eq_true c, c]; simp
          · rw [decide_eq_false c]; simpa using c
        rw [e] at this
        rw [Bool.true_and]
        exact this
    refine Tot.step (fun k => spec_GoodMarks.l0.eq_2 ..) (Tot.yes (by omega) (Tot.yes (by omega) (Tot.yes (by omega) ?_)))
    rw [rdILayer_at]
    simp only [in_v, Option.bind_some]
    have e0 : (x :: b).all layB = (decide (0 ≤ x.f0 ∧ x.f0 ≤ 200) && (((x.f1.all blockB && rising none x.f1) && (decide ((x.f2.length : Int) = x.f1.length) && x.f2.all dataB)) && b.all layB)) := by rw [List.all_cons]; unfold layB; rw [Bool.and_assoc]
    rw [e0, List.map_cons]
    by_cases c1 : 0 ≤ x.f0 ∧ x.f0 ≤ 200
    · rw [decide_eq_true c1, Bool.true_and]
      refine Tot.yes rfl ?_
      rcases List.eq_nil_or_concat a with rfl | ⟨a', y, rfl⟩
      · have e : rising (Option.map (·.f0) (List.getLast? ([] : List S94))) (x.f0 :: b.map (·.f0)) = rising (some x.f0) (b.map (·.f0)) := rfl
        rw [e, Bool.and_assoc, Bool.and_assoc, ← Bool.and_assoc (b.all layB)]
        exact Tot.no (by simp) (by simpa [Bool.and_assoc] using rest)
      · rw [List.concat_eq_append] at *
        have hL : ((a' ++ [y]).length : Int) = a'.length + 1 := by simp
        have hw : wrap64 (((a' ++ [y]).length : Int) - 1) = (a'.length : Int) := (wrap_in (by omega) (by omega)).trans (by omega)
        have e : rising (Option.map (·.f0) (List.getLast? (a' ++ [y]))) (x.f0 :: b.map (·.f0)) = (decide (y.f0 < x.f0) && rising (some x.f0) (b.map (·.f0))) := by rw [List.getLast?_concat]; rfl
        rw [e, hw]
        refine Tot.yes (by omega) (Tot.yes (by omega) (Tot.yes (by omega) ?_))
        rw [rdLay_prev]
        by_cases hy : y.f0 < x.f0
        · rw [decide_eq_true hy, Bool.true_and, Bool.and_assoc, Bool.and_assoc, ← Bool.and_assoc (b.all layB)]
          exact Tot.no (by omega) (by simpa [Bool.and_assoc] using rest)
        · rw [decide_eq_false hy]
          have := next0 true
          exact Tot.yes (by omega) (by simpa using this)
    · rw [decide_eq_false c1]
      have := next0 true
      exact Tot.no (by decide) (by simpa using this)
theorem specMarks_v (l : List S94) (h : smallL l) : Tot (fun k => spec_GoodMarks.f k l) (marksB l) := by
  have h1 := h.1
  have := specLay_l l [] (by simp; omega) h.2
  unfold spec_GoodMarks.f
  simpa [marksB] using this
theorem implLay_v (x : S94) (hx : (x.f1.length : Int) ≤ 1048576 ∧ (x.f2.length : Int) ≤ 1048576) : Tot (fun k => impl_Layer_isGood.f k x.f0 x.f1 x.f2) (layB x) := by
  have e1 : impl_isMark.f x.f0 = some (decide (0 ≤ x.f0 ∧ x.f0 ≤ 200)) := by unfold impl_isMark.f; rw [within_v]; rfl
  have e2 : impl_areAll_int_at_impl_isBlock.f x.f1 = some (x.f1.all blockB) := Open.allO_v fun y _ => by unfold impl_isBlock.f; rw [within_v]; rfl
  have e3 : impl_areAll_string_at_impl_isData.f x.f2 = some (x.f2.all dataB) := Open.allO_v fun y _ => by unfold impl_isData.f dataB; congr 1
  unfold impl_Layer_isGood.f layB
  simp only [e1, e2, e3, Option.bind_some]
  by_cases c1 : 0 ≤ x.f0 ∧ x.f0 ≤ 200
  · rw [decide_eq_true c1, Bool.true_and]
    refine Tot.yes rfl ?_
    cases x.f1.all blockB with
    | false => exact Tot.no (by decide) (Tot.pure _)
    | true =>
      rw [Bool.true_and]
      refine Tot.yes rfl (Tot.bind (implRising_v x.f1 (by omega)) ?_)
      cases rising none x.f1 with
      | false => exact Tot.no (by decide) (Tot.pure _)
      | true =>
        rw [Bool.true_and]
        refine Tot.yes rfl ?_
        by_cases c2 : (x.f2.length : Int) = x.f1.length
        · rw [decide_eq_true c2]; exact Tot.yes c2 (Tot.pure _)
        · rw [decide_eq_false c2]; exact Tot.no c2 (Tot.pure _)
  · rw [decide_eq_false c1]; exact Tot.no (by decide) (Tot.pure _)
theorem implMarks_l (L : List S94) (hL : smallL L) : ∀ (b a : List S94), a ++ b = L → Tot (fun k => impl_GoodMarks.l0 k (a.map (·.f0)) L (L.length : Int) a.length L) (marksB L)
  | [], a, h => by
    have hq := hL.1
    simp only [List.append_nil] at h
    subst h
    refine Tot.step (fun k => impl_GoodMarks.l0.eq_2 ..) (Tot.no (by simp) ?_)
    simp only [within_v, Option.bind_some]
    unfold marksB
    by_cases c : 1 ≤ (a.length : Int) ∧ (a.length : Int) ≤ 8
    · rw [decide_eq_true c, Bool.and_true]
      refine Tot.yes rfl (Tot.bind (allO_tot fun x hx => implLay_v x (hL.2 x hx)) ?_)
      cases a.all layB with
      | false => exact Tot.no (by decide) (Tot.pure _)
      | true => exact Tot.yes rfl (Tot.bind (implRising_v _ (by simp; omega)) (Tot.pure _))
    · rw [decide_eq_false c, Bool.and_false]; exact Tot.no (by decide) (Tot.pure _)
  | x :: b, a, h => by
    have hq := hL.1
    have hl : (L.length : Int) = a.length + b.length + 1 := by rw [← h]; simp; omega
    refine Tot.step (fun k => impl_GoodMarks.l0.eq_2 ..) (Tot.yes (by omega) (Tot.yes (by omega) (Tot.yes (by omega) (Tot.yes (by simp; omega) ?_))))
    have e : rd_T94 L (a.length : Int) = x := by rw [← h]; exact rdILayer_at ..
    rw [e, wrap_in (x := (a.length : Int) + 1) (by omega) (by omega)]
    have := implMarks_l L hL b (a ++ [x]) (by simpa using h)
    simpa using this
theorem implMarks_v (l : List S94) (h : smallL l) : Tot (fun k => impl_GoodMarks.f k l) (marksB l) := by
  have := implMarks_l l h l [] rfl
  unfold impl_GoodMarks.f
  simpa using this
theorem toMarks_v (l : List S128) (h : (l.length : Int) ≤ 1048576) (hs : ∀ y ∈ l, (y.f1.length : Int) ≤ 1048576 ∧ (y.f2.length : Int) ≤ 1048576) : Tot (fun k => laws_toMarks.f k l) (l.map cvLayer) := by
  unfold laws_toMarks.f
  exact Tot.bind (toLayerS_v l h hs) (Tot.pure _)
theorem eqMarks_v (l : List S94) (h : smallL l) : Tot (fun k => laws_eqMarks.f k l l) true := by
  have h1 := h.1
  unfold laws_eqMarks.f
  exact Tot.bind (eqLayerS_v l (by omega) h.2) (Tot.yes rfl (Tot.pure _))
theorem szMarks_v (l : List S128) (hl : (l.length : Int) ≤ 9223372036850000000) (hs : ∀ x ∈ l, (x.f1.length : Int) ≤ 9223372036850000000 ∧ (x.f2.length : Int) ≤ 9223372036850000000 ∧ ∀ y ∈ x.f2, y.size ≤ 140737488351232) : ∃ v, Tot (fun k => laws_szMarks.f k l 1048576) v ∧ (0 ≤ v → (l.length : Int) ≤ 1048576 ∧ ∀ y ∈ l, (y.f1.length : Int) ≤ 1048576 ∧ (y.f2.length : Int) ≤ 1048576) := by
  obtain ⟨v, hv, hv1, hv2⟩ := szLayerS_v l 1048576 (by omega) (by omega) hl hs
  unfold laws_szMarks.f
  by_cases h : v < 0
  · exact ⟨-1, Tot.bind hv (Tot.yes h (Tot.pure _)), fun h => by omega⟩
  · exact ⟨v, Tot.bind hv (Tot.no h (Tot.pure _)), fun h => hv2 h⟩
theorem smallL_cv {l : List S128} (h : (l.length : Int) ≤ 1048576) (hs : ∀ y ∈ l, (y.f1.length : Int) ≤ 1048576 ∧ (y.f2.length : Int) ≤ 1048576) : smallL (l.map cvLayer) :=
  ⟨by simpa using h, fun y hy => by
    obtain ⟨x, hx, rfl⟩ := List.mem_map.1 hy
    exact hs x hx⟩

def blank : ByteArray := ⟨#[0, 0]⟩
def onL (b : Int) : List Int → List ByteArray → ByteArray → ByteArray
  | q :: r, s :: t, d => onL b r t (if q = b then s else d)
  | _, _, d => d
def onLs (b : Int) : List S94 → ByteArray → ByteArray
  | [], d => d
  | x :: c, d => onLs b c (onL b x.f1 x.f2 d)
def setL : List Int → List ByteArray → List ByteArray → List ByteArray
  | q :: r, s :: t, o => setL r t (o.set q.toNat s)
  | _, _, o => o
def setLs : List S94 → List ByteArray → List ByteArray
  | [], o => o
  | x :: c, o => setLs c (setL x.f1 x.f2 o)
theorem setL_length : ∀ (r : List Int) (t : List ByteArray) (o : List ByteArray), (setL r t o).length = o.length
  | [], _, _ => rfl
  | _ :: _, [], _ => rfl
  | q :: r, s :: t, o => by simp [setL, setL_length r t]
theorem setL_at (b : Int) (hb : 0 ≤ b ∧ b ≤ 15) : ∀ (r : List Int) (t : List ByteArray) (o : List ByteArray), (∀ q ∈ r, 0 ≤ q ∧ q ≤ 15) → o.length = 16 → rdOf ByteArray.empty (setL r t o) b = onL b r t (rdOf ByteArray.empty o b)
  | [], _, _, _, _ => rfl
  | _ :: _, [], _, _, _ => rfl
  | q :: r, s :: t, o, hq, ho => by
    have hq0 := hq q (by simp)
    have ih := setL_at b hb r t (o.set q.toNat s) (fun y hy => hq y (by simp [hy])) (by simpa using ho)
    show rdOf ByteArray.empty (setL r t (o.set q.toNat s)) b = onL b r t (if q = b then s else rdOf ByteArray.empty o b)
    rw [ih]
    congr 1
    unfold rdOf
    by_cases h : q = b
    · subst h
      rw [if_pos rfl, List.getD_eq_getElem?_getD, List.getElem?_set_self (by omega)]
      rfl
    · rw [if_neg h, List.getD_eq_getElem?_getD, List.getElem?_set_ne (by omega), ← List.getD_eq_getElem?_getD]
theorem setLs_at (b : Int) (hb : 0 ≤ b ∧ b ≤ 15) : ∀ (c : List S94) (o : List ByteArray), (∀ x ∈ c, ∀ q ∈ x.f1, 0 ≤ q ∧ q ≤ 15) → o.length = 16 → rdOf ByteArray.empty (setLs c o) b = onLs b c (rdOf ByteArray.empty o b)
  | [], _, _, _ => rfl
  | x :: c, o, hq, ho => by
    show rdOf ByteArray.empty (setLs c (setL x.f1 x.f2 o)) b = onLs b c (onL b x.f1 x.f2 (rdOf ByteArray.empty o b))
    rw [setLs_at b hb c (setL x.f1 x.f2 o) (fun y hy => hq y (by simp [hy])) (by rw [setL_length]; exact ho), setL_at b hb x.f1 x.f2 o (hq x (by simp)) ho]
theorem setLs_length : ∀ (c : List S94) (o : List ByteArray), (setLs c o).length = o.length
  | [], _ => rfl
  | x :: c, o => by
    show (setLs c (setL x.f1 x.f2 o)).length = o.length
    rw [setLs_length c, setL_length]
theorem layB_iff {x : S94} (h : layB x = true) : (∀ q ∈ x.f1, 0 ≤ q ∧ q ≤ 15) ∧ x.f2.length = x.f1.length := by
  unfold layB at h
  simp only [Bool.and_eq_true, decide_eq_true_eq, List.all_eq_true] at h
  exact ⟨fun q hq => of_decide_eq_true (h.2.1.1 q hq), by have := h.2.2.1; omega⟩
theorem specAt1 (b n i : Int) (L : List S94) (z : Int) (R : ByteArray) : ∀ (r : List Int) (t : List ByteArray) (p : List Int) (pt : List ByteArray) (d : ByteArray), p.length = pt.length → t.length = r.length → ((p ++ r).length : Int) ≤ 1048576 → Tot (fun k => spec_l7At.l0 k b (onL b r t d) L n (wrap64 (i + 1))) R → Tot (fun k => spec_l7At.l1 k b d L n i (p ++ r) ((p ++ r).length : Int) p.length z (p ++ r) (pt ++ t)) R
  | [], t, p, pt, d, hp, ht, h, hR => by
    refine Tot.step (fun k => spec_l7At.l1.eq_2 ..) (Tot.no (by simp) ?_)
    exact hR
  | q :: r, [], p, pt, d, hp, ht, h, hR => by simp at ht
  | q :: r, s :: t, p, pt, d, hp, ht, h, hR => by
    have hl : ((p ++ q :: r).length : Int) = p.length + r.length + 1 := by simp; omega
    have hl2 : ((pt ++ s :: t).length : Int) = pt.length + t.length + 1 := by simp; omega
    have e2 : rdOf ByteArray.empty (pt ++ s :: t) (p.length : Int) = s := by rw [hp]; exact rdStr_at ..
    refine Tot.step (fun k => spec_l7At.l1.eq_2 ..) (Tot.yes (by omega) (Tot.yes (by omega) (Tot.yes (by omega) ?_)))
    rw [rdInt_at, e2, wrap_in (x := (p.length : Int) + 1) (by omega) (by omega)]
    have ih := specAt1 b n i L z R r t (p ++ [q]) (pt ++ [s]) (if q = b then s else d) (by simp [hp]) (by simpa using ht) (by simpa using h) hR
    by_cases hq : q = b
    · rw [if_pos hq] at ih
      exact Tot.yes hq (Tot.yes (by simp at ht; omega) (by simpa using ih))
    · rw [if_neg hq] at ih
      exact Tot.no hq (by simpa using ih)
theorem specAt0 (b : Int) : ∀ (c a : List S94) (d : ByteArray), ((a ++ c).length : Int) ≤ 1048576 → (∀ x ∈ c, x.f2.length = x.f1.length ∧ (x.f1.length : Int) ≤ 1048576) → Tot (fun k => spec_l7At.l0 k b d (a ++ c) ((a ++ c).length : Int) a.length) (onLs b c d)
  | [], a, d, h, hs => Tot.step (fun k => spec_l7At.l0.eq_2 ..) (Tot.no (by simp) (Tot.pure _))
  | x :: c, a, d, h, hs => by
    have hl : ((a ++ x :: c).length : Int) = a.length + c.length + 1 := by simp; omega
    have hx := hs x (by simp)
    refine Tot.step (fun k => spec_l7At.l0.eq_2 ..) (Tot.yes (by omega) (Tot.yes (by omega) (Tot.yes (by omega) ?_)))
    simp only [rdILayer_at]
    have ih := specAt0 b c (a ++ [x]) (onL b x.f1 x.f2 d) (by simpa using h) (fun y hy => hs y (by simp [hy]))
    have := specAt1 b ((a ++ x :: c).length : Int) a.length (a ++ x :: c) x.f0 (onLs b (x :: c) d) x.f1 x.f2 [] [] d rfl hx.1 (by simpa using hx.2) (by
      rw [wrap_in (x := (a.length : Int) + 1) (by omega) (by omega)]
      simpa [onLs] using ih)
    simpa using this
theorem implAt1 (n i : Int) (L : List S94) (z : Int) (R : List ByteArray) : ∀ (r : List Int) (t : List ByteArray) (p : List Int) (pt : List ByteArray) (o : List ByteArray), p.length = pt.length → t.length = r.length → ((p ++ r).length : Int) ≤ 1048576 → o.length = 16 → (∀ q ∈ r, 0 ≤ q ∧ q ≤ 15) → Tot (fun k => impl_Marks_at.l0 k (setL r t o) L n (wrap64 (i + 1))) R → Tot (fun k => impl_Marks_at.l1 k o L n i (p ++ r) ((p ++ r).length : Int) p.length z (p ++ r) (pt ++ t)) R
  | [], t, p, pt, o, hp, ht, h, ho, hq, hR => by
    refine Tot.step (fun k => impl_Marks_at.l1.eq_2 ..) (Tot.no (by simp) ?_)
    exact hR
  | q :: r, [], p, pt, o, hp, ht, h, ho, hq, hR => by simp at ht
  | q :: r, s :: t, p, pt, o, hp, ht, h, ho, hq, hR => by
    have hl : ((p ++ q :: r).length : Int) = p.length + r.length + 1 := by simp; omega
    have hl2 : ((pt ++ s :: t).length : Int) = pt.length + t.length + 1 := by simp; omega
    have e2 : rdOf ByteArray.empty (pt ++ s :: t) (p.length : Int) = s := by rw [hp]; exact rdStr_at ..
    have hq0 := hq q (by simp)
    refine Tot.step (fun k => impl_Marks_at.l1.eq_2 ..) (Tot.yes (by omega) (Tot.yes (by omega) (Tot.yes (by omega) (Tot.yes (by simp at ht; omega) ?_))))
    rw [rdInt_at, e2, wrap_in (x := (p.length : Int) + 1) (by omega) (by omega)]
    have ih := implAt1 n i L z R r t (p ++ [q]) (pt ++ [s]) (o.set q.toNat s) (by simp [hp]) (by simpa using ht) (by simpa using h) (by simpa using ho) (fun y hy => hq y (by simp [hy])) hR
    exact Tot.yes (by omega) (Tot.yes (by omega) (by simpa using ih))
theorem implAt0 : ∀ (c a : List S94) (o : List ByteArray), ((a ++ c).length : Int) ≤ 1048576 → o.length = 16 → (∀ x ∈ c, (x.f2.length = x.f1.length ∧ (x.f1.length : Int) ≤ 1048576) ∧ ∀ q ∈ x.f1, 0 ≤ q ∧ q ≤ 15) → Tot (fun k => impl_Marks_at.l0 k o (a ++ c) ((a ++ c).length : Int) a.length) (setLs c o)
  | [], a, o, h, ho, hs => Tot.step (fun k => impl_Marks_at.l0.eq_2 ..) (Tot.no (by simp) (Tot.pure _))
  | x :: c, a, o, h, ho, hs => by
    have hl : ((a ++ x :: c).length : Int) = a.length + c.length + 1 := by simp; omega
    have hx := hs x (by simp)
    refine Tot.step (fun k => impl_Marks_at.l0.eq_2 ..) (Tot.yes (by omega) (Tot.yes (by omega) (Tot.yes (by omega) ?_)))
    simp only [rdILayer_at]
    have ih := implAt0 c (a ++ [x]) (setL x.f1 x.f2 o) (by simpa using h) (by rw [setL_length]; exact ho) (fun y hy => hs y (by simp [hy]))
    have := implAt1 ((a ++ x :: c).length : Int) a.length (a ++ x :: c) x.f0 (setLs (x :: c) o) x.f1 x.f2 [] [] o rfl hx.1.1 (by simpa using hx.1.2) ho hx.2 (by
      rw [wrap_in (x := (a.length : Int) + 1) (by omega) (by omega)]
      simpa [setLs] using ih)
    simpa using this
def fnd (L : List S94) (m : Int) : Int := idxOf_Layer (fun x => decide (x.f0 = m)) L
theorem fnd_lt (m : Int) : ∀ L : List S94, -1 ≤ fnd L m ∧ (fnd L m < L.length ∨ fnd L m = -1)
  | [] => ⟨by simp [fnd, idxOf_Layer], .inr rfl⟩
  | x :: l => by
    have ih := fnd_lt m l
    unfold fnd at ih ⊢
    unfold idxOf_Layer
    split
    · exact ⟨by omega, .inl (by rw [List.length_cons]; omega)⟩
    · split
      · exact ⟨by omega, .inr rfl⟩
      · exact ⟨by omega, .inl (by simp; omega)⟩
theorem specFind_l (m : Int) : ∀ (b a : List S94), ((a ++ b).length : Int) ≤ 1048576 → Tot (fun k => spec_l7Find.l0 k m (a ++ b) ((a ++ b).length : Int) a.length) (if fnd b m = -1 then -1 else fnd b m + a.length)
  | [], a, h => by
    refine Tot.step (fun k => spec_l7Find.l0.eq_2 ..) (Tot.no (by simp) ?_)
    rw [show fnd ([] : List S94) m = -1 from rfl, if_pos rfl]
    exact Tot.pure _
  | x :: b, a, h => by
    have hl : ((a ++ x :: b).length : Int) = a.length + b.length + 1 := by simp; omega
    refine Tot.step (fun k => spec_l7Find.l0.eq_2 ..) (Tot.yes (by omega) (Tot.yes (by omega) (Tot.yes (by omega) ?_)))
    rw [rdILayer_at, wrap_in (x := (a.length : Int) + 1) (by omega) (by omega)]
    have hge := (fnd_lt m b).1
    have e : fnd (x :: b) m = if x.f0 = m then 0 else if fnd b m = -1 then -1 else fnd b m + 1 := by unfold fnd; rw [idxOf_Layer]; simp
    by_cases hx : x.f0 = m
    · rw [e, if_pos hx, if_neg (by decide), Int.zero_add]
      exact Tot.yes hx (Tot.pure _)
    · rw [e, if_neg hx]
      refine Tot.no hx ?_
      have ih := specFind_l m b (a ++ [x]) (by simpa using h)
      by_cases h1 : fnd b m = -1
      · rw [if_pos h1] at ih ⊢
        rw [if_pos rfl]
        simpa using ih
      · rw [if_neg h1] at ih ⊢
        rw [if_neg (by omega), show fnd b m + 1 + (a.length : Int) = fnd b m + ((a ++ [x]).length : Int) by simp; omega]
        simpa using ih
theorem specFind_v (L : List S94) (m : Int) (h : (L.length : Int) ≤ 1048576) : Tot (fun k => spec_l7Find.f k L m) (fnd L m) := by
  have := specFind_l m L [] (by simpa using h)
  unfold spec_l7Find.f
  by_cases h1 : fnd L m = -1
  · rw [if_pos h1] at this; rw [h1]; simpa using this
  · rw [if_neg h1] at this; simpa using this
theorem implFind_v (L : List S94) (m : Int) (h : smallL L) : Tot (fun k => impl_Marks_find.f k L m) (fnd L m, decide (0 ≤ fnd L m) && marksB L) := by
  unfold impl_Marks_find.f
  show Tot (fun k => if 0 ≤ fnd L m then ((impl_GoodMarks.f k L).bind fun t => some (fnd L m, t)) else some (fnd L m, false)) _
  by_cases h1 : 0 ≤ fnd L m
  · rw [decide_eq_true h1, Bool.true_and]
    exact Tot.yes h1 (Tot.bind (implMarks_v L h) (Tot.pure _))
  · rw [decide_eq_false h1]
    exact Tot.no h1 (Tot.pure _)
theorem marks_lay {L : List S94} (h : marksB L = true) : ∀ x ∈ L, layB x = true := by
  unfold marksB at h
  simp only [Bool.and_eq_true, List.all_eq_true] at h
  exact h.1.1

def readR (L : List S94) (m b : Int) : ByteArray × Bool :=
  if marksB L = true ∧ (0 ≤ b ∧ b ≤ 15) ∧ 0 ≤ fnd L m then (onLs b (L.take (fnd L m + 1).toNat) blank, true) else (⟨#[]⟩, false)
theorem specReadR_v (L : List S94) (m b : Int) (h : smallL L) : Tot (fun k => spec_ReadAt.f k L m b) (readR L m b) := by
  have h1 := h.1
  have hf := fnd_lt m L
  have fin : ¬ (marksB L = true ∧ (0 ≤ b ∧ b ≤ 15) ∧ 0 ≤ fnd L m) → Tot (fun k => spec_ReadAt.j0 k m b true L) (readR L m b) := fun c => by
    unfold readR
    rw [if_neg c]
    exact Tot.step (fun k => spec_ReadAt.j0.eq_2 ..) (Tot.yes rfl (Tot.pure _))
  have e1 : spec_l7Block.f b = some (decide (0 ≤ b ∧ b ≤ 15)) := by unfold spec_l7Block.f; rw [in_v]; rfl
  unfold spec_ReadAt.f
  simp only [e1, Option.bind_some]
  refine Tot.bind (specMarks_v L h) ?_
  by_cases c1 : marksB L = true
  · refine Tot.yes c1 ?_
    by_cases c2 : 0 ≤ b ∧ b ≤ 15
    · refine Tot.yes (decide_eq_true c2) (Tot.bind (specFind_v L m h1) ?_)
      by_cases c3 : 0 ≤ fnd L m
      · rw [decide_eq_false (by omega : ¬ fnd L m < 0)]
        unfold readR
        rw [if_pos ⟨c1, c2, c3⟩]
        refine Tot.step (fun k => spec_ReadAt.j0.eq_2 ..) (Tot.no (by decide) (Tot.bind (specFind_v L m h1) (Tot.bind (a := onLs b (L.take (fnd L m + 1).toNat) blank) ?_ (Tot.pure _))))
        unfold spec_l7At.f
        rw [wrap_in (x := fnd L m + 1) (by omega) (by omega)]
        refine Tot.yes (by omega) (Tot.yes (by omega) (Tot.some_bind ?_))
        have := specAt0 b (L.take (fnd L m + 1).toNat) [] blank (by simp; omega) (fun x hx => by
          have hxL := List.mem_of_mem_take hx
          exact ⟨(layB_iff (marks_lay c1 x hxL)).2, (h.2 x hxL).1⟩)
        simpa [blank] using this
      · rw [decide_eq_true (by omega : fnd L m < 0)]
        exact fin (fun e => c3 e.2.2)
    · exact Tot.no (by rw [decide_eq_true_eq]; exact c2) (fin (fun e => c2 e.2.1))
  · exact Tot.no c1 (fin (fun e => c1 e.1))
theorem implReadR_v (L : List S94) (m b : Int) (h : smallL L) : Tot (fun k => impl_ReadAt.f k L m b) (readR L m b) := by
  have h1 := h.1
  have hf := fnd_lt m L
  have e1 : impl_isBlock.f b = some (decide (0 ≤ b ∧ b ≤ 15)) := by unfold impl_isBlock.f; rw [within_v]; rfl
  unfold impl_ReadAt.f readR
  simp only [e1, Option.bind_some]
  refine Tot.bind (implFind_v L m h) ?_
  by_cases c3 : 0 ≤ fnd L m
  · by_cases c1 : marksB L = true
    · refine Tot.yes (by rw [decide_eq_true c3, c1]; rfl) ?_
      by_cases c2 : 0 ≤ b ∧ b ≤ 15
      · rw [if_pos ⟨c1, c2, c3⟩]
        have hx : ∀ x ∈ L.take (fnd L m + 1).toNat, (x.f2.length = x.f1.length ∧ (x.f1.length : Int) ≤ 1048576) ∧ ∀ q ∈ x.f1, 0 ≤ q ∧ q ≤ 15 := fun x hx => by
          have hxL := List.mem_of_mem_take hx
          have hq := layB_iff (marks_lay c1 x hxL)
          exact ⟨⟨hq.2, (h.2 x hxL).1⟩, hq.1⟩
        refine Tot.yes (decide_eq_true c2) (Tot.bind (a := setLs (L.take (fnd L m + 1).toNat) (List.replicate 16 blank)) ?_ ?_)
        · unfold impl_Marks_at.f
          refine Tot.bind (a := List.replicate 16 blank) (Tot.of_eq fun _ => rfl) ?_
          rw [wrap_in (x := fnd L m + 1) (by omega) (by omega)]
          refine Tot.yes (by omega) (Tot.yes (by omega) (Tot.some_bind ?_))
          have := implAt0 (L.take (fnd L m + 1).toNat) [] (List.replicate 16 blank) (by simp; omega) (by simp) hx
          simpa using this
        · have hlen : (setLs (L.take (fnd L m + 1).toNat) (List.replicate 16 blank)).length = 16 := by rw [setLs_length]; simp
          have e : rdOf ByteArray.empty (setLs (L.take (fnd L m + 1).toNat) (List.replicate 16 blank)) b = onLs b (L.take (fnd L m + 1).toNat) blank := by
            rw [setLs_at b c2 _ _ (fun x hxx => (hx x hxx).2) (by simp)]
            congr 1
            unfold rdOf
            rw [List.getD_eq_getElem?_getD, List.getElem?_replicate, if_pos (by omega)]
            rfl
          rw [e]
          exact Tot.yes c2.1 (Tot.yes (by omega) (Tot.pure _))
      · rw [if_neg (fun e => c2 e.2.1)]
        exact Tot.no (by rw [decide_eq_true_eq]; exact c2) (Tot.pure _)
    · rw [if_neg (fun e => c1 e.1)]
      exact Tot.no (by simp [c1]) (Tot.pure _)
  · rw [if_neg (fun e => c3 e.2.2)]
    exact Tot.no (by simp [c3]) (Tot.pure _)
theorem FnExactReadAt : laws_FnExactReadAt.Pure := by
  intro l m b ⟨hl, hok⟩ _ _
  obtain ⟨v, hv, hv2⟩ := szMarks_v l (by omega) (fun x hx => by have := hok x hx; exact ⟨by have := this.2.1.1; omega, by have := this.2.2.1; omega, this.2.2.2⟩)
  refine Tot.at_ ?_
  unfold laws_FnExactReadAt.f
  refine Tot.bind hv ?_
  by_cases h0 : v < 0
  · exact Tot.yes h0 (Tot.pure _)
  · obtain ⟨h1, h2⟩ := hv2 (by omega)
    have toV := toMarks_v l h1 h2
    have hs := smallL_cv h1 h2
    generalize l.map cvLayer = L at *
    refine Tot.no h0 (Tot.bind toV (Tot.bind (specReadR_v L m b hs) (Tot.bind toV (Tot.bind (implReadR_v L m b hs) (Tot.yes rfl ?_)))))
    refine Tot.step (fun k => laws_FnExactReadAt.j0.eq_2 ..) (Tot.no (by simp) ?_)
    exact Tot.bind toV (Tot.bind (eqMarks_v L hs) (Tot.yes rfl (Tot.pure _)))

end Go.Proofs.Ytleklbmodelehaa.Pure

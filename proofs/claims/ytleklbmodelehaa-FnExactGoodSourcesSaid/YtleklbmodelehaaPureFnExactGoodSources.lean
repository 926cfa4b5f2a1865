/- The plain law behind FnExactGoodSources: what the two sides compute is the same, for every input. No condition. -/
import Derived.Test.YtleklbmodelehaaPFnExactGoodSourcesx2
set_option linter.unusedVariables false
set_option linter.unusedSimpArgs false
namespace Go.Proofs.Ytleklbmodelehaa.Pure
open Go.RowKit Go.Proofs.Ytleklbmodelehaa.PFnExactGoodSources Go.Proofs.YtleklbmodelehaaW.PrintWords Go.Proofs.YtleklbmodelehaaW.PrintLast Go.Proofs.YtleklbmodelehaaW.PrintMore

theorem wrap_in {x : Int} (h0 : -9223372036854775808 ≤ x) (h1 : x ≤ 9223372036854775807) : wrap64 x = x := by unfold wrap64; omega
theorem wf_in {x : Int} (h : (Lit.int .i64 x).wf = true) : -9223372036854775808 ≤ x ∧ x ≤ 9223372036854775807 := by
  simp only [Lit.wf, IntKind.min, IntKind.max, IntKind.bits, IntKind.signed, Bool.and_eq_true, decide_eq_true_eq] at h
  exact ⟨by have := h.1; simpa using this, by have := h.2; simpa using this⟩
theorem toList_nil (s : ByteArray) : (s.toList == ([] : List UInt8)) = decide (s.size = 0) := by
  rw [Bool.eq_iff_iff]
  simp only [beq_iff_eq, decide_eq_true_eq, ByteArray.toList_eq]
  constructor
  · intro h
    have h2 : s.data.toList.length = 0 := by rw [h]; rfl
    rw [Array.length_toList] at h2
    exact h2
  · intro h
    have h2 : s.data.toList.length = 0 := by rw [Array.length_toList]; exact h
    exact List.eq_nil_of_length_eq_zero h2

/-- From some number of rounds on the answer is r. -/
def Tot {α : Type} (g : Nat → Option α) (r : α) : Prop := ∃ K, ∀ k, K ≤ k → g k = some r
theorem Tot.at_ {α : Type} {g : Nat → Option α} {r : α} (h : Tot g r) : ∃ k, g k = some r := by
  obtain ⟨K, hK⟩ := h
  exact ⟨K, hK K (Nat.le_refl _)⟩
theorem Tot.pure {α : Type} (r : α) : Tot (fun _ => some r) r := ⟨0, fun _ _ => rfl⟩
theorem Tot.of_eq {α : Type} {g : Nat → Option α} {r : α} (h : ∀ k, g k = some r) : Tot g r := ⟨0, fun k _ => h k⟩
theorem Tot.congr {α : Type} {g g' : Nat → Option α} {r : α} (he : ∀ k, g k = g' k) (h : Tot g' r) : Tot g r := by
  obtain ⟨K, hK⟩ := h
  exact ⟨K, fun k hk => (he k).trans (hK k hk)⟩
theorem Tot.bind {α β : Type} {g : Nat → Option α} {h : Nat → α → Option β} {a : α} {r : β} (hg : Tot g a) (hh : Tot (fun k => h k a) r) : Tot (fun k => (g k).bind (h k)) r := by
  obtain ⟨K, hK⟩ := hg
  obtain ⟨L, hL⟩ := hh
  refine ⟨max K L, fun k hk => ?_⟩
  show (g k).bind (h k) = some r
  rw [hK k (by omega)]
  exact hL k (by omega)
theorem Tot.step {α : Type} {F G : Nat → Option α} {r : α} (hF : ∀ k, F (k + 1) = G k) (h : Tot G r) : Tot F r := by
  obtain ⟨K, hK⟩ := h
  refine ⟨K + 1, fun k hk => ?_⟩
  obtain ⟨m, rfl⟩ : ∃ m, k = m + 1 := ⟨k - 1, by omega⟩
  rw [hF]
  exact hK m (by omega)
theorem Tot.yes {α : Type} {p : Prop} [Decidable p] {g h : Nat → Option α} {r : α} (hp : p) (hg : Tot g r) : Tot (fun k => if p then g k else h k) r := by
  simpa only [if_pos hp] using hg
theorem Tot.no {α : Type} {p : Prop} [Decidable p] {g h : Nat → Option α} {r : α} (hp : ¬ p) (hg : Tot h r) : Tot (fun k => if p then g k else h k) r := by
  simpa only [if_neg hp] using hg
theorem Tot.some_bind {α β : Type} {h : Nat → α → Option β} {a : α} {r : β} (hh : Tot (fun k => h k a) r) : Tot (fun k => (some a).bind (h k)) r := hh

theorem in_v (a b c : Int) : spec_l1In.f a b c = some (decide (b ≤ a ∧ a ≤ c)) := by
  unfold spec_l1In.f
  by_cases h : a ≥ b
  · rw [if_pos h]; congr 1; rw [decide_eq_decide]; omega
  · rw [if_neg h]; congr 1; symm; rw [decide_eq_false_iff_not]; omega

theorem within_v (a b c : Int) : impl_within.f a b c = some (decide (b ≤ a ∧ a ≤ c)) := by
  unfold impl_within.f
  by_cases h : b ≤ a
  · rw [if_pos h]; congr 1; rw [decide_eq_decide]; omega
  · rw [if_neg h]; congr 1; symm; rw [decide_eq_false_iff_not]; omega


theorem rdStr_at (a b : List ByteArray) (x : ByteArray) : (rdOf ByteArray.empty (a ++ x :: b) (a.length : Int)) = x := by simp [rdOf, List.getD]
theorem szStr_l : ∀ (b a : List ByteArray) (m : Int), 0 ≤ m → m ≤ 1048576 → ((a ++ b).length : Int) ≤ 1048576 → (∀ y ∈ b, y.size ≤ 140737488351232) → ∃ v, Tot (fun k => laws_szStringS.l0 k (a ++ b) m a.length) v ∧ v ≤ 1048576
  | [], a, m, h0, h1, hl, hs => ⟨m, by
    refine Tot.step (fun k => laws_szStringS.l0.eq_2 ..) ?_
    simp only [List.append_nil]
    exact Tot.no (by omega) (Tot.pure _), h1⟩
  | x :: b, a, m, h0, h1, hl, hs => by
    have hx := hs x (by simp)
    have hll : ((a ++ x :: b).length : Int) = a.length + b.length + 1 := by simp; omega
    by_cases hc : m - (x.size : Int) < 0
    · refine ⟨-1, Tot.step (fun k => laws_szStringS.l0.eq_2 ..) (Tot.yes (by omega) (Tot.yes (by omega) (Tot.yes ?_ (Tot.pure _)))), by omega⟩
      rw [rdStr_at, wrap_in (by omega) (by omega)]; exact hc
    · obtain ⟨v, hv, hv2⟩ := szStr_l b (a ++ [x]) (m - (x.size : Int)) (by omega) (by omega) (by simp at hll hl ⊢; omega) (fun y hy => hs y (by simp [hy]))
      refine ⟨v, Tot.step (fun k => laws_szStringS.l0.eq_2 ..) (Tot.yes (by omega) (Tot.yes (by omega) (Tot.no ?_ ?_))), hv2⟩
      · rw [rdStr_at, wrap_in (by omega) (by omega)]; exact hc
      · rw [rdStr_at, wrap_in (x := m - (x.size : Int)) (by omega) (by omega), wrap_in (x := (a.length : Int) + 1) (by omega) (by omega)]
        simpa using hv
theorem szStr_v (l : List ByteArray) (m : Int) (h0 : 0 ≤ m) (h1 : m ≤ 1048576) (hl : (l.length : Int) ≤ 9223372036850000000) (hs : ∀ y ∈ l, y.size ≤ 140737488351232) : ∃ v, Tot (fun k => laws_szStringS.f k l m) v ∧ v ≤ 1048576 ∧ (0 ≤ v → (l.length : Int) ≤ 1048576) := by
  unfold laws_szStringS.f
  rw [wrap_in (by omega) (by omega)]
  by_cases h : m - (l.length : Int) < 0
  · exact ⟨-1, Tot.yes h (Tot.pure _), by omega, fun h => by omega⟩
  · obtain ⟨v, hv, hv2⟩ := szStr_l l [] (m - (l.length : Int)) (by omega) (by omega) (by simp; omega) hs
    exact ⟨v, Tot.no h (by simpa using hv), hv2, fun _ => by omega⟩
theorem toStr_l : ∀ (b a : List ByteArray), ((a ++ b).length : Int) ≤ 9223372036854775806 → Tot (fun k => laws_toStringS.l0 k (a ++ b) (a ++ List.replicate b.length (⟨#[]⟩ : ByteArray)) a.length) (a ++ b)
  | [], a, h => by
    refine Tot.step (fun k => laws_toStringS.l0.eq_2 ..) ?_
    simp only [List.append_nil, List.length_nil, List.replicate_zero]
    exact Tot.no (by omega) (Tot.pure _)
  | x :: b, a, h => by
    refine Tot.step (fun k => laws_toStringS.l0.eq_2 ..) ?_
    have hl : ((a ++ x :: b).length : Int) = a.length + b.length + 1 := by simp; omega
    have hl2 : ((a ++ List.replicate (x :: b).length (⟨#[]⟩ : ByteArray)).length : Int) = a.length + b.length + 1 := by simp; omega
    refine Tot.yes (by omega) (Tot.yes (by omega) (Tot.yes (by omega) ?_))
    rw [rdStr_at, wrap_in (x := (a.length : Int) + 1) (by omega) (by omega)]
    have e : (a ++ List.replicate (x :: b).length (⟨#[]⟩ : ByteArray)).set ((a.length : Int)).toNat x = (a ++ [x]) ++ List.replicate b.length (⟨#[]⟩ : ByteArray) := by simp [List.replicate_succ]
    rw [e]
    have := toStr_l b (a ++ [x]) (by simp at hl h ⊢; omega)
    simpa using this
theorem toStr_v (l : List ByteArray) (h : (l.length : Int) ≤ 1048576) : Tot (fun k => laws_toStringS.f k l) l := by
  unfold laws_toStringS.f
  refine Tot.yes (by omega) (Tot.yes (by omega) ?_)
  have := toStr_l l [] (by simp; omega)
  simpa using this
theorem eqStr_l (a : List ByteArray) (ha : (a.length : Int) ≤ 9223372036854775806) : ∀ (d : Nat) (i : Int), 0 ≤ i → i + d = a.length → Tot (fun k => laws_eqStringS.l0 k a a i) true
  | 0, i, h0, h => by
    refine Tot.step (fun k => laws_eqStringS.l0.eq_2 ..) ?_
    exact Tot.no (by omega) (Tot.pure _)
  | d + 1, i, h0, h => by
    refine Tot.step (fun k => laws_eqStringS.l0.eq_2 ..) ?_
    refine Tot.yes (by omega) (Tot.yes h0 (Tot.yes (by omega) (Tot.yes rfl ?_)))
    rw [wrap_in (by omega) (by omega)]
    exact eqStr_l a ha d (i + 1) (by omega) (by omega)
theorem eqStr_v (a : List ByteArray) (ha : (a.length : Int) ≤ 9223372036854775806) : Tot (fun k => laws_eqStringS.f k a a) true := by
  unfold laws_eqStringS.f
  exact Tot.yes rfl (eqStr_l a ha a.length 0 (by omega) (by omega))
theorem specSrc_l (L : List ByteArray) (h0 : (L.length : Int) ≤ 9223372036850000000) : ∀ (b a : List ByteArray), a ++ b = L → Tot (fun k => spec_GoodSources.l0 k L L (L.length : Int) a.length) ((b.all fun x => alikeP x (L.headD ByteArray.empty)) && decide (1 ≤ (L.length : Int) ∧ (L.length : Int) ≤ 10))
  | [], a, h => by
    simp only [List.append_nil] at h
    subst h
    refine Tot.step (fun k => spec_GoodSources.l0.eq_2 ..) (Tot.no (by omega) ?_)
    simp only [in_v, Option.bind_some]
    exact Tot.pure _
  | x :: b, a, h => by
    have hl : (L.length : Int) = a.length + b.length + 1 := by rw [← h]; simp; omega
    refine Tot.step (fun k => spec_GoodSources.l0.eq_2 ..) (Tot.yes (by omega) (Tot.yes (by omega) (Tot.yes (by omega) (Tot.yes (by omega) ?_))))
    have e1 : rdOf ByteArray.empty L (a.length : Int) = x := by rw [← h]; exact rdStr_at ..
    have e2 : rdOf ByteArray.empty L 0 = L.headD ByteArray.empty := by cases L <;> simp [rdOf]
    rw [e1, e2, wrap_in (x := (a.length : Int) + 1) (by omega) (by omega), List.all_cons]
    have next := specSrc_l L h0 b (a ++ [x]) (by simpa using h)
    have next : Tot (fun k => spec_GoodSources.l0 k L L (L.length : Int) ((a.length : Int) + 1)) ((b.all fun x => alikeP x (L.headD ByteArray.empty)) && decide (1 ≤ (L.length : Int) ∧ (L.length : Int) ≤ 10)) := by simpa using next
    have ea : alikeP x (L.headD ByteArray.empty) = (decide ((x.size : Int) = ((L.headD ByteArray.empty).size : Int)) && decide ((x.size : Int) ≤ 20)) := rfl
    rw [ea]
    by_cases c1 : (x.size : Int) = ((L.headD ByteArray.empty).size : Int)
    · refine Tot.yes c1 ?_
      rw [decide_eq_true c1, Bool.true_and]
      by_cases c2 : (x.size : Int) > 20
      · have e : decide ((x.size : Int) ≤ 20) = false := decide_eq_false (by omega)
        rw [e]
        exact Tot.yes c2 (Tot.pure _)
      · have e : decide ((x.size : Int) ≤ 20) = true := decide_eq_true (by omega)
        rw [e, Bool.true_and]
        exact Tot.no c2 next
    · rw [decide_eq_false c1]
      exact Tot.no c1 (Tot.pure _)
theorem specSrc_v (L : List ByteArray) (h0 : (L.length : Int) ≤ 9223372036850000000) : Tot (fun k => spec_GoodSources.f k L) (alikeB L && decide (1 ≤ (L.length : Int) ∧ (L.length : Int) ≤ 10)) := by
  have := specSrc_l L h0 L [] rfl
  unfold spec_GoodSources.f
  simpa [alikeB] using this
theorem implSrc_v (L : List ByteArray) : impl_GoodSources.f L = some (alikeB L && decide (1 ≤ (L.length : Int) ∧ (L.length : Int) ≤ 10)) := by
  unfold impl_GoodSources.f impl_isMany.f impl_areAlike.f
  simp only [within_v, Option.bind_some]
  by_cases c : 1 ≤ (L.length : Int) ∧ (L.length : Int) ≤ 10
  · rw [if_pos (decide_eq_true c), decide_eq_true c, Bool.and_true]
  · rw [if_neg (by rw [decide_eq_true_eq]; exact c), decide_eq_false c, Bool.and_false]
theorem FnExactGoodSources : laws_FnExactGoodSources.Pure := by
  intro l ⟨hl, hs⟩
  obtain ⟨v, hv, hv1, hv2⟩ := szStr_v l 1048576 (by omega) (by omega) (by omega) hs
  refine Tot.at_ ?_
  unfold laws_FnExactGoodSources.f
  refine Tot.bind hv ?_
  by_cases h0 : v < 0
  · exact Tot.yes h0 (Tot.pure _)
  · have h1 := hv2 (by omega)
    simp only [implSrc_v, Option.bind_some]
    refine Tot.no h0 (Tot.bind (toStr_v l h1) (Tot.bind (specSrc_v l (by omega)) (Tot.bind (toStr_v l h1) (Tot.no (by simp) ?_))))
    exact Tot.bind (toStr_v l h1) (Tot.bind (eqStr_v l (by omega)) (Tot.yes rfl (Tot.pure _)))

end Go.Proofs.Ytleklbmodelehaa.Pure

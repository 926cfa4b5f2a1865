/- The plain law behind FnExactGoodAsks: what the two sides compute is the same, for every input. No condition. -/
import Derived.Test.YtdjekgeoaekplaaPFnExactGoodAsksx1
set_option linter.unusedVariables false
set_option linter.unusedSimpArgs false
namespace Go.Proofs.Ytdjekgeoaekplaa.Pure
open Go.RowKit Go.Proofs.Ytdjekgeoaekplaa.PFnExactGoodAsks Go.Proofs.YtdjekgeoaekplaaW.PrintWords Go.Proofs.YtdjekgeoaekplaaW.PrintLast Go.Proofs.YtdjekgeoaekplaaW.PrintMore

theorem wrap_in {x : Int} (h0 : -9223372036854775808 ≤ x) (h1 : x ≤ 9223372036854775807) : wrap64 x = x := by unfold wrap64; omega
theorem wf_in {x : Int} (h : (Lit.int .i64 x).wf = true) : -9223372036854775808 ≤ x ∧ x ≤ 9223372036854775807 := by
  simp only [Lit.wf, IntKind.min, IntKind.max, IntKind.bits, IntKind.signed, Bool.and_eq_true, decide_eq_true_eq] at h
  exact ⟨by have := h.1; simpa using this, by have := h.2; simpa using this⟩
theorem toList_nil (s : ByteArray) : (s.toList == ([] : List UInt8)) = decide (s.size = 0) := by
  rw [Bool.eq_iff_iff]
  simp only [beq_iff_eq, decide_eq_true_eq, ByteArray.toList_eq]
  constructor
  · intro h
    have h2 : s.data.toList.length = 0 := by rw [h]; rfl
    rw [Array.length_toList] at h2
    exact h2
  · intro h
    have h2 : s.data.toList.length = 0 := by rw [Array.length_toList]; exact h
    exact List.eq_nil_of_length_eq_zero h2

/-- From some number of rounds on the answer is r. -/
def Tot {α : Type} (g : Nat → Option α) (r : α) : Prop := ∃ K, ∀ k, K ≤ k → g k = some r
theorem Tot.at_ {α : Type} {g : Nat → Option α} {r : α} (h : Tot g r) : ∃ k, g k = some r := by
  obtain ⟨K, hK⟩ := h
  exact ⟨K, hK K (Nat.le_refl _)⟩
theorem Tot.pure {α : Type} (r : α) : Tot (fun _ => some r) r := ⟨0, fun _ _ => rfl⟩
theorem Tot.of_eq {α : Type} {g : Nat → Option α} {r : α} (h : ∀ k, g k = some r) : Tot g r := ⟨0, fun k _ => h k⟩
theorem Tot.congr {α : Type} {g g' : Nat → Option α} {r : α} (he : ∀ k, g k = g' k) (h : Tot g' r) : Tot g r := by
  obtain ⟨K, hK⟩ := h
  exact ⟨K, fun k hk => (he k).trans (hK k hk)⟩
theorem Tot.bind {α β : Type} {g : Nat → Option α} {h : Nat → α → Option β} {a : α} {r : β} (hg : Tot g a) (hh : Tot (fun k => h k a) r) : Tot (fun k => (g k).bind (h k)) r := by
  obtain ⟨K, hK⟩ := hg
  obtain ⟨L, hL⟩ := hh
  refine ⟨max K L, fun k hk => ?_⟩
  show (g k).bind (h k) = some r
  rw [hK k (by omega)]
  exact hL k (by omega)
theorem Tot.step {α : Type} {F G : Nat → Option α} {r : α} (hF : ∀ k, F (k + 1) = G k) (h : Tot G r) : Tot F r := by
  obtain ⟨K, hK⟩ := h
  refine ⟨K + 1, fun k hk => ?_⟩
  obtain ⟨m, rfl⟩ : ∃ m, k = m + 1 := ⟨k - 1, by omega⟩
  rw [hF]
  exact hK m (by omega)
theorem Tot.yes {α : Type} {p : Prop} [Decidable p] {g h : Nat → Option α} {r : α} (hp : p) (hg : Tot g r) : Tot (fun k => if p then g k else h k) r := by
  simpa only [if_pos hp] using hg
theorem Tot.no {α : Type} {p : Prop} [Decidable p] {g h : Nat → Option α} {r : α} (hp : ¬ p) (hg : Tot h r) : Tot (fun k => if p then g k else h k) r := by
  simpa only [if_neg hp] using hg
theorem Tot.some_bind {α β : Type} {h : Nat → α → Option β} {a : α} {r : β} (hh : Tot (fun k => h k a) r) : Tot (fun k => (some a).bind (h k)) r := hh

theorem in_v (a b c : Int) : spec_l1In.f a b c = some (decide (b ≤ a ∧ a ≤ c)) := by
  unfold spec_l1In.f
  by_cases h : a ≥ b
  · rw [if_pos h]; congr 1; rw [decide_eq_decide]; omega
  · rw [if_neg h]; congr 1; symm; rw [decide_eq_false_iff_not]; omega

theorem within_v (a b c : Int) : impl_within.f a b c = some (decide (b ≤ a ∧ a ≤ c)) := by
  unfold impl_within.f
  by_cases h : b ≤ a
  · rw [if_pos h]; congr 1; rw [decide_eq_decide]; omega
  · rw [if_neg h]; congr 1; symm; rw [decide_eq_false_iff_not]; omega


theorem all_l (lo hi : Int) : ∀ (b a : List Int), ((a ++ b).length : Int) ≤ 9223372036850000000 → Tot (fun k => spec_l1All.l0 k lo hi (a ++ b) ((a ++ b).length : Int) a.length) (b.all fun x => decide (lo ≤ x ∧ x ≤ hi))
  | [], a, h => by
    refine Tot.step (fun k => spec_l1All.l0.eq_2 ..) ?_
    exact Tot.no (by simp) (Tot.pure _)
  | x :: b, a, h => by
    have hl : ((a ++ x :: b).length : Int) = a.length + b.length + 1 := by simp; omega
    have hr : rd (a ++ x :: b) (a.length : Int) = x := by simp [rd, List.getD]
    refine Tot.step (fun k => spec_l1All.l0.eq_2 ..) (Tot.yes (by omega) (Tot.yes (by omega) (Tot.yes (by omega) ?_)))
    rw [hr, wrap_in (x := (a.length : Int) + 1) (by omega) (by omega)]
    simp only [in_v, Option.bind_some, List.all_cons]
    by_cases hx : lo ≤ x ∧ x ≤ hi
    · rw [decide_eq_true hx, Bool.true_and]
      refine Tot.yes rfl ?_
      have := all_l lo hi b (a ++ [x]) (by simp at hl h ⊢; omega)
      simpa using this
    · rw [decide_eq_false hx, Bool.false_and]
      exact Tot.no (by decide) (Tot.pure _)
theorem all_v (l : List Int) (lo hi : Int) (h : (l.length : Int) ≤ 9223372036850000000) : Tot (fun k => spec_l1All.f k l lo hi) (l.all fun x => decide (lo ≤ x ∧ x ≤ hi)) := by
  have := all_l lo hi l [] (by simpa using h)
  unfold spec_l1All.f
  simpa using this
def asksB (l : List Int) : Bool := decide ((l.length : Int) ≤ 8) && l.all isTrackB
theorem specAsks_v (l : List Int) (h : (l.length : Int) ≤ 9223372036850000000) : Tot (fun k => spec_GoodAsks.f k l) (asksB l) := by
  unfold spec_GoodAsks.f asksB
  by_cases hl : (l.length : Int) ≤ 8
  · rw [decide_eq_true hl, Bool.true_and]
    exact Tot.yes hl (Tot.bind (all_v l 0 200 h) (Tot.pure _))
  · rw [decide_eq_false hl, Bool.false_and]
    exact Tot.no hl (Tot.pure _)
theorem implAsks_v (l : List Int) : impl_GoodAsks.f l = some (asksB l) := rfl
theorem asksB_iff (l : List Int) : asksB l = true ↔ ((l.length : Int) ≤ 8 ∧ ∀ x ∈ l, 0 ≤ x ∧ x ≤ 200) := by
  simp [asksB, isTrackB]

theorem rd_at {l : List Int} {i : Int} (h0 : 0 ≤ i) (h1 : i < (l.length : Int)) : rd l i = l[i.toNat]'(by omega) := by
  unfold rd
  rw [List.getD_eq_getElem?_getD, List.getElem?_eq_getElem (by omega : i.toNat < l.length)]
  rfl
theorem eqInt_l (a : List Int) (ha : (a.length : Int) ≤ 9223372036854775806) : ∀ (d : Nat) (i : Int), 0 ≤ i → i + d = a.length → Tot (fun k => laws_eqIntS.l0 k a a i) true
  | 0, i, h0, h => by
    refine Tot.step (fun k => laws_eqIntS.l0.eq_2 ..) ?_
    exact Tot.no (by omega) (Tot.pure _)
  | d + 1, i, h0, h => by
    refine Tot.step (fun k => laws_eqIntS.l0.eq_2 ..) ?_
    refine Tot.yes (by omega) (Tot.yes h0 (Tot.yes (by omega) (Tot.yes rfl ?_)))
    rw [wrap_in (by omega) (by omega)]
    exact eqInt_l a ha d (i + 1) (by omega) (by omega)
theorem eqInt_v (a : List Int) (ha : (a.length : Int) ≤ 9223372036854775806) : Tot (fun k => laws_eqIntS.f k a a) true := by
  unfold laws_eqIntS.f
  exact Tot.yes rfl (eqInt_l a ha a.length 0 (by omega) (by omega))

theorem rdInt_at (a b : List Int) (x : Int) : (rd (a ++ x :: b) (a.length : Int)) = x := by simp [rd, List.getD]
theorem toInt_l : ∀ (b a : List Int), ((a ++ b).length : Int) ≤ 9223372036854775806 → Tot (fun k => laws_toIntS.l0 k (a ++ b) (a ++ List.replicate b.length 0) a.length) (a ++ b)
  | [], a, h => by
    refine Tot.step (fun k => laws_toIntS.l0.eq_2 ..) ?_
    simp only [List.append_nil, List.length_nil, List.replicate_zero]
    exact Tot.no (by omega) (Tot.pure _)
  | x :: b, a, h => by
    refine Tot.step (fun k => laws_toIntS.l0.eq_2 ..) ?_
    have hl : ((a ++ x :: b).length : Int) = a.length + b.length + 1 := by simp; omega
    have hl2 : ((a ++ List.replicate (x :: b).length 0).length : Int) = a.length + b.length + 1 := by simp; omega
    refine Tot.yes (by omega) (Tot.yes (by omega) (Tot.yes (by omega) ?_))
    rw [rdInt_at, wrap_in (x := (a.length : Int) + 1) (by omega) (by omega)]
    have e : (a ++ List.replicate (x :: b).length 0).set ((a.length : Int)).toNat x = (a ++ [x]) ++ List.replicate b.length 0 := by simp [List.replicate_succ]
    rw [e]
    have := toInt_l b (a ++ [x]) (by simp at hl h ⊢; omega)
    simpa using this
theorem toInt_v (l : List Int) (h : (l.length : Int) ≤ 1048576) : Tot (fun k => laws_toIntS.f k l) l := by
  unfold laws_toIntS.f
  refine Tot.yes (by omega) (Tot.yes (by omega) ?_)
  have := toInt_l l [] (by simp; omega)
  simpa using this
theorem FnExactGoodAsks : laws_FnExactGoodAsks.Pure := by
  intro l hl h8 hx
  refine Tot.at_ ?_
  unfold laws_FnExactGoodAsks.f
  by_cases hz : (l.length : Int) > 1048576
  · exact Tot.yes hz (Tot.pure _)
  · refine Tot.no hz (Tot.bind (toInt_v l (by omega)) (Tot.bind (specAsks_v l (by omega)) (Tot.bind (toInt_v l (by omega)) ?_)))
    simp only [implAsks_v, Option.bind_some]
    exact Tot.no (by simp) (Tot.bind (toInt_v l (by omega)) (Tot.bind (eqInt_v l (by omega)) (Tot.yes rfl (Tot.pure _))))

end Go.Proofs.Ytdjekgeoaekplaa.Pure

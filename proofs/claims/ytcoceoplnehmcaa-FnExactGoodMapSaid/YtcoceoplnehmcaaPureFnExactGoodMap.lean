/- The plain law behind FnExactGoodMap: what the two sides compute is the same, for every input. No condition. -/
import Derived.Test.YtcoceoplnehmcaaPFnExactGoodMapx2
set_option linter.unusedVariables false
set_option linter.unusedSimpArgs false
namespace Go.Proofs.Ytcoceoplnehmcaa.Pure
open Go.RowKit Go.Proofs.Ytcoceoplnehmcaa.PFnExactGoodMap Go.Proofs.YtcoceoplnehmcaaW.PrintWords Go.Proofs.YtcoceoplnehmcaaW.PrintLast Go.Proofs.YtcoceoplnehmcaaW.PrintMore

theorem wrap_in {x : Int} (h0 : -9223372036854775808 ≤ x) (h1 : x ≤ 9223372036854775807) : wrap64 x = x := by unfold wrap64; omega
theorem wf_in {x : Int} (h : (Lit.int .i64 x).wf = true) : -9223372036854775808 ≤ x ∧ x ≤ 9223372036854775807 := by
  simp only [Lit.wf, IntKind.min, IntKind.max, IntKind.bits, IntKind.signed, Bool.and_eq_true, decide_eq_true_eq] at h
  exact ⟨by have := h.1; simpa using this, by have := h.2; simpa using this⟩
theorem toList_nil (s : ByteArray) : (s.toList == ([] : List UInt8)) = decide (s.size = 0) := by
  rw [Bool.eq_iff_iff]
  simp only [beq_iff_eq, decide_eq_true_eq, ByteArray.toList_eq]
  constructor
  · intro h
    have h2 : s.data.toList.length = 0 := by rw [h]; rfl
    rw [Array.length_toList] at h2
    exact h2
  · intro h
    have h2 : s.data.toList.length = 0 := by rw [Array.length_toList]; exact h
    exact List.eq_nil_of_length_eq_zero h2

/-- From some number of rounds on the answer is r. -/
def Tot {α : Type} (g : Nat → Option α) (r : α) : Prop := ∃ K, ∀ k, K ≤ k → g k = some r
theorem Tot.at_ {α : Type} {g : Nat → Option α} {r : α} (h : Tot g r) : ∃ k, g k = some r := by
  obtain ⟨K, hK⟩ := h
  exact ⟨K, hK K (Nat.le_refl _)⟩
theorem Tot.pure {α : Type} (r : α) : Tot (fun _ => some r) r := ⟨0, fun _ _ => rfl⟩
theorem Tot.of_eq {α : Type} {g : Nat → Option α} {r : α} (h : ∀ k, g k = some r) : Tot g r := ⟨0, fun k _ => h k⟩
theorem Tot.congr {α : Type} {g g' : Nat → Option α} {r : α} (he : ∀ k, g k = g' k) (h : Tot g' r) : Tot g r := by
  obtain ⟨K, hK⟩ := h
  exact ⟨K, fun k hk => (he k).trans (hK k hk)⟩
theorem Tot.bind {α β : Type} {g : Nat → Option α} {h : Nat → α → Option β} {a : α} {r : β} (hg : Tot g a) (hh : Tot (fun k => h k a) r) : Tot (fun k => (g k).bind (h k)) r := by
  obtain ⟨K, hK⟩ := hg
  obtain ⟨L, hL⟩ := hh
  refine ⟨max K L, fun k hk => ?_⟩
  show (g k).bind (h k) = some r
  rw [hK k (by omega)]
  exact hL k (by omega)
theorem Tot.step {α : Type} {F G : Nat → Option α} {r : α} (hF : ∀ k, F (k + 1) = G k) (h : Tot G r) : Tot F r := by
  obtain ⟨K, hK⟩ := h
  refine ⟨K + 1, fun k hk => ?_⟩
  obtain ⟨m, rfl⟩ : ∃ m, k = m + 1 := ⟨k - 1, by omega⟩
  rw [hF]
  exact hK m (by omega)
theorem Tot.yes {α : Type} {p : Prop} [Decidable p] {g h : Nat → Option α} {r : α} (hp : p) (hg : Tot g r) : Tot (fun k => if p then g k else h k) r := by
  simpa only [if_pos hp] using hg
theorem Tot.no {α : Type} {p : Prop} [Decidable p] {g h : Nat → Option α} {r : α} (hp : ¬ p) (hg : Tot h r) : Tot (fun k => if p then g k else h k) r := by
  simpa only [if_neg hp] using hg
theorem Tot.some_bind {α β : Type} {h : Nat → α → Option β} {a : α} {r : β} (hh : Tot (fun k => h k a) r) : Tot (fun k => (some a).bind (h k)) r := hh

theorem in_v (a b c : Int) : spec_l1In.f a b c = some (decide (b ≤ a ∧ a ≤ c)) := by
  unfold spec_l1In.f
  by_cases h : a ≥ b
  · rw [if_pos h]; congr 1; rw [decide_eq_decide]; omega
  · rw [if_neg h]; congr 1; symm; rw [decide_eq_false_iff_not]; omega

theorem rdIStretch_at (a b : List S47) (x : S47) : rd_T47 (a ++ x :: b) (a.length : Int) = x := by simp [rd_T47, List.getD]
theorem rdLStretch_at (a b : List S45) (x : S45) : rd_T45 (a ++ x :: b) (a.length : Int) = x := by simp [rd_T45, List.getD]
def cvStretch (x : S45) : S47 := ⟨x.f0, x.f1, x.f2⟩
theorem toStretch_v (x : S45) (hs : True) : Tot (fun (_ : Nat) => laws_toStretch.f x.f0 x.f1 x.f2) (x.f0, x.f1, x.f2) := Tot.of_eq fun _ => by simp [laws_toStretch.f]
theorem toStretchS_l : ∀ (b a : List S45), ((a ++ b).length : Int) ≤ 9223372036854775806 → (∀ y ∈ b, True) → Tot (fun k => laws_toStretchS.l0 k (a ++ b) (a.map cvStretch ++ List.replicate b.length z47) a.length) ((a ++ b).map cvStretch)
  | [], a, h, hs => by
    refine Tot.step (fun k => laws_toStretchS.l0.eq_2 ..) ?_
    simp only [List.append_nil, List.length_nil, List.replicate_zero]
    exact Tot.no (by omega) (Tot.pure _)
  | x :: b, a, h, hs => by
    refine Tot.step (fun k => laws_toStretchS.l0.eq_2 ..) ?_
    have hl : ((a ++ x :: b).length : Int) = a.length + b.length + 1 := by simp; omega
    have hl2 : ((a.map cvStretch ++ List.replicate (x :: b).length z47).length : Int) = a.length + b.length + 1 := by simp; omega
    refine Tot.yes (by omega) (Tot.yes (by omega) ?_)
    rw [rdLStretch_at, wrap_in (x := (a.length : Int) + 1) (by omega) (by omega)]
    refine Tot.bind (toStretch_v x (hs x (by simp))) (Tot.yes (by omega) ?_)
    have e : (a.map cvStretch ++ List.replicate (x :: b).length z47).set ((a.length : Int)).toNat (cvStretch x) = (a ++ [x]).map cvStretch ++ List.replicate b.length z47 := by
      rw [List.length_cons, List.replicate_succ, List.set_append_right _ _ (by simp)]
      simp
    have e2 : (⟨x.f0, x.f1, x.f2⟩ : S47) = cvStretch x := rfl
    dsimp only
    rw [e2, e]
    have := toStretchS_l b (a ++ [x]) (by simp at hl h ⊢; omega) (fun y hy => hs y (by simp [hy]))
    simpa using this
theorem toStretchS_v (l : List S45) (h : (l.length : Int) ≤ 1048576) (hs : ∀ y ∈ l, True) : Tot (fun k => laws_toStretchS.f k l) (l.map cvStretch) := by
  unfold laws_toStretchS.f
  refine Tot.yes (by omega) (Tot.yes (by omega) ?_)
  have := toStretchS_l l [] (by simp; omega) hs
  simpa using this
theorem eqStretch_v (x : S47) (hs : True) : Tot (fun (_ : Nat) => laws_eqStretch.f x.f0 x.f1 x.f2 x.f0 x.f1 x.f2) true := Tot.of_eq fun _ => by simp [laws_eqStretch.f]
theorem eqStretchS_l : ∀ (b a : List S47), ((a ++ b).length : Int) ≤ 9223372036854775806 → (∀ y ∈ b, True) → Tot (fun k => laws_eqStretchS.l0 k (a ++ b) (a ++ b) a.length) true
  | [], a, h, hs => by
    refine Tot.step (fun k => laws_eqStretchS.l0.eq_2 ..) ?_
    simp only [List.append_nil]
    exact Tot.no (by omega) (Tot.pure _)
  | x :: b, a, h, hs => by
    refine Tot.step (fun k => laws_eqStretchS.l0.eq_2 ..) ?_
    have hl : ((a ++ x :: b).length : Int) = a.length + b.length + 1 := by simp; omega
    refine Tot.yes (by omega) (Tot.yes (by omega) (Tot.yes (by omega) ?_))
    rw [rdIStretch_at, wrap_in (x := (a.length : Int) + 1) (by omega) (by omega)]
    refine Tot.bind (eqStretch_v x (hs x (by simp))) (Tot.yes rfl ?_)
    have := eqStretchS_l b (a ++ [x]) (by simp at hl h ⊢; omega) (fun y hy => hs y (by simp [hy]))
    simpa using this
theorem eqStretchS_v (l : List S47) (h : (l.length : Int) ≤ 9223372036854775806) (hs : ∀ y ∈ l, True) : Tot (fun k => laws_eqStretchS.f k l l) true := by
  unfold laws_eqStretchS.f
  refine Tot.yes rfl ?_
  have := eqStretchS_l l [] (by simpa using h) hs
  simpa using this
theorem szStretchS_v (l : List S45) (m : Int) (h0 : 0 ≤ m) (h1 : m ≤ 1048576) (hl : (l.length : Int) ≤ 9223372036850000000) : ∃ v, laws_szStretchS.f l m = some v ∧ v ≤ 1048576 ∧ (0 ≤ v → (l.length : Int) ≤ 1048576) := by
  unfold laws_szStretchS.f
  rw [wrap_in (by omega) (by omega)]
  by_cases h : m - (l.length : Int) < 0
  · exact ⟨-1, by rw [if_pos h], by omega, fun h => by omega⟩
  · exact ⟨_, by rw [if_neg h], by omega, fun _ => by omega⟩
/-- A stretch that is good. -/
def goodS (x : S47) : Bool := decide (1 ≤ x.f1 ∧ x.f1 ≤ 16 ∧ 0 ≤ x.f0 ∧ x.f0 ≤ 16 - x.f1 ∧ 0 ≤ x.f2 ∧ x.f2 ≤ 10001 - x.f1)
theorem goodS_iff (x : S47) : goodS x = true ↔ (1 ≤ x.f1 ∧ x.f1 ≤ 16 ∧ 0 ≤ x.f0 ∧ x.f0 ≤ 16 - x.f1 ∧ 0 ≤ x.f2 ∧ x.f2 ≤ 10001 - x.f1) := by simp [goodS]
def pairS (y x : S47) : Bool := decide (¬ x.f0 < y.f0 + y.f1 ∧ ¬ (x.f0 = y.f0 + y.f1 ∧ x.f2 = y.f2 + y.f1))
def goodFrom : Option S47 → List S47 → Bool
  | _, [] => true
  | none, x :: r => goodS x && goodFrom (some x) r
  | some y, x :: r => goodS x && pairS y x && goodFrom (some x) r
theorem specS_v (x : S47) : spec_l4Stretch.f x.f0 x.f1 x.f2 = some (goodS x) := by
  unfold spec_l4Stretch.f
  simp only [in_v, Option.bind_some]
  by_cases h : 1 ≤ x.f1 ∧ x.f1 ≤ 16
  · rw [if_pos (decide_eq_true h), wrap_in (by omega) (by omega), wrap_in (by omega) (by omega)]
    by_cases h2 : 0 ≤ x.f0 ∧ x.f0 ≤ 16 - x.f1
    · rw [if_pos (decide_eq_true h2)]; congr 1; unfold goodS; rw [decide_eq_decide]; omega
    · rw [if_neg (by simp [h2])]; congr 1; symm; unfold goodS; rw [decide_eq_false_iff_not]; omega
  · rw [if_neg (by simp [h])]; congr 1; symm; unfold goodS; rw [decide_eq_false_iff_not]; omega
theorem implS_v (x : S47) (h1 : -9223372036854775808 ≤ x.f1 ∧ x.f1 ≤ 9223372036854775807) : impl_Stretch_isGood.f x.f0 x.f1 x.f2 = some (goodS x) := by
  unfold impl_Stretch_isGood.f impl_isRun.f
  by_cases h : x.f0 ≥ 0
  · rw [if_pos h]
    by_cases h2 : x.f1 ≥ 1
    · rw [if_pos h2, wrap_in (by omega) (by omega), Option.bind_some]
      by_cases h3 : x.f0 ≤ 16 - x.f1
      · rw [if_pos (decide_eq_true h3)]
        by_cases h4 : x.f2 ≥ 0
        · rw [if_pos h4, wrap_in (x := 10000 - x.f1) (by omega) (by omega), wrap_in (by omega) (by omega)]; congr 1; unfold goodS; rw [decide_eq_decide]; omega
        · rw [if_neg h4]; congr 1; symm; unfold goodS; rw [decide_eq_false_iff_not]; omega
      · rw [if_neg (by simp [h3])]; congr 1; symm; unfold goodS; rw [decide_eq_false_iff_not]; omega
    · rw [if_neg h2, Option.bind_some, if_neg (by simp)]; congr 1; symm; unfold goodS; rw [decide_eq_false_iff_not]; omega
  · rw [if_neg h, Option.bind_some, if_neg (by simp)]; congr 1; symm; unfold goodS; rw [decide_eq_false_iff_not]; omega
theorem rd_prev (a b : List S47) (y : S47) : rd_T47 ((a ++ [y]) ++ b) (a.length : Int) = y := by simp [rd_T47, List.getD]
theorem specMap_l : ∀ (b a : List S47), ((a ++ b).length : Int) ≤ 9223372036850000000 → (∀ y ∈ a, goodS y = true) → Tot (fun k => spec_GoodMap.l0 k (a ++ b) (a ++ b) ((a ++ b).length : Int) a.length) (goodFrom a.getLast? b)
  | [], a, h, hg => by
    refine Tot.step (fun k => spec_GoodMap.l0.eq_2 ..) ?_
    have e : goodFrom a.getLast? [] = true := by cases a.getLast? <;> rfl
    rw [e]
    exact Tot.no (by simp) (Tot.pure _)
  | x :: b, a, h, hg => by
    have hl : ((a ++ x :: b).length : Int) = a.length + b.length + 1 := by simp; omega
    have next : goodS x = true → Tot (fun k => spec_GoodMap.l0 k (a ++ x :: b) (a ++ x :: b) ((a ++ x :: b).length : Int) (wrap64 ((a.length : Int) + 1))) (goodFrom (some x) b) := fun hx => by
      have := specMap_l b (a ++ [x]) (by simp at hl h ⊢; omega) (fun y hy => by rcases List.mem_append.1 hy with hy | hy; exact hg y hy; rw [List.mem_singleton.1 hy]; exact hx)
      rw [wrap_in (by omega) (by omega)]
      simpa using this
    refine Tot.step (fun k => spec_GoodMap.l0.eq_2 ..) (Tot.yes (by omega) (Tot.yes (by omega) (Tot.yes (by omega) ?_)))
    rw [rdIStretch_at]
    simp only [specS_v, Option.bind_some]
    by_cases hx : goodS x = true
    · refine Tot.yes hx ?_
      rcases List.eq_nil_or_concat a with rfl | ⟨a', y, rfl⟩
      · have e : goodFrom (List.getLast? []) (x :: b) = goodFrom (some x) b := by simp [goodFrom, hx]
        rw [e]
        exact Tot.no (by simp) (next hx)
      · rw [List.concat_eq_append] at *
        have hy : goodS y = true := hg y (by simp)
        have hyb := (goodS_iff y).1 hy
        have hxb := (goodS_iff x).1 hx
        have e : goodFrom (List.getLast? (a' ++ [y])) (x :: b) = (pairS y x && goodFrom (some x) b) := by simp [goodFrom, hx]
        rw [e]
        have hL : ((a' ++ [y]).length : Int) = a'.length + 1 := by simp
        have hw : wrap64 (((a' ++ [y]).length : Int) - 1) = (a'.length : Int) := (wrap_in (by omega) (by omega)).trans (by omega)
        refine Tot.yes (by omega) ?_
        rw [hw]
        refine Tot.yes (by omega) (Tot.yes (by omega) ?_)
        rw [rd_prev, wrap_in (x := y.f0 + y.f1) (by omega) (by omega), wrap_in (x := y.f2 + y.f1) (by omega) (by omega)]
        by_cases h1 : x.f0 < y.f0 + y.f1
        · have ep : pairS y x = false := by unfold pairS; rw [decide_eq_false_iff_not]; omega
          rw [ep]
          exact Tot.yes h1 (Tot.pure _)
        · refine Tot.no h1 ?_
          by_cases h2 : x.f0 = y.f0 + y.f1
          · refine Tot.yes h2 ?_
            by_cases h3 : x.f2 = y.f2 + y.f1
            · have ep : pairS y x = false := by unfold pairS; rw [decide_eq_false_iff_not]; omega
              rw [ep]
              exact Tot.yes h3 (Tot.pure _)
            · have ep : pairS y x = true := by unfold pairS; rw [decide_eq_true_eq]; omega
              rw [ep]
              exact Tot.no h3 (next hx)
          · have ep : pairS y x = true := by unfold pairS; rw [decide_eq_true_eq]; omega
            rw [ep]
            exact Tot.no h2 (next hx)
    · have e : goodFrom a.getLast? (x :: b) = false := by cases a.getLast? <;> simp [goodFrom, hx]
      rw [e]
      exact Tot.no hx (Tot.pure _)
theorem implMap_l : ∀ (b a : List S47), ((a ++ b).length : Int) ≤ 9223372036850000000 → (∀ y ∈ a, goodS y = true) → (∀ y ∈ b, -9223372036854775808 ≤ y.f1 ∧ y.f1 ≤ 9223372036854775807) → Tot (fun k => impl_GoodMap.l0 k (a ++ b) (a ++ b) ((a ++ b).length : Int) a.length) (goodFrom a.getLast? b && decide (((a ++ b).length : Int) ≤ 16))
  | [], a, h, hg, hb => by
    refine Tot.step (fun k => impl_GoodMap.l0.eq_2 ..) ?_
    have e : goodFrom a.getLast? [] = true := by cases a.getLast? <;> rfl
    rw [e, Bool.true_and]
    exact Tot.no (by simp) (Tot.pure _)
  | x :: b, a, h, hg, hb => by
    have hl : ((a ++ x :: b).length : Int) = a.length + b.length + 1 := by simp; omega
    have next : goodS x = true → Tot (fun k => impl_GoodMap.l0 k (a ++ x :: b) (a ++ x :: b) ((a ++ x :: b).length : Int) (wrap64 ((a.length : Int) + 1))) (goodFrom (some x) b && decide (((a ++ x :: b).length : Int) ≤ 16)) := fun hx => by
      have := implMap_l b (a ++ [x]) (by simp at hl h ⊢; omega) (fun y hy => by rcases List.mem_append.1 hy with hy | hy; exact hg y hy; rw [List.mem_singleton.1 hy]; exact hx) (fun y hy => hb y (by simp [hy]))
      rw [wrap_in (by omega) (by omega)]
      simpa using this
    refine Tot.step (fun k => impl_GoodMap.l0.eq_2 ..) (Tot.yes (by omega) (Tot.yes (by omega) (Tot.yes (by omega) ?_)))
    rw [rdIStretch_at]
    simp only [implS_v x (hb x (by simp)), Option.bind_some]
    by_cases hx : goodS x = true
    · refine Tot.yes hx ?_
      rcases List.eq_nil_or_concat a with rfl | ⟨a', y, rfl⟩
      · have e : goodFrom (List.getLast? []) (x :: b) = goodFrom (some x) b := by simp [goodFrom, hx]
        rw [e]
        exact Tot.yes (by simp) (next hx)
      · rw [List.concat_eq_append] at *
        have hy : goodS y = true := hg y (by simp)
        have hyb := (goodS_iff y).1 hy
        have hxb := (goodS_iff x).1 hx
        have e : goodFrom (List.getLast? (a' ++ [y])) (x :: b) = (pairS y x && goodFrom (some x) b) := by simp [goodFrom, hx]
        rw [e]
        have hL : ((a' ++ [y]).length : Int) = a'.length + 1 := by simp
        have hw : wrap64 (((a' ++ [y]).length : Int) - 1) = (a'.length : Int) := (wrap_in (by omega) (by omega)).trans (by omega)
        refine Tot.no (by omega) ?_
        rw [hw]
        refine Tot.yes (by omega) (Tot.yes (by omega) ?_)
        rw [rd_prev, wrap_in (x := y.f0 + y.f1) (by omega) (by omega), wrap_in (x := y.f2 + y.f1) (by omega) (by omega)]
        by_cases h1 : x.f0 < y.f0 + y.f1
        · have ep : pairS y x = false := by unfold pairS; rw [decide_eq_false_iff_not]; omega
          rw [ep]
          exact Tot.yes h1 (Tot.pure _)
        · refine Tot.no h1 ?_
          by_cases h2 : x.f0 = y.f0 + y.f1
          · refine Tot.yes h2 ?_
            by_cases h3 : x.f2 = y.f2 + y.f1
            · have ep : pairS y x = false := by unfold pairS; rw [decide_eq_false_iff_not]; omega
              rw [ep]
              exact Tot.yes h3 (Tot.pure _)
            · have ep : pairS y x = true := by unfold pairS; rw [decide_eq_true_eq]; omega
              rw [ep]
              exact Tot.no h3 (next hx)
          · have ep : pairS y x = true := by unfold pairS; rw [decide_eq_true_eq]; omega
            rw [ep]
            exact Tot.no h2 (next hx)
    · have e : goodFrom a.getLast? (x :: b) = false := by cases a.getLast? <;> simp [goodFrom, hx]
      rw [e]
      exact Tot.no hx (Tot.pure _)
theorem goodFrom_short : ∀ (b : List S47) (y : S47), goodS y = true → goodFrom (some y) b = true → y.f0 + y.f1 + b.length ≤ 16
  | [], y, hy, _ => by have := (goodS_iff y).1 hy; simp; omega
  | x :: b, y, hy, h => by
    simp only [goodFrom, Bool.and_eq_true] at h
    obtain ⟨⟨hx, hp⟩, hr⟩ := h
    have h1 := goodFrom_short b x hx hr
    have h2 := (goodS_iff x).1 hx
    unfold pairS at hp
    have h3 := of_decide_eq_true hp
    simp only [List.length_cons]
    omega
theorem goodMap_short (l : List S47) (h : goodFrom none l = true) : (l.length : Int) ≤ 16 := by
  cases l with
  | nil => simp
  | cons x b =>
    simp only [goodFrom, Bool.and_eq_true] at h
    have h1 := goodFrom_short b x h.1 h.2
    have h2 := (goodS_iff x).1 h.1
    simp only [List.length_cons]
    omega
theorem specMap_v (l : List S47) (h : (l.length : Int) ≤ 9223372036850000000) : Tot (fun k => spec_GoodMap.f k l) (goodFrom none l) := by
  have := specMap_l l [] (by simpa using h) (fun y hy => by simp at hy)
  unfold spec_GoodMap.f
  simpa using this
theorem implMap_v (l : List S47) (h : (l.length : Int) ≤ 9223372036850000000) (hb : ∀ y ∈ l, -9223372036854775808 ≤ y.f1 ∧ y.f1 ≤ 9223372036854775807) : Tot (fun k => impl_GoodMap.f k l) (goodFrom none l) := by
  have := implMap_l l [] (by simpa using h) (fun y hy => by simp at hy) hb
  unfold impl_GoodMap.f
  have e : goodFrom none l = (goodFrom none l && decide ((l.length : Int) ≤ 16)) := by
    by_cases hg : goodFrom none l = true
    · rw [hg, decide_eq_true (goodMap_short l hg)]; rfl
    · rw [Bool.eq_false_iff.2 hg]; rfl
  rw [e]
  simpa using this

theorem FnExactGoodMap : laws_FnExactGoodMap.Pure := by
  intro l ⟨hl, hok⟩
  obtain ⟨v, hv, hv1, hv2⟩ := szStretchS_v l 1048576 (by omega) (by omega) (by omega)
  refine Tot.at_ ?_
  unfold laws_FnExactGoodMap.f
  simp only [hv, Option.bind_some]
  by_cases h0 : v < 0
  · exact Tot.yes h0 (Tot.pure _)
  · have hs := hv2 (by omega)
    have hb : ∀ y ∈ l.map cvStretch, -9223372036854775808 ≤ y.f1 ∧ y.f1 ≤ 9223372036854775807 := fun y hy => by
      obtain ⟨x, hx, rfl⟩ := List.mem_map.1 hy
      exact wf_in (hok x hx).2.1
    refine Tot.no h0 (Tot.bind (toStretchS_v l hs (fun _ _ => trivial)) ?_)
    refine Tot.bind (specMap_v _ (by simp; omega)) (Tot.bind (toStretchS_v l hs (fun _ _ => trivial)) ?_)
    refine Tot.bind (implMap_v _ (by simp; omega) hb) (Tot.no (by simp) ?_)
    refine Tot.bind (toStretchS_v l hs (fun _ _ => trivial)) (Tot.bind (eqStretchS_v _ (by simp; omega) (fun _ _ => trivial)) (Tot.yes rfl (Tot.pure _)))

end Go.Proofs.Ytcoceoplnehmcaa.Pure

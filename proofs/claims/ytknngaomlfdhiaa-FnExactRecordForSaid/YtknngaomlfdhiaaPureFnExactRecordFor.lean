/- The plain law behind FnExactRecordFor: what the two sides compute is the same, for every input. No condition. -/
import Derived.Test.YtknngaomlfdhiaaPFnExactRecordForx2
set_option linter.unusedVariables false
set_option linter.unusedSimpArgs false
namespace Go.Proofs.Ytknngaomlfdhiaa.Pure
open Go.RowKit Go.Proofs.Ytknngaomlfdhiaa.PFnExactRecordFor Go.Proofs.YtknngaomlfdhiaaW.PrintWords Go.Proofs.YtknngaomlfdhiaaW.PrintLast Go.Proofs.YtknngaomlfdhiaaW.PrintMore

theorem wrap_in {x : Int} (h0 : -9223372036854775808 ≤ x) (h1 : x ≤ 9223372036854775807) : wrap64 x = x := by unfold wrap64; omega
theorem wf_in {x : Int} (h : (Lit.int .i64 x).wf = true) : -9223372036854775808 ≤ x ∧ x ≤ 9223372036854775807 := by
  simp only [Lit.wf, IntKind.min, IntKind.max, IntKind.bits, IntKind.signed, Bool.and_eq_true, decide_eq_true_eq] at h
  exact ⟨by have := h.1; simpa using this, by have := h.2; simpa using this⟩
theorem toList_nil (s : ByteArray) : (s.toList == ([] : List UInt8)) = decide (s.size = 0) := by
  rw [Bool.eq_iff_iff]
  simp only [beq_iff_eq, decide_eq_true_eq, ByteArray.toList_eq]
  constructor
  · intro h
    have h2 : s.data.toList.length = 0 := by rw [h]; rfl
    rw [Array.length_toList] at h2
    exact h2
  · intro h
    have h2 : s.data.toList.length = 0 := by rw [Array.length_toList]; exact h
    exact List.eq_nil_of_length_eq_zero h2

theorem in_v (a b c : Int) : spec_l1In.f a b c = some (decide (b ≤ a ∧ a ≤ c)) := by
  unfold spec_l1In.f
  by_cases h : a ≥ b
  · rw [if_pos h]; congr 1; rw [decide_eq_decide]; omega
  · rw [if_neg h]; congr 1; symm; rw [decide_eq_false_iff_not]; omega
theorem within_v (a b c : Int) : impl_within.f a b c = some (decide (b ≤ a ∧ a ≤ c)) := by
  unfold impl_within.f
  by_cases h : b ≤ a
  · rw [if_pos h]; congr 1; rw [decide_eq_decide]; omega
  · rw [if_neg h]; congr 1; symm; rw [decide_eq_false_iff_not]; omega

def goodR (k a l : Int) (s : ByteArray) : Bool :=
  if k = 1 then decide (1 ≤ l ∧ l ≤ 4 ∧ 0 ≤ a ∧ a ≤ 16 - l ∧ (s.size : Int) = 2 * l) else if k = 2 then decide (1 ≤ l ∧ l ≤ 4 ∧ 0 ≤ a ∧ a ≤ 16 - l ∧ s.size = 0) else if k = 3 then decide (0 ≤ a ∧ a ≤ 200 ∧ l = 0 ∧ s.size = 0) else false
theorem where_v (k a l : Int) (s : ByteArray) : spec_l3Where.f k a l s = some (decide (1 ≤ l ∧ l ≤ 4 ∧ 0 ≤ a ∧ a ≤ 16 - l)) := by
  unfold spec_l3Where.f
  simp only [in_v, Option.bind_some]
  by_cases h : 1 ≤ l ∧ l ≤ 4
  · rw [if_pos (decide_eq_true h)]; congr 1; rw [wrap_in (by omega) (by omega), decide_eq_decide]; omega
  · rw [if_neg (by rw [decide_eq_false h]; decide)]; congr 1; symm; rw [decide_eq_false_iff_not]; omega
theorem specRecord_v (k a l : Int) (s : ByteArray) : spec_GoodRecord.f k a l s = some (goodR k a l s) := by
  unfold spec_GoodRecord.f goodR
  simp only [where_v, in_v, Option.bind_some, toList_nil]
  by_cases h1 : k = 1
  · rw [if_pos h1, if_pos h1]
    by_cases h : 1 ≤ l ∧ l ≤ 4 ∧ 0 ≤ a ∧ a ≤ 16 - l
    · rw [if_pos (decide_eq_true h), wrap_in (by omega) (by omega)]; congr 1; rw [Bool.eq_iff_iff, beq_iff_eq, decide_eq_true_eq]; omega
    · rw [if_neg (by rw [decide_eq_false h]; decide)]; congr 1; symm; rw [decide_eq_false_iff_not]; omega
  · rw [if_neg h1, if_neg h1]
    by_cases h2 : k = 2
    · rw [if_pos h2, if_pos h2]
      by_cases h : 1 ≤ l ∧ l ≤ 4 ∧ 0 ≤ a ∧ a ≤ 16 - l
      · rw [if_pos (decide_eq_true h)]; congr 1; rw [decide_eq_decide]; omega
      · rw [if_neg (by rw [decide_eq_false h]; decide)]; congr 1; symm; rw [decide_eq_false_iff_not]; omega
    · rw [if_neg h2, if_neg h2]
      by_cases h3 : k = 3
      · rw [if_pos h3, if_pos h3]
        by_cases h : 0 ≤ a ∧ a ≤ 200
        · rw [if_pos (decide_eq_true h)]
          by_cases h4 : l = 0
          · rw [if_pos h4]; congr 1; rw [decide_eq_decide]; omega
          · rw [if_neg h4]; congr 1; symm; rw [decide_eq_false_iff_not]; omega
        · rw [if_neg (by rw [decide_eq_false h]; decide)]; congr 1; symm; rw [decide_eq_false_iff_not]; omega
      · rw [if_neg h3, if_neg h3]
theorem isRun_v (a l : Int) (hl : -9223372036854775808 ≤ l ∧ l ≤ 9223372036854775807) : impl_isRun.f a l = some (decide (0 ≤ a ∧ 1 ≤ l ∧ a ≤ 16 - l)) := by
  unfold impl_isRun.f
  by_cases h : a ≥ 0
  · rw [if_pos h]
    by_cases h2 : l ≥ 1
    · rw [if_pos h2, wrap_in (by omega) (by omega)]; congr 1; rw [decide_eq_decide]; omega
    · rw [if_neg h2]; congr 1; symm; rw [decide_eq_false_iff_not]; omega
  · rw [if_neg h]; congr 1; symm; rw [decide_eq_false_iff_not]; omega
theorem implRecord_v (k a l : Int) (s : ByteArray) (hl : -9223372036854775808 ≤ l ∧ l ≤ 9223372036854775807) : impl_GoodRecord.f k a l s = some (goodR k a l s) := by
  unfold impl_GoodRecord.f goodR
  simp only [within_v, isRun_v a l hl, Option.bind_some, toList_nil]
  by_cases h1 : k = 1
  · rw [if_pos h1, if_pos h1]
    by_cases h : 1 ≤ l ∧ l ≤ 4
    · rw [if_pos (decide_eq_true h)]
      by_cases h' : 0 ≤ a ∧ 1 ≤ l ∧ a ≤ 16 - l
      · rw [if_pos (decide_eq_true h'), wrap_in (by omega) (by omega)]; congr 1; rw [Bool.eq_iff_iff, beq_iff_eq, decide_eq_true_eq]; omega
      · rw [if_neg (by rw [decide_eq_false h']; decide)]; congr 1; symm; rw [decide_eq_false_iff_not]; omega
    · rw [if_neg (by rw [decide_eq_false h]; decide)]; congr 1; symm; rw [decide_eq_false_iff_not]; omega
  · rw [if_neg h1, if_neg h1]
    by_cases h2 : k = 2
    · rw [if_pos h2, if_pos h2]
      by_cases h : 1 ≤ l ∧ l ≤ 4
      · rw [if_pos (decide_eq_true h)]
        by_cases h' : 0 ≤ a ∧ 1 ≤ l ∧ a ≤ 16 - l
        · rw [if_pos (decide_eq_true h')]; congr 1; rw [decide_eq_decide]; omega
        · rw [if_neg (by rw [decide_eq_false h']; decide)]; congr 1; symm; rw [decide_eq_false_iff_not]; omega
      · rw [if_neg (by rw [decide_eq_false h]; decide)]; congr 1; symm; rw [decide_eq_false_iff_not]; omega
    · rw [if_neg h2, if_neg h2]
      by_cases h3 : k = 3
      · rw [if_pos h3, if_pos h3]
        by_cases h : 0 ≤ a ∧ a ≤ 200
        · rw [if_pos (decide_eq_true h)]
          by_cases h4 : l = 0
          · rw [if_pos h4]; congr 1; rw [decide_eq_decide]; omega
          · rw [if_neg h4]; congr 1; symm; rw [decide_eq_false_iff_not]; omega
        · rw [if_neg (by rw [decide_eq_false h]; decide)]; congr 1; symm; rw [decide_eq_false_iff_not]; omega
      · rw [if_neg h3, if_neg h3]

/-- From some number of rounds on the answer is r. -/
def Tot {α : Type} (g : Nat → Option α) (r : α) : Prop := ∃ K, ∀ k, K ≤ k → g k = some r
theorem Tot.at_ {α : Type} {g : Nat → Option α} {r : α} (h : Tot g r) : ∃ k, g k = some r := by
  obtain ⟨K, hK⟩ := h
  exact ⟨K, hK K (Nat.le_refl _)⟩
theorem Tot.pure {α : Type} (r : α) : Tot (fun _ => some r) r := ⟨0, fun _ _ => rfl⟩
theorem Tot.of_eq {α : Type} {g : Nat → Option α} {r : α} (h : ∀ k, g k = some r) : Tot g r := ⟨0, fun k _ => h k⟩
theorem Tot.congr {α : Type} {g g' : Nat → Option α} {r : α} (he : ∀ k, g k = g' k) (h : Tot g' r) : Tot g r := by
  obtain ⟨K, hK⟩ := h
  exact ⟨K, fun k hk => (he k).trans (hK k hk)⟩
theorem Tot.bind {α β : Type} {g : Nat → Option α} {h : Nat → α → Option β} {a : α} {r : β} (hg : Tot g a) (hh : Tot (fun k => h k a) r) : Tot (fun k => (g k).bind (h k)) r := by
  obtain ⟨K, hK⟩ := hg
  obtain ⟨L, hL⟩ := hh
  refine ⟨max K L, fun k hk => ?_⟩
  show (g k).bind (h k) = some r
  rw [hK k (by omega)]
  exact hL k (by omega)
theorem Tot.step {α : Type} {F G : Nat → Option α} {r : α} (hF : ∀ k, F (k + 1) = G k) (h : Tot G r) : Tot F r := by
  obtain ⟨K, hK⟩ := h
  refine ⟨K + 1, fun k hk => ?_⟩
  obtain ⟨m, rfl⟩ : ∃ m, k = m + 1 := ⟨k - 1, by omega⟩
  rw [hF]
  exact hK m (by omega)
theorem Tot.yes {α : Type} {p : Prop} [Decidable p] {g h : Nat → Option α} {r : α} (hp : p) (hg : Tot g r) : Tot (fun k => if p then g k else h k) r := by
  simpa only [if_pos hp] using hg
theorem Tot.no {α : Type} {p : Prop} [Decidable p] {g h : Nat → Option α} {r : α} (hp : ¬ p) (hg : Tot h r) : Tot (fun k => if p then g k else h k) r := by
  simpa only [if_neg hp] using hg
theorem Tot.some_bind {α β : Type} {h : Nat → α → Option β} {a : α} {r : β} (hh : Tot (fun k => h k a) r) : Tot (fun k => (some a).bind (h k)) r := hh

def recFor (k a l : Int) (s : ByteArray) (p : Int) : Int × Int × Int × ByteArray × Bool :=
  if (1 ≤ k ∧ k ≤ 3) ∧ p = 0 ∧ goodR k a l s = true then (k, a, l, s, true) else (0, 0, 0, ⟨#[]⟩, false)
theorem specFor_v (k a l : Int) (s : ByteArray) (p : Int) : spec_RecordFor.f k a l s p = some (recFor k a l s p) := by
  unfold spec_RecordFor.f recFor
  simp only [in_v, specRecord_v, Option.bind_some]
  by_cases h1 : 1 ≤ k ∧ k ≤ 3 <;> by_cases h2 : p = 0 <;> by_cases h3 : goodR k a l s = true <;> simp [h1, h2, h3]
theorem implFor_v (k a l : Int) (s : ByteArray) (p : Int) (hl : -9223372036854775808 ≤ l ∧ l ≤ 9223372036854775807) : Tot (fun n => impl_RecordFor.f n k a l s p) (recFor k a l s p) := by
  unfold impl_RecordFor.f
  simp only [within_v, Option.bind_some]
  by_cases h2 : p = 0
  · by_cases h1 : 1 ≤ k ∧ k ≤ 3
    · by_cases h3 : goodR k a l s = true
      · have e : recFor k a l s p = (k, a, l, s, true) := if_pos ⟨h1, h2, h3⟩
        rw [e]
        refine Tot.yes h2 (Tot.step (fun n => impl_RecordFor.j0.eq_2 ..) (Tot.no (by simp [h1]) ?_))
        simp only [implRecord_v k a l s hl, Option.bind_some]
        exact Tot.yes h3 (Tot.pure _)
      · have e : recFor k a l s p = (0, 0, 0, ⟨#[]⟩, false) := if_neg (fun h => h3 h.2.2)
        rw [e]
        refine Tot.yes h2 (Tot.step (fun n => impl_RecordFor.j0.eq_2 ..) (Tot.no (by simp [h1]) ?_))
        simp only [implRecord_v k a l s hl, Option.bind_some]
        exact Tot.no h3 (Tot.pure _)
    · have e : recFor k a l s p = (0, 0, 0, ⟨#[]⟩, false) := if_neg (fun h => h1 h.1)
      rw [e]
      exact Tot.yes h2 (Tot.step (fun n => impl_RecordFor.j0.eq_2 ..) (Tot.yes (by simp [h1]) (Tot.pure _)))
  · have e : recFor k a l s p = (0, 0, 0, ⟨#[]⟩, false) := if_neg (fun h => h2 h.2.1)
    rw [e]
    exact Tot.no h2 (Tot.step (fun n => impl_RecordFor.j0.eq_2 ..) (Tot.yes rfl (Tot.pure _)))
theorem FnExactRecordFor : laws_FnExactRecordFor.Pure := by
  intro k a l s p hk ha hl hs hp
  refine Tot.at_ ?_
  unfold laws_FnExactRecordFor.f laws_szVolOp.f laws_toVolOp.f
  rw [wrap_in (by omega) (by omega)]
  by_cases hz : (1048576 : Int) - (s.size : Int) < 0
  · simp only [if_pos hz, Option.bind_some]
    exact Tot.yes (by omega) (Tot.pure _)
  · simp only [if_neg hz, Option.bind_some, specFor_v]
    refine Tot.bind (implFor_v k a l s p (wf_in hl)) ?_
    exact Tot.of_eq fun n => by simp [laws_eqRecord.f]

end Go.Proofs.Ytknngaomlfdhiaa.Pure

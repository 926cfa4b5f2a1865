/- The plain law behind FnExactGoodRecord: what the two sides compute is the same, for every input. No condition. -/
import Derived.Test.YtknngaomlfdhiaaPFnExactGoodRecordx1
set_option linter.unusedVariables false
set_option linter.unusedSimpArgs false
namespace Go.Proofs.Ytknngaomlfdhiaa.Pure
open Go.RowKit Go.Proofs.Ytknngaomlfdhiaa.PFnExactGoodRecord Go.Proofs.YtknngaomlfdhiaaW.PrintWords Go.Proofs.YtknngaomlfdhiaaW.PrintLast Go.Proofs.YtknngaomlfdhiaaW.PrintMore

theorem wrap_in {x : Int} (h0 : -9223372036854775808 ≤ x) (h1 : x ≤ 9223372036854775807) : wrap64 x = x := by unfold wrap64; omega
theorem wf_in {x : Int} (h : (Lit.int .i64 x).wf = true) : -9223372036854775808 ≤ x ∧ x ≤ 9223372036854775807 := by
  simp only [Lit.wf, IntKind.min, IntKind.max, IntKind.bits, IntKind.signed, Bool.and_eq_true, decide_eq_true_eq] at h
  exact ⟨by have := h.1; simpa using this, by have := h.2; simpa using this⟩
theorem toList_nil (s : ByteArray) : (s.toList == ([] : List UInt8)) = decide (s.size = 0) := by
  rw [Bool.eq_iff_iff]
  simp only [beq_iff_eq, decide_eq_true_eq, ByteArray.toList_eq]
  constructor
  · intro h
    have h2 : s.data.toList.length = 0 := by rw [h]; rfl
    rw [Array.length_toList] at h2
    exact h2
  · intro h
    have h2 : s.data.toList.length = 0 := by rw [Array.length_toList]; exact h
    exact List.eq_nil_of_length_eq_zero h2

theorem in_v (a b c : Int) : spec_l1In.f a b c = some (decide (b ≤ a ∧ a ≤ c)) := by
  unfold spec_l1In.f
  by_cases h : a ≥ b
  · rw [if_pos h]; congr 1; rw [decide_eq_decide]; omega
  · rw [if_neg h]; congr 1; symm; rw [decide_eq_false_iff_not]; omega
theorem within_v (a b c : Int) : impl_within.f a b c = some (decide (b ≤ a ∧ a ≤ c)) := by
  unfold impl_within.f
  by_cases h : b ≤ a
  · rw [if_pos h]; congr 1; rw [decide_eq_decide]; omega
  · rw [if_neg h]; congr 1; symm; rw [decide_eq_false_iff_not]; omega

def goodR (k a l : Int) (s : ByteArray) : Bool :=
  if k = 1 then decide (1 ≤ l ∧ l ≤ 4 ∧ 0 ≤ a ∧ a ≤ 16 - l ∧ (s.size : Int) = 2 * l) else if k = 2 then decide (1 ≤ l ∧ l ≤ 4 ∧ 0 ≤ a ∧ a ≤ 16 - l ∧ s.size = 0) else if k = 3 then decide (0 ≤ a ∧ a ≤ 200 ∧ l = 0 ∧ s.size = 0) else false
theorem where_v (k a l : Int) (s : ByteArray) : spec_l3Where.f k a l s = some (decide (1 ≤ l ∧ l ≤ 4 ∧ 0 ≤ a ∧ a ≤ 16 - l)) := by
  unfold spec_l3Where.f
  simp only [in_v, Option.bind_some]
  by_cases h : 1 ≤ l ∧ l ≤ 4
  · rw [if_pos (decide_eq_true h)]; congr 1; rw [wrap_in (by omega) (by omega), decide_eq_decide]; omega
  · rw [if_neg (by rw [decide_eq_false h]; decide)]; congr 1; symm; rw [decide_eq_false_iff_not]; omega
theorem specRecord_v (k a l : Int) (s : ByteArray) : spec_GoodRecord.f k a l s = some (goodR k a l s) := by
  unfold spec_GoodRecord.f goodR
  simp only [where_v, in_v, Option.bind_some, toList_nil]
  by_cases h1 : k = 1
  · rw [if_pos h1, if_pos h1]
    by_cases h : 1 ≤ l ∧ l ≤ 4 ∧ 0 ≤ a ∧ a ≤ 16 - l
    · rw [if_pos (decide_eq_true h), wrap_in (by omega) (by omega)]; congr 1; rw [Bool.eq_iff_iff, beq_iff_eq, decide_eq_true_eq]; omega
    · rw [if_neg (by rw [decide_eq_false h]; decide)]; congr 1; symm; rw [decide_eq_false_iff_not]; omega
  · rw [if_neg h1, if_neg h1]
    by_cases h2 : k = 2
    · rw [if_pos h2, if_pos h2]
      by_cases h : 1 ≤ l ∧ l ≤ 4 ∧ 0 ≤ a ∧ a ≤ 16 - l
      · rw [if_pos (decide_eq_true h)]; congr 1; rw [decide_eq_decide]; omega
      · rw [if_neg (by rw [decide_eq_false h]; decide)]; congr 1; symm; rw [decide_eq_false_iff_not]; omega
    · rw [if_neg h2, if_neg h2]
      by_cases h3 : k = 3
      · rw [if_pos h3, if_pos h3]
        by_cases h : 0 ≤ a ∧ a ≤ 200
        · rw [if_pos (decide_eq_true h)]
          by_cases h4 : l = 0
          · rw [if_pos h4]; congr 1; rw [decide_eq_decide]; omega
          · rw [if_neg h4]; congr 1; symm; rw [decide_eq_false_iff_not]; omega
        · rw [if_neg (by rw [decide_eq_false h]; decide)]; congr 1; symm; rw [decide_eq_false_iff_not]; omega
      · rw [if_neg h3, if_neg h3]
theorem isRun_v (a l : Int) (hl : -9223372036854775808 ≤ l ∧ l ≤ 9223372036854775807) : impl_isRun.f a l = some (decide (0 ≤ a ∧ 1 ≤ l ∧ a ≤ 16 - l)) := by
  unfold impl_isRun.f
  by_cases h : a ≥ 0
  · rw [if_pos h]
    by_cases h2 : l ≥ 1
    · rw [if_pos h2, wrap_in (by omega) (by omega)]; congr 1; rw [decide_eq_decide]; omega
    · rw [if_neg h2]; congr 1; symm; rw [decide_eq_false_iff_not]; omega
  · rw [if_neg h]; congr 1; symm; rw [decide_eq_false_iff_not]; omega
theorem implRecord_v (k a l : Int) (s : ByteArray) (hl : -9223372036854775808 ≤ l ∧ l ≤ 9223372036854775807) : impl_GoodRecord.f k a l s = some (goodR k a l s) := by
  unfold impl_GoodRecord.f goodR
  simp only [within_v, isRun_v a l hl, Option.bind_some, toList_nil]
  by_cases h1 : k = 1
  · rw [if_pos h1, if_pos h1]
    by_cases h : 1 ≤ l ∧ l ≤ 4
    · rw [if_pos (decide_eq_true h)]
      by_cases h' : 0 ≤ a ∧ 1 ≤ l ∧ a ≤ 16 - l
      · rw [if_pos (decide_eq_true h'), wrap_in (by omega) (by omega)]; congr 1; rw [Bool.eq_iff_iff, beq_iff_eq, decide_eq_true_eq]; omega
      · rw [if_neg (by rw [decide_eq_false h']; decide)]; congr 1; symm; rw [decide_eq_false_iff_not]; omega
    · rw [if_neg (by rw [decide_eq_false h]; decide)]; congr 1; symm; rw [decide_eq_false_iff_not]; omega
  · rw [if_neg h1, if_neg h1]
    by_cases h2 : k = 2
    · rw [if_pos h2, if_pos h2]
      by_cases h : 1 ≤ l ∧ l ≤ 4
      · rw [if_pos (decide_eq_true h)]
        by_cases h' : 0 ≤ a ∧ 1 ≤ l ∧ a ≤ 16 - l
        · rw [if_pos (decide_eq_true h')]; congr 1; rw [decide_eq_decide]; omega
        · rw [if_neg (by rw [decide_eq_false h']; decide)]; congr 1; symm; rw [decide_eq_false_iff_not]; omega
      · rw [if_neg (by rw [decide_eq_false h]; decide)]; congr 1; symm; rw [decide_eq_false_iff_not]; omega
    · rw [if_neg h2, if_neg h2]
      by_cases h3 : k = 3
      · rw [if_pos h3, if_pos h3]
        by_cases h : 0 ≤ a ∧ a ≤ 200
        · rw [if_pos (decide_eq_true h)]
          by_cases h4 : l = 0
          · rw [if_pos h4]; congr 1; rw [decide_eq_decide]; omega
          · rw [if_neg h4]; congr 1; symm; rw [decide_eq_false_iff_not]; omega
        · rw [if_neg (by rw [decide_eq_false h]; decide)]; congr 1; symm; rw [decide_eq_false_iff_not]; omega
      · rw [if_neg h3, if_neg h3]

theorem FnExactGoodRecord : laws_FnExactGoodRecord.Pure := by
  intro k a l s hk ha hl hs
  unfold laws_FnExactGoodRecord.f laws_szRecord.f laws_toRecord.f
  simp only [specRecord_v, implRecord_v k a l s (wf_in hl), Option.bind_some]
  split <;> simp

end Go.Proofs.Ytknngaomlfdhiaa.Pure

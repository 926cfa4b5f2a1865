/- The plain law behind FnExactUnlikeBits: what the two sides compute is the same, for every input. No condition. -/
import Derived.Test.YtknngaomlfdhiaaPFnExactUnlikeBitsx1
set_option linter.unusedVariables false
set_option linter.unusedSimpArgs false
namespace Go.Proofs.Ytknngaomlfdhiaa.Pure
open Go.RowKit Go.Proofs.Ytknngaomlfdhiaa.PFnExactUnlikeBits Go.Proofs.YtknngaomlfdhiaaW.PrintWords Go.Proofs.YtknngaomlfdhiaaW.PrintLast Go.Proofs.YtknngaomlfdhiaaW.PrintMore


theorem unlike_some (a b : ByteArray) : ∃ p, spec_UnlikeBits.f a b = some p := by
  unfold spec_UnlikeBits.f
  split
  · split <;> exact ⟨_, rfl⟩
  · exact ⟨_, rfl⟩
theorem unlike_same (a b : ByteArray) : impl_UnlikeBits.f a b = spec_UnlikeBits.f a b := rfl
theorem FnExactUnlikeBits : laws_FnExactUnlikeBits.Pure := by
  intro a b _ _
  obtain ⟨p, hp⟩ := unlike_some a b
  unfold laws_FnExactUnlikeBits.f
  rw [unlike_same, hp]
  by_cases h1 : (a.size : Int) > 1048576
  · rw [if_pos h1]
  · by_cases h2 : (b.size : Int) > 1048576
    · rw [if_neg h1, if_pos h2]
    · rw [if_neg h1, if_neg h2, Option.bind_some, Option.bind_some, if_pos rfl, if_neg (by simp)]

end Go.Proofs.Ytknngaomlfdhiaa.Pure

/- The plain law behind FnExactTurnBits: what the two sides compute is the same, for every input. No condition. -/
import Derived.Test.YtknngaomlfdhiaaPFnExactTurnBitsx1
set_option linter.unusedVariables false
set_option linter.unusedSimpArgs false
namespace Go.Proofs.Ytknngaomlfdhiaa.Pure
open Go.RowKit Go.Proofs.Ytknngaomlfdhiaa.PFnExactTurnBits Go.Proofs.YtknngaomlfdhiaaW.PrintWords Go.Proofs.YtknngaomlfdhiaaW.PrintLast Go.Proofs.YtknngaomlfdhiaaW.PrintMore


theorem shr_nat (b s : Nat) (hb : b < 16777216) (hs : s ≤ 24) : shr .i64 (b : Int) (s : Int) = ((b / 2 ^ s : Nat) : Int) := by
  unfold shr
  rw [Int.toNat_natCast, Nat.min_eq_left (by show s ≤ 64; omega)]
  simp
theorem long_loop (b : Nat) (hb : b < 16777216) : ∀ d s : Nat, s + d = lenN b → spec_l1Long.l0 (d + 1) (b : Int) (s : Int) = some (lenN b : Int)
  | d, s, h => by
    have h24 := lenN_24 hb
    have hu : IntKind.u64.wrap (s : Int) = (s : Int) := by unfold IntKind.wrap; simp [IntKind.signed, IntKind.bits]; omega
    rw [spec_l1Long.l0, hu, if_pos (by omega), shr_nat b s hb (by omega)]
    have hl := lenN_is b
    match d, h with
    | 0, h =>
      have e : s = lenN b := by omega
      rw [e, Nat.div_eq_of_lt hl.1, if_neg (by simp)]
    | d + 1, h =>
      have h1 : 2 ^ s ≤ b := Nat.le_trans (Nat.pow_le_pow_right (by decide) (by omega)) (hl.2 (by omega))
      have h2 : 0 < b / 2 ^ s := Nat.div_pos h1 (Nat.two_pow_pos s)
      rw [if_pos (by omega), show wrap64 ((s : Int) + 1) = ((s + 1 : Nat) : Int) from by rw [show wrap64 ((s : Int) + 1) = (s : Int) + 1 from by unfold wrap64; omega]; simp]
      exact long_loop b hb d (s + 1) (by omega)
theorem FnExactTurnBits : laws_FnExactTurnBits.Pure := by
  intro a f b h1 h2 h3
  refine ⟨lenN b.toNat + 1, ?_⟩
  have hs : spec_TurnBits.f (lenN b.toNat + 1) a f b = impl_TurnBits.f a f b := by
    unfold spec_TurnBits.f impl_TurnBits.f
    by_cases c1 : a.size ≤ 400 ∧ 0 ≤ f ∧ f ≤ 8 * (a.size : Int)
    · rw [if_pos c1]
      by_cases c2 : 0 ≤ b ∧ b ≤ 16777215
      · rw [if_pos c2]
        obtain ⟨n, rfl⟩ := Int.eq_ofNat_of_zero_le c2.1
        have hn : n < 16777216 := by omega
        have h24 := lenN_24 hn
        rw [Int.toNat_natCast, spec_l1Long.f, show (0 : Int) = ((0 : Nat) : Int) from rfl, long_loop n hn (lenN n) 0 (by omega), Option.bind_some, if_pos ⟨by omega, by omega⟩, Int.toNat_natCast]
        by_cases c3 : (lenN n : Int) ≤ 8 * (a.size : Int) - f
        · rw [if_pos c3, if_pos ⟨c1, c2, by omega⟩]
        · rw [if_neg c3, if_neg (fun e => c3 (by have := e.2.2; omega))]
      · rw [if_neg c2, if_neg (fun e => c2 e.2.1)]
    · rw [if_neg c1, if_neg (fun e => c1 e.1)]
  obtain ⟨p, hp⟩ : ∃ p, impl_TurnBits.f a f b = some p := by
    unfold impl_TurnBits.f
    split <;> exact ⟨_, rfl⟩
  unfold laws_FnExactTurnBits.f
  rw [hs, hp]
  by_cases h : (a.size : Int) > 1048576
  · rw [if_pos h]
  · rw [if_neg h, Option.bind_some, Option.bind_some, if_pos rfl, if_neg (by simp)]

end Go.Proofs.Ytknngaomlfdhiaa.Pure

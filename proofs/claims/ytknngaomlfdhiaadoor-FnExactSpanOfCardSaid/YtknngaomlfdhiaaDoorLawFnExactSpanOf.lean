import Derived.Test.YtknngaomlfdhiaaDoorRows
import Derived.Test.YtknngaomlfdhiaaDoorPFnExactSpanOfx1
import Derived.Lib.LaidU8
import Derived.MakeChecks
import Derived.LaidLaws
import Derived.Lay
import Derived.Test.YtknngaomlfdhiaaDoorCards
import Derived.Test.YtknngaomlfdhiaaDoorTie
import Derived.WalkKit
import Derived.ProofKit
import Derived.OpenShut
import Derived.Below
import Derived.SizedLaws
import Derived.ChangeSame
import Derived.ChangeVars
import Derived.LaidOnce
import Derived.SevenTiedAt
set_option linter.unusedVariables false
namespace Go.Proofs.YtknngaomlfdhiaaDoor
open Go.RowKit Go.Proofs.YtknngaomlfdhiaaDoor.PFnExactSpanOf Go.Proofs.YtknngaomlfdhiaaDoorW.PrintWords Go.Proofs.YtknngaomlfdhiaaDoorW.PrintLast Go.Proofs.YtknngaomlfdhiaaDoorW.PrintMore
theorem low_and (K j m : Nat) (hm : 2 ^ j * (2 * m + 1) < 2 ^ K) : (2 ^ j * (2 * m + 1)) &&& (2 ^ K - 2 ^ j * (2 * m + 1)) = 2 ^ j := by
  have hp : 0 < 2 ^ j := Nat.two_pow_pos j
  have hjk : j < K := by
    apply (Nat.pow_lt_pow_iff_right (a := 2) (by decide)).1
    exact Nat.lt_of_le_of_lt (Nat.le_mul_of_pos_right _ (by omega)) hm
  have e1 : 2 ^ j * (2 * m + 1) = 2 ^ j * (2 * m + 1) + 0 := rfl
  have e2 : 2 ^ j * (2 * m + 1) = (2 ^ j * (2 * m) + (2 ^ j - 1)) + 1 := by rw [Nat.mul_add]; omega
  have hlt : 2 ^ j * (2 * m) + (2 ^ j - 1) < 2 ^ K := by omega
  apply Nat.eq_of_testBit_eq
  intro i
  rw [Nat.testBit_and]
  have f1 : (2 ^ K - 2 ^ j * (2 * m + 1)).testBit i = (decide (i < K) && !(2 ^ j * (2 * m) + (2 ^ j - 1)).testBit i) := by
    rw [e2]
    exact Nat.testBit_two_pow_sub_succ hlt i
  rw [f1, Nat.testBit_two_pow_mul_add _ (by omega), e1, Nat.testBit_two_pow_mul_add _ hp, Nat.testBit_two_pow]
  by_cases h : i < j
  · rw [if_pos h, if_pos h]
    have : ¬ j = i := by omega
    simp [this]
  · rw [if_neg h, if_neg h]
    obtain ⟨t, rfl⟩ : ∃ t, i = j + t := ⟨i - j, by omega⟩
    rw [Nat.add_sub_cancel_left]
    match t with
    | 0 => simp [Nat.testBit_zero]; omega
    | t + 1 =>
      rw [Nat.testBit_succ, Nat.testBit_succ, show (2 * m + 1) / 2 = m by omega, show 2 * m / 2 = m by omega]
      cases m.testBit t <;> simp
/-- Each number but 0 is an odd one times a power of two. -/
theorem low_form : ∀ n : Nat, 0 < n → ∃ j m, n = 2 ^ j * (2 * m + 1)
  | n, h => by
    by_cases h2 : n % 2 = 1
    · exact ⟨0, n / 2, by omega⟩
    · obtain ⟨j, m, e⟩ := low_form (n / 2) (by omega)
      exact ⟨j + 1, m, by rw [Nat.pow_succ, Nat.mul_assoc, Nat.mul_left_comm, ← e]; omega⟩
termination_by n => n
/-- The loop's test at s: whether bit s stands. -/
theorem low_bit (j m s : Nat) : (2 ^ j * (2 * m + 1)) / 2 ^ s % 2 = 1 → j ≤ s := by
  intro h
  by_cases hs : j ≤ s
  · exact hs
  · obtain ⟨d, rfl⟩ : ∃ d, j = s + d + 1 := ⟨j - s - 1, by omega⟩
    rw [show 2 ^ (s + d + 1) * (2 * m + 1) = 2 ^ s * (2 ^ (d + 1) * (2 * m + 1)) by rw [← Nat.mul_assoc, ← Nat.pow_add]; rfl, Nat.mul_div_cancel_left _ (Nat.two_pow_pos s), Nat.pow_succ, Nat.mul_comm (2 ^ d) 2, Nat.mul_assoc] at h
    omega
theorem low_at (j m : Nat) : (2 ^ j * (2 * m + 1)) / 2 ^ j % 2 = 1 := by
  rw [Nat.mul_div_cancel_left _ (Nat.two_pow_pos j)]; omega
/-- The table at a power of two: its place. -/
def tab64 : List Nat := [0, 1, 56, 2, 57, 49, 28, 3, 61, 58, 42, 50, 38, 29, 17, 4, 62, 47, 59, 36, 45, 43, 51, 22, 53, 39, 33, 30, 24, 18, 12, 5, 63, 55, 48, 27, 60, 41, 37, 16, 46, 35, 44, 21, 52, 32, 23, 11, 54, 26, 40, 15, 34, 20, 31, 10, 25, 14, 19, 9, 13, 8, 7, 6]
theorem tab64_at : ∀ j : Fin 64, tab64[((2 ^ j.1 * 0x03f79d71b4ca8b09) % 2 ^ 64) / 2 ^ 58]? = some j.1 := by decide +kernel
theorem and_neg (b : Nat) (h : 0 < b) (h2 : b < 16777216) : Go.bits .and .u64 (b : Int) (IntKind.u64.wrap (-(b : Int))) = ((b &&& (2 ^ 64 - b) : Nat) : Int) := by
  have hw : IntKind.u64.wrap (-(b : Int)) = ((2 ^ 64 - b : Nat) : Int) := by
    unfold IntKind.wrap; simp [IntKind.signed, IntKind.bits]; omega
  rw [hw]
  have hle : b &&& (2 ^ 64 - b) ≤ b := Nat.and_le_left
  unfold Go.bits
  have e1 : (BitVec.ofInt 64 (b : Int)) = BitVec.ofNat 64 b := by simp
  have e2 : (BitVec.ofInt 64 ((2 ^ 64 - b : Nat) : Int)) = BitVec.ofNat 64 (2 ^ 64 - b) := BitVec.ofInt_natCast ..
  show IntKind.u64.wrap ((BitVec.ofInt 64 (b : Int) &&& BitVec.ofInt 64 ((2 ^ 64 - b : Nat) : Int)).toNat : Int) = _
  rw [e1, e2, BitVec.toNat_and, BitVec.toNat_ofNat, BitVec.toNat_ofNat, Nat.mod_eq_of_lt (by omega), Nat.mod_eq_of_lt (by omega)]
  generalize b &&& (2 ^ 64 - b) = y at *
  unfold IntKind.wrap; simp [IntKind.signed, IntKind.bits]; omega
set_option maxHeartbeats 1000000 in
theorem tz (b z q j : Int) (n : Nat) (hn : q = n) (w : World) (h : 0 < b) (h2 : b < 16777216) (hz : IntKind.u64.wrap (Go.bits .and .u64 b (IntKind.u64.wrap (-b)) * 285870213051353865) = z) (hq : z / 2 ^ 58 = q) (hn64 : n < 64) (hc : w.cell? ⟨1, n, none⟩ = some (.int .u8 j)) (hj : 0 ≤ j ∧ j < 64) :
    Calls Tryd.prog 16 #[.int .u64 b] w fun e w' => e = .returned (.int .i64 j) ∧ w' = w := by
  have hb0 : (b == 0) = false := beq_eq_false_iff_ne.mpr (by omega)
  have hq2 : z / 288230376151711744 = q := hq
  subst hn
  go_enter Tryd.func16, Tryd.ntmps16
  go_wp2
  go_ret
  exact ⟨rfl, rfl⟩
set_option maxHeartbeats 1000000 in
theorem tz10 (b j : Int) (w : World) (h : 0 < b) (h2 : b < 16777216) (ht : Calls Tryd.prog 16 #[.int .u64 b] w fun e w' => e = .returned (.int .i64 j) ∧ w' = w) :
    Calls Tryd.prog 10 #[.int .u64 b] w fun e w' => e = .returned (.int .i64 j) ∧ w' = w := by
  go_enter Tryd.func10, Tryd.ntmps10
  go_wp2_with (first | (go_at_call 16; refine ht.mono ?_; rintro e w' ⟨rfl, hw⟩; subst w'))
  go_ret
  exact ⟨rfl, rfl⟩
/-- The table reads as it was laid. -/
def Tab (w : World) : Prop := ∀ n : Nat, n < 64 → w.cell? ⟨1, n, none⟩ = some (.int .u8 ((tab64.getD n 0 : Nat) : Int))
theorem Tab.drawn {w w1 : World} (h : Tab w) (hd : Drawn0 w w1) : Tab w1 := by
  obtain ⟨nd, hnd⟩ := hd
  intro n hn
  have := h n hn
  rw [hnd]
  exact this
set_option maxHeartbeats 4000000 in
theorem span_walk (b L j : Nat) (w : World) (h : 0 < b) (h2 : b < 16777216) (hL : L ≤ 24) (hj : j < 64) (hT : Tab w)
    (hw2 : ∀ W, Calls Tryd.prog 8 #[.int .i64 (b : Int)] W fun e w' => e = .returned (.bool true) ∧ Drawn0 W w')
    (hlen : ∀ W, Calls Tryd.prog 9 #[.int .u64 (b : Int)] W fun e w' => e = .returned (.int .i64 (L : Int)) ∧ w' = W)
    (ht : ∀ W, Tab W → Calls Tryd.prog 10 #[.int .u64 (b : Int)] W fun e w' => e = .returned (.int .i64 (j : Int)) ∧ w' = W) :
    Calls Tryd.prog 5 #[.int .i64 (b : Int)] w fun e w' => e = .returned (.tuple #[.int .i64 ((L : Int) - (j : Int)), .bool true]) ∧ Below w.heap.size w w' := by
  have hb0 : ((b : Int) == 0) = false := beq_eq_false_iff_ne.mpr (by omega)
  go_enter Tryd.func5, Tryd.ntmps5
  go_wp2_with (first | (go_at_call 8; refine (hw2 _).mono ?_; rintro e w2 ⟨rfl, hd2⟩; have HT2 := Aside0.mk (hT.drawn hd2); have HD2 := Aside0.mk hd2.below; clear hd2) | (go_at_call 9; refine (hlen _).mono ?_; rintro e w' ⟨rfl, hw⟩; subst w') | (go_at_call 10; refine (ht _ HT2.out).mono ?_; rintro e w' ⟨rfl, hw⟩; subst w'))
  go_ret2
  exact ⟨rfl, HD2.out⟩
def tabI : List Int := tab64.map fun (n : Nat) => (n : Int)
theorem tab_of_laid {W : World} (hL : laidMetH Tryd.prog Rows.fnExactSpanOfRow.laid W) : Tab W := by
  rw [MakeChecks.laidMetH_plain _ _ _ (by kernel_rfl)] at hL
  obtain ⟨g, t, cs, fuel, p, hg, hty, hvar, hd⟩ := Lib.laidMet.reads hL (.tail _ (.head _))
  obtain rfl := Option.some.inj ((show Tryd.prog.globalNamed "math/bits.deBruijn64tab" = some 1 by kernel_rfl).symm.trans hg)
  obtain rfl := Option.some.inj ((show (Tryd.prog.globals[1]?).map (·.type) = some 34 by kernel_rfl).symm.trans hty)
  have hcs := Lib.cells_of_tab (zs := tabI) Tryd.underlying34 Tryd.underlying5 (by kernel_rfl) (by kernel_rfl) hd
  intro n hn
  have h1 := World.var?_cell hg hvar n
  rw [h1, ← Array.getElem?_toList, hcs]
  have hl : n < tab64.length := hn
  simp [tabI, List.getD, hl]
theorem tz_all (b j m : Nat) (hb : b = 2 ^ j * (2 * m + 1)) (h2 : b < 16777216) {w : World} (hT : Tab w) :
    Calls Tryd.prog 10 #[.int .u64 (b : Int)] w fun e w' => e = .returned (.int .i64 (j : Int)) ∧ w' = w := by
  have hp : 0 < 2 ^ j := Nat.two_pow_pos j
  have h0 : 0 < b := by rw [hb]; exact Nat.mul_pos hp (by omega)
  have hle : 2 ^ j ≤ b := by rw [hb]; exact Nat.le_mul_of_pos_right _ (by omega)
  have hj : j < 24 := (Nat.pow_lt_pow_iff_right (a := 2) (by decide)).1 (by omega)
  have hand : b &&& (2 ^ 64 - b) = 2 ^ j := by
    have := low_and 64 j m (by omega)
    rw [← hb] at this
    exact this
  have ht := tab64_at ⟨j, by omega⟩
  have hlt : ((2 ^ j * 0x03f79d71b4ca8b09) % 2 ^ 64) / 2 ^ 58 < 64 := by omega
  have hg : tab64.getD (((2 ^ j * 0x03f79d71b4ca8b09) % 2 ^ 64) / 2 ^ 58) 0 = j := by
    rw [List.getD_eq_getElem?_getD]
    rw [show tab64[((2 ^ j * 0x03f79d71b4ca8b09) % 2 ^ 64) / 2 ^ 58]? = some j from ht]
    rfl
  have hc := hT _ hlt
  rw [hg] at hc
  refine tz10 (b : Int) (j : Int) w (by omega) (by omega) (tz (b : Int) (((2 ^ j * 0x03f79d71b4ca8b09) % 2 ^ 64 : Nat) : Int) _ j _ rfl w (by omega) (by omega) ?_ ?_ hlt hc ⟨by omega, by omega⟩)
  · rw [and_neg b h0 h2, hand]
    unfold IntKind.wrap
    simp [IntKind.signed, IntKind.bits]
  · simp
theorem lin_told (a b c : Int) : spec_l1In.f a b c = some (decide (b ≤ a ∧ a ≤ c)) := by
  unfold spec_l1In.f
  by_cases h : b ≤ a
  · rw [if_pos h]; congr 1; rw [decide_eq_decide]; omega
  · rw [if_neg h]; congr 1; symm; rw [decide_eq_false_iff_not]; omega
theorem lbits_told (a : Int) : spec_l1Bits.f a = some (decide (0 ≤ a ∧ a ≤ 16777215)) := by
  unfold spec_l1Bits.f
  rw [lin_told]
  rfl
theorem within_told (a b c : Int) : impl_within.f a b c = some (decide (b ≤ a ∧ a ≤ c)) := by
  unfold impl_within.f
  by_cases h : b ≤ a
  · rw [if_pos h]; congr 1; rw [decide_eq_decide]; omega
  · rw [if_neg h]; congr 1; symm; rw [decide_eq_false_iff_not]; omega
theorem bits_told (a : Int) : impl_isBits.f a = some (decide (0 ≤ a ∧ a ≤ 16777215)) := by
  unfold impl_isBits.f
  rw [within_told]
  rfl
theorem lenN_24 {n : Nat} (h : n < 16777216) : lenN n ≤ 24 := by
  unfold lenN
  split
  · omega
  · rename_i h0
    have := (Nat.log2_lt h0 (k := 24)).2 h
    omega
theorem shr_nat (b s : Nat) (hs : s ≤ 24) : shr .i64 (b : Int) (s : Int) = ((b / 2 ^ s : Nat) : Int) := by
  unfold shr
  rw [Int.toNat_natCast, Nat.min_eq_left (by show s ≤ 64; omega)]
  simp
theorem u64_nat (s : Nat) (hs : s ≤ 24) : IntKind.u64.wrap (s : Int) = (s : Int) := by unfold IntKind.wrap; simp [IntKind.signed, IntKind.bits]; omega
theorem long_loop (b : Nat) (hb : b < 16777216) : ∀ d s : Nat, s + d = lenN b → ∀ e : Nat, spec_l1Long.l0 (d + 1 + e) (b : Int) (s : Int) = some (lenN b : Int)
  | d, s, h, e => by
    have h24 := lenN_24 hb
    rw [show d + 1 + e = (d + e) + 1 by omega, spec_l1Long.l0, u64_nat s (by omega), if_pos (by omega), shr_nat b s (by omega)]
    have hl := lenN_is b
    match d, h with
    | 0, h =>
      have e : s = lenN b := by omega
      rw [e, Nat.div_eq_of_lt hl.1, if_neg (by simp)]
    | d + 1, h =>
      have h1 : 2 ^ s ≤ b := Nat.le_trans (Nat.pow_le_pow_right (by decide) (by omega)) (hl.2 (by omega))
      have h2 : 0 < b / 2 ^ s := Nat.div_pos h1 (Nat.two_pow_pos s)
      rw [if_pos (by omega), show wrap64 ((s : Int) + 1) = ((s + 1 : Nat) : Int) from by rw [show wrap64 ((s : Int) + 1) = (s : Int) + 1 from by unfold wrap64; omega]; simp]
      exact long_loop b hb d (s + 1) (by omega) e
theorem and_one (n : Nat) (h : n < 16777216) : Go.bits .and .i64 (n : Int) 1 = ((n % 2 : Nat) : Int) := by
  unfold Go.bits
  show IntKind.i64.wrap ((BitVec.ofInt 64 (n : Int) &&& BitVec.ofInt 64 1).toNat : Int) = _
  rw [show BitVec.ofInt 64 (n : Int) = BitVec.ofNat 64 n by simp, show BitVec.ofInt 64 1 = BitVec.ofNat 64 1 by rfl, BitVec.toNat_and, BitVec.toNat_ofNat, BitVec.toNat_ofNat, Nat.mod_eq_of_lt (by omega), Nat.mod_eq_of_lt (by omega), Nat.and_one_is_mod]
  unfold IntKind.wrap; simp [IntKind.signed, IntKind.bits]; omega
theorem low_loop (b j m : Nat) (hb : b = 2 ^ j * (2 * m + 1)) (h2 : b < 16777216) (hL : j < lenN b) : ∀ d s : Nat, s + d = j → ∀ e : Nat, spec_SpanOf.l0 (d + 1 + e) (b : Int) (lenN b : Int) (s : Int) = some ((lenN b : Int) - (j : Int), true)
  | d, s, h, e => by
    have h24 := lenN_24 h2
    have hq : b / 2 ^ s < 16777216 := Nat.lt_of_le_of_lt (Nat.div_le_self _ _) h2
    rw [show d + 1 + e = (d + e) + 1 by omega, spec_SpanOf.l0, if_pos (by omega), u64_nat s (by omega), if_pos (by omega), shr_nat b s (by omega), and_one _ hq]
    match d, h with
    | 0, h =>
      obtain rfl : s = j := by omega
      have := low_at s m
      rw [← hb] at this
      rw [this, if_neg (by simp), show wrap64 ((lenN b : Int) - (s : Int)) = (lenN b : Int) - (s : Int) from by unfold wrap64; omega]
    | d + 1, h =>
      have h0 : b / 2 ^ s % 2 = 0 := by
        rcases Nat.mod_two_eq_zero_or_one (b / 2 ^ s) with h1 | h1
        · exact h1
        · rw [hb] at h1
          have := low_bit j m s h1
          omega
      rw [h0, if_pos (by simp), show wrap64 ((s : Int) + 1) = ((s + 1 : Nat) : Int) from by rw [show wrap64 ((s : Int) + 1) = (s : Int) + 1 from by unfold wrap64; omega]; simp]
      exact low_loop b j m hb h2 hL d (s + 1) (by omega) e
noncomputable def ans (a : Int) : Int × Bool := if 0 ≤ a ∧ a ≤ 16777215 then (if a = 0 then (0, true) else ((lenN a.toNat : Int) - ((Classical.epsilon fun j : Nat => ∃ m, a.toNat = 2 ^ j * (2 * m + 1)) : Nat), true)) else (0, false)
set_option maxHeartbeats 4000000 in
theorem impl_any (a : Int) (w : World) (hT : Tab w) : Calls Tryd.prog 5 #[.int .i64 a] w fun e w' => e = .returned (.tuple #[.int .i64 (ans a).1, .bool (ans a).2]) ∧ Below w.heap.size w w' := by
  have hw2 := fun (W : World) => impl_isBits.calls a _ W (bits_told _)
  unfold ans
  by_cases c : 0 ≤ a ∧ a ≤ 16777215
  · rw [decide_eq_true c] at hw2
    rw [if_pos c]
    by_cases h0 : a = 0
    · subst h0
      rw [if_pos rfl]
      go_enter Tryd.func5, Tryd.ntmps5
      go_wp2_with (first | (go_at_call 8; refine (hw2 _).mono ?_; rintro e w2 ⟨rfl, hd2⟩; have HD2 := Aside0.mk hd2.below; clear hd2))
      go_ret2
      exact ⟨rfl, HD2.out⟩
    · rw [if_neg h0]
      obtain ⟨b, rfl⟩ := Int.eq_ofNat_of_zero_le c.1
      have hE := Classical.epsilon_spec (p := fun j : Nat => ∃ m, b = 2 ^ j * (2 * m + 1)) (low_form b (by omega))
      rw [Int.toNat_natCast]
      generalize (Classical.epsilon fun j : Nat => ∃ m, b = 2 ^ j * (2 * m + 1)) = j at *
      obtain ⟨m, hm⟩ := hE
      have hle : 2 ^ j ≤ b := by rw [hm]; exact Nat.le_mul_of_pos_right _ (by omega)
      have hj : j < 24 := (Nat.pow_lt_pow_iff_right (a := 2) (by decide)).1 (by omega)
      exact span_walk b (lenN b) j w (by omega) (by omega) (lenN_24 (by omega)) (by omega) hT hw2 (fun W => fx_len b W (by omega)) (fun W hW => tz_all b j m hm (by omega) hW)
  · rw [decide_eq_false c] at hw2
    rw [if_neg c]
    go_enter Tryd.func5, Tryd.ntmps5
    go_wp2_with (first | (go_at_call 8; refine (hw2 _).mono ?_; rintro e w2 ⟨rfl, hd2⟩; have HD2 := Aside0.mk hd2.below; clear hd2))
    go_ret2
    exact ⟨rfl, HD2.out⟩
theorem spec_any (a : Int) : ∃ k, spec_SpanOf.f k a = some (ans a) := by
  unfold ans
  by_cases c : 0 ≤ a ∧ a ≤ 16777215
  · rw [if_pos c]
    obtain ⟨b, rfl⟩ := Int.eq_ofNat_of_zero_le c.1
    have hb : b < 16777216 := by omega
    have h24 := lenN_24 hb
    by_cases h0 : (b : Int) = 0
    · obtain rfl : b = 0 := by omega
      exact ⟨1, by rw [if_pos h0]; decide +kernel⟩
    · rw [if_neg h0, Int.toNat_natCast]
      have hE := Classical.epsilon_spec (p := fun j : Nat => ∃ m, b = 2 ^ j * (2 * m + 1)) (low_form b (by omega))
      generalize (Classical.epsilon fun j : Nat => ∃ m, b = 2 ^ j * (2 * m + 1)) = j at *
      obtain ⟨m, hm⟩ := hE
      have hle : 2 ^ j ≤ b := by rw [hm]; exact Nat.le_mul_of_pos_right _ (by omega)
      have hjL : j < lenN b := by
        refine (Nat.pow_lt_pow_iff_right (a := 2) (by decide)).1 ?_
        have := (lenN_is b).1
        omega
      refine ⟨lenN b + 1, ?_⟩
      unfold spec_SpanOf.f
      rw [lbits_told, Option.bind_some, decide_eq_true c, if_pos rfl, spec_l1Long.f, show (0 : Int) = ((0 : Nat) : Int) from rfl]
      have e1 := long_loop b hb (lenN b) 0 (by omega) 0
      rw [Nat.add_zero] at e1
      rw [e1, Option.bind_some]
      have e2 := low_loop b j m hm hb hjL j 0 (by omega) (lenN b - j)
      rw [show j + 1 + (lenN b - j) = lenN b + 1 by omega] at e2
      exact e2
  · refine ⟨0, ?_⟩
    unfold spec_SpanOf.f
    rw [lbits_told, Option.bind_some, decide_eq_false c, if_neg (by simp), if_neg c]
set_option maxHeartbeats 4000000 in
theorem law_walk (a : Int) (w : World) (hT : Tab w) : Calls Tryd.prog 3 #[.int .i64 a] w fun e w' => e = .returned (.bool true) ∧ Below w.heap.size w w' := by
  obtain ⟨k, hk⟩ := spec_any a
  have hs := fun (W : World) => spec_SpanOf.calls k a (ans a).1 (ans a).2 W hk
  have hi := fun (W : World) (h : Tab W) => impl_any a W h
  generalize (ans a).1 = r1 at *
  generalize (ans a).2 = r2 at *
  clear hk
  have h1 : (r1 != r1) = false := by simp
  have h2 : (r2 != r2) = false := by simp
  go_enter Tryd.func3, Tryd.ntmps3
  go_wp2_with (first | (go_at_call 4; refine (hs _).mono ?_; rintro e w2 ⟨rfl, hd2⟩; have HT2 := Aside0.mk (hT.drawn hd2); have HD2 := Aside0.mk hd2.below; clear hd2) | (go_at_call 5; refine (hi _ HT2.out).mono ?_; rintro e w3 ⟨rfl, hb3⟩; have HD3 := Aside0.mk (HD2.out.trans (hb3.mono HD2.out.size)); clear hb3))
  all_goals
    go_ret
    exact ⟨rfl, HD3.out⟩
namespace fnExactSpanOf
open Go.ChangeShapes Go.WideShapes Go.ChangeAt Go.RowKit
theorem own : ownKnob Tryd.prog.godebug = none := by kernel_rfl
set_option maxRecDepth 100000 in
theorem lifted (os : Os) (started : os.Started) (H : Type) (enc : TypeId × Value → H) :
    ReturnsInHanded {} Tryd.checked os 3 .any (fun w args => (Rows.fnExactSpanOfSpec.pre enc Tryd.prog Tryd.f3 [] false w args ∧ laidMetH Tryd.prog Rows.fnExactSpanOfRow.laid w) ∧ sizedMet enc Tryd.prog Tryd.f3 (OpenSpec.ofChange Rows.fnExactSpanOfSpec) false w args)
      (Rows.fnExactSpanOfSpec.post enc Tryd.prog Tryd.f3 false true false false) := by
  refine returnsInHanded_of_change_and (C := Tryd.checked) (X := fun w _ => laidMetH Tryd.prog Rows.fnExactSpanOfRow.laid w) (fun _ _ _ hh h => h.of_heap hh) own started (by kernel_rfl) Tryd.func3
    (ChangeSpec.witness_shaped (enc := enc) (C := Tryd.checked) (os := os) (X := fun w _ => laidMetH Tryd.prog Rows.fnExactSpanOfRow.laid w) false (World.laidAll Tryd.prog os Rows.fnExactSpanOfRow.laid) #[.int .i64 0] 8 (World.laidAll_os _ _ _)
      (World.shaped_of_ZipB (by kernel_rfl) (by kernel_rfl)) (by kernel_rfl) (by kernel_rfl) (by kernel_rfl)
      (by rw [MakeChecks.laidMetH_plain _ _ _ (by kernel_rfl)]; exact laidMet_laidAll _ (by kernel_rfl) (by kernel_rfl))) ?_
  intro W base args ds gs before hval0 hW _ _ hL _
  have hval : ∀ (j : Nat) t v, Tryd.f3.params[j]? = some t → args[j]? = some v → Value.okWide Tryd.prog W .any base t v := hval0
  have hW' := hW
  obtain ⟨p, q, hA0, hV, rfl, _, _⟩ := hW
  have hA : DataW.TrodAll enc Tryd.prog W 0 (fun _ => true) true Tryd.f3.params.toList args.toList ds p := hA0
  rw [Tryd.params3] at hA hval
  obtain ⟨v0, d0, rfl, rfl, h0⟩ := trodAll_one hA
  obtain ⟨rfl, rfl⟩ := trodVars_none hV
  obtain ⟨x, rfl, rfl, rfl, wx⟩ := open_int Tryd.underlying3 (hval 0 3 v0 rfl rfl) h0
  simp only [List.append_nil] at hW'
  refine (law_walk x W (tab_of_laid hL)).mono fun e W' ⟨he, hb⟩ => ?_
  subst he
  exact ⟨_, rfl, _, _, _, [], [], [], hW', trodAll_mk1 (shut_bool Tryd.underlying4 _), trodAll_mk1 (shut_int Tryd.underlying3 wx), rfl, hb.frame _, fun h => by cases h⟩
theorem over : Rows.FnExactSpanOfSaid :=
  OpenClaim.holds_of_wide 3 Tryd.f3 rfl rfl rfl rfl rfl rfl rfl ⟨rfl, rfl, rfl, rfl, rfl⟩ rfl rfl rfl rfl rfl (by kernel_rfl) Tryd.func3 (by kernel_rfl)
    (of_decide_eq_true (by kernel_rfl)) (by unfold Func.isWrapper; first | (rw [if_pos (by decide +kernel)]; kernel_rfl) | (rw [if_neg (by decide +kernel)]; exact ⟨rfl, rfl⟩))
    (fun os started H enc _ => lifted os started H enc)
end fnExactSpanOf
theorem fnExactSpanOf_holds : Rows.FnExactSpanOfCardSaid :=
  Claim7.holds_tied_plain_at .later [] [.data, .data] true (true, "f3a48fb792397fa6cde298458764dbf5a462cec2103922b98f29930cb010ad47") false fnExactSpanOf.over (fun _ h => by cases h) (by kernel_rfl) (fun _ h => by cases h) fnExactSpanOf_row_tie rfl ⟨rfl, rfl⟩ (by kernel_rfl) rfl
    (fun f fn hf hfn => by
      obtain rfl : f = 3 := Option.some.inj ((show Tryd.prog.funcNamed "loop.example/g00541/laws.FnExactSpanOf" = some 3 by kernel_rfl).symm.trans hf) |>.symm
      obtain rfl : fn = Tryd.f3 := (Option.some.inj (Tryd.func3.symm.trans hfn)).symm
      exact ⟨by kernel_rfl, fun j t ht => by
        rw [Tryd.params3] at ht
        have hm : t ∈ [3] := by simpa using Array.mem_of_getElem? ht
        have hall : ([3].all fun u => !Tryd.prog.wantsStandIn u) = true := by kernel_rfl
        exact (show Tryd.prog.wantsStandIn t = false by simpa using List.all_eq_true.1 hall t hm)⟩)
    (by kernel_rfl)
end Go.Proofs.YtknngaomlfdhiaaDoor

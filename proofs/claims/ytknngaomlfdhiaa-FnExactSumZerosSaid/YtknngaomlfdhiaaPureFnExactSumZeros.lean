/- The plain law behind FnExactSumZeros: what the two sides compute is the same, for every input. No condition. -/
import Derived.Test.YtknngaomlfdhiaaPFnExactSumZerosx1
set_option linter.unusedVariables false
set_option linter.unusedSimpArgs false
namespace Go.Proofs.Ytknngaomlfdhiaa.Pure
open Go.RowKit Go.Proofs.Ytknngaomlfdhiaa.PFnExactSumZeros Go.Proofs.YtknngaomlfdhiaaW.PrintWords Go.Proofs.YtknngaomlfdhiaaW.PrintLast Go.Proofs.YtknngaomlfdhiaaW.PrintMore

theorem wrap_in {x : Int} (h0 : -9223372036854775808 ≤ x) (h1 : x ≤ 9223372036854775807) : wrap64 x = x := by unfold wrap64; omega
theorem wf_in {x : Int} (h : (Lit.int .i64 x).wf = true) : -9223372036854775808 ≤ x ∧ x ≤ 9223372036854775807 := by
  simp only [Lit.wf, IntKind.min, IntKind.max, IntKind.bits, IntKind.signed, Bool.and_eq_true, decide_eq_true_eq] at h
  exact ⟨by have := h.1; simpa using this, by have := h.2; simpa using this⟩
theorem toList_nil (s : ByteArray) : (s.toList == ([] : List UInt8)) = decide (s.size = 0) := by
  rw [Bool.eq_iff_iff]
  simp only [beq_iff_eq, decide_eq_true_eq, ByteArray.toList_eq]
  constructor
  · intro h
    have h2 : s.data.toList.length = 0 := by rw [h]; rfl
    rw [Array.length_toList] at h2
    exact h2
  · intro h
    have h2 : s.data.toList.length = 0 := by rw [Array.length_toList]; exact h
    exact List.eq_nil_of_length_eq_zero h2

/-- From some number of rounds on the answer is r. -/
def Tot {α : Type} (g : Nat → Option α) (r : α) : Prop := ∃ K, ∀ k, K ≤ k → g k = some r
theorem Tot.at_ {α : Type} {g : Nat → Option α} {r : α} (h : Tot g r) : ∃ k, g k = some r := by
  obtain ⟨K, hK⟩ := h
  exact ⟨K, hK K (Nat.le_refl _)⟩
theorem Tot.pure {α : Type} (r : α) : Tot (fun _ => some r) r := ⟨0, fun _ _ => rfl⟩
theorem Tot.of_eq {α : Type} {g : Nat → Option α} {r : α} (h : ∀ k, g k = some r) : Tot g r := ⟨0, fun k _ => h k⟩
theorem Tot.congr {α : Type} {g g' : Nat → Option α} {r : α} (he : ∀ k, g k = g' k) (h : Tot g' r) : Tot g r := by
  obtain ⟨K, hK⟩ := h
  exact ⟨K, fun k hk => (he k).trans (hK k hk)⟩
theorem Tot.bind {α β : Type} {g : Nat → Option α} {h : Nat → α → Option β} {a : α} {r : β} (hg : Tot g a) (hh : Tot (fun k => h k a) r) : Tot (fun k => (g k).bind (h k)) r := by
  obtain ⟨K, hK⟩ := hg
  obtain ⟨L, hL⟩ := hh
  refine ⟨max K L, fun k hk => ?_⟩
  show (g k).bind (h k) = some r
  rw [hK k (by omega)]
  exact hL k (by omega)
theorem Tot.step {α : Type} {F G : Nat → Option α} {r : α} (hF : ∀ k, F (k + 1) = G k) (h : Tot G r) : Tot F r := by
  obtain ⟨K, hK⟩ := h
  refine ⟨K + 1, fun k hk => ?_⟩
  obtain ⟨m, rfl⟩ : ∃ m, k = m + 1 := ⟨k - 1, by omega⟩
  rw [hF]
  exact hK m (by omega)
theorem Tot.yes {α : Type} {p : Prop} [Decidable p] {g h : Nat → Option α} {r : α} (hp : p) (hg : Tot g r) : Tot (fun k => if p then g k else h k) r := by
  simpa only [if_pos hp] using hg
theorem Tot.no {α : Type} {p : Prop} [Decidable p] {g h : Nat → Option α} {r : α} (hp : ¬ p) (hg : Tot h r) : Tot (fun k => if p then g k else h k) r := by
  simpa only [if_neg hp] using hg
theorem Tot.some_bind {α β : Type} {h : Nat → α → Option β} {a : α} {r : β} (hh : Tot (fun k => h k a) r) : Tot (fun k => (some a).bind (h k)) r := hh

theorem in_v (a b c : Int) : spec_l1In.f a b c = some (decide (b ≤ a ∧ a ≤ c)) := by
  unfold spec_l1In.f
  by_cases h : a ≥ b
  · rw [if_pos h]; congr 1; rw [decide_eq_decide]; omega
  · rw [if_neg h]; congr 1; symm; rw [decide_eq_false_iff_not]; omega

theorem within_v (a b c : Int) : impl_within.f a b c = some (decide (b ≤ a ∧ a ≤ c)) := by
  unfold impl_within.f
  by_cases h : b ≤ a
  · rw [if_pos h]; congr 1; rw [decide_eq_decide]; omega
  · rw [if_neg h]; congr 1; symm; rw [decide_eq_false_iff_not]; omega


theorem wraps_i64 (n : Int) (h₀ : 0 ≤ n) (h₁ : n < 2 ^ 63) : IntKind.i64.wrap n = n := by rw [IntKind.wrap_i64]; omega
theorem bits_xor_i64 (a b : Nat) (ha : a < 2 ^ 63) (hb : b < 2 ^ 63) : Go.bits .xor .i64 (a : Int) (b : Int) = ((a ^^^ b : Nat) : Int) := by
  have hp : (2 : Nat) ^ 63 ≤ 2 ^ IntKind.i64.bits := Nat.pow_le_pow_right (by decide) (by decide)
  have ha' : a % 2 ^ IntKind.i64.bits = a := Nat.mod_eq_of_lt (Nat.lt_of_lt_of_le ha hp)
  have hb' : b % 2 ^ IntKind.i64.bits = b := Nat.mod_eq_of_lt (Nat.lt_of_lt_of_le hb hp)
  simp only [Go.bits, BitVec.ofInt_natCast, BitVec.toNat_xor, BitVec.toNat_ofNat, ha', hb']
  exact wraps_i64 _ (Int.natCast_nonneg _) (by exact_mod_cast Nat.xor_lt_two_pow ha hb)
theorem xor_poly (z : Int) (h0 : 65536 ≤ z) (h1 : z ≤ 131071) : 0 ≤ Go.bits .xor .i64 z 69665 ∧ Go.bits .xor .i64 z 69665 ≤ 65535 := by
  obtain ⟨a, rfl⟩ := Int.eq_ofNat_of_zero_le (show 0 ≤ z by omega)
  have e : Go.bits .xor .i64 (a : Int) 69665 = ((a ^^^ 69665 : Nat) : Int) := bits_xor_i64 a 69665 (by omega) (by omega)
  rw [e]
  have hd : (a ^^^ 69665) / 2 ^ 16 = 0 := by
    rw [Nat.xor_div_two_pow]
    have : a / 2 ^ 16 = 1 := by omega
    rw [this]
    decide
  have : a ^^^ 69665 < 2 ^ 16 := by omega
  omega
theorem byte_div (c : Int) (h0 : 0 ≤ c) (h1 : c ≤ 255) (m : Nat) : 0 ≤ c / 2 ^ m ∧ c / 2 ^ m ≤ 255 := by
  have hp : (0 : Int) < 2 ^ m := Int.pow_pos (by decide)
  refine ⟨Int.ediv_nonneg h0 (by omega), ?_⟩
  have := Int.ediv_le_self (2 ^ m) h0
  omega
theorem implStep (y c : Int) (m : Nat) (hy0 : 0 ≤ y) (hy1 : y ≤ 65535) (hc0 : 0 ≤ c) (hc1 : c ≤ 255) : wrap64 (wrap64 (2 * y) + wrap64 (Go.bits .and .u8 (c / 2 ^ m) 1)) = 2 * y + (c / 2 ^ m) % 2 := by
  obtain ⟨h0, h1⟩ := byte_div c hc0 hc1 m
  have e : Go.bits .and .u8 (c / 2 ^ m) 1 = (c / 2 ^ m) % 2 := by
    have := bits_mask .u8 8 (by decide) wraps_u8 1 (by decide) (c / 2 ^ m) h0 (by omega)
    simpa using this
  rw [e, wrap_in (x := 2 * y) (by omega) (by omega), wrap_in (x := (c / 2 ^ m) % 2) (by omega) (by omega), wrap_in (by omega) (by omega)]
theorem specStep (y c : Int) (m : Nat) (hm : m ≤ 7) (hy0 : 0 ≤ y) (hy1 : y ≤ 65535) (hc0 : 0 ≤ c) (hc1 : c ≤ 255) :
    Go.bits .or .i64 (wrap64 (y * 2)) (Go.bits .and .i64 (wrap64 (shr .u8 c (IntKind.u64.wrap (m : Int)))) 1) = 2 * y + (c / 2 ^ m) % 2 := by
  obtain ⟨h0, h1⟩ := byte_div c hc0 hc1 m
  have e1 : IntKind.u64.wrap (m : Int) = (m : Int) := by
    have : IntKind.u64.wrap (m : Int) = (m : Int) % 18446744073709551616 := by simp [IntKind.wrap, IntKind.bits, IntKind.signed]
    rw [this]; omega
  have e2 : shr .u8 c (m : Int) = c / 2 ^ m := by
    unfold shr
    have : min (m : Int).toNat IntKind.u8.bits = m := by simp [IntKind.bits]; omega
    rw [this]
  rw [e1, e2, wrap_in (x := c / 2 ^ m) (by omega) (by omega), wrap_in (x := y * 2) (by omega) (by omega)]
  have e3 : Go.bits .and .i64 (c / 2 ^ m) 1 = (c / 2 ^ m) % 2 := by
    have := bits_mask .i64 63 (by decide) wraps_i64 1 (by decide) (c / 2 ^ m) h0 (by omega)
    simpa using this
  rw [e3]
  have := bits_join .i64 63 (by decide) wraps_i64 1 (y * 2) ((c / 2 ^ m) % 2) (by omega) (by omega) (by omega) (by omega) (by omega) (by omega)
  rw [this]; omega
theorem sumBit_eq (y c : Int) (m : Nat) (hy0 : 0 ≤ y) (hy1 : y ≤ 65535) (hc0 : 0 ≤ c) (hc1 : c ≤ 255) :
    sumBit y c m = if 65536 ≤ 2 * y + (c / 2 ^ m) % 2 then Go.bits .xor .i64 (2 * y + (c / 2 ^ m) % 2) 69665 else 2 * y + (c / 2 ^ m) % 2 := by
  unfold sumBit
  rw [implStep y c m hy0 hy1 hc0 hc1]
theorem sumBit_range (y c : Int) (m : Nat) (hy0 : 0 ≤ y) (hy1 : y ≤ 65535) (hc0 : 0 ≤ c) (hc1 : c ≤ 255) : 0 ≤ sumBit y c m ∧ sumBit y c m ≤ 65535 := by
  rw [sumBit_eq y c m hy0 hy1 hc0 hc1]
  split
  · exact xor_poly _ (by omega) (by omega)
  · omega
theorem sumBits_range : ∀ (m : Nat) (y c : Int), 0 ≤ y → y ≤ 65535 → 0 ≤ c → c ≤ 255 → 0 ≤ sumBits m y c ∧ sumBits m y c ≤ 65535
  | 0, y, c, h0, h1, _, _ => ⟨h0, h1⟩
  | m + 1, y, c, h0, h1, h2, h3 => sumBits_range m _ c (sumBit_range y c m h0 h1 h2 h3).1 (sumBit_range y c m h0 h1 h2 h3).2 h2 h3
theorem sumFrom_range (s : ByteArray) : ∀ (d i : Nat) (x : Int), 0 ≤ x → x ≤ 65535 → 0 ≤ sumFrom s d i x ∧ sumFrom s d i x ≤ 65535
  | 0, _, x, h0, h1 => ⟨h0, h1⟩
  | d + 1, i, x, h0, h1 => by
    have hb := bt_range s i
    have := sumBits_range 8 x (bt s i) h0 h1 hb.1 hb.2
    exact sumFrom_range s d (i + 1) _ this.1 this.2
theorem specOn_l1 (s : ByteArray) (i : Nat) (hi : i < s.size) (R : Int) : ∀ (m : Nat) (y : Int), m ≤ 8 → 0 ≤ y → y ≤ 65535 → Tot (fun k => spec_l1On.l0 k (sumBits m y (bt s i)) s (wrap64 ((i : Int) + 1))) R → Tot (fun k => spec_l1On.l1 k y s i ((m : Int) - 1)) R
  | 0, y, hm, h0, h1, h => by
    refine Tot.step (fun k => spec_l1On.l1.eq_2 ..) ?_
    exact Tot.no (by omega) h
  | m + 1, y, hm, h0, h1, h => by
    have hb := bt_range s i
    refine Tot.step (fun k => spec_l1On.l1.eq_2 ..) ?_
    have e0 : ((m + 1 : Nat) : Int) - 1 = (m : Int) := by omega
    have ew : IntKind.u64.wrap (m : Int) = (m : Int) := by
      have : IntKind.u64.wrap (m : Int) = (m : Int) % 18446744073709551616 := by simp [IntKind.wrap, IntKind.bits, IntKind.signed]
      rw [this]; omega
    rw [e0]
    refine Tot.yes (by omega) (Tot.yes (by omega) (Tot.yes (by omega) (Tot.yes (by rw [ew]; omega) ?_)))
    rw [specStep y (bt s i) m (by omega) h0 h1 hb.1 hb.2, wrap_in (x := (m : Int) - 1) (by omega) (by omega)]
    have hs := sumBit_eq y (bt s i) m h0 h1 hb.1 hb.2
    have hr := sumBit_range y (bt s i) m h0 h1 hb.1 hb.2
    by_cases hc : 2 * y + (bt s i / 2 ^ m) % 2 > 65535
    · refine Tot.yes hc ?_
      rw [if_pos (by omega)] at hs
      rw [← hs]
      exact specOn_l1 s i hi R m _ (by omega) hr.1 hr.2 h
    · refine Tot.no hc ?_
      rw [if_neg (by omega)] at hs
      rw [← hs]
      exact specOn_l1 s i hi R m _ (by omega) hr.1 hr.2 h
theorem specOn_l0 (s : ByteArray) (hs : s.size ≤ 140737488351232) : ∀ (d i : Nat) (x : Int), i + d = s.size → 0 ≤ x → x ≤ 65535 → Tot (fun k => spec_l1On.l0 k x s i) (sumFrom s d i x)
  | 0, i, x, h, h0, h1 => by
    refine Tot.step (fun k => spec_l1On.l0.eq_2 ..) ?_
    exact Tot.no (by omega) (Tot.pure _)
  | d + 1, i, x, h, h0, h1 => by
    refine Tot.step (fun k => spec_l1On.l0.eq_2 ..) ?_
    refine Tot.yes (by omega) ?_
    have hb := bt_range s i
    have hr := sumBits_range 8 x (bt s i) h0 h1 hb.1 hb.2
    refine specOn_l1 s i (by omega) _ 8 x (by omega) h0 h1 ?_
    rw [wrap_in (by omega) (by omega)]
    exact specOn_l0 s hs d (i + 1) _ (by omega) hr.1 hr.2
theorem specOn_v (x : Int) (s : ByteArray) (hs : s.size ≤ 140737488351232) (h0 : 0 ≤ x) (h1 : x ≤ 65535) : Tot (fun k => spec_l1On.f k x s) (sumFrom s s.size 0 x) := by
  have := specOn_l0 s hs s.size 0 x (by omega) h0 h1
  simpa [spec_l1On.f] using this
theorem implOn_v (x : Int) (s : ByteArray) (hs : s.size ≤ 140737488351232) : impl_sumOn.f x s = some (sumFrom s s.size 0 x) := by
  unfold impl_sumOn.f
  rw [if_pos hs]


theorem repeatL_zero : ∀ n, Lib.repeatL [0] n = List.replicate n (0 : UInt8)
  | 0 => rfl
  | n + 1 => by
    show [0] ++ Lib.repeatL [0] n = _
    rw [repeatL_zero n]
    rfl
theorem zeros_eq (n : Nat) : Go.Proofs.Ytknngaomlfdhiaa.Rep.repeatS (⟨#[0]⟩ : ByteArray) n = strOfNums (List.replicate n 0) := by
  unfold Go.Proofs.Ytknngaomlfdhiaa.Rep.repeatS strOfNums
  have e : (⟨#[0]⟩ : ByteArray).data.toList = [0] := rfl
  rw [e, repeatL_zero]
  simp
theorem zeros_size (n : Nat) : (strOfNums (List.replicate n 0)).size = n := by
  unfold strOfNums
  show (Array.size _) = n
  simp
def zerosR (x n : Int) : Int × Bool := if (0 ≤ x ∧ x ≤ 65535) ∧ (0 ≤ n ∧ n ≤ 400) then (sumFrom (strOfNums (List.replicate n.toNat 0)) n.toNat 0 x, true) else (0, false)
theorem specZeros_v (x n : Int) : Tot (fun k => spec_SumZeros.f k x n) (zerosR x n) := by
  unfold spec_SumZeros.f
  simp only [in_v, Option.bind_some]
  by_cases h : 0 ≤ x ∧ x ≤ 65535
  · by_cases h2 : 0 ≤ n ∧ n ≤ 400
    · have e : zerosR x n = (sumFrom (strOfNums (List.replicate n.toNat 0)) n.toNat 0 x, true) := if_pos ⟨h, h2⟩
      rw [e]
      have hs := specOn_v x (strOfNums (List.replicate n.toNat 0)) (by rw [zeros_size]; omega) h.1 h.2
      rw [zeros_size] at hs
      exact Tot.yes (decide_eq_true h) (Tot.yes (decide_eq_true h2) (Tot.yes h2.1 (Tot.yes (by omega) (Tot.bind hs (Tot.pure _)))))
    · have e : zerosR x n = (0, false) := if_neg (fun hh => h2 hh.2)
      rw [e]
      exact Tot.yes (decide_eq_true h) (Tot.no (by simp [h2]) (Tot.pure _))
  · have e : zerosR x n = (0, false) := if_neg (fun hh => h hh.1)
    rw [e]
    exact Tot.no (by simp [h]) (Tot.pure _)
theorem implZeros_v (x n : Int) : Tot (fun k => impl_SumZeros.f k x n) (zerosR x n) := by
  unfold impl_SumZeros.f impl_isSum.f
  simp only [within_v, Option.bind_some]
  by_cases h : 0 ≤ x ∧ x ≤ 65535
  · refine Tot.yes (decide_eq_true h) (Tot.step (fun k => impl_SumZeros.j0.eq_2 ..) ?_)
    by_cases h2 : 0 ≤ n ∧ n ≤ 400
    · have e : zerosR x n = (sumFrom (strOfNums (List.replicate n.toNat 0)) n.toNat 0 x, true) := if_pos ⟨h, h2⟩
      rw [e]
      refine Tot.no (by simp [h2]) ?_
      refine Tot.of_eq fun k => ?_
      unfold strings_Repeat.f
      rw [if_pos ⟨h2.1, by decide, by omega⟩, Option.bind_some, zeros_eq, implOn_v x _ (by rw [zeros_size]; omega), Option.bind_some, zeros_size]
    · have e : zerosR x n = (0, false) := if_neg (fun hh => h2 hh.2)
      rw [e]
      exact Tot.yes (by simp [h2]) (Tot.pure _)
  · have e : zerosR x n = (0, false) := if_neg (fun hh => h hh.1)
    rw [e]
    exact Tot.no (by simp [h]) (Tot.step (fun k => impl_SumZeros.j0.eq_2 ..) (Tot.yes rfl (Tot.pure _)))
theorem FnExactSumZeros : laws_FnExactSumZeros.Pure := by
  intro x n _ _
  refine Tot.at_ ?_
  unfold laws_FnExactSumZeros.f
  exact Tot.bind (specZeros_v x n) (Tot.bind (implZeros_v x n) (Tot.yes rfl (Tot.no (by simp) (Tot.pure _))))

end Go.Proofs.Ytknngaomlfdhiaa.Pure

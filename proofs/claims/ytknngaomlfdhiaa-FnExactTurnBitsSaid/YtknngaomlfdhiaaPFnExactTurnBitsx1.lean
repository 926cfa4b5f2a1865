/- Lean functions with the same answers as the Go functions that one law reaches, and for each a proof that its call comes to just these answers. No condition. Written by pr.py, a program of this session. -/
import Derived.Test.YtknngaomlfdhiaaPFnExactTurnBitsx0
namespace Go.Proofs.Ytknngaomlfdhiaa.PFnExactTurnBits
open Go.RowKit Go.Proofs.YtknngaomlfdhiaaW.PrintWords Go.Proofs.YtknngaomlfdhiaaW.PrintLast Go.Proofs.YtknngaomlfdhiaaW.PrintMore
attribute [local go_sem] max2_int min2_int max_two min_two max_three min_three max_four min_four   -- for this text's walks alone
set_option linter.unusedVariables false
set_option linter.unusedSimpArgs false

/-! ### impl_within: function 50 -/
def impl_within.f (a0 : Int) (a1 : Int) (a2 : Int) : Option (Bool) := if a1 ≤ a0 then (some (decide (a0 ≤ a2))) else (some false)
set_option maxHeartbeats 8000000 in
set_option maxRecDepth 100000 in
theorem impl_within.calls (a0 : Int) (a1 : Int) (a2 : Int) (r : Bool) (w : World) (h : impl_within.f a0 a1 a2 = some r) :
    Calls Try.prog 50 #[.int .i64 a0, .int .i64 a1, .int .i64 a2] w fun e w' => e = .returned (.bool r) ∧ Drawn0 w w' := by
  have H : (if a1 ≤ a0 then (some (decide (a0 ≤ a2))) else (some false)) = some r := h
  clear h
  by_cases c4 : a1 ≤ a0
  · rw [if_pos c4] at H
    have c4b0 : decide (a1 ≤ a0) = true := decide_eq_true c4
    clear c4
    obtain rfl := Option.some.inj H
    go_enter Try.func50, Try.ntmps50
    go_wp2
    go_ret
    exact ⟨by first | rfl | (simp; done) | (simp [*]; done), by repeat (first | exact Drawn0.refl _ | apply Drawn0.step)⟩
  · rw [if_neg c4] at H
    have c4b0 : decide (a1 ≤ a0) = false := decide_eq_false c4
    clear c4
    obtain rfl := Option.some.inj H
    go_enter Try.func50, Try.ntmps50
    go_wp2
    go_ret
    exact ⟨by first | rfl | (simp; done) | (simp [*]; done), by repeat (first | exact Drawn0.refl _ | apply Drawn0.step)⟩

/-! ### impl_isBits: function 54 -/
def impl_isBits.f (a0 : Int) : Option (Bool) := (impl_within.f a0 0 16777215).bind fun t101 => (some t101)
set_option maxHeartbeats 8000000 in
set_option maxRecDepth 100000 in
theorem impl_isBits.calls (a0 : Int) (r : Bool) (w : World) (h : impl_isBits.f a0 = some r) :
    Calls Try.prog 54 #[.int .i64 a0] w fun e w' => e = .returned (.bool r) ∧ Drawn0 w w' := by
  have H : ((impl_within.f a0 0 16777215).bind fun t101 => (some t101)) = some r := h
  clear h
  replace H := Option.bind_eq_some_iff.mp H
  obtain ⟨t101, A20, H⟩ := H
  replace H : (some t101) = some r := H
  have A2 := Aside0.mk A20
  clear A20
  obtain rfl := Option.some.inj H
  go_enter Try.func54, Try.ntmps54
  go_wp2_with (first | ((with_reducible refine gate_callee (f := 50) rfl ?_); refine goesL_ (some 4) rfl rfl Try.func50 (by kernel_rfl) rfl #[.int .i64 a0, .int .i64 0, .int .i64 16777215] rfl (by (try simp only [List.map_toArray, List.map_cons, List.map_nil]); first | done | rfl | (simp only [List.length_drop, List.length_take]; rfl)) ?_; (with_reducible refine (impl_within.calls a0 0 16777215 t101 _ A2.out).mono ?_); rintro e w' ⟨rfl, ⟨nd, rfl⟩⟩; refine ⟨_, rfl, ?_⟩))
  go_ret
  exact ⟨by first | rfl | (simp; done) | (simp [*]; done), by repeat (first | exact Drawn0.refl _ | apply Drawn0.step)⟩

/-! ### bits_Len: function 55 (ours) -/
/-- k is how many bits n has. -/
def isLen (n k : Nat) : Prop := n < 2 ^ k ∧ (0 < k → 2 ^ (k - 1) ≤ n)
theorem isLen_one {n a b : Nat} (ha : isLen n a) (hb : isLen n b) : a = b := by
  rcases Nat.lt_trichotomy a b with h | h | h
  · have h1 := hb.2 (by omega)
    have h2 : 2 ^ a ≤ 2 ^ (b - 1) := Nat.pow_le_pow_right (by decide) (by omega)
    have := ha.1
    omega
  · exact h
  · have h1 := ha.2 (by omega)
    have h2 : 2 ^ b ≤ 2 ^ (a - 1) := Nat.pow_le_pow_right (by decide) (by omega)
    have := hb.1
    omega
def lenN (n : Nat) : Nat := if n = 0 then 0 else n.log2 + 1
theorem lenN_is (n : Nat) : isLen n (lenN n) := by
  unfold lenN
  split
  · rename_i h; subst h; exact ⟨by decide, fun h => by omega⟩
  · rename_i h
    exact ⟨Nat.lt_log2_self, fun _ => by simpa using Nat.log2_self_le h⟩
theorem isLen_up {n k j : Nat} (h : isLen (n / 2 ^ j) k) (hn : 2 ^ j ≤ n) : isLen n (k + j) := by
  have hq : 0 < n / 2 ^ j := Nat.div_pos hn (Nat.two_pow_pos j)
  have hk : 0 < k := by
    rcases Nat.eq_zero_or_pos k with e | e
    · subst e; have := h.1; simp at this; omega
    · exact e
  refine ⟨?_, fun _ => ?_⟩
  · have h1 := h.1
    rw [Nat.div_lt_iff_lt_mul (Nat.two_pow_pos j)] at h1
    rw [Nat.pow_add]; exact h1
  · have h2 := h.2 hk
    rw [Nat.le_div_iff_mul_le (Nat.two_pow_pos j), ← Nat.pow_add] at h2
    rw [show k + j - 1 = k - 1 + j by omega]
    exact h2
theorem lenN_up {n j : Nat} (hn : 2 ^ j ≤ n) : lenN n = lenN (n / 2 ^ j) + j := isLen_one (lenN_is n) (isLen_up (lenN_is _) hn)
set_option maxRecDepth 100000 in
theorem lenT_is : ∃ tb : ByteArray, (⟨#[0, 1, 2, 2, 3, 3, 3, 3, 4, 4, 4, 4, 4, 4, 4, 4, 5, 5, 5, 5, 5, 5, 5, 5, 5, 5, 5, 5, 5, 5, 5, 5, 6, 6, 6, 6, 6, 6, 6, 6, 6, 6, 6, 6, 6, 6, 6, 6, 6, 6, 6, 6, 6, 6, 6, 6, 6, 6, 6, 6, 6, 6, 6, 6, 7, 7, 7, 7, 7, 7, 7, 7, 7, 7, 7, 7, 7, 7, 7, 7, 7, 7, 7, 7, 7, 7, 7, 7, 7, 7, 7, 7, 7, 7, 7, 7, 7, 7, 7, 7, 7, 7, 7, 7, 7, 7, 7, 7, 7, 7, 7, 7, 7, 7, 7, 7, 7, 7, 7, 7, 7, 7, 7, 7, 7, 7, 7, 7, 8, 8, 8, 8, 8, 8, 8, 8, 8, 8, 8, 8, 8, 8, 8, 8, 8, 8, 8, 8, 8, 8, 8, 8, 8, 8, 8, 8, 8, 8, 8, 8, 8, 8, 8, 8, 8, 8, 8, 8, 8, 8, 8, 8, 8, 8, 8, 8, 8, 8, 8, 8, 8, 8, 8, 8, 8, 8, 8, 8, 8, 8, 8, 8, 8, 8, 8, 8, 8, 8, 8, 8, 8, 8, 8, 8, 8, 8, 8, 8, 8, 8, 8, 8, 8, 8, 8, 8, 8, 8, 8, 8, 8, 8, 8, 8, 8, 8, 8, 8, 8, 8, 8, 8, 8, 8, 8, 8, 8, 8, 8, 8, 8, 8, 8, 8, 8, 8, 8, 8, 8, 8, 8, 8, 8, 8, 8, 8]⟩ : ByteArray) = tb ∧ tb.size = 256 ∧ ∀ (n : Nat), n < 256 → ∀ h : n < tb.size, ((tb[n]'h).toNat : Int) = (lenN n : Int) := by
  refine ⟨_, rfl, by decide +kernel, fun n hn h => ?_⟩
  have := (by decide +kernel : ∀ i : Fin 256, ∀ h : i.1 < (⟨#[0, 1, 2, 2, 3, 3, 3, 3, 4, 4, 4, 4, 4, 4, 4, 4, 5, 5, 5, 5, 5, 5, 5, 5, 5, 5, 5, 5, 5, 5, 5, 5, 6, 6, 6, 6, 6, 6, 6, 6, 6, 6, 6, 6, 6, 6, 6, 6, 6, 6, 6, 6, 6, 6, 6, 6, 6, 6, 6, 6, 6, 6, 6, 6, 7, 7, 7, 7, 7, 7, 7, 7, 7, 7, 7, 7, 7, 7, 7, 7, 7, 7, 7, 7, 7, 7, 7, 7, 7, 7, 7, 7, 7, 7, 7, 7, 7, 7, 7, 7, 7, 7, 7, 7, 7, 7, 7, 7, 7, 7, 7, 7, 7, 7, 7, 7, 7, 7, 7, 7, 7, 7, 7, 7, 7, 7, 7, 7, 8, 8, 8, 8, 8, 8, 8, 8, 8, 8, 8, 8, 8, 8, 8, 8, 8, 8, 8, 8, 8, 8, 8, 8, 8, 8, 8, 8, 8, 8, 8, 8, 8, 8, 8, 8, 8, 8, 8, 8, 8, 8, 8, 8, 8, 8, 8, 8, 8, 8, 8, 8, 8, 8, 8, 8, 8, 8, 8, 8, 8, 8, 8, 8, 8, 8, 8, 8, 8, 8, 8, 8, 8, 8, 8, 8, 8, 8, 8, 8, 8, 8, 8, 8, 8, 8, 8, 8, 8, 8, 8, 8, 8, 8, 8, 8, 8, 8, 8, 8, 8, 8, 8, 8, 8, 8, 8, 8, 8, 8, 8, 8, 8, 8, 8, 8, 8, 8, 8, 8, 8, 8, 8, 8, 8, 8, 8, 8]⟩ : ByteArray).size, (((⟨#[0, 1, 2, 2, 3, 3, 3, 3, 4, 4, 4, 4, 4, 4, 4, 4, 5, 5, 5, 5, 5, 5, 5, 5, 5, 5, 5, 5, 5, 5, 5, 5, 6, 6, 6, 6, 6, 6, 6, 6, 6, 6, 6, 6, 6, 6, 6, 6, 6, 6, 6, 6, 6, 6, 6, 6, 6, 6, 6, 6, 6, 6, 6, 6, 7, 7, 7, 7, 7, 7, 7, 7, 7, 7, 7, 7, 7, 7, 7, 7, 7, 7, 7, 7, 7, 7, 7, 7, 7, 7, 7, 7, 7, 7, 7, 7, 7, 7, 7, 7, 7, 7, 7, 7, 7, 7, 7, 7, 7, 7, 7, 7, 7, 7, 7, 7, 7, 7, 7, 7, 7, 7, 7, 7, 7, 7, 7, 7, 8, 8, 8, 8, 8, 8, 8, 8, 8, 8, 8, 8, 8, 8, 8, 8, 8, 8, 8, 8, 8, 8, 8, 8, 8, 8, 8, 8, 8, 8, 8, 8, 8, 8, 8, 8, 8, 8, 8, 8, 8, 8, 8, 8, 8, 8, 8, 8, 8, 8, 8, 8, 8, 8, 8, 8, 8, 8, 8, 8, 8, 8, 8, 8, 8, 8, 8, 8, 8, 8, 8, 8, 8, 8, 8, 8, 8, 8, 8, 8, 8, 8, 8, 8, 8, 8, 8, 8, 8, 8, 8, 8, 8, 8, 8, 8, 8, 8, 8, 8, 8, 8, 8, 8, 8, 8, 8, 8, 8, 8, 8, 8, 8, 8, 8, 8, 8, 8, 8, 8, 8, 8, 8, 8, 8, 8, 8, 8]⟩ : ByteArray)[i.1]'h).toNat : Int) = (lenN i.1 : Int))
  exact this ⟨n, hn⟩ h
theorem lenN_small {n : Nat} (h : n < 256) : lenN n ≤ 8 := by
  have := (by decide +kernel : ∀ i : Fin 256, lenN i.1 ≤ 8)
  exact this ⟨n, h⟩
theorem wrap_in0 {x : Int} (h0 : -9223372036854775808 ≤ x) (h1 : x ≤ 9223372036854775807) : wrap64 x = x := by unfold wrap64; omega
set_option maxHeartbeats 4000000 in
set_option maxRecDepth 100000 in
theorem fx_len64 (n : Nat) (w : World) (h1 : n < 16777216) :
    Calls Try.prog 60 #[.int .u64 (n : Int)] w fun e w' => e = .returned (.int .i64 (lenN n)) ∧ w' = w := by
  have hd1 : decide (4294967296 ≤ (n : Int)) = false := decide_eq_false (by omega)
  obtain ⟨tb, hB, hsz, hv⟩ := lenT_is
  by_cases c1 : n < 256
  · have hd2 : decide (65536 ≤ (n : Int)) = false := decide_eq_false (by omega)
    have hd3 : decide (256 ≤ (n : Int)) = false := decide_eq_false (by omega)
    have hv2 : ∀ h : n < tb.size, ((tb[n]'h).toNat : Int) = (lenN n : Int) := hv n c1
    have hlt : n < tb.size := by omega
    have hlt2 : (n : Int) < (tb.size : Int) := by omega
    have hl := lenN_small c1
    clear hv
    go_enter Try.func60, Try.ntmps60
    go_wp2
    go_ret
    exact ⟨rfl, rfl⟩
  · by_cases c2 : n < 65536
    · have hd2 : decide (65536 ≤ (n : Int)) = false := decide_eq_false (by omega)
      have hd3 : decide (256 ≤ (n : Int)) = true := decide_eq_true (by omega)
      obtain ⟨m, hm⟩ : ∃ m, n / 256 = m := ⟨_, rfl⟩
      have hm2 : m < 256 := by omega
      have hsh : (n : Int) / 256 = (m : Int) := by omega
      have hv2 : ∀ h : m < tb.size, ((tb[m]'h).toNat : Int) = (lenN m : Int) := hv m hm2
      have hlt : m < tb.size := by omega
      have hlt2 : (m : Int) < (tb.size : Int) := by omega
      have hl := lenN_small hm2
      have hup : lenN n = lenN m + 8 := by rw [← hm]; exact lenN_up (n := n) (j := 8) (by omega)
      rw [hup]
      clear hv hm hup
      go_enter Try.func60, Try.ntmps60
      go_wp2
      go_ret
      exact ⟨by show Ending.returned (.int .i64 (8 + (lenN m : Int))) = .returned (.int .i64 ((lenN m : Int) + 8)); rw [Int.add_comm], rfl⟩
    · have hd2 : decide (65536 ≤ (n : Int)) = true := decide_eq_true (by omega)
      obtain ⟨m, hm⟩ : ∃ m, n / 65536 = m := ⟨_, rfl⟩
      have hm2 : m < 256 := by omega
      have hsh : (n : Int) / 65536 = (m : Int) := by omega
      have hd3 : decide (256 ≤ (m : Int)) = false := decide_eq_false (by omega)
      have hv2 : ∀ h : m < tb.size, ((tb[m]'h).toNat : Int) = (lenN m : Int) := hv m hm2
      have hlt : m < tb.size := by omega
      have hlt2 : (m : Int) < (tb.size : Int) := by omega
      have hl := lenN_small hm2
      have hup : lenN n = lenN m + 16 := by rw [← hm]; exact lenN_up (n := n) (j := 16) (by omega)
      rw [hup]
      clear hv hm hup
      go_enter Try.func60, Try.ntmps60
      go_wp2
      go_ret
      exact ⟨by show Ending.returned (.int .i64 (16 + (lenN m : Int))) = .returned (.int .i64 ((lenN m : Int) + 16)); rw [Int.add_comm], rfl⟩
set_option maxHeartbeats 4000000 in
set_option maxRecDepth 100000 in
theorem fx_len (n : Nat) (w : World) (h1 : n < 16777216) :
    Calls Try.prog 55 #[.int .u64 (n : Int)] w fun e w' => e = .returned (.int .i64 (lenN n)) ∧ w' = w := by
  go_enter Try.func55, Try.ntmps55
  go_wp2_with (go_at_call 60; refine (fx_len64 n _ h1).mono ?_; rintro e w' ⟨rfl, hw⟩; subst w')
  go_ret
  exact ⟨rfl, rfl⟩

/-! ### impl_TurnBits: function 29 (ours) -/
theorem bt_cell (w : World) (e : TypeId) (s : ByteArray) (j : Nat) (hj : j < s.size) : (Lib.bytesWorld w e s).cell? ⟨w.heap.size, j, none⟩ = some (.int .u8 (bt s j)) := by
  rw [Lib.bytesWorld_cell w e s j hj]
  unfold bt
  rw [dif_pos (by simpa using hj)]
  congr 2
  simp [List.getD, hj]
  rfl
theorem bt_below (w : World) (e : TypeId) (s : ByteArray) : Below w.heap.size w (Lib.bytesWorld w e s) := by
  refine ⟨rfl, rfl, rfl, ?_, fun j hj => Lib.bytesWorld_at_old w e s j hj⟩
  rw [Lib.bytesWorld_size]; omega
theorem bt_frozen (w : World) (e : TypeId) (s : ByteArray) (j : Nat) (hj : j < s.size) : (Lib.bytesWorld w e s).frozen? ⟨w.heap.size, j, none⟩ = false := by
  have h1 : s.size ≤ (Lib.bytesCells w e s).size := by
    unfold Lib.bytesCells
    rw [Array.size_append, Array.size_map]
    exact Nat.le_add_right _ _
  unfold World.frozen?
  rw [Lib.bytesWorld_at_new]
  simp
  omega
def turnStep (f b L i : Nat) (xs : List Int) : List Int := if bits .and .i64 ((b : Int) / 2 ^ (L - 1 - i)) 1 = 1 then xs.set ((f + i) / 8) (bits .xor .u8 (xs.getD ((f + i) / 8) 0) (2 ^ (7 - (f + i) % 8) % 256)) else xs
def turnN (f b L : Nat) : Nat → Nat → List Int → List Int
  | 0, _, xs => xs
  | d + 1, i, xs => turnN f b L d (i + 1) (turnStep f b L i xs)
def bytesI (a : ByteArray) : List Int := (List.range a.size).map fun j => bt a (j : Nat)
theorem turnStep_len (f b L i : Nat) (xs : List Int) : (turnStep f b L i xs).length = xs.length := by unfold turnStep; split <;> simp
theorem bytes_at (a : ByteArray) (j : Nat) (hj : j < a.size) : (bytesI a).getD j 0 = bt a j := by
  unfold bytesI
  rw [List.getD_eq_getElem?_getD, List.getElem?_map, List.getElem?_range hj]
  rfl
theorem bytes_C {W : World} {g n : Nat} {xs : List Int} (hl : xs.length = n) (hn : n ≤ 9223372036854775807) (hc : ∀ j, j < n → W.cell? ⟨g, j, none⟩ = some (.int .u8 (xs.getD j 0))) : Kd.C (Kd.int .u8) W (some ⟨g, 0, none⟩) n xs :=
  ⟨hl, hn, fun _ => ⟨_, rfl, fun j x hj => ⟨[.int .u8 x], rfl, rfl, fun q u hq => by
    match q, hq with
    | 0, hq =>
      obtain rfl : Value.int .u8 x = u := by simpa using hq
      have hj2 : j < n := by rw [← hl]; exact (List.getElem?_eq_some_iff.1 hj).1
      rw [show ((⟨g, 0, none⟩ : Addr).add (j * (Kd.int .u8).sz + 0)) = ⟨g, j, none⟩ by rw [Addr.add_lit, Nat.zero_add]; show (⟨g, j * 1 + 0, none⟩ : Addr) = _; simp]
      rw [hc j hj2, List.getD_eq_getElem?_getD, hj]
      rfl
    | q + 1, hq => simp at hq⟩⟩⟩
theorem cells_set {W : World} {g n q : Nat} {xs : List Int} {v : Int} (hl : xs.length = n) (hq : q < n) (hc : ∀ j, j < n → W.cell? ⟨g, j, none⟩ = some (.int .u8 (xs.getD j 0))) : ∀ j, j < n → (W.setCell ⟨g, q, none⟩ (.int .u8 v)).cell? ⟨g, j, none⟩ = some (.int .u8 ((xs.set q v).getD j 0)) := fun j hj => by
  by_cases h : j = q
  · subst h
    rw [World.cell?_setCell_same _ _ _ (hc j hj), List.getD_eq_getElem?_getD, List.getElem?_set_self (by omega)]
    rfl
  · rw [World.cell?_setCell_other W ⟨g, q, none⟩ ⟨g, j, none⟩ _ (fun e => h (Eq.symm (congrArg Addr.off e))), hc j hj, List.getD_eq_getElem?_getD, List.getD_eq_getElem?_getD, List.getElem?_set_ne (fun e => h e.symm)]
set_option maxHeartbeats 8000000 in
set_option maxRecDepth 100000 in
theorem impl_TurnBits.walk (a0 : ByteArray) (f b : Nat) (w : World) (hs : a0.size ≤ 400) (hf : f ≤ 8 * a0.size) (hb : b < 16777216) (hfit : f + lenN b ≤ 8 * a0.size) (hL : lenN b ≤ 24)
    (hlen : ∀ W, Calls Try.prog 55 #[.int .u64 (b : Int)] W fun e w' => e = .returned (.int .i64 (lenN b)) ∧ w' = W)
    (hw1 : ∀ W, Calls Try.prog 50 #[.int .i64 (f : Int), .int .i64 0, .int .i64 (8 * (a0.size : Int))] W fun e w' => e = .returned (.bool true) ∧ Drawn0 W w')
    (hw2 : ∀ W, Calls Try.prog 54 #[.int .i64 (b : Int)] W fun e w' => e = .returned (.bool true) ∧ Drawn0 W w') :
    Calls Try.prog 29 #[.string a0, .int .i64 (f : Int), .int .i64 (b : Int)] w fun e w' => e = .returned (.tuple #[.string (strOfNums (turnN f b (lenN b) (lenN b) 0 (bytesI a0))), .bool true]) ∧ Below w.heap.size w w' := by
  have h3 : decide ((400 : Int) < (a0.size : Int)) = false := decide_eq_false (by omega)
  have h5 : decide (8 * (a0.size : Int) < (f : Int) + (lenN b : Int)) = false := decide_eq_false (by omega)
  have kc := fun (w : World) => Lib.run_convert_string_bytes (P := Try.prog) w 9 57 5 a0 Try.underlying9 Try.underlying57 Try.underlying5
  generalize lenN b = L at *
  go_enter Try.func29, Try.ntmps29
  go_wp2_with (first | (go_at_call 50; refine (hw1 _).mono ?_; rintro e w1 ⟨rfl, hd1⟩; have HD1 := Aside0.mk hd1.below; clear hd1) | (go_at_call 54; refine (hw2 _).mono ?_; rintro e w2 ⟨rfl, hd2⟩; have HD2 := Aside0.mk (HD1.out.trans (hd2.below.mono HD1.out.size)); clear hd2) | (go_at_call 55; refine (hlen _).mono ?_; rintro e w' ⟨rfl, hw⟩; subst w'))
  clear kc
  have HB0 := Aside0.mk (HD2.out.trans ((bt_below w2 5 a0).mono HD2.out.size))
  have HGE := Aside0.mk HD2.out.size
  have HC0 := Aside0.mk (fun (j : Nat) (hj : j < a0.size) => bt_cell w2 5 a0 j hj)
  have HF0 := Aside0.mk (fun (j : Nat) (hj : j < a0.size) => bt_frozen w2 5 a0 j hj)
  generalize Lib.bytesWorld w2 5 a0 = W at *
  generalize grownCap w2 a0.size 0 5 = cp
  generalize w2.heap.size = g at *
  go_loopg [10, 11, 41] L (fun gk s10 s11 s41 wr => ∃ i : Nat, i + gk = L ∧ s41 = .int .i64 i ∧ ∃ xs : List Int, Aside0 (turnN f b L gk i xs = turnN f b L L 0 (bytesI a0)) ∧ Aside0 (xs.length = a0.size) ∧ Aside0 (∀ j, j < a0.size → wr.cell? ⟨g, j, none⟩ = some (.int .u8 (xs.getD j 0))) ∧ Aside0 (∀ j, j < a0.size → wr.frozen? ⟨g, j, none⟩ = false) ∧ Aside0 (Below w.heap.size w wr))
  case atStart => exact ⟨0, by omega, rfl, bytesI a0, ⟨rfl⟩, ⟨by simp [bytesI]⟩, ⟨fun j hj => by rw [bytes_at a0 j hj]; exact HC0.out j hj⟩, HF0, HB0⟩
  case round =>
    obtain ⟨i, hi, rfl, xs, HT, HX, HC, HF, HB⟩ := hrel
    by_cases hlt : i < L
    · have hlt' : decide ((i : Int) < (L : Int)) = true := decide_eq_true (by omega)
      obtain ⟨q, hq⟩ : ∃ q, (f + i) / 8 = q := ⟨_, rfl⟩
      obtain ⟨m, hm⟩ : ∃ m, (f + i) % 8 = m := ⟨_, rfl⟩
      have hq1 : ((f : Int) + (i : Int)).tdiv 8 = (q : Int) := by rw [Int.tdiv_eq_ediv_of_nonneg (by omega)]; omega
      have hq2 : ((f : Int) + (i : Int)) / 8 = (q : Int) := by omega
      have hm1 : ((f : Int) + (i : Int)).tmod 8 = (m : Int) := by rw [Int.tmod_eq_emod_of_nonneg (by omega)]; omega
      have hm2 : ((f : Int) + (i : Int)) % 8 = (m : Int) := by omega
      have hm8 : m < 8 := by omega
      have hqn : q < a0.size := by omega
      have hqn2 : (q : Int) < (a0.size : Int) := by omega
      have hc : wr.cell? ⟨g, q, none⟩ = some (.int .u8 (xs.getD q 0)) := HC.out q hqn
      have hfz : wr.frozen? ⟨g, q, none⟩ = false := HF.out q hqn
      obtain ⟨y, hy⟩ : ∃ y, xs.getD q 0 = y := ⟨_, rfl⟩
      rw [hy] at hc
      obtain ⟨g1, rfl⟩ : ∃ g1, gk = g1 + 1 := ⟨gk - 1, by omega⟩
      have hT := HT.out
      replace hT : turnN f b L g1 (i + 1) (turnStep f b L i xs) = turnN f b L L 0 (bytesI a0) := hT
      have HI := Aside0.mk hi
      by_cases hbit : bits .and .i64 ((b : Int) / 2 ^ (L - 1 - i)) 1 = 1
      · have hbit' : (bits .and .i64 ((b : Int) / 2 ^ (L - 1 - i)) 1 == 1) = true := beq_iff_eq.mpr hbit
        rw [show turnStep f b L i xs = xs.set q (bits .xor .u8 y (2 ^ (7 - m) % 256)) by unfold turnStep; rw [if_pos hbit, hq, hm, hy]] at hT
        have HT2 := Aside0.mk hT
        clear hT hi hy hq hm
        go_wp2
        go_region
        all_goals
          go_wp2
          go_roundg g1
          case measure => omega
          case rel =>
            refine ⟨i + 1, by have := HI.out; omega, by go_num, xs.set q (bits .xor .u8 y (2 ^ (7 - m) % 256)), HT2, ⟨by rw [List.length_set]; exact HX.out⟩, ⟨cells_set HX.out hqn HC.out⟩, ⟨fun j hj => ?_⟩, ⟨below_drew (below_set HB.out (by exact HGE.out))⟩⟩
            show (wr.setCell ⟨g, q, none⟩ (.int .u8 (bits .xor .u8 y (2 ^ (7 - m) % 256)))).frozen? ⟨g, j, none⟩ = false
            rw [World.frozen?_setCell]
            exact HF.out j hj
      · have hbit' : (bits .and .i64 ((b : Int) / 2 ^ (L - 1 - i)) 1 == 1) = false := beq_eq_false_iff_ne.mpr hbit
        rw [show turnStep f b L i xs = xs by unfold turnStep; rw [if_neg hbit]] at hT
        have HT2 := Aside0.mk hT
        clear hT hi hy hq hm
        go_wp2
        go_roundg g1
        case measure => omega
        case rel => exact ⟨i + 1, by have := HI.out; omega, by go_num, xs, HT2, HX, HC, HF, HB⟩
    · have hlt' : decide ((i : Int) < (L : Int)) = false := decide_eq_false (by omega)
      obtain rfl : gk = 0 := by omega
      have hT := HT.out
      replace hT : xs = turnN f b L L 0 (bytesI a0) := hT
      have kd := fun c => Kd.C_string (c := c) (P := Try.prog) Try.underlying57 Try.underlying5 Try.underlying9 (bytes_C HX.out (by omega) HC.out)
      have HT2 := Aside0.mk hT
      clear hT
      go_wp2
      go_ret2
      exact ⟨by rw [← HT2.out]; rfl, HB.out⟩
def impl_TurnBits.f (a0 : ByteArray) (a1 a2 : Int) : Option (ByteArray × Bool) :=
  if (a0.size ≤ 400 ∧ 0 ≤ a1 ∧ a1 ≤ 8 * (a0.size : Int)) ∧ (0 ≤ a2 ∧ a2 ≤ 16777215) ∧ a1 + (lenN a2.toNat : Int) ≤ 8 * (a0.size : Int) then some (strOfNums (turnN a1.toNat a2.toNat (lenN a2.toNat) (lenN a2.toNat) 0 (bytesI a0)), true) else some (⟨#[]⟩, false)
theorem within_told (a b c : Int) : impl_within.f a b c = some (decide (b ≤ a ∧ a ≤ c)) := by
  unfold impl_within.f
  by_cases h : b ≤ a
  · rw [if_pos h]; congr 1; rw [decide_eq_decide]; omega
  · rw [if_neg h]; congr 1; symm; rw [decide_eq_false_iff_not]; omega
theorem bits_told (a : Int) : impl_isBits.f a = some (decide (0 ≤ a ∧ a ≤ 16777215)) := by
  unfold impl_isBits.f
  rw [within_told]
  rfl
theorem lenN_24 {n : Nat} (h : n < 16777216) : lenN n ≤ 24 := by
  unfold lenN
  split
  · omega
  · rename_i h0
    have := (Nat.log2_lt h0 (k := 24)).2 h
    omega
set_option maxHeartbeats 8000000 in
set_option maxRecDepth 100000 in
theorem impl_TurnBits.calls (a0 : ByteArray) (a1 : Int) (a2 : Int) (r1 : ByteArray) (r2 : Bool) (w : World) (h : impl_TurnBits.f a0 a1 a2 = some (r1, r2)) :
    Calls Try.prog 29 #[.string a0, .int .i64 a1, .int .i64 a2] w fun e w' => e = .returned (.tuple #[.string r1, .bool r2]) ∧ Below w.heap.size w w' := by
  have hw1 := fun (W : World) => impl_within.calls a1 0 (8 * (a0.size : Int)) _ W (within_told _ _ _)
  have hw2 := fun (W : World) => impl_isBits.calls a2 _ W (bits_told _)
  unfold impl_TurnBits.f at h
  by_cases c1 : a0.size ≤ 400
  · have h3 : decide ((400 : Int) < (a0.size : Int)) = false := decide_eq_false (by omega)
    by_cases c2 : 0 ≤ a1 ∧ a1 ≤ 8 * (a0.size : Int)
    · rw [decide_eq_true c2] at hw1
      by_cases c3 : 0 ≤ a2 ∧ a2 ≤ 16777215
      · rw [decide_eq_true c3] at hw2
        obtain ⟨f, rfl⟩ := Int.eq_ofNat_of_zero_le c2.1
        obtain ⟨b, rfl⟩ := Int.eq_ofNat_of_zero_le c3.1
        by_cases c4 : (f : Int) + (lenN b : Int) ≤ 8 * (a0.size : Int)
        · rw [if_pos ⟨⟨c1, c2⟩, c3, by simpa using c4⟩] at h
          obtain ⟨rfl, rfl⟩ := Prod.mk.inj (Option.some.inj h)
          exact impl_TurnBits.walk a0 f b w c1 (by omega) (by omega) (by omega) (lenN_24 (by omega)) (fun W => fx_len b W (by omega)) hw1 hw2
        · rw [if_neg (fun e => c4 (by simpa using e.2.2))] at h
          obtain ⟨rfl, rfl⟩ := Prod.mk.inj (Option.some.inj h)
          have h5 : decide (8 * (a0.size : Int) < (f : Int) + (lenN b : Int)) = true := decide_eq_true (by omega)
          have kc := fun (w : World) => Lib.run_convert_string_bytes (P := Try.prog) w 9 57 5 a0 Try.underlying9 Try.underlying57 Try.underlying5
          have hlen := fun W => fx_len b W (by omega)
          have hL := lenN_24 (n := b) (by omega)
          clear h c4
          generalize lenN b = L at *
          go_enter Try.func29, Try.ntmps29
          go_wp2_with (first | (go_at_call 50; refine (hw1 _).mono ?_; rintro e w1 ⟨rfl, hd1⟩; have HD1 := Aside0.mk hd1.below; clear hd1) | (go_at_call 54; refine (hw2 _).mono ?_; rintro e w2 ⟨rfl, hd2⟩; have HD2 := Aside0.mk (HD1.out.trans (hd2.below.mono HD1.out.size)); clear hd2) | (go_at_call 55; refine (hlen _).mono ?_; rintro e w' ⟨rfl, hw⟩; subst w'))
          go_ret2
          exact ⟨rfl, HD2.out.trans ((bt_below w2 5 a0).mono HD2.out.size)⟩
      · rw [decide_eq_false c3] at hw2
        rw [if_neg (fun e => c3 e.2.1)] at h
        obtain ⟨rfl, rfl⟩ := Prod.mk.inj (Option.some.inj h)
        clear h
        go_enter Try.func29, Try.ntmps29
        go_wp2_with (first | (go_at_call 50; refine (hw1 _).mono ?_; rintro e w1 ⟨rfl, hd1⟩; have HD1 := Aside0.mk hd1.below; clear hd1) | (go_at_call 54; refine (hw2 _).mono ?_; rintro e w2 ⟨rfl, hd2⟩; have HD2 := Aside0.mk (HD1.out.trans (hd2.below.mono HD1.out.size)); clear hd2))
        go_ret2
        exact ⟨rfl, HD2.out⟩
    · rw [decide_eq_false c2] at hw1
      rw [if_neg (fun e => c2 e.1.2)] at h
      obtain ⟨rfl, rfl⟩ := Prod.mk.inj (Option.some.inj h)
      clear h
      go_enter Try.func29, Try.ntmps29
      go_wp2_with (first | (go_at_call 50; refine (hw1 _).mono ?_; rintro e w1 ⟨rfl, hd1⟩; have HD1 := Aside0.mk hd1.below; clear hd1))
      go_ret2
      exact ⟨rfl, HD1.out⟩
  · have h3 : decide ((400 : Int) < (a0.size : Int)) = true := decide_eq_true (by omega)
    rw [if_neg (fun e => c1 e.1.1)] at h
    obtain ⟨rfl, rfl⟩ := Prod.mk.inj (Option.some.inj h)
    clear h hw1 hw2
    go_enter Try.func29, Try.ntmps29
    go_wp2
    go_ret2
    exact ⟨rfl, Below.refl _ _⟩

/-! ### spec_l1In: function 42 -/
def spec_l1In.f (a0 : Int) (a1 : Int) (a2 : Int) : Option (Bool) := if a0 ≥ a1 then (some (decide (a0 ≤ a2))) else (some false)
set_option maxHeartbeats 8000000 in
set_option maxRecDepth 100000 in
theorem spec_l1In.calls (a0 : Int) (a1 : Int) (a2 : Int) (r : Bool) (w : World) (h : spec_l1In.f a0 a1 a2 = some r) :
    Calls Try.prog 42 #[.int .i64 a0, .int .i64 a1, .int .i64 a2] w fun e w' => e = .returned (.bool r) ∧ Drawn0 w w' := by
  have H : (if a0 ≥ a1 then (some (decide (a0 ≤ a2))) else (some false)) = some r := h
  clear h
  by_cases c4 : a0 ≥ a1
  · rw [if_pos c4] at H
    have c4b0 : decide (a1 ≤ a0) = true := decide_eq_true c4
    clear c4
    obtain rfl := Option.some.inj H
    go_enter Try.func42, Try.ntmps42
    go_wp2
    go_ret
    exact ⟨by first | rfl | (simp; done) | (simp [*]; done), by repeat (first | exact Drawn0.refl _ | apply Drawn0.step)⟩
  · rw [if_neg c4] at H
    have c4b0 : decide (a1 ≤ a0) = false := decide_eq_false c4
    clear c4
    obtain rfl := Option.some.inj H
    go_enter Try.func42, Try.ntmps42
    go_wp2
    go_ret
    exact ⟨by first | rfl | (simp; done) | (simp [*]; done), by repeat (first | exact Drawn0.refl _ | apply Drawn0.step)⟩

/-! ### spec_l1Bits: function 52 -/
def spec_l1Bits.f (a0 : Int) : Option (Bool) := (spec_l1In.f a0 0 16777215).bind fun t102 => (some t102)
set_option maxHeartbeats 8000000 in
set_option maxRecDepth 100000 in
theorem spec_l1Bits.calls (a0 : Int) (r : Bool) (w : World) (h : spec_l1Bits.f a0 = some r) :
    Calls Try.prog 52 #[.int .i64 a0] w fun e w' => e = .returned (.bool r) ∧ Drawn0 w w' := by
  have H : ((spec_l1In.f a0 0 16777215).bind fun t102 => (some t102)) = some r := h
  clear h
  replace H := Option.bind_eq_some_iff.mp H
  obtain ⟨t102, A20, H⟩ := H
  replace H : (some t102) = some r := H
  have A2 := Aside0.mk A20
  clear A20
  obtain rfl := Option.some.inj H
  go_enter Try.func52, Try.ntmps52
  go_wp2_with (first | ((with_reducible refine gate_callee (f := 42) rfl ?_); refine goesL_ (some 4) rfl rfl Try.func42 (by kernel_rfl) rfl #[.int .i64 a0, .int .i64 0, .int .i64 16777215] rfl (by (try simp only [List.map_toArray, List.map_cons, List.map_nil]); first | done | rfl | (simp only [List.length_drop, List.length_take]; rfl)) ?_; (with_reducible refine (spec_l1In.calls a0 0 16777215 t102 _ A2.out).mono ?_); rintro e w' ⟨rfl, ⟨nd, rfl⟩⟩; refine ⟨_, rfl, ?_⟩))
  go_ret
  exact ⟨by first | rfl | (simp; done) | (simp [*]; done), by repeat (first | exact Drawn0.refl _ | apply Drawn0.step)⟩

/-! ### spec_l1Long: function 53 -/
def spec_l1Long.l0 : Nat → Int → Int → Option (Int)
  | 0, _, _ => none
  | k + 1, x0, x3 => if 0 ≤ (IntKind.u64.wrap (x3)) then (if (shr .i64 x0 (IntKind.u64.wrap (x3))) > 0 then (spec_l1Long.l0 k x0 (wrap64 (x3 + 1))) else (some x3)) else (none)
def spec_l1Long.f (k : Nat) (a0 : Int) : Option (Int) := spec_l1Long.l0 k a0 0
theorem spec_l1Long.mono_l : ∀ k, (∀ y0 y1, LeO (spec_l1Long.l0 k y0 y1) (spec_l1Long.l0 (k + 1) y0 y1))
  | 0 => fun _ _ r h => by simp [spec_l1Long.l0] at h
  | k + 1 => by
    have ih0 := spec_l1Long.mono_l k
    · intro y0 y1
      unfold spec_l1Long.l0
      repeat' first
      | (with_reducible exact ih0 _ _)
      | (with_reducible exact LeO.refl _)
      | (with_reducible exact LeO.none _)
      | (with_reducible refine LeO.ite ?_ ?_)
      | (with_reducible refine LeO.bind ?_ (fun _ => ?_))
      | exact ih0 _ _
      | exact LeO.none _
      | refine LeO.ite ?_ ?_
      | refine LeO.bind ?_ (fun _ => ?_)
theorem spec_l1Long.mono : ∀ a0 k, LeO (spec_l1Long.f k a0) (spec_l1Long.f (k + 1) a0) := by
  intro a0 k
  have ih0 := spec_l1Long.mono_l k
  unfold spec_l1Long.f
  repeat' first
      | (with_reducible exact ih0 _ _)
      | (with_reducible exact LeO.refl _)
      | (with_reducible exact LeO.none _)
      | (with_reducible refine LeO.ite ?_ ?_)
      | (with_reducible refine LeO.bind ?_ (fun _ => ?_))
      | exact ih0 _ _
      | exact LeO.none _
      | refine LeO.ite ?_ ?_
      | refine LeO.bind ?_ (fun _ => ?_)
set_option maxHeartbeats 8000000 in
set_option maxRecDepth 100000 in
theorem spec_l1Long.calls (k : Nat) (a0 : Int) (r : Int) (w : World) (h : spec_l1Long.f k a0 = some r) :
    Calls Try.prog 53 #[.int .i64 a0] w fun e w' => e = .returned (.int .i64 r) ∧ Drawn0 w w' := by
  have H : (spec_l1Long.l0 k a0 0) = some r := h
  clear h
  have H' := Aside0.mk H
  clear H
  go_enter Try.func53, Try.ntmps53
  go_wp2
  go_loopg [3] k (fun kq v3 w' => ∃ (x3_1 : Int), v3 = .int .i64 x3_1 ∧ Aside0 (spec_l1Long.l0 kq a0 x3_1 = some r) ∧ Aside0 (kq ≤ k) ∧ Drawn0 w w')
  case atStart => exact ⟨(0), (by first | rfl | (simp; done) | (simp [*]; done)), H', ⟨Nat.le_refl _⟩, by repeat (first | exact Drawn0.refl _ | apply Drawn0.step)⟩
  case round =>
    clear H'
    obtain ⟨x3_1, rfl, HA, HK1, ⟨m1, rfl⟩⟩ := hrel
    cases gk with
    | zero => exact absurd HA.out (by simp [spec_l1Long.l0])
    | succ k1 =>
      have H := HA.out
      clear HA
      simp only [spec_l1Long.l0] at H
      obtain ⟨ji2, hji2⟩ : ∃ j_ : Int, (IntKind.u64.wrap (x3_1)) = j_ := ⟨_, rfl⟩
      replace H : (if 0 ≤ (ji2) then (if (shr .i64 a0 (ji2)) > 0 then (spec_l1Long.l0 k1 a0 (wrap64 (x3_1 + 1))) else (some x3_1)) else (none)) = some r := by first | (rw [hji2] at H; exact H) | (simp only [hji2] at H ⊢; exact H)
      by_cases c3 : 0 ≤ (ji2)
      · rw [if_pos c3] at H
        have c3b0 := eq_true c3
        have c3b1 : decide (0 ≤ (ji2)) = true := decide_eq_true c3
        clear c3
        obtain ⟨ji4, hji4⟩ : ∃ j_ : Int, (shr .i64 a0 (ji2)) = j_ := ⟨_, rfl⟩
        replace H : (if (ji4) > 0 then (spec_l1Long.l0 k1 a0 (wrap64 (x3_1 + 1))) else (some x3_1)) = some r := by first | (rw [hji4] at H; exact H) | (simp only [hji4] at H ⊢; exact H)
        have hji4_ : (a0 / 2 ^ min (ji2).toNat 64) = ji4 := hji4
        have hji4z : (ji2) ≤ 64 → (a0 / 2 ^ (ji2).toNat) = ji4 := shr_small hji4
        by_cases c5 : (ji4) > 0
        · rw [if_pos c5] at H
          have c5b0 : decide (0 < (ji4)) = true := decide_eq_true c5
          clear c5
          have H' := Aside0.mk H
          clear H
          go_wp2
          go_roundg k1
          case measure => have := HK1.out; omega
          case rel => exact ⟨(wrap64 (x3_1 + 1)), (by first | rfl | (simp; done) | (simp [*]; done)), H', ⟨by have := HK1.out; omega⟩, by repeat (first | exact Drawn0.refl _ | apply Drawn0.step)⟩
        · rw [if_neg c5] at H
          have c5b0 : decide (0 < (ji4)) = false := decide_eq_false c5
          clear c5
          obtain rfl := Option.some.inj H
          go_wp2
          go_ret
          exact ⟨by first | rfl | (simp; done) | (simp only [← hji2, ← hji4] <;> (first | rfl | simp)) | (simp [*]; done), by repeat (first | exact Drawn0.refl _ | apply Drawn0.step)⟩
      · rw [if_neg c3] at H
        exact absurd H (by simp)

/-! ### spec_TurnBits: function 28 (ours) -/
set_option maxHeartbeats 8000000 in
set_option maxRecDepth 100000 in
theorem spec_TurnBits.walk (a0 : ByteArray) (f b : Nat) (w : World) (hs : a0.size ≤ 400) (hf : f ≤ 8 * a0.size) (hb : b < 16777216) (L : Nat) (hfit : f + L ≤ 8 * a0.size) (hL : L ≤ 24)
    (hlen : ∀ W, Calls Try.prog 53 #[.int .i64 (b : Int)] W fun e w' => e = .returned (.int .i64 (L : Int)) ∧ Drawn0 W w')
    (hw1 : ∀ W, Calls Try.prog 42 #[.int .i64 (f : Int), .int .i64 0, .int .i64 (8 * (a0.size : Int))] W fun e w' => e = .returned (.bool true) ∧ Drawn0 W w')
    (hw2 : ∀ W, Calls Try.prog 52 #[.int .i64 (b : Int)] W fun e w' => e = .returned (.bool true) ∧ Drawn0 W w') :
    Calls Try.prog 28 #[.string a0, .int .i64 (f : Int), .int .i64 (b : Int)] w fun e w' => e = .returned (.tuple #[.string (strOfNums (turnN f b L L 0 (bytesI a0))), .bool true]) ∧ Below w.heap.size w w' := by
  have h3 : decide ((400 : Int) < (a0.size : Int)) = false := decide_eq_false (by omega)
  have h5 : decide (8 * (a0.size : Int) - (f : Int) < (L : Int)) = false := decide_eq_false (by omega)
  have kc := fun (w : World) => Lib.run_convert_string_bytes (P := Try.prog) w 9 57 5 a0 Try.underlying9 Try.underlying57 Try.underlying5
  go_enter Try.func28, Try.ntmps28
  go_wp2_with (first | (go_at_call 42; refine (hw1 _).mono ?_; rintro e w1 ⟨rfl, hd1⟩; have HD1 := Aside0.mk hd1.below; clear hd1) | (go_at_call 52; refine (hw2 _).mono ?_; rintro e w2 ⟨rfl, hd2⟩; have HD2 := Aside0.mk (HD1.out.trans (hd2.below.mono HD1.out.size)); clear hd2) | (go_at_call 53; refine (hlen w2).mono ?_; rintro e w3 ⟨rfl, hd3⟩; have HD3 := Aside0.mk (HD2.out.trans (hd3.below.mono HD2.out.size)); clear hd3) | (go_at_call 53; refine (hlen (Lib.bytesWorld w3 5 a0)).mono ?_; rintro e w4 ⟨rfl, hd4⟩; have HD4 := Aside0.mk hd4; clear hd4))
  clear kc
  have hbl := HD4.out.below
  have hhp : w4.heap = (Lib.bytesWorld w3 5 a0).heap := by
    obtain ⟨nd, hnd⟩ := HD4.out
    rw [hnd]; simp
  have hsz4 : (Lib.bytesWorld w3 5 a0).heap.size = w3.heap.size + 1 := Lib.bytesWorld_size ..
  have HB0 := Aside0.mk (HD3.out.trans (((bt_below w3 5 a0).trans (hbl.mono (by omega))).mono HD3.out.size))
  have HGE := Aside0.mk HD3.out.size
  have HC0 := Aside0.mk (fun (j : Nat) (hj : j < a0.size) => (hbl.cell (p := ⟨w3.heap.size, j, none⟩) (by show w3.heap.size < _; omega)).trans (bt_cell w3 5 a0 j hj))
  have HF0 := Aside0.mk (fun (j : Nat) (hj : j < a0.size) => (show w4.frozen? ⟨w3.heap.size, j, none⟩ = false from by
    have h := bt_frozen w3 5 a0 j hj
    unfold World.frozen? at h ⊢
    rw [hhp]
    exact h))
  clear hbl hhp hsz4 HD4
  generalize grownCap w3 a0.size 0 5 = cp
  generalize w3.heap.size = g at *
  go_loopg [10, 11] L (fun gk s10 s11 wr => ∃ i : Nat, i + gk = L ∧ s10 = .int .i64 i ∧ ∃ xs : List Int, Aside0 (turnN f b L gk i xs = turnN f b L L 0 (bytesI a0)) ∧ Aside0 (xs.length = a0.size) ∧ Aside0 (∀ j, j < a0.size → wr.cell? ⟨g, j, none⟩ = some (.int .u8 (xs.getD j 0))) ∧ Aside0 (∀ j, j < a0.size → wr.frozen? ⟨g, j, none⟩ = false) ∧ Aside0 (Below w.heap.size w wr))
  case atStart => exact ⟨0, by omega, rfl, bytesI a0, ⟨rfl⟩, ⟨by simp [bytesI]⟩, ⟨fun j hj => by rw [bytes_at a0 j hj]; exact HC0.out j hj⟩, HF0, HB0⟩
  case round =>
    obtain ⟨i, hi, rfl, xs, HT, HX, HC, HF, HB⟩ := hrel
    by_cases hlt : i < L
    · have hlt' : decide ((i : Int) < (L : Int)) = true := decide_eq_true (by omega)
      obtain ⟨q, hq⟩ : ∃ q, (f + i) / 8 = q := ⟨_, rfl⟩
      obtain ⟨m, hm⟩ : ∃ m, (f + i) % 8 = m := ⟨_, rfl⟩
      have hq1 : ((f : Int) + (i : Int)).tdiv 8 = (q : Int) := by rw [Int.tdiv_eq_ediv_of_nonneg (by omega)]; omega
      have hq2 : ((f : Int) + (i : Int)) / 8 = (q : Int) := by omega
      have hm1 : ((f : Int) + (i : Int)).tmod 8 = (m : Int) := by rw [Int.tmod_eq_emod_of_nonneg (by omega)]; omega
      have hm2 : ((f : Int) + (i : Int)) % 8 = (m : Int) := by omega
      have hm8 : m < 8 := by omega
      have hqn : q < a0.size := by omega
      have hqn2 : (q : Int) < (a0.size : Int) := by omega
      have hc : wr.cell? ⟨g, q, none⟩ = some (.int .u8 (xs.getD q 0)) := HC.out q hqn
      have hfz : wr.frozen? ⟨g, q, none⟩ = false := HF.out q hqn
      obtain ⟨y, hy⟩ : ∃ y, xs.getD q 0 = y := ⟨_, rfl⟩
      rw [hy] at hc
      obtain ⟨g1, rfl⟩ : ∃ g1, gk = g1 + 1 := ⟨gk - 1, by omega⟩
      have hT := HT.out
      replace hT : turnN f b L g1 (i + 1) (turnStep f b L i xs) = turnN f b L L 0 (bytesI a0) := hT
      have HI := Aside0.mk hi
      by_cases hbit : bits .and .i64 ((b : Int) / 2 ^ (L - 1 - i)) 1 = 1
      · have hbit' : (bits .and .i64 ((b : Int) / 2 ^ (L - 1 - i)) 1 == 1) = true := beq_iff_eq.mpr hbit
        rw [show turnStep f b L i xs = xs.set q (bits .xor .u8 y (2 ^ (7 - m) % 256)) by unfold turnStep; rw [if_pos hbit, hq, hm, hy]] at hT
        have HT2 := Aside0.mk hT
        clear hT hi hy hq hm
        go_wp2
        go_roundg g1
        case measure => omega
        case rel =>
          have hmask : (128 : Int) / 2 ^ m = 2 ^ (7 - m) % 256 := (by decide : ∀ m : Fin 8, (128 : Int) / 2 ^ m.1 = 2 ^ (7 - m.1) % 256) ⟨m, hm8⟩
          rw [hmask]
          refine ⟨i + 1, by have := HI.out; omega, by go_num, xs.set q (bits .xor .u8 y (2 ^ (7 - m) % 256)), HT2, ⟨by rw [List.length_set]; exact HX.out⟩, ⟨cells_set HX.out hqn HC.out⟩, ⟨fun j hj => ?_⟩, ⟨below_set HB.out (by exact HGE.out)⟩⟩
          rw [World.frozen?_setCell]
          exact HF.out j hj
      · have hbit' : (bits .and .i64 ((b : Int) / 2 ^ (L - 1 - i)) 1 == 1) = false := beq_eq_false_iff_ne.mpr hbit
        rw [show turnStep f b L i xs = xs by unfold turnStep; rw [if_neg hbit]] at hT
        have HT2 := Aside0.mk hT
        clear hT hi hy hq hm
        go_wp2
        go_roundg g1
        case measure => omega
        case rel => exact ⟨i + 1, by have := HI.out; omega, by go_num, xs, HT2, HX, HC, HF, HB⟩
    · have hlt' : decide ((i : Int) < (L : Int)) = false := decide_eq_false (by omega)
      obtain rfl : gk = 0 := by omega
      have hT := HT.out
      replace hT : xs = turnN f b L L 0 (bytesI a0) := hT
      have kd := fun c => Kd.C_string (c := c) (P := Try.prog) Try.underlying57 Try.underlying5 Try.underlying9 (bytes_C HX.out (by omega) HC.out)
      have HT2 := Aside0.mk hT
      clear hT
      go_wp2
      go_ret2
      exact ⟨by rw [← HT2.out]; rfl, HB.out⟩
def spec_TurnBits.f (k : Nat) (a0 : ByteArray) (a1 a2 : Int) : Option (ByteArray × Bool) :=
  if a0.size ≤ 400 ∧ 0 ≤ a1 ∧ a1 ≤ 8 * (a0.size : Int) then (if 0 ≤ a2 ∧ a2 ≤ 16777215 then (spec_l1Long.f k a2).bind fun L => (if 0 ≤ L ∧ L ≤ 24 then (if L ≤ 8 * (a0.size : Int) - a1 then some (strOfNums (turnN a1.toNat a2.toNat L.toNat L.toNat 0 (bytesI a0)), true) else some (⟨#[]⟩, false)) else none) else some (⟨#[]⟩, false)) else some (⟨#[]⟩, false)
theorem spec_TurnBits.mono : ∀ a0 a1 a2 k, LeO (spec_TurnBits.f k a0 a1 a2) (spec_TurnBits.f (k + 1) a0 a1 a2) := by
  intro a0 a1 a2 k
  unfold spec_TurnBits.f
  refine LeO.ite ?_ (LeO.refl _)
  refine LeO.ite ?_ (LeO.refl _)
  exact LeO.bind (spec_l1Long.mono _ _) (fun _ => LeO.refl _)
theorem in_told (a b c : Int) : spec_l1In.f a b c = some (decide (b ≤ a ∧ a ≤ c)) := by
  unfold spec_l1In.f
  by_cases h : b ≤ a
  · rw [if_pos h]; congr 1; rw [decide_eq_decide]; omega
  · rw [if_neg h]; congr 1; symm; rw [decide_eq_false_iff_not]; omega
theorem lbits_told (a : Int) : spec_l1Bits.f a = some (decide (0 ≤ a ∧ a ≤ 16777215)) := by
  unfold spec_l1Bits.f
  rw [in_told]
  rfl
set_option maxHeartbeats 8000000 in
set_option maxRecDepth 100000 in
theorem spec_TurnBits.calls (k : Nat) (a0 : ByteArray) (a1 : Int) (a2 : Int) (r1 : ByteArray) (r2 : Bool) (w : World) (h : spec_TurnBits.f k a0 a1 a2 = some (r1, r2)) :
    Calls Try.prog 28 #[.string a0, .int .i64 a1, .int .i64 a2] w fun e w' => e = .returned (.tuple #[.string r1, .bool r2]) ∧ Below w.heap.size w w' := by
  have hw1 := fun (W : World) => spec_l1In.calls a1 0 (8 * (a0.size : Int)) _ W (in_told _ _ _)
  have hw2 := fun (W : World) => spec_l1Bits.calls a2 _ W (lbits_told _)
  unfold spec_TurnBits.f at h
  by_cases c1 : a0.size ≤ 400
  · have h3 : decide ((400 : Int) < (a0.size : Int)) = false := decide_eq_false (by omega)
    by_cases c2 : 0 ≤ a1 ∧ a1 ≤ 8 * (a0.size : Int)
    · rw [decide_eq_true c2] at hw1
      rw [if_pos ⟨c1, c2⟩] at h
      by_cases c3 : 0 ≤ a2 ∧ a2 ≤ 16777215
      · rw [decide_eq_true c3] at hw2
        rw [if_pos c3] at h
        replace h := Option.bind_eq_some_iff.mp h
        obtain ⟨L, hl, h⟩ := h
        have hlen := fun (W : World) => spec_l1Long.calls k a2 L W hl
        by_cases cL : 0 ≤ L ∧ L ≤ 24
        · rw [if_pos cL] at h
          obtain ⟨f, rfl⟩ := Int.eq_ofNat_of_zero_le c2.1
          obtain ⟨b, rfl⟩ := Int.eq_ofNat_of_zero_le c3.1
          obtain ⟨L, rfl⟩ := Int.eq_ofNat_of_zero_le cL.1
          by_cases c4 : (L : Int) ≤ 8 * (a0.size : Int) - (f : Int)
          · rw [if_pos c4] at h
            obtain ⟨rfl, rfl⟩ := Prod.mk.inj (Option.some.inj h)
            exact spec_TurnBits.walk a0 f b w c1 (by omega) (by omega) L (by omega) (by omega) hlen hw1 hw2
          · rw [if_neg c4] at h
            obtain ⟨rfl, rfl⟩ := Prod.mk.inj (Option.some.inj h)
            have h5 : decide (8 * (a0.size : Int) - (f : Int) < (L : Int)) = true := decide_eq_true (by omega)
            clear h c4 hl
            go_enter Try.func28, Try.ntmps28
            go_wp2_with (first | (go_at_call 42; refine (hw1 _).mono ?_; rintro e w1 ⟨rfl, hd1⟩; have HD1 := Aside0.mk hd1.below; clear hd1) | (go_at_call 52; refine (hw2 _).mono ?_; rintro e w2 ⟨rfl, hd2⟩; have HD2 := Aside0.mk (HD1.out.trans (hd2.below.mono HD1.out.size)); clear hd2) | (go_at_call 53; refine (hlen w2).mono ?_; rintro e w3 ⟨rfl, hd3⟩; have HD3 := Aside0.mk (HD2.out.trans (hd3.below.mono HD2.out.size)); clear hd3))
            go_ret2
            exact ⟨rfl, HD3.out⟩
        · rw [if_neg cL] at h
          cases h
      · rw [decide_eq_false c3] at hw2
        rw [if_neg c3] at h
        obtain ⟨rfl, rfl⟩ := Prod.mk.inj (Option.some.inj h)
        clear h
        go_enter Try.func28, Try.ntmps28
        go_wp2_with (first | (go_at_call 42; refine (hw1 _).mono ?_; rintro e w1 ⟨rfl, hd1⟩; have HD1 := Aside0.mk hd1.below; clear hd1) | (go_at_call 52; refine (hw2 _).mono ?_; rintro e w2 ⟨rfl, hd2⟩; have HD2 := Aside0.mk (HD1.out.trans (hd2.below.mono HD1.out.size)); clear hd2))
        go_ret2
        exact ⟨rfl, HD2.out⟩
    · rw [decide_eq_false c2] at hw1
      rw [if_neg (fun e => c2 e.2)] at h
      obtain ⟨rfl, rfl⟩ := Prod.mk.inj (Option.some.inj h)
      clear h
      go_enter Try.func28, Try.ntmps28
      go_wp2_with (first | (go_at_call 42; refine (hw1 _).mono ?_; rintro e w1 ⟨rfl, hd1⟩; have HD1 := Aside0.mk hd1.below; clear hd1))
      go_ret2
      exact ⟨rfl, HD1.out⟩
  · have h3 : decide ((400 : Int) < (a0.size : Int)) = true := decide_eq_true (by omega)
    rw [if_neg (fun e => c1 e.1)] at h
    obtain ⟨rfl, rfl⟩ := Prod.mk.inj (Option.some.inj h)
    clear h hw1 hw2
    go_enter Try.func28, Try.ntmps28
    go_wp2
    go_ret2
    exact ⟨rfl, Below.refl _ _⟩

/-! ### laws_FnExactTurnBits: function 10 -/
def laws_FnExactTurnBits.f (k : Nat) (a0 : ByteArray) (a1 : Int) (a2 : Int) : Option (Bool) := if (a0.size : Int) > 1048576 then (some true) else ((spec_TurnBits.f k a0 a1 a2).bind fun bt103 => ((impl_TurnBits.f a0 a1 a2).bind fun bt105 => (if bt105.1.toList = bt103.1.toList then (if (bt105.2 != bt103.2) = true then (some false) else (some true)) else (some false))))
theorem laws_FnExactTurnBits.mono : ∀ a0 a1 a2 k, LeO (laws_FnExactTurnBits.f k a0 a1 a2) (laws_FnExactTurnBits.f (k + 1) a0 a1 a2) := by
  intro a0 a1 a2 k
  unfold laws_FnExactTurnBits.f
  repeat' first
      | (with_reducible exact spec_TurnBits.mono _ _ _ _)
      | (with_reducible exact LeO.refl _)
      | (with_reducible exact LeO.none _)
      | (with_reducible refine LeO.ite ?_ ?_)
      | (with_reducible refine LeO.bind ?_ (fun _ => ?_))
      | exact spec_TurnBits.mono _ _ _ _
      | exact LeO.none _
      | refine LeO.ite ?_ ?_
      | refine LeO.bind ?_ (fun _ => ?_)
set_option maxHeartbeats 8000000 in
set_option maxRecDepth 100000 in
theorem laws_FnExactTurnBits.calls (k : Nat) (a0 : ByteArray) (a1 : Int) (a2 : Int) (r : Bool) (w : World) (h : laws_FnExactTurnBits.f k a0 a1 a2 = some r) :
    Calls Try.prog 10 #[.string a0, .int .i64 a1, .int .i64 a2] w fun e w' => e = .returned (.bool r) ∧ Below w.heap.size w w' := by
  have HB := Aside0.mk (Below.refl w.heap.size w)
  have H : (if (a0.size : Int) > 1048576 then (some true) else ((spec_TurnBits.f k a0 a1 a2).bind fun bt103 => ((impl_TurnBits.f a0 a1 a2).bind fun bt105 => (if bt105.1.toList = bt103.1.toList then (if (bt105.2 != bt103.2) = true then (some false) else (some true)) else (some false))))) = some r := h
  clear h
  by_cases c4 : (a0.size : Int) > 1048576
  · rw [if_pos c4] at H
    have c4b0 : decide (1048576 < (a0.size : Int)) = true := decide_eq_true c4
    have c4b1 : decide (1048576 < a0.size) = true := decide_eq_true (by omega)
    clear c4
    obtain rfl := Option.some.inj H
    go_enter Try.func10, Try.ntmps10
    go_wp2
    go_ret
    exact ⟨by first | rfl | (simp [errW_none, errW_some] <;> rfl) | (simp [*, errW_none, errW_some] <;> rfl), by repeat (first | (with_reducible first | exact HB.out | apply below_alloc | apply pw_below_drewN | apply below_drew1) | exact HB.out)⟩
  · rw [if_neg c4] at H
    have c4b0 : decide (1048576 < (a0.size : Int)) = false := decide_eq_false c4
    have c4b1 : decide (1048576 < a0.size) = false := decide_eq_false (by omega)
    clear c4
    replace H := Option.bind_eq_some_iff.mp H
    obtain ⟨⟨t103, t104⟩, A50, H⟩ := H
    replace H : ((impl_TurnBits.f a0 a1 a2).bind fun bt105 => (if bt105.1.toList = t103.toList then (if (bt105.2 != t104) = true then (some false) else (some true)) else (some false))) = some r := H
    have A5 := Aside0.mk A50
    clear A50
    replace H := Option.bind_eq_some_iff.mp H
    obtain ⟨⟨t105, t106⟩, A60, H⟩ := H
    replace H : (if t105.toList = t103.toList then (if (t106 != t104) = true then (some false) else (some true)) else (some false)) = some r := H
    have A6 := Aside0.mk A60
    clear A60
    by_cases c7 : t105.toList = t103.toList
    · rw [if_pos c7] at H
      have c7b0 : (t105.toList == t103.toList) = true := beq_iff_eq.mpr c7
      have c7b1 : (t105.toList != t103.toList) = false := bne_eq_false_iff_eq.mpr c7
      clear c7
      by_cases c8 : (t106 != t104) = true
      · rw [if_pos c8] at H
        have c8b0 : (t106 != t104) = true := c8
        (try (have c8b1 : decide (t106 = t104) = false := by simpa using c8))
        (try (have c8b2 : (t106 == t104) = false := by simpa using c8))
        (try (have c8b3 : ¬ (t106 = t104) := by simpa using c8))
        clear c8
        obtain rfl := Option.some.inj H
        go_enter Try.func10, Try.ntmps10
        go_wp2_with (first | ((with_reducible refine gate_callee (f := 28) rfl ?_); refine goesL_ (some 18) rfl rfl Try.func28 (by kernel_rfl) rfl #[.string a0, .int .i64 a1, .int .i64 a2] rfl (by (try simp only [List.map_toArray, List.map_cons, List.map_nil]); first | done | rfl | (simp only [List.length_drop, List.length_take]; rfl)) ?_; (with_reducible refine (spec_TurnBits.calls k a0 a1 a2 t103 t104 _ A5.out).mono ?_); rintro e w9 ⟨rfl, hb⟩; refine ⟨_, rfl, ?_⟩; have n0_ := Aside0.mk (below_step (by repeat (first | (with_reducible first | exact HB.out | apply below_alloc | apply pw_below_drewN | apply below_drew1) | exact HB.out)) hb); clear HB; have HB := n0_; clear n0_; (try clear hb); (try clear hb2); (try clear hk); (try clear hi)) | ((with_reducible refine gate_callee (f := 29) rfl ?_); refine goesL_ (some 25) rfl rfl Try.func29 (by kernel_rfl) rfl #[.string a0, .int .i64 a1, .int .i64 a2] rfl (by (try simp only [List.map_toArray, List.map_cons, List.map_nil]); first | done | rfl | (simp only [List.length_drop, List.length_take]; rfl)) ?_; (with_reducible refine (impl_TurnBits.calls a0 a1 a2 t105 t106 _ A6.out).mono ?_); rintro e w10 ⟨rfl, hb⟩; refine ⟨_, rfl, ?_⟩; have n0_ := Aside0.mk (below_step (by repeat (first | (with_reducible first | exact HB.out | apply below_alloc | apply pw_below_drewN | apply below_drew1) | exact HB.out)) hb); clear HB; have HB := n0_; clear n0_; (try clear hb); (try clear hb2); (try clear hk); (try clear hi)))
        go_ret
        exact ⟨by first | rfl | (simp [errW_none, errW_some] <;> rfl) | (simp [*, errW_none, errW_some] <;> rfl), by repeat (first | (with_reducible first | exact HB.out | apply below_alloc | apply pw_below_drewN | apply below_drew1) | exact HB.out)⟩
      · rw [if_neg c8] at H
        have c8b0 : (t106 != t104) = false := by simpa using c8
        (try (have c8b1 : decide (t106 = t104) = true := by simpa using c8))
        (try (have c8b2 : (t106 == t104) = true := by simpa using c8))
        clear c8
        obtain rfl := Option.some.inj H
        go_enter Try.func10, Try.ntmps10
        go_wp2_with (first | ((with_reducible refine gate_callee (f := 28) rfl ?_); refine goesL_ (some 18) rfl rfl Try.func28 (by kernel_rfl) rfl #[.string a0, .int .i64 a1, .int .i64 a2] rfl (by (try simp only [List.map_toArray, List.map_cons, List.map_nil]); first | done | rfl | (simp only [List.length_drop, List.length_take]; rfl)) ?_; (with_reducible refine (spec_TurnBits.calls k a0 a1 a2 t103 t104 _ A5.out).mono ?_); rintro e w11 ⟨rfl, hb⟩; refine ⟨_, rfl, ?_⟩; have n0_ := Aside0.mk (below_step (by repeat (first | (with_reducible first | exact HB.out | apply below_alloc | apply pw_below_drewN | apply below_drew1) | exact HB.out)) hb); clear HB; have HB := n0_; clear n0_; (try clear hb); (try clear hb2); (try clear hk); (try clear hi)) | ((with_reducible refine gate_callee (f := 29) rfl ?_); refine goesL_ (some 25) rfl rfl Try.func29 (by kernel_rfl) rfl #[.string a0, .int .i64 a1, .int .i64 a2] rfl (by (try simp only [List.map_toArray, List.map_cons, List.map_nil]); first | done | rfl | (simp only [List.length_drop, List.length_take]; rfl)) ?_; (with_reducible refine (impl_TurnBits.calls a0 a1 a2 t105 t106 _ A6.out).mono ?_); rintro e w12 ⟨rfl, hb⟩; refine ⟨_, rfl, ?_⟩; have n0_ := Aside0.mk (below_step (by repeat (first | (with_reducible first | exact HB.out | apply below_alloc | apply pw_below_drewN | apply below_drew1) | exact HB.out)) hb); clear HB; have HB := n0_; clear n0_; (try clear hb); (try clear hb2); (try clear hk); (try clear hi)))
        go_ret
        exact ⟨by first | rfl | (simp [errW_none, errW_some] <;> rfl) | (simp [*, errW_none, errW_some] <;> rfl), by repeat (first | (with_reducible first | exact HB.out | apply below_alloc | apply pw_below_drewN | apply below_drew1) | exact HB.out)⟩
    · rw [if_neg c7] at H
      have c7b0 : (t105.toList == t103.toList) = false := beq_eq_false_iff_ne.mpr c7
      have c7b1 : (t105.toList != t103.toList) = true := bne_iff_ne.mpr c7
      obtain rfl := Option.some.inj H
      go_enter Try.func10, Try.ntmps10
      go_wp2_with (first | ((with_reducible refine gate_callee (f := 28) rfl ?_); refine goesL_ (some 18) rfl rfl Try.func28 (by kernel_rfl) rfl #[.string a0, .int .i64 a1, .int .i64 a2] rfl (by (try simp only [List.map_toArray, List.map_cons, List.map_nil]); first | done | rfl | (simp only [List.length_drop, List.length_take]; rfl)) ?_; (with_reducible refine (spec_TurnBits.calls k a0 a1 a2 t103 t104 _ A5.out).mono ?_); rintro e w13 ⟨rfl, hb⟩; refine ⟨_, rfl, ?_⟩; have n0_ := Aside0.mk (below_step (by repeat (first | (with_reducible first | exact HB.out | apply below_alloc | apply pw_below_drewN | apply below_drew1) | exact HB.out)) hb); clear HB; have HB := n0_; clear n0_; (try clear hb); (try clear hb2); (try clear hk); (try clear hi)) | ((with_reducible refine gate_callee (f := 29) rfl ?_); refine goesL_ (some 25) rfl rfl Try.func29 (by kernel_rfl) rfl #[.string a0, .int .i64 a1, .int .i64 a2] rfl (by (try simp only [List.map_toArray, List.map_cons, List.map_nil]); first | done | rfl | (simp only [List.length_drop, List.length_take]; rfl)) ?_; (with_reducible refine (impl_TurnBits.calls a0 a1 a2 t105 t106 _ A6.out).mono ?_); rintro e w14 ⟨rfl, hb⟩; refine ⟨_, rfl, ?_⟩; have n0_ := Aside0.mk (below_step (by repeat (first | (with_reducible first | exact HB.out | apply below_alloc | apply pw_below_drewN | apply below_drew1) | exact HB.out)) hb); clear HB; have HB := n0_; clear n0_; (try clear hb); (try clear hb2); (try clear hk); (try clear hi)))
      go_ret
      exact ⟨by first | rfl | (simp [errW_none, errW_some] <;> rfl) | (simp [*, errW_none, errW_some] <;> rfl), by repeat (first | (with_reducible first | exact HB.out | apply below_alloc | apply pw_below_drewN | apply below_drew1) | exact HB.out)⟩

/-- THE ONE PURE STATEMENT of laws_FnExactTurnBits: yours. -/
def laws_FnExactTurnBits.Pure : Prop := ∀ (a0 : ByteArray) (a1 : Int) (a2 : Int), a0.size ≤ 140737488351232 → (Lit.int .i64 a1).wf = true → (Lit.int .i64 a2).wf = true → ∃ k, laws_FnExactTurnBits.f k a0 a1 a2 = some true
theorem laws_FnExactTurnBits.walk (P : laws_FnExactTurnBits.Pure) (a0 : ByteArray) (a1 : Int) (a2 : Int) (w : World) (w0 : a0.size ≤ 140737488351232) (w1 : (Lit.int .i64 a1).wf = true) (w2 : (Lit.int .i64 a2).wf = true) :
    Calls Try.prog 10 #[.string a0, .int .i64 a1, .int .i64 a2] w fun e w' => e = .returned (.bool true) ∧ Below w.heap.size w w' := by
  obtain ⟨k, h⟩ := P a0 a1 a2 w0 w1 w2
  refine (laws_FnExactTurnBits.calls k a0 a1 a2 true w h).mono ?_
  rintro e w' ⟨rfl, hd⟩
  exact ⟨rfl, hd⟩

end Go.Proofs.Ytknngaomlfdhiaa.PFnExactTurnBits

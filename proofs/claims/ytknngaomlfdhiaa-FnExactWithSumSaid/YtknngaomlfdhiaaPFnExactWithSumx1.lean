/- Lean functions with the same answers as the Go functions that one law reaches, and for each a proof that its call comes to just these answers. No condition. Written by pr.py, a program of this session. -/
import Derived.Test.YtknngaomlfdhiaaPFnExactWithSumx0
namespace Go.Proofs.Ytknngaomlfdhiaa.PFnExactWithSum
open Go.RowKit Go.Proofs.YtknngaomlfdhiaaW.PrintWords Go.Proofs.YtknngaomlfdhiaaW.PrintLast Go.Proofs.YtknngaomlfdhiaaW.PrintMore
attribute [local go_sem] max2_int min2_int max_two min_two max_three min_three max_four min_four   -- for this text's walks alone
set_option linter.unusedVariables false
set_option linter.unusedSimpArgs false

/-! ### spec_l1On: function 43 -/
mutual
def spec_l1On.l0 : Nat → Int → ByteArray → Int → Option (Int)
  | 0, _, _, _ => none
  | k + 1, x0, x1, x5 => if x5 < (x1.size : Int) then (spec_l1On.l1 k x0 x1 x5 7) else (some x0)
def spec_l1On.l1 : Nat → Int → ByteArray → Int → Int → Option (Int)
  | 0, _, _, _, _ => none
  | k + 1, x0, x1, x5, x6 => if x6 ≥ 0 then (if 0 ≤ x5 then (if x5 < (x1.size : Int) then (if 0 ≤ (IntKind.u64.wrap (x6)) then (if (Go.bits .or .i64 (wrap64 (x0 * 2)) (Go.bits .and .i64 (wrap64 (shr .u8 (bt x1 x5) (IntKind.u64.wrap (x6)))) 1)) > 65535 then (spec_l1On.l1 k (Go.bits .xor .i64 (Go.bits .or .i64 (wrap64 (x0 * 2)) (Go.bits .and .i64 (wrap64 (shr .u8 (bt x1 x5) (IntKind.u64.wrap (x6)))) 1)) 69665) x1 x5 (wrap64 (x6 - 1))) else (spec_l1On.l1 k (Go.bits .or .i64 (wrap64 (x0 * 2)) (Go.bits .and .i64 (wrap64 (shr .u8 (bt x1 x5) (IntKind.u64.wrap (x6)))) 1)) x1 x5 (wrap64 (x6 - 1)))) else (none)) else (none)) else (none)) else (spec_l1On.l0 k x0 x1 (wrap64 (x5 + 1)))
end
def spec_l1On.f (k : Nat) (a0 : Int) (a1 : ByteArray) : Option (Int) := spec_l1On.l0 k a0 a1 0
theorem spec_l1On.mono_l : ∀ k, (∀ y0 y1 y2, LeO (spec_l1On.l0 k y0 y1 y2) (spec_l1On.l0 (k + 1) y0 y1 y2)) ∧ (∀ y0 y1 y2 y3, LeO (spec_l1On.l1 k y0 y1 y2 y3) (spec_l1On.l1 (k + 1) y0 y1 y2 y3))
  | 0 => ⟨fun _ _ _ r h => by simp [spec_l1On.l0] at h, fun _ _ _ _ r h => by simp [spec_l1On.l1] at h⟩
  | k + 1 => by
    obtain ⟨ih0, ih1⟩ := spec_l1On.mono_l k
    refine ⟨?_, ?_⟩
    · intro y0 y1 y2
      unfold spec_l1On.l0
      repeat' first
      | (with_reducible exact ih0 _ _ _)
      | (with_reducible exact ih1 _ _ _ _)
      | (with_reducible exact LeO.refl _)
      | (with_reducible exact LeO.none _)
      | (with_reducible refine LeO.ite ?_ ?_)
      | (with_reducible refine LeO.bind ?_ (fun _ => ?_))
      | exact ih0 _ _ _
      | exact ih1 _ _ _ _
      | exact LeO.none _
      | refine LeO.ite ?_ ?_
      | refine LeO.bind ?_ (fun _ => ?_)
    · intro y0 y1 y2 y3
      unfold spec_l1On.l1
      repeat' first
      | (with_reducible exact ih0 _ _ _)
      | (with_reducible exact ih1 _ _ _ _)
      | (with_reducible exact LeO.refl _)
      | (with_reducible exact LeO.none _)
      | (with_reducible refine LeO.ite ?_ ?_)
      | (with_reducible refine LeO.bind ?_ (fun _ => ?_))
      | exact ih0 _ _ _
      | exact ih1 _ _ _ _
      | exact LeO.none _
      | refine LeO.ite ?_ ?_
      | refine LeO.bind ?_ (fun _ => ?_)
theorem spec_l1On.mono : ∀ a0 a1 k, LeO (spec_l1On.f k a0 a1) (spec_l1On.f (k + 1) a0 a1) := by
  intro a0 a1 k
  obtain ⟨ih0, ih1⟩ := spec_l1On.mono_l k
  unfold spec_l1On.f
  repeat' first
      | (with_reducible exact ih0 _ _ _)
      | (with_reducible exact ih1 _ _ _ _)
      | (with_reducible exact LeO.refl _)
      | (with_reducible exact LeO.none _)
      | (with_reducible refine LeO.ite ?_ ?_)
      | (with_reducible refine LeO.bind ?_ (fun _ => ?_))
      | exact ih0 _ _ _
      | exact ih1 _ _ _ _
      | exact LeO.none _
      | refine LeO.ite ?_ ?_
      | refine LeO.bind ?_ (fun _ => ?_)
set_option maxHeartbeats 8000000 in
set_option maxRecDepth 100000 in
theorem spec_l1On.calls (k : Nat) (a0 : Int) (a1 : ByteArray) (r : Int) (w : World) (h : spec_l1On.f k a0 a1 = some r) :
    Calls Try.prog 43 #[.int .i64 a0, .string a1] w fun e w' => e = .returned (.int .i64 r) ∧ Drawn0 w w' := by
  have H : (spec_l1On.l0 k a0 a1 0) = some r := h
  clear h
  have H' := Aside0.mk H
  clear H
  go_enter Try.func43, Try.ntmps43
  go_wp2
  go_loopg [0, 5] k (fun kq v0 v5 w' => ∃ (x0_1 : Int) (x5_1 : Int), v0 = .int .i64 x0_1 ∧ v5 = .int .i64 x5_1 ∧ Aside0 (spec_l1On.l0 kq x0_1 a1 x5_1 = some r) ∧ Aside0 (kq ≤ k) ∧ Drawn0 w w')
  case atStart => exact ⟨(a0), (0), (by first | rfl | (simp; done) | (simp [*]; done)), (by first | rfl | (simp; done) | (simp [*]; done)), H', ⟨Nat.le_refl _⟩, by repeat (first | exact Drawn0.refl _ | apply Drawn0.step)⟩
  case round =>
    clear H'
    try clear p2
    obtain ⟨x0_1, x5_1, rfl, rfl, HA, HK1, ⟨m1, rfl⟩⟩ := hrel
    cases gk with
    | zero => exact absurd HA.out (by simp [spec_l1On.l0])
    | succ k1 =>
      have H := HA.out
      clear HA
      simp only [spec_l1On.l0] at H
      by_cases c3 : x5_1 < (a1.size : Int)
      · rw [if_pos c3] at H
        have c3b0 : decide (x5_1 < (a1.size : Int)) = true := decide_eq_true c3
        clear c3
        have H' := Aside0.mk H
        clear H
        go_wp2
        go_loopg [0, 6] k1 (fun kq v0 v6 w' => ∃ (x0_2 : Int) (x6_2 : Int), v0 = .int .i64 x0_2 ∧ v6 = .int .i64 x6_2 ∧ Aside0 (spec_l1On.l1 kq x0_2 a1 x5_1 x6_2 = some r) ∧ Aside0 (kq ≤ k1) ∧ Drawn0 w w')
        case atStart => exact ⟨(x0_1), (7), (by first | rfl | (simp; done) | (simp [*]; done)), (by first | rfl | (simp; done) | (simp [*]; done)), H', ⟨Nat.le_refl _⟩, by repeat (first | exact Drawn0.refl _ | apply Drawn0.step)⟩
        case round =>
          clear H'
          try clear p2
          try clear c3
          try clear c3b0
          try clear p2
          obtain ⟨x0_2, x6_2, rfl, rfl, HA, HK2, ⟨m2, rfl⟩⟩ := hrel
          cases gk with
          | zero => exact absurd HA.out (by simp [spec_l1On.l1])
          | succ k2 =>
            have H := HA.out
            clear HA
            simp only [spec_l1On.l1] at H
            by_cases c4 : x6_2 ≥ 0
            · rw [if_pos c4] at H
              have c4b0 : decide (0 ≤ x6_2) = true := decide_eq_true c4
              clear c4
              by_cases c5 : 0 ≤ x5_1
              · rw [if_pos c5] at H
                have c5b0 : decide (0 ≤ x5_1) = true := decide_eq_true c5
                clear c5
                by_cases c6 : x5_1 < (a1.size : Int)
                · rw [if_pos c6] at H
                  have c6b0 : decide (x5_1 < (a1.size : Int)) = true := decide_eq_true c6
                  clear c6
                  obtain ⟨ji8, hji8⟩ : ∃ j_ : Int, (IntKind.u64.wrap (x6_2)) = j_ := ⟨_, rfl⟩
                  replace H : (if 0 ≤ (ji8) then (if (Go.bits .or .i64 (wrap64 (x0_2 * 2)) (Go.bits .and .i64 (wrap64 (shr .u8 (bt a1 x5_1) (ji8))) 1)) > 65535 then (spec_l1On.l1 k2 (Go.bits .xor .i64 (Go.bits .or .i64 (wrap64 (x0_2 * 2)) (Go.bits .and .i64 (wrap64 (shr .u8 (bt a1 x5_1) (ji8))) 1)) 69665) a1 x5_1 (wrap64 (x6_2 - 1))) else (spec_l1On.l1 k2 (Go.bits .or .i64 (wrap64 (x0_2 * 2)) (Go.bits .and .i64 (wrap64 (shr .u8 (bt a1 x5_1) (ji8))) 1)) a1 x5_1 (wrap64 (x6_2 - 1)))) else (none)) = some r := by first | (rw [hji8] at H; exact H) | (simp only [hji8] at H ⊢; exact H)
                  by_cases c9 : 0 ≤ (ji8)
                  · rw [if_pos c9] at H
                    have c9b0 := eq_true c9
                    have c9b1 : decide (0 ≤ (ji8)) = true := decide_eq_true c9
                    clear c9
                    obtain ⟨ji10, hji10⟩ : ∃ j_ : Int, (shr .u8 (bt a1 x5_1) (ji8)) = j_ := ⟨_, rfl⟩
                    replace H : (if (Go.bits .or .i64 (wrap64 (x0_2 * 2)) (Go.bits .and .i64 (wrap64 (ji10)) 1)) > 65535 then (spec_l1On.l1 k2 (Go.bits .xor .i64 (Go.bits .or .i64 (wrap64 (x0_2 * 2)) (Go.bits .and .i64 (wrap64 (ji10)) 1)) 69665) a1 x5_1 (wrap64 (x6_2 - 1))) else (spec_l1On.l1 k2 (Go.bits .or .i64 (wrap64 (x0_2 * 2)) (Go.bits .and .i64 (wrap64 (ji10)) 1)) a1 x5_1 (wrap64 (x6_2 - 1)))) = some r := by first | (rw [hji10] at H; exact H) | (simp only [hji10] at H ⊢; exact H)
                    have hji10_ : ((bt a1 x5_1) / 2 ^ min (ji8).toNat 8) = ji10 := hji10
                    have hji10z : (ji8) ≤ 8 → ((bt a1 x5_1) / 2 ^ (ji8).toNat) = ji10 := shr_small hji10
                    by_cases c11 : (Go.bits .or .i64 (wrap64 (x0_2 * 2)) (Go.bits .and .i64 (wrap64 (ji10)) 1)) > 65535
                    · rw [if_pos c11] at H
                      have c11b0 : decide (65535 < (Go.bits .or .i64 (wrap64 (x0_2 * 2)) (Go.bits .and .i64 (wrap64 (ji10)) 1))) = true := decide_eq_true c11
                      clear c11
                      have H' := Aside0.mk H
                      clear H
                      have p7 : 0 ≤ (x5_1 : Int) := of_decide_eq_true (by first | (with_reducible assumption) | assumption)
                      have q7 : x5_1 < (a1.size : Int) := of_decide_eq_true (by first | (with_reducible assumption) | assumption)
                      have hx7 := bt_at a1 x5_1
                      replace p7 := eq_true p7
                      replace q7 := eq_true q7
                      go_wp2
                      go_roundg k2
                      case measure => have := HK1.out; have := HK2.out; omega
                      case rel => exact ⟨(Go.bits .xor .i64 (Go.bits .or .i64 (wrap64 (x0_2 * 2)) (Go.bits .and .i64 (wrap64 (ji10)) 1)) 69665), (wrap64 (x6_2 - 1)), (by first | rfl | (simp; done) | (simp only [← hji10] <;> (first | rfl | simp)) | (simp [*]; done)), (by first | rfl | (simp; done) | (simp [*]; done)), H', ⟨by have := HK1.out; have := HK2.out; omega⟩, by repeat (first | exact Drawn0.refl _ | apply Drawn0.step)⟩
                    · rw [if_neg c11] at H
                      have c11b0 : decide (65535 < (Go.bits .or .i64 (wrap64 (x0_2 * 2)) (Go.bits .and .i64 (wrap64 (ji10)) 1))) = false := decide_eq_false c11
                      clear c11
                      have H' := Aside0.mk H
                      clear H
                      have p7 : 0 ≤ (x5_1 : Int) := of_decide_eq_true (by first | (with_reducible assumption) | assumption)
                      have q7 : x5_1 < (a1.size : Int) := of_decide_eq_true (by first | (with_reducible assumption) | assumption)
                      have hx7 := bt_at a1 x5_1
                      replace p7 := eq_true p7
                      replace q7 := eq_true q7
                      go_wp2
                      go_roundg k2
                      case measure => have := HK1.out; have := HK2.out; omega
                      case rel => exact ⟨(Go.bits .or .i64 (wrap64 (x0_2 * 2)) (Go.bits .and .i64 (wrap64 (ji10)) 1)), (wrap64 (x6_2 - 1)), (by first | rfl | (simp; done) | (simp only [← hji10] <;> (first | rfl | simp)) | (simp [*]; done)), (by first | rfl | (simp; done) | (simp [*]; done)), H', ⟨by have := HK1.out; have := HK2.out; omega⟩, by repeat (first | exact Drawn0.refl _ | apply Drawn0.step)⟩
                  · rw [if_neg c9] at H
                    exact absurd H (by simp)
                · rw [if_neg c6] at H
                  exact absurd H (by simp)
              · rw [if_neg c5] at H
                exact absurd H (by simp)
            · rw [if_neg c4] at H
              have c4b0 : decide (0 ≤ x6_2) = false := decide_eq_false c4
              clear c4
              have H' := Aside0.mk H
              clear H
              go_wp2
              go_roundg k2
              case measure => have := HK1.out; have := HK2.out; omega
              case rel => exact ⟨(x0_2), (wrap64 (x5_1 + 1)), (by first | rfl | (simp; done) | (simp [*]; done)), (by first | rfl | (simp; done) | (simp [*]; done)), H', ⟨by have := HK1.out; have := HK2.out; omega⟩, by repeat (first | exact Drawn0.refl _ | apply Drawn0.step)⟩
      · rw [if_neg c3] at H
        have c3b0 : decide (x5_1 < (a1.size : Int)) = false := decide_eq_false c3
        clear c3
        obtain rfl := Option.some.inj H
        go_wp2
        go_ret
        exact ⟨by first | rfl | (simp; done) | (simp [*]; done), by repeat (first | exact Drawn0.refl _ | apply Drawn0.step)⟩

/-! ### spec_l1With: function 46 -/
def spec_l1With.f (k : Nat) (a0 : ByteArray) : Option (ByteArray) := if a0.size + 2 ≤ 9223372036854775807 then ((spec_l1On.f k 0 (a0 ++ (⟨#[0, 0]⟩ : ByteArray))).bind fun t101 => ((some (([(t101 / 256) % 256, (t101) % 256] : List Int) : List Int)).bind fun y102 => (if a0.size + (strOfNums y102).size ≤ 9223372036854775807 then (some (a0 ++ (strOfNums y102))) else (none)))) else (none)
theorem spec_l1With.mono : ∀ a0 k, LeO (spec_l1With.f k a0) (spec_l1With.f (k + 1) a0) := by
  intro a0 k
  unfold spec_l1With.f
  repeat' first
      | (with_reducible exact spec_l1On.mono _ _ _)
      | (with_reducible exact LeO.refl _)
      | (with_reducible exact LeO.none _)
      | (with_reducible refine LeO.ite ?_ ?_)
      | (with_reducible refine LeO.bind ?_ (fun _ => ?_))
      | exact spec_l1On.mono _ _ _
      | exact LeO.none _
      | refine LeO.ite ?_ ?_
      | refine LeO.bind ?_ (fun _ => ?_)
set_option maxHeartbeats 8000000 in
set_option maxRecDepth 100000 in
theorem spec_l1With.calls (k : Nat) (a0 : ByteArray) (r : ByteArray) (w : World) (h : spec_l1With.f k a0 = some r) :
    Calls Try.prog 46 #[.string a0] w fun e w' => e = .returned (.string r) ∧ Below w.heap.size w w' := by
  have HB := Aside0.mk (Below.refl w.heap.size w)
  have H : (if a0.size + 2 ≤ 9223372036854775807 then ((spec_l1On.f k 0 (a0 ++ (⟨#[0, 0]⟩ : ByteArray))).bind fun t101 => ((some (([(t101 / 256) % 256, (t101) % 256] : List Int) : List Int)).bind fun y102 => (if a0.size + (strOfNums y102).size ≤ 9223372036854775807 then (some (a0 ++ (strOfNums y102))) else (none)))) else (none)) = some r := h
  clear h
  by_cases c2 : a0.size + 2 ≤ 9223372036854775807
  · rw [if_pos c2] at H
    have c2b0 := eq_true c2
    have c2b1 : decide (a0.size + 2 ≤ 9223372036854775807) = true := decide_eq_true c2
    try have c2b2 : (9223372036854775807 < a0.size + 2) = False := eq_false (Nat.not_lt.2 c2)
    replace H := Option.bind_eq_some_iff.mp H
    obtain ⟨t101, A30, H⟩ := H
    replace H : ((some (([(t101 / 256) % 256, (t101) % 256] : List Int) : List Int)).bind fun y102 => (if a0.size + (strOfNums y102).size ≤ 9223372036854775807 then (some (a0 ++ (strOfNums y102))) else (none))) = some r := H
    have A3 := Aside0.mk A30
    clear A30
    obtain ⟨y102, hy102⟩ : ∃ y_ : List Int, y_ = (([(t101 / 256) % 256, (t101) % 256] : List Int)) := ⟨_, rfl⟩
    replace H : (if a0.size + (strOfNums y102).size ≤ 9223372036854775807 then (some (a0 ++ (strOfNums y102))) else (none)) = some r := by first | (rw [hy102]; with_reducible exact H) | (have H2_ := (Option.bind_some _ _).symm.trans H; rw [hy102]; with_reducible exact H2_) | (have H2_ := (Option.bind_some _ _).symm.trans H; with_reducible exact H2_) | with_reducible exact H | (rw [hy102]; exact H) | exact H
    have Ny102 := Aside0.mk hy102
    clear hy102
    by_cases c4 : a0.size + (strOfNums y102).size ≤ 9223372036854775807
    · rw [if_pos c4] at H
      have c4b0 := eq_true c4
      have c4b1 : decide (a0.size + (strOfNums y102).size ≤ 9223372036854775807) = true := decide_eq_true c4
      try have c4b2 : (9223372036854775807 < a0.size + (strOfNums y102).size) = False := eq_false (Nat.not_lt.2 c4)
      obtain rfl := Option.some.inj H
      go_enter Try.func46, Try.ntmps46
      go_wp2_with (first | ((with_reducible refine gate_callee (f := 43) rfl ?_); refine goesL_ (some 6) rfl rfl Try.func43 (by kernel_rfl) rfl #[.int .i64 0, .string (a0 ++ (⟨#[0, 0]⟩ : ByteArray))] rfl (by (try simp only [List.map_toArray, List.map_cons, List.map_nil]); first | done | rfl | (simp only [List.length_drop, List.length_take]; rfl)) ?_; (with_reducible refine (spec_l1On.calls k 0 (a0 ++ (⟨#[0, 0]⟩ : ByteArray)) t101 _ A3.out).mono ?_); rintro e w' ⟨rfl, ⟨nd, rfl⟩⟩; refine ⟨_, rfl, ?_⟩) | ((with_reducible refine gate_dst (N := 13) rfl ?_); refine Kd.R_lit (Kd.int .u8) _ 5 ?hg (N := 13) ?hd (xs := ([(t101 / 256) % 256, (t101) % 256] : List Int)) (inner := [.int .u8 ((t101 / 256) % 256), .int .u8 ((t101) % 256)]) (ok := fun _ => True) (okp := fun _ => True) ?hr ?hp (fun _ hk => hk) trivial (Below.refl _ _) (Nat.le_refl _) (by simp) ?_; (case hd => rfl); (case hg => rfl); (case hr => first | (go_simp; done) | (go_simp; rfl)); (case hp => exact (Reps.one (show Kd.M (Kd.int .u8) _ _ _ ((t101 / 256) % 256) [.int .u8 ((t101 / 256) % 256)] from rfl) (Reps.one (show Kd.M (Kd.int .u8) _ _ _ ((t101) % 256) [.int .u8 ((t101) % 256)] from rfl) (Reps.none _ _)))); intro v103 w5 ho6 hb hg_ hnew_; clear hg_ hnew_; (first | rw [← Ny102.out] at ho6 | (simp only [Int.reduceToNat] at ho6; rw [← Ny102.out] at ho6)); have n0_ := Aside0.mk (Kd.R_lower ho6 (below_size (by repeat (first | (with_reducible first | exact HB.out | apply below_alloc | apply pw_below_drewN | apply below_drew1) | exact HB.out)))); have n1_ := Aside0.mk (below_step (by repeat (first | (with_reducible first | exact HB.out | apply below_alloc | apply pw_below_drewN | apply below_drew1) | exact HB.out)) hb); clear HB; have HO104 := n0_; have HB := n1_; clear n0_ n1_; clear hb ho6; have hcv7 := own_string (P := Try.prog) Try.underlying57 Try.underlying5 Try.underlying9 (Kd.own_of_R HO104.out)))
      go_ret
      exact ⟨by first | rfl | (simp [errW_none, errW_some] <;> rfl) | (simp [*, errW_none, errW_some] <;> rfl), by repeat (first | (with_reducible first | exact HB.out | apply below_alloc | apply pw_below_drewN | apply below_drew1) | exact HB.out)⟩
    · rw [if_neg c4] at H
      exact absurd H (by simp)
  · rw [if_neg c2] at H
    exact absurd H (by simp)

/-! ### spec_WithSum: function 20 -/
def spec_WithSum.f (k : Nat) (a0 : ByteArray) : Option (ByteArray × Bool) := if (a0.size : Int) > 398 then (some ((⟨#[]⟩ : ByteArray), false)) else ((spec_l1With.f k a0).bind fun t105 => (some (t105, true)))
theorem spec_WithSum.mono : ∀ a0 k, LeO (spec_WithSum.f k a0) (spec_WithSum.f (k + 1) a0) := by
  intro a0 k
  unfold spec_WithSum.f
  repeat' first
      | (with_reducible exact spec_l1With.mono _ _)
      | (with_reducible exact LeO.refl _)
      | (with_reducible exact LeO.none _)
      | (with_reducible refine LeO.ite ?_ ?_)
      | (with_reducible refine LeO.bind ?_ (fun _ => ?_))
      | exact spec_l1With.mono _ _
      | exact LeO.none _
      | refine LeO.ite ?_ ?_
      | refine LeO.bind ?_ (fun _ => ?_)
set_option maxHeartbeats 8000000 in
set_option maxRecDepth 100000 in
theorem spec_WithSum.calls (k : Nat) (a0 : ByteArray) (r1 : ByteArray) (r2 : Bool) (w : World) (h : spec_WithSum.f k a0 = some (r1, r2)) :
    Calls Try.prog 20 #[.string a0] w fun e w' => e = .returned (.tuple #[.string r1, .bool r2]) ∧ Below w.heap.size w w' := by
  have HB := Aside0.mk (Below.refl w.heap.size w)
  have H : (if (a0.size : Int) > 398 then (some ((⟨#[]⟩ : ByteArray), false)) else ((spec_l1With.f k a0).bind fun t105 => (some (t105, true)))) = some (r1, r2) := h
  clear h
  by_cases c2 : (a0.size : Int) > 398
  · rw [if_pos c2] at H
    have c2b0 : decide (398 < (a0.size : Int)) = true := decide_eq_true c2
    have c2b1 : decide (398 < a0.size) = true := decide_eq_true (by omega)
    clear c2
    simp only [Option.some.injEq, Prod.mk.injEq] at H
    obtain ⟨rfl, rfl⟩ := H
    go_enter Try.func20, Try.ntmps20
    go_wp2
    go_ret2
    exact ⟨by first | rfl | (simp [errW_none, errW_some] <;> rfl) | (simp [*, errW_none, errW_some] <;> rfl), by repeat (first | (with_reducible first | exact HB.out | apply below_alloc | apply pw_below_drewN | apply below_drew1) | exact HB.out)⟩
  · rw [if_neg c2] at H
    have c2b0 : decide (398 < (a0.size : Int)) = false := decide_eq_false c2
    have c2b1 : decide (398 < a0.size) = false := decide_eq_false (by omega)
    clear c2
    replace H := Option.bind_eq_some_iff.mp H
    obtain ⟨t105, A30, H⟩ := H
    replace H : (some (t105, true)) = some (r1, r2) := H
    have A3 := Aside0.mk A30
    clear A30
    simp only [Option.some.injEq, Prod.mk.injEq] at H
    obtain ⟨rfl, rfl⟩ := H
    go_enter Try.func20, Try.ntmps20
    go_wp2_with (first | ((with_reducible refine gate_callee (f := 46) rfl ?_); refine goesL_ (some 8) rfl rfl Try.func46 (by kernel_rfl) rfl #[.string a0] rfl (by (try simp only [List.map_toArray, List.map_cons, List.map_nil]); first | done | rfl | (simp only [List.length_drop, List.length_take]; rfl)) ?_; (with_reducible refine (spec_l1With.calls k a0 t105 _ A3.out).mono ?_); rintro e w4 ⟨rfl, hb⟩; refine ⟨_, rfl, ?_⟩; have n0_ := Aside0.mk (below_step (by repeat (first | (with_reducible first | exact HB.out | apply below_alloc | apply pw_below_drewN | apply below_drew1) | exact HB.out)) hb); clear HB; have HB := n0_; clear n0_; (try clear hb); (try clear hb2); (try clear hk); (try clear hi)))
    go_ret2
    exact ⟨by first | rfl | (simp [errW_none, errW_some] <;> rfl) | (simp [*, errW_none, errW_some] <;> rfl), by repeat (first | (with_reducible first | exact HB.out | apply below_alloc | apply pw_below_drewN | apply below_drew1) | exact HB.out)⟩

/-! ### impl_sumOn: function 45 (ours) -/
theorem bt_cell (w : World) (e : TypeId) (s : ByteArray) (j : Nat) (hj : j < s.size) : (Lib.bytesWorld w e s).cell? ⟨w.heap.size, j, none⟩ = some (.int .u8 (bt s j)) := by
  rw [Lib.bytesWorld_cell w e s j hj]
  unfold bt
  rw [dif_pos (by simpa using hj)]
  congr 2
  simp [List.getD, hj]
  rfl
theorem bt_below (w : World) (e : TypeId) (s : ByteArray) : Below w.heap.size w (Lib.bytesWorld w e s) := by
  refine ⟨rfl, rfl, rfl, ?_, fun j hj => Lib.bytesWorld_at_old w e s j hj⟩
  rw [Lib.bytesWorld_size]; omega
def sumBit (y c : Int) (m : Nat) : Int := if 65536 ≤ wrap64 (wrap64 (2 * y) + wrap64 (Go.bits .and .u8 (c / 2 ^ m) 1)) then Go.bits .xor .i64 (wrap64 (wrap64 (2 * y) + wrap64 (Go.bits .and .u8 (c / 2 ^ m) 1))) 69665 else wrap64 (wrap64 (2 * y) + wrap64 (Go.bits .and .u8 (c / 2 ^ m) 1))
def sumBits : Nat → Int → Int → Int
  | 0, y, _ => y
  | m + 1, y, c => sumBits m (sumBit y c m) c
def sumFrom (s : ByteArray) : Nat → Nat → Int → Int
  | 0, _, x => x
  | d + 1, i, x => sumFrom s d (i + 1) (sumBits 8 x (bt s i))
def impl_sumOn.f (a0 : Int) (a1 : ByteArray) : Option (Int) := if a1.size ≤ 140737488351232 then some (sumFrom a1 a1.size 0 a0) else none
set_option maxHeartbeats 4000000 in
set_option maxRecDepth 100000 in
theorem impl_sumOn.calls (a0 : Int) (a1 : ByteArray) (r : Int) (w : World) (h : impl_sumOn.f a0 a1 = some r) :
    Calls Try.prog 45 #[.int .i64 a0, .string a1] w fun e w' => e = .returned (.int .i64 r) ∧ Below w.heap.size w w' := by
  have hs : a1.size ≤ 140737488351232 := by
    by_cases hs : a1.size ≤ 140737488351232
    · exact hs
    · unfold impl_sumOn.f at h; rw [if_neg hs] at h; cases h
  unfold impl_sumOn.f at h
  rw [if_pos hs] at h
  obtain rfl := Option.some.inj h
  clear h
  have kc := fun (w : World) => Lib.run_convert_string_bytes (P := Try.prog) w 9 57 5 a1 Try.underlying9 Try.underlying57 Try.underlying5
  go_enter Try.func45, Try.ntmps45
  go_wp2
  clear kc
  have HB := Aside0.mk (bt_below w 5 a1)
  have HC := fun (j : Nat) (hj : j < a1.size) => bt_cell w 5 a1 j hj
  generalize Lib.bytesWorld w 5 a1 = W at *
  generalize grownCap w a1.size 0 5 = cp
  go_loopg [0, 11] a1.size (fun gk v0 v11 w' => ∃ (x : Int) (i : Nat), Aside0 (i + gk = a1.size) ∧ Aside0 (sumFrom a1 gk i x = sumFrom a1 a1.size 0 a0) ∧ v0 = .int .i64 x ∧ v11 = .int .i64 i ∧ w' = W)
  case atStart => exact ⟨_, 0, ⟨by omega⟩, ⟨rfl⟩, rfl, rfl, rfl⟩
  case round =>
    obtain ⟨x, i, ⟨hi⟩, HS, rfl, rfl, rfl⟩ := hrel
    by_cases hlt : i < a1.size
    · have hlt' : decide ((i : Int) < (a1.size : Int)) = true := decide_eq_true (by omega)
      have hc := HC i hlt
      clear HC
      obtain ⟨g1, rfl⟩ : ∃ m, gk = m + 1 := ⟨gk - 1, by omega⟩
      have HS1 := HS.out
      clear HS
      replace HS1 : sumFrom a1 g1 (i + 1) (sumBits 8 x (bt a1 i)) = sumFrom a1 a1.size 0 a0 := HS1
      have HS := Aside0.mk HS1
      clear HS1
      have HI := Aside0.mk hi
      clear hi
      generalize bt a1 i = c at *
      obtain ⟨tg, htg⟩ : ∃ tg, sumBits 8 x c = tg := ⟨_, rfl⟩
      have HG := Aside0.mk htg
      clear htg
      go_wp2
      go_loopg [0, 7] 8 (fun gk v0 v7 w' => ∃ (y : Int) (n : Int), Aside0 (n + 1 = gk ∧ gk ≤ 8) ∧ Aside0 (sumBits gk y c = tg) ∧ v0 = .int .i64 y ∧ v7 = .int .i64 n ∧ w' = wr)
      case atStart => exact ⟨_, _, ⟨by simp⟩, HG, rfl, rfl, rfl⟩
      case round =>
        obtain ⟨y, n, ⟨hn, hn8⟩, HT, rfl, rfl, rfl⟩ := hrel
        by_cases hlt2 : 0 ≤ n
        · have hlt3 : decide (0 ≤ n) = true := decide_eq_true hlt2
          obtain ⟨m, rfl⟩ : ∃ m : Nat, n = m := ⟨n.toNat, by omega⟩
          obtain rfl : gk = m + 1 := by omega
          clear hn
          have HT1 := HT.out
          clear HT
          replace HT1 : sumBits m (sumBit y c m) c = tg := HT1
          have HT := Aside0.mk HT1
          clear HT1
          have hm7 : (m : Int) ≤ 7 := by omega
          go_wp2
          all_goals
            go_roundg m
            case measure => omega
            case rel => exact ⟨_, _, ⟨⟨by omega, by omega⟩⟩, ⟨by rw [← HT.out]; unfold sumBit; first | (rw [if_pos (by assumption)]; done) | (rw [if_neg (by omega)]; done)⟩, rfl, rfl, rfl⟩
        · obtain rfl : gk = 0 := by omega
          have hlt3 : decide (0 ≤ n) = false := decide_eq_false hlt2
          have HT1 := HT.out
          clear HT
          replace HT1 : y = tg := HT1
          subst HT1
          clear hn
          go_wp2
          go_roundg g1
          case measure => omega
          case rel => exact ⟨_, i + 1, ⟨by have := HI.out; omega⟩, ⟨by rw [← HG.out]; exact HS.out⟩, rfl, by go_num, rfl⟩
    · have hlt' : decide ((i : Int) < (a1.size : Int)) = false := decide_eq_false (by omega)
      obtain rfl : gk = 0 := by omega
      have HS1 := HS.out
      clear HS
      replace HS1 : x = sumFrom a1 a1.size 0 a0 := HS1
      have HS := Aside0.mk HS1
      clear HS1
      clear hi
      go_wp2
      go_ret
      exact ⟨by rw [HS.out]; rfl, HB.out⟩

/-! ### impl_twoBytes: function 58 -/
def impl_twoBytes.f (a0 : Int) : Option (ByteArray) := some (strOfNums (([(a0 / 256) % 256, (a0) % 256] : List Int)))
set_option maxHeartbeats 8000000 in
set_option maxRecDepth 100000 in
theorem impl_twoBytes.calls (a0 : Int) (r : ByteArray) (w : World) (h : impl_twoBytes.f a0 = some r) :
    Calls Try.prog 58 #[.int .i64 a0] w fun e w' => e = .returned (.string r) ∧ Below w.heap.size w w' := by
  have HB := Aside0.mk (Below.refl w.heap.size w)
  have H : (some (strOfNums (([(a0 / 256) % 256, (a0) % 256] : List Int)))) = some r := h
  clear h
  obtain ⟨y106, hy106⟩ : ∃ y_ : List Int, y_ = (([(a0 / 256) % 256, (a0) % 256] : List Int)) := ⟨_, rfl⟩
  replace H : (some (strOfNums y106)) = some r := by first | (rw [hy106]; with_reducible exact H) | (have H2_ := (Option.bind_some _ _).symm.trans H; rw [hy106]; with_reducible exact H2_) | (have H2_ := (Option.bind_some _ _).symm.trans H; with_reducible exact H2_) | with_reducible exact H | (rw [hy106]; exact H) | exact H
  have Ny106 := Aside0.mk hy106
  clear hy106
  obtain rfl := Option.some.inj H
  go_enter Try.func58, Try.ntmps58
  go_wp2_with (first | ((with_reducible refine gate_dst (N := 8) rfl ?_); refine Kd.R_lit (Kd.int .u8) _ 5 ?hg (N := 8) ?hd (xs := ([(a0 / 256) % 256, (a0) % 256] : List Int)) (inner := [.int .u8 ((a0 / 256) % 256), .int .u8 ((a0) % 256)]) (ok := fun _ => True) (okp := fun _ => True) ?hr ?hp (fun _ hk => hk) trivial (Below.refl _ _) (Nat.le_refl _) (by simp) ?_; (case hd => rfl); (case hg => rfl); (case hr => first | (go_simp; done) | (go_simp; rfl)); (case hp => exact (Reps.one (show Kd.M (Kd.int .u8) _ _ _ ((a0 / 256) % 256) [.int .u8 ((a0 / 256) % 256)] from rfl) (Reps.one (show Kd.M (Kd.int .u8) _ _ _ ((a0) % 256) [.int .u8 ((a0) % 256)] from rfl) (Reps.none _ _)))); intro v107 w2 ho3 hb hg_ hnew_; clear hg_ hnew_; (first | rw [← Ny106.out] at ho3 | (simp only [Int.reduceToNat] at ho3; rw [← Ny106.out] at ho3)); have n0_ := Aside0.mk (Kd.R_lower ho3 (below_size (by repeat (first | (with_reducible first | exact HB.out | apply below_alloc | apply pw_below_drewN | apply below_drew1) | exact HB.out)))); have n1_ := Aside0.mk (below_step (by repeat (first | (with_reducible first | exact HB.out | apply below_alloc | apply pw_below_drewN | apply below_drew1) | exact HB.out)) hb); clear HB; have HO108 := n0_; have HB := n1_; clear n0_ n1_; clear hb ho3; have hcv4 := own_string (P := Try.prog) Try.underlying57 Try.underlying5 Try.underlying9 (Kd.own_of_R HO108.out)))
  go_ret
  exact ⟨by first | rfl | (simp [errW_none, errW_some] <;> rfl) | (simp [*, errW_none, errW_some] <;> rfl), by repeat (first | (with_reducible first | exact HB.out | apply below_alloc | apply pw_below_drewN | apply below_drew1) | exact HB.out)⟩

/-! ### impl_withSum: function 47 -/
def impl_withSum.f (a0 : ByteArray) : Option (ByteArray) := (impl_twoBytes.f 0).bind fun t109 => (if a0.size + t109.size ≤ 9223372036854775807 then ((impl_sumOn.f 0 (a0 ++ t109)).bind fun t110 => ((impl_twoBytes.f t110).bind fun t111 => (if a0.size + t111.size ≤ 9223372036854775807 then (some (a0 ++ t111)) else (none)))) else (none))
set_option maxHeartbeats 8000000 in
set_option maxRecDepth 100000 in
theorem impl_withSum.calls (a0 : ByteArray) (r : ByteArray) (w : World) (h : impl_withSum.f a0 = some r) :
    Calls Try.prog 47 #[.string a0] w fun e w' => e = .returned (.string r) ∧ Below w.heap.size w w' := by
  have HB := Aside0.mk (Below.refl w.heap.size w)
  have H : ((impl_twoBytes.f 0).bind fun t109 => (if a0.size + t109.size ≤ 9223372036854775807 then ((impl_sumOn.f 0 (a0 ++ t109)).bind fun t110 => ((impl_twoBytes.f t110).bind fun t111 => (if a0.size + t111.size ≤ 9223372036854775807 then (some (a0 ++ t111)) else (none)))) else (none))) = some r := h
  clear h
  replace H := Option.bind_eq_some_iff.mp H
  obtain ⟨t109, A20, H⟩ := H
  replace H : (if a0.size + t109.size ≤ 9223372036854775807 then ((impl_sumOn.f 0 (a0 ++ t109)).bind fun t110 => ((impl_twoBytes.f t110).bind fun t111 => (if a0.size + t111.size ≤ 9223372036854775807 then (some (a0 ++ t111)) else (none)))) else (none)) = some r := H
  have A2 := Aside0.mk A20
  clear A20
  by_cases c3 : a0.size + t109.size ≤ 9223372036854775807
  · rw [if_pos c3] at H
    have c3b0 := eq_true c3
    have c3b1 : decide (a0.size + t109.size ≤ 9223372036854775807) = true := decide_eq_true c3
    try have c3b2 : (9223372036854775807 < a0.size + t109.size) = False := eq_false (Nat.not_lt.2 c3)
    replace H := Option.bind_eq_some_iff.mp H
    obtain ⟨t110, A40, H⟩ := H
    replace H : ((impl_twoBytes.f t110).bind fun t111 => (if a0.size + t111.size ≤ 9223372036854775807 then (some (a0 ++ t111)) else (none))) = some r := H
    have A4 := Aside0.mk A40
    clear A40
    replace H := Option.bind_eq_some_iff.mp H
    obtain ⟨t111, A50, H⟩ := H
    replace H : (if a0.size + t111.size ≤ 9223372036854775807 then (some (a0 ++ t111)) else (none)) = some r := H
    have A5 := Aside0.mk A50
    clear A50
    by_cases c6 : a0.size + t111.size ≤ 9223372036854775807
    · rw [if_pos c6] at H
      have c6b0 := eq_true c6
      have c6b1 : decide (a0.size + t111.size ≤ 9223372036854775807) = true := decide_eq_true c6
      try have c6b2 : (9223372036854775807 < a0.size + t111.size) = False := eq_false (Nat.not_lt.2 c6)
      obtain rfl := Option.some.inj H
      go_enter Try.func47, Try.ntmps47
      go_wp2_with (first | ((with_reducible refine gate_callee (f := 58) rfl ?_); refine goesL_ (some 5) rfl rfl Try.func58 (by kernel_rfl) rfl #[.int .i64 0] rfl (by (try simp only [List.map_toArray, List.map_cons, List.map_nil]); first | done | rfl | (simp only [List.length_drop, List.length_take]; rfl)) ?_; (with_reducible refine (impl_twoBytes.calls 0 t109 _ A2.out).mono ?_); rintro e w7 ⟨rfl, hb⟩; refine ⟨_, rfl, ?_⟩; have n0_ := Aside0.mk (below_step (by repeat (first | (with_reducible first | exact HB.out | apply below_alloc | apply pw_below_drewN | apply below_drew1) | exact HB.out)) hb); clear HB; have HB := n0_; clear n0_; (try clear hb); (try clear hb2); (try clear hk); (try clear hi)) | ((with_reducible refine gate_callee (f := 45) rfl ?_); refine goesL_ (some 7) rfl rfl Try.func45 (by kernel_rfl) rfl #[.int .i64 0, .string (a0 ++ t109)] rfl (by (try simp only [List.map_toArray, List.map_cons, List.map_nil]); first | done | rfl | (simp only [List.length_drop, List.length_take]; rfl)) ?_; (with_reducible refine (impl_sumOn.calls 0 (a0 ++ t109) t110 _ A4.out).mono ?_); rintro e w8 ⟨rfl, hb⟩; refine ⟨_, rfl, ?_⟩; have n0_ := Aside0.mk (below_step (by repeat (first | (with_reducible first | exact HB.out | apply below_alloc | apply pw_below_drewN | apply below_drew1) | exact HB.out)) hb); clear HB; have HB := n0_; clear n0_; (try clear hb); (try clear hb2); (try clear hk); (try clear hi)) | ((with_reducible refine gate_callee (f := 58) rfl ?_); refine goesL_ (some 8) rfl rfl Try.func58 (by kernel_rfl) rfl #[.int .i64 t110] rfl (by (try simp only [List.map_toArray, List.map_cons, List.map_nil]); first | done | rfl | (simp only [List.length_drop, List.length_take]; rfl)) ?_; (with_reducible refine (impl_twoBytes.calls t110 t111 _ A5.out).mono ?_); rintro e w9 ⟨rfl, hb⟩; refine ⟨_, rfl, ?_⟩; have n0_ := Aside0.mk (below_step (by repeat (first | (with_reducible first | exact HB.out | apply below_alloc | apply pw_below_drewN | apply below_drew1) | exact HB.out)) hb); clear HB; have HB := n0_; clear n0_; (try clear hb); (try clear hb2); (try clear hk); (try clear hi)))
      go_ret
      exact ⟨by first | rfl | (simp [errW_none, errW_some] <;> rfl) | (simp [*, errW_none, errW_some] <;> rfl), by repeat (first | (with_reducible first | exact HB.out | apply below_alloc | apply pw_below_drewN | apply below_drew1) | exact HB.out)⟩
    · rw [if_neg c6] at H
      exact absurd H (by simp)
  · rw [if_neg c3] at H
    exact absurd H (by simp)

/-! ### impl_WithSum: function 21 -/
def impl_WithSum.f (a0 : ByteArray) : Option (ByteArray × Bool) := if (a0.size : Int) > 398 then (some ((⟨#[]⟩ : ByteArray), false)) else ((impl_withSum.f a0).bind fun t112 => (some (t112, true)))
set_option maxHeartbeats 8000000 in
set_option maxRecDepth 100000 in
theorem impl_WithSum.calls (a0 : ByteArray) (r1 : ByteArray) (r2 : Bool) (w : World) (h : impl_WithSum.f a0 = some (r1, r2)) :
    Calls Try.prog 21 #[.string a0] w fun e w' => e = .returned (.tuple #[.string r1, .bool r2]) ∧ Below w.heap.size w w' := by
  have HB := Aside0.mk (Below.refl w.heap.size w)
  have H : (if (a0.size : Int) > 398 then (some ((⟨#[]⟩ : ByteArray), false)) else ((impl_withSum.f a0).bind fun t112 => (some (t112, true)))) = some (r1, r2) := h
  clear h
  by_cases c2 : (a0.size : Int) > 398
  · rw [if_pos c2] at H
    have c2b0 : decide (398 < (a0.size : Int)) = true := decide_eq_true c2
    have c2b1 : decide (398 < a0.size) = true := decide_eq_true (by omega)
    clear c2
    simp only [Option.some.injEq, Prod.mk.injEq] at H
    obtain ⟨rfl, rfl⟩ := H
    go_enter Try.func21, Try.ntmps21
    go_wp2
    go_ret2
    exact ⟨by first | rfl | (simp [errW_none, errW_some] <;> rfl) | (simp [*, errW_none, errW_some] <;> rfl), by repeat (first | (with_reducible first | exact HB.out | apply below_alloc | apply pw_below_drewN | apply below_drew1) | exact HB.out)⟩
  · rw [if_neg c2] at H
    have c2b0 : decide (398 < (a0.size : Int)) = false := decide_eq_false c2
    have c2b1 : decide (398 < a0.size) = false := decide_eq_false (by omega)
    clear c2
    replace H := Option.bind_eq_some_iff.mp H
    obtain ⟨t112, A30, H⟩ := H
    replace H : (some (t112, true)) = some (r1, r2) := H
    have A3 := Aside0.mk A30
    clear A30
    simp only [Option.some.injEq, Prod.mk.injEq] at H
    obtain ⟨rfl, rfl⟩ := H
    go_enter Try.func21, Try.ntmps21
    go_wp2_with (first | ((with_reducible refine gate_callee (f := 47) rfl ?_); refine goesL_ (some 8) rfl rfl Try.func47 (by kernel_rfl) rfl #[.string a0] rfl (by (try simp only [List.map_toArray, List.map_cons, List.map_nil]); first | done | rfl | (simp only [List.length_drop, List.length_take]; rfl)) ?_; (with_reducible refine (impl_withSum.calls a0 t112 _ A3.out).mono ?_); rintro e w4 ⟨rfl, hb⟩; refine ⟨_, rfl, ?_⟩; have n0_ := Aside0.mk (below_step (by repeat (first | (with_reducible first | exact HB.out | apply below_alloc | apply pw_below_drewN | apply below_drew1) | exact HB.out)) hb); clear HB; have HB := n0_; clear n0_; (try clear hb); (try clear hb2); (try clear hk); (try clear hi)))
    go_ret2
    exact ⟨by first | rfl | (simp [errW_none, errW_some] <;> rfl) | (simp [*, errW_none, errW_some] <;> rfl), by repeat (first | (with_reducible first | exact HB.out | apply below_alloc | apply pw_below_drewN | apply below_drew1) | exact HB.out)⟩

/-! ### laws_FnExactWithSum: function 7 -/
def laws_FnExactWithSum.f (k : Nat) (a0 : ByteArray) : Option (Bool) := if (a0.size : Int) > 1048576 then (some true) else ((spec_WithSum.f k a0).bind fun bt113 => ((impl_WithSum.f a0).bind fun bt115 => (if bt115.1.toList = bt113.1.toList then (if (bt115.2 != bt113.2) = true then (some false) else (some true)) else (some false))))
theorem laws_FnExactWithSum.mono : ∀ a0 k, LeO (laws_FnExactWithSum.f k a0) (laws_FnExactWithSum.f (k + 1) a0) := by
  intro a0 k
  unfold laws_FnExactWithSum.f
  repeat' first
      | (with_reducible exact spec_WithSum.mono _ _)
      | (with_reducible exact LeO.refl _)
      | (with_reducible exact LeO.none _)
      | (with_reducible refine LeO.ite ?_ ?_)
      | (with_reducible refine LeO.bind ?_ (fun _ => ?_))
      | exact spec_WithSum.mono _ _
      | exact LeO.none _
      | refine LeO.ite ?_ ?_
      | refine LeO.bind ?_ (fun _ => ?_)
set_option maxHeartbeats 8000000 in
set_option maxRecDepth 100000 in
theorem laws_FnExactWithSum.calls (k : Nat) (a0 : ByteArray) (r : Bool) (w : World) (h : laws_FnExactWithSum.f k a0 = some r) :
    Calls Try.prog 7 #[.string a0] w fun e w' => e = .returned (.bool r) ∧ Below w.heap.size w w' := by
  have HB := Aside0.mk (Below.refl w.heap.size w)
  have H : (if (a0.size : Int) > 1048576 then (some true) else ((spec_WithSum.f k a0).bind fun bt113 => ((impl_WithSum.f a0).bind fun bt115 => (if bt115.1.toList = bt113.1.toList then (if (bt115.2 != bt113.2) = true then (some false) else (some true)) else (some false))))) = some r := h
  clear h
  by_cases c2 : (a0.size : Int) > 1048576
  · rw [if_pos c2] at H
    have c2b0 : decide (1048576 < (a0.size : Int)) = true := decide_eq_true c2
    have c2b1 : decide (1048576 < a0.size) = true := decide_eq_true (by omega)
    clear c2
    obtain rfl := Option.some.inj H
    go_enter Try.func7, Try.ntmps7
    go_wp2
    go_ret
    exact ⟨by first | rfl | (simp [errW_none, errW_some] <;> rfl) | (simp [*, errW_none, errW_some] <;> rfl), by repeat (first | (with_reducible first | exact HB.out | apply below_alloc | apply pw_below_drewN | apply below_drew1) | exact HB.out)⟩
  · rw [if_neg c2] at H
    have c2b0 : decide (1048576 < (a0.size : Int)) = false := decide_eq_false c2
    have c2b1 : decide (1048576 < a0.size) = false := decide_eq_false (by omega)
    clear c2
    replace H := Option.bind_eq_some_iff.mp H
    obtain ⟨⟨t113, t114⟩, A30, H⟩ := H
    replace H : ((impl_WithSum.f a0).bind fun bt115 => (if bt115.1.toList = t113.toList then (if (bt115.2 != t114) = true then (some false) else (some true)) else (some false))) = some r := H
    have A3 := Aside0.mk A30
    clear A30
    replace H := Option.bind_eq_some_iff.mp H
    obtain ⟨⟨t115, t116⟩, A40, H⟩ := H
    replace H : (if t115.toList = t113.toList then (if (t116 != t114) = true then (some false) else (some true)) else (some false)) = some r := H
    have A4 := Aside0.mk A40
    clear A40
    by_cases c5 : t115.toList = t113.toList
    · rw [if_pos c5] at H
      have c5b0 : (t115.toList == t113.toList) = true := beq_iff_eq.mpr c5
      have c5b1 : (t115.toList != t113.toList) = false := bne_eq_false_iff_eq.mpr c5
      clear c5
      by_cases c6 : (t116 != t114) = true
      · rw [if_pos c6] at H
        have c6b0 : (t116 != t114) = true := c6
        (try (have c6b1 : decide (t116 = t114) = false := by simpa using c6))
        (try (have c6b2 : (t116 == t114) = false := by simpa using c6))
        (try (have c6b3 : ¬ (t116 = t114) := by simpa using c6))
        clear c6
        obtain rfl := Option.some.inj H
        go_enter Try.func7, Try.ntmps7
        go_wp2_with (first | ((with_reducible refine gate_callee (f := 20) rfl ?_); refine goesL_ (some 12) rfl rfl Try.func20 (by kernel_rfl) rfl #[.string a0] rfl (by (try simp only [List.map_toArray, List.map_cons, List.map_nil]); first | done | rfl | (simp only [List.length_drop, List.length_take]; rfl)) ?_; (with_reducible refine (spec_WithSum.calls k a0 t113 t114 _ A3.out).mono ?_); rintro e w7 ⟨rfl, hb⟩; refine ⟨_, rfl, ?_⟩; have n0_ := Aside0.mk (below_step (by repeat (first | (with_reducible first | exact HB.out | apply below_alloc | apply pw_below_drewN | apply below_drew1) | exact HB.out)) hb); clear HB; have HB := n0_; clear n0_; (try clear hb); (try clear hb2); (try clear hk); (try clear hi)) | ((with_reducible refine gate_callee (f := 21) rfl ?_); refine goesL_ (some 17) rfl rfl Try.func21 (by kernel_rfl) rfl #[.string a0] rfl (by (try simp only [List.map_toArray, List.map_cons, List.map_nil]); first | done | rfl | (simp only [List.length_drop, List.length_take]; rfl)) ?_; (with_reducible refine (impl_WithSum.calls a0 t115 t116 _ A4.out).mono ?_); rintro e w8 ⟨rfl, hb⟩; refine ⟨_, rfl, ?_⟩; have n0_ := Aside0.mk (below_step (by repeat (first | (with_reducible first | exact HB.out | apply below_alloc | apply pw_below_drewN | apply below_drew1) | exact HB.out)) hb); clear HB; have HB := n0_; clear n0_; (try clear hb); (try clear hb2); (try clear hk); (try clear hi)))
        go_ret
        exact ⟨by first | rfl | (simp [errW_none, errW_some] <;> rfl) | (simp [*, errW_none, errW_some] <;> rfl), by repeat (first | (with_reducible first | exact HB.out | apply below_alloc | apply pw_below_drewN | apply below_drew1) | exact HB.out)⟩
      · rw [if_neg c6] at H
        have c6b0 : (t116 != t114) = false := by simpa using c6
        (try (have c6b1 : decide (t116 = t114) = true := by simpa using c6))
        (try (have c6b2 : (t116 == t114) = true := by simpa using c6))
        clear c6
        obtain rfl := Option.some.inj H
        go_enter Try.func7, Try.ntmps7
        go_wp2_with (first | ((with_reducible refine gate_callee (f := 20) rfl ?_); refine goesL_ (some 12) rfl rfl Try.func20 (by kernel_rfl) rfl #[.string a0] rfl (by (try simp only [List.map_toArray, List.map_cons, List.map_nil]); first | done | rfl | (simp only [List.length_drop, List.length_take]; rfl)) ?_; (with_reducible refine (spec_WithSum.calls k a0 t113 t114 _ A3.out).mono ?_); rintro e w9 ⟨rfl, hb⟩; refine ⟨_, rfl, ?_⟩; have n0_ := Aside0.mk (below_step (by repeat (first | (with_reducible first | exact HB.out | apply below_alloc | apply pw_below_drewN | apply below_drew1) | exact HB.out)) hb); clear HB; have HB := n0_; clear n0_; (try clear hb); (try clear hb2); (try clear hk); (try clear hi)) | ((with_reducible refine gate_callee (f := 21) rfl ?_); refine goesL_ (some 17) rfl rfl Try.func21 (by kernel_rfl) rfl #[.string a0] rfl (by (try simp only [List.map_toArray, List.map_cons, List.map_nil]); first | done | rfl | (simp only [List.length_drop, List.length_take]; rfl)) ?_; (with_reducible refine (impl_WithSum.calls a0 t115 t116 _ A4.out).mono ?_); rintro e w10 ⟨rfl, hb⟩; refine ⟨_, rfl, ?_⟩; have n0_ := Aside0.mk (below_step (by repeat (first | (with_reducible first | exact HB.out | apply below_alloc | apply pw_below_drewN | apply below_drew1) | exact HB.out)) hb); clear HB; have HB := n0_; clear n0_; (try clear hb); (try clear hb2); (try clear hk); (try clear hi)))
        go_ret
        exact ⟨by first | rfl | (simp [errW_none, errW_some] <;> rfl) | (simp [*, errW_none, errW_some] <;> rfl), by repeat (first | (with_reducible first | exact HB.out | apply below_alloc | apply pw_below_drewN | apply below_drew1) | exact HB.out)⟩
    · rw [if_neg c5] at H
      have c5b0 : (t115.toList == t113.toList) = false := beq_eq_false_iff_ne.mpr c5
      have c5b1 : (t115.toList != t113.toList) = true := bne_iff_ne.mpr c5
      obtain rfl := Option.some.inj H
      go_enter Try.func7, Try.ntmps7
      go_wp2_with (first | ((with_reducible refine gate_callee (f := 20) rfl ?_); refine goesL_ (some 12) rfl rfl Try.func20 (by kernel_rfl) rfl #[.string a0] rfl (by (try simp only [List.map_toArray, List.map_cons, List.map_nil]); first | done | rfl | (simp only [List.length_drop, List.length_take]; rfl)) ?_; (with_reducible refine (spec_WithSum.calls k a0 t113 t114 _ A3.out).mono ?_); rintro e w11 ⟨rfl, hb⟩; refine ⟨_, rfl, ?_⟩; have n0_ := Aside0.mk (below_step (by repeat (first | (with_reducible first | exact HB.out | apply below_alloc | apply pw_below_drewN | apply below_drew1) | exact HB.out)) hb); clear HB; have HB := n0_; clear n0_; (try clear hb); (try clear hb2); (try clear hk); (try clear hi)) | ((with_reducible refine gate_callee (f := 21) rfl ?_); refine goesL_ (some 17) rfl rfl Try.func21 (by kernel_rfl) rfl #[.string a0] rfl (by (try simp only [List.map_toArray, List.map_cons, List.map_nil]); first | done | rfl | (simp only [List.length_drop, List.length_take]; rfl)) ?_; (with_reducible refine (impl_WithSum.calls a0 t115 t116 _ A4.out).mono ?_); rintro e w12 ⟨rfl, hb⟩; refine ⟨_, rfl, ?_⟩; have n0_ := Aside0.mk (below_step (by repeat (first | (with_reducible first | exact HB.out | apply below_alloc | apply pw_below_drewN | apply below_drew1) | exact HB.out)) hb); clear HB; have HB := n0_; clear n0_; (try clear hb); (try clear hb2); (try clear hk); (try clear hi)))
      go_ret
      exact ⟨by first | rfl | (simp [errW_none, errW_some] <;> rfl) | (simp [*, errW_none, errW_some] <;> rfl), by repeat (first | (with_reducible first | exact HB.out | apply below_alloc | apply pw_below_drewN | apply below_drew1) | exact HB.out)⟩

/-- THE ONE PURE STATEMENT of laws_FnExactWithSum: yours. -/
def laws_FnExactWithSum.Pure : Prop := ∀ (a0 : ByteArray), a0.size ≤ 140737488351232 → ∃ k, laws_FnExactWithSum.f k a0 = some true
theorem laws_FnExactWithSum.walk (P : laws_FnExactWithSum.Pure) (a0 : ByteArray) (w : World) (w0 : a0.size ≤ 140737488351232) :
    Calls Try.prog 7 #[.string a0] w fun e w' => e = .returned (.bool true) ∧ Below w.heap.size w w' := by
  obtain ⟨k, h⟩ := P a0 w0
  refine (laws_FnExactWithSum.calls k a0 true w h).mono ?_
  rintro e w' ⟨rfl, hd⟩
  exact ⟨rfl, hd⟩

end Go.Proofs.Ytknngaomlfdhiaa.PFnExactWithSum

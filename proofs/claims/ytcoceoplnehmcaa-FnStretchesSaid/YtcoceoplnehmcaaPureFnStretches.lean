/- The plain law behind FnStretches: what the two sides compute is the same, for every input. No condition. -/
import Derived.Test.YtcoceoplnehmcaaPFnStretchesx9
import Derived.Laws.Bits64b
set_option linter.unusedVariables false
set_option linter.unusedSimpArgs false
namespace Go.Proofs.Ytcoceoplnehmcaa.Pure
open Go.RowKit Go.Proofs.Ytcoceoplnehmcaa.PFnStretches Go.Proofs.YtcoceoplnehmcaaW.PrintWords Go.Proofs.YtcoceoplnehmcaaW.PrintLast Go.Proofs.YtcoceoplnehmcaaW.PrintMore

theorem wrap_in {x : Int} (h0 : -9223372036854775808 ≤ x) (h1 : x ≤ 9223372036854775807) : wrap64 x = x := by unfold wrap64; omega
theorem wf_in {x : Int} (h : (Lit.int .i64 x).wf = true) : -9223372036854775808 ≤ x ∧ x ≤ 9223372036854775807 := by
  simp only [Lit.wf, IntKind.min, IntKind.max, IntKind.bits, IntKind.signed, Bool.and_eq_true, decide_eq_true_eq] at h
  exact ⟨by have := h.1; simpa using this, by have := h.2; simpa using this⟩
theorem toList_nil (s : ByteArray) : (s.toList == ([] : List UInt8)) = decide (s.size = 0) := by
  rw [Bool.eq_iff_iff]
  simp only [beq_iff_eq, decide_eq_true_eq, ByteArray.toList_eq]
  constructor
  · intro h
    have h2 : s.data.toList.length = 0 := by rw [h]; rfl
    rw [Array.length_toList] at h2
    exact h2
  · intro h
    have h2 : s.data.toList.length = 0 := by rw [Array.length_toList]; exact h
    exact List.eq_nil_of_length_eq_zero h2

/-- From some number of rounds on the answer is r. -/
def Tot {α : Type} (g : Nat → Option α) (r : α) : Prop := ∃ K, ∀ k, K ≤ k → g k = some r
theorem Tot.at_ {α : Type} {g : Nat → Option α} {r : α} (h : Tot g r) : ∃ k, g k = some r := by
  obtain ⟨K, hK⟩ := h
  exact ⟨K, hK K (Nat.le_refl _)⟩
theorem Tot.pure {α : Type} (r : α) : Tot (fun _ => some r) r := ⟨0, fun _ _ => rfl⟩
theorem Tot.of_eq {α : Type} {g : Nat → Option α} {r : α} (h : ∀ k, g k = some r) : Tot g r := ⟨0, fun k _ => h k⟩
theorem Tot.congr {α : Type} {g g' : Nat → Option α} {r : α} (he : ∀ k, g k = g' k) (h : Tot g' r) : Tot g r := by
  obtain ⟨K, hK⟩ := h
  exact ⟨K, fun k hk => (he k).trans (hK k hk)⟩
theorem Tot.bind {α β : Type} {g : Nat → Option α} {h : Nat → α → Option β} {a : α} {r : β} (hg : Tot g a) (hh : Tot (fun k => h k a) r) : Tot (fun k => (g k).bind (h k)) r := by
  obtain ⟨K, hK⟩ := hg
  obtain ⟨L, hL⟩ := hh
  refine ⟨max K L, fun k hk => ?_⟩
  show (g k).bind (h k) = some r
  rw [hK k (by omega)]
  exact hL k (by omega)
theorem Tot.step {α : Type} {F G : Nat → Option α} {r : α} (hF : ∀ k, F (k + 1) = G k) (h : Tot G r) : Tot F r := by
  obtain ⟨K, hK⟩ := h
  refine ⟨K + 1, fun k hk => ?_⟩
  obtain ⟨m, rfl⟩ : ∃ m, k = m + 1 := ⟨k - 1, by omega⟩
  rw [hF]
  exact hK m (by omega)
theorem Tot.yes {α : Type} {p : Prop} [Decidable p] {g h : Nat → Option α} {r : α} (hp : p) (hg : Tot g r) : Tot (fun k => if p then g k else h k) r := by
  simpa only [if_pos hp] using hg
theorem Tot.no {α : Type} {p : Prop} [Decidable p] {g h : Nat → Option α} {r : α} (hp : ¬ p) (hg : Tot h r) : Tot (fun k => if p then g k else h k) r := by
  simpa only [if_neg hp] using hg
theorem Tot.some_bind {α β : Type} {h : Nat → α → Option β} {a : α} {r : β} (hh : Tot (fun k => h k a) r) : Tot (fun k => (some a).bind (h k)) r := hh

theorem u64_in (x : Int) : 0 ≤ IntKind.u64.wrap x ∧ IntKind.u64.wrap x < 18446744073709551616 := by
  have e : IntKind.u64.wrap x = x % 18446744073709551616 := rfl
  rw [e]
  exact ⟨Int.emod_nonneg _ (by decide), Int.emod_lt_of_pos _ (by decide)⟩
theorem low8 (x : Int) : 0 ≤ Go.bits .and .u64 (IntKind.u64.wrap x / 1099511627776) 255 ∧ Go.bits .and .u64 (IntKind.u64.wrap x / 1099511627776) 255 ≤ 255 := by
  obtain ⟨h0, h1⟩ := u64_in x
  have hq : 0 ≤ IntKind.u64.wrap x / 1099511627776 := Int.ediv_nonneg h0 (by decide)
  have hq2 : IntKind.u64.wrap x / 1099511627776 ≤ IntKind.u64.wrap x := Int.ediv_le_self _ h0
  obtain ⟨n, hn⟩ := Int.eq_ofNat_of_zero_le hq
  rw [hn] at hq2 ⊢
  have e := bits_and_u64_nat n 255 (by omega) (by omega)
  have e2 : Go.bits .and .u64 (n : Int) 255 = ((n &&& 255 : Nat) : Int) := e
  rw [e2]
  have := Nat.and_le_right (n := n) (m := 255)
  omega
theorem next_v (code : List Int) (at_ seed : Int) (h0 : 0 ≤ at_) (h1 : at_ ≤ 1000000000) (hb : ∀ x ∈ code, 0 ≤ x ∧ x ≤ 255) : ∃ r s, spec_l1Cur_next.f code at_ seed = some (r, at_ + 1, s) ∧ 0 ≤ r ∧ r ≤ 255 := by
  unfold spec_l1Cur_next.f
  rw [wrap_in (x := at_ + 1) (by omega) (by omega)]
  by_cases c : at_ < (code.length : Int)
  · rw [if_pos c, if_pos h0, if_pos (by omega)]
    have hr : 0 ≤ rd code at_ ∧ rd code at_ ≤ 255 := by
      refine hb _ ?_
      unfold rd
      rw [List.getD_eq_getElem?_getD, List.getElem?_eq_getElem (by omega : at_.toNat < code.length)]
      exact List.getElem_mem _
    rw [wrap_in (x := rd code at_) (by omega) (by omega)]
    exact ⟨_, _, rfl, hr⟩
  · rw [if_neg c, if_neg (by omega)]
    have hl := low8 (IntKind.u64.wrap (IntKind.u64.wrap (seed * 6364136223846793005) + 0) + 1442695040888963407)
    rw [wrap_in (x := Go.bits .and .u64 _ 255) (by omega) (by omega)]
    exact ⟨_, _, rfl, hl⟩
theorem pick_v (code : List Int) (at_ seed n : Int) (h0 : 0 ≤ at_) (h1 : at_ ≤ 1000000) (hb : ∀ x ∈ code, 0 ≤ x ∧ x ≤ 255) : ∃ r a s, spec_l1Cur_pick.f code at_ seed n = some (r, a, s) ∧ at_ ≤ a ∧ a ≤ at_ + 2 ∧ 0 ≤ r ∧ (1 ≤ n → r < n) := by
  unfold spec_l1Cur_pick.f
  by_cases c : n ≤ 1
  · exact ⟨_, _, _, by rw [if_pos c], by omega, by omega, by omega, fun h => by omega⟩
  · obtain ⟨x, s, e, x0, x1⟩ := next_v code at_ seed h0 (by omega) hb
    rw [if_neg c, e, Option.bind_some]
    dsimp only
    by_cases c2 : n > 200
    · obtain ⟨y, s2, e2, y0, y1⟩ := next_v code (at_ + 1) s (by omega) (by omega) hb
      rw [if_pos c2, e2, Option.bind_some, if_neg (by omega)]
      dsimp only
      rw [wrap_in (x := x * 256) (by omega) (by omega), wrap_in (x := x * 256 + y) (by omega) (by omega)]
      exact ⟨_, _, _, rfl, by omega, by omega, Int.tmod_nonneg _ (by omega), fun _ => Int.tmod_lt_of_pos _ (by omega)⟩
    · rw [if_neg c2, if_neg (by omega)]
      exact ⟨_, _, _, rfl, by omega, by omega, Int.tmod_nonneg _ (by omega), fun _ => Int.tmod_lt_of_pos _ (by omega)⟩
theorem among_v (code : List Int) (at_ seed : Int) (l : List Int) (hl : 1 ≤ l.length) (h0 : 0 ≤ at_) (h1 : at_ ≤ 1000000) (hb : ∀ x ∈ code, 0 ≤ x ∧ x ≤ 255) : ∃ r a s, spec_l1Cur_among.f code at_ seed l = some (r, a, s) ∧ at_ ≤ a ∧ a ≤ at_ + 2 := by
  obtain ⟨x, a, s, e, a0, a1, x0, x1⟩ := pick_v code at_ seed (l.length : Int) h0 h1 hb
  unfold spec_l1Cur_among.f
  rw [e, Option.bind_some]
  dsimp only
  rw [if_pos x0, if_pos (x1 (by omega))]
  exact ⟨_, _, _, rfl, a0, a1⟩
theorem one_v (code : List Int) (at_ seed n : Int) (h0 : 0 ≤ at_) (h1 : at_ ≤ 1000000) (hb : ∀ x ∈ code, 0 ≤ x ∧ x ≤ 255) : ∃ r a s, spec_l1Cur_one.f code at_ seed n = some (r, a, s) ∧ at_ ≤ a ∧ a ≤ at_ + 2 := by
  obtain ⟨x, a, s, e, a0, a1, x0, x1⟩ := pick_v code at_ seed n h0 h1 hb
  unfold spec_l1Cur_one.f
  rw [e, Option.bind_some]
  exact ⟨_, _, _, rfl, a0, a1⟩
theorem bytes_in {l : List Int} (h : ∀ x ∈ l, (Lit.int .u8 x).wf = true) : ∀ x ∈ l, 0 ≤ x ∧ x ≤ 255 := fun x hx => by
  have h := h x hx
  simp only [Lit.wf, IntKind.min, IntKind.max, IntKind.bits, IntKind.signed, Bool.and_eq_true, decide_eq_true_eq] at h
  exact ⟨by have := h.1; simpa using this, by have := h.2; simpa using this⟩

theorem in_v (a b c : Int) : spec_l1In.f a b c = some (decide (b ≤ a ∧ a ≤ c)) := by
  unfold spec_l1In.f
  by_cases h : a ≥ b
  · rw [if_pos h]; congr 1; rw [decide_eq_decide]; omega
  · rw [if_neg h]; congr 1; symm; rw [decide_eq_false_iff_not]; omega

/-- a, a + 1, .. : d of them. -/
def rng : Nat → Int → List Int
  | 0, _ => []
  | d + 1, a => a :: rng d (a + 1)
theorem rng_length : ∀ (d : Nat) (a : Int), (rng d a).length = d
  | 0, _ => rfl
  | d + 1, a => by simp [rng, rng_length d]
theorem run_l (a l : Int) (ha : -1000000 ≤ a ∧ a ≤ 1000000) (hl : l ≤ 1000000) : ∀ (d : Nat) (out : List Int) (i : Int), 0 ≤ i → i + d = l → out.length = i.toNat → Tot (fun k => impl_run.l0 k a out l i) (out ++ rng d (a + i))
  | 0, out, i, h0, h, ho => by
    refine Tot.step (fun k => impl_run.l0.eq_2 ..) ?_
    simp only [rng, List.append_nil]
    exact Tot.no (by omega) (Tot.pure _)
  | d + 1, out, i, h0, h, ho => by
    refine Tot.step (fun k => impl_run.l0.eq_2 ..) ?_
    refine Tot.yes (by omega) (Tot.yes (by omega) ?_)
    rw [wrap_in (x := a + i) (by omega) (by omega), wrap_in (x := i + 1) (by omega) (by omega)]
    have := run_l a l ha hl d (out ++ [a + i]) (i + 1) (by omega) (by omega) (by simp; omega)
    have e : out ++ rng (d + 1) (a + i) = (out ++ [a + i]) ++ rng d (a + (i + 1)) := by simp [rng, Int.add_assoc]
    rw [e]
    exact this
theorem run_v (a l : Int) (ha : -1000000 ≤ a ∧ a ≤ 1000000) (hl : l ≤ 1000000) (h0 : 0 ≤ l) : Tot (fun k => impl_run.f k a l) (rng l.toNat a) := by
  have := run_l a l ha hl l.toNat [] 0 (by omega) (by omega) rfl
  simpa [impl_run.f] using this

theorem all_l (lo hi : Int) : ∀ (b a : List Int), ((a ++ b).length : Int) ≤ 9223372036850000000 → Tot (fun k => spec_l1All.l0 k lo hi (a ++ b) ((a ++ b).length : Int) a.length) (b.all fun x => decide (lo ≤ x ∧ x ≤ hi))
  | [], a, h => by
    refine Tot.step (fun k => spec_l1All.l0.eq_2 ..) ?_
    exact Tot.no (by simp) (Tot.pure _)
  | x :: b, a, h => by
    have hl : ((a ++ x :: b).length : Int) = a.length + b.length + 1 := by simp; omega
    have hr : rd (a ++ x :: b) (a.length : Int) = x := by simp [rd, List.getD]
    refine Tot.step (fun k => spec_l1All.l0.eq_2 ..) (Tot.yes (by omega) (Tot.yes (by omega) (Tot.yes (by omega) ?_)))
    rw [hr, wrap_in (x := (a.length : Int) + 1) (by omega) (by omega)]
    simp only [in_v, Option.bind_some, List.all_cons]
    by_cases hx : lo ≤ x ∧ x ≤ hi
    · rw [decide_eq_true hx, Bool.true_and]
      refine Tot.yes rfl ?_
      have := all_l lo hi b (a ++ [x]) (by simp at hl h ⊢; omega)
      simpa using this
    · rw [decide_eq_false hx, Bool.false_and]
      exact Tot.no (by decide) (Tot.pure _)
theorem all_v (l : List Int) (lo hi : Int) (h : (l.length : Int) ≤ 9223372036850000000) : Tot (fun k => spec_l1All.f k l lo hi) (l.all fun x => decide (lo ≤ x ∧ x ≤ hi)) := by
  have := all_l lo hi l [] (by simpa using h)
  unfold spec_l1All.f
  simpa using this

theorem within_v (a b c : Int) : impl_within.f a b c = some (decide (b ≤ a ∧ a ≤ c)) := by
  unfold impl_within.f
  by_cases h : b ≤ a
  · rw [if_pos h]; congr 1; rw [decide_eq_decide]; omega
  · rw [if_neg h]; congr 1; symm; rw [decide_eq_false_iff_not]; omega

theorem set_app {α : Type} (a b : List α) (x y : α) : (a ++ x :: b).set ((a.length : Int)).toNat y = a ++ y :: b := by simp

theorem rdIStretch_at (a b : List S47) (x : S47) : rd_T47 (a ++ x :: b) (a.length : Int) = x := by simp [rd_T47, List.getD]
/-- A stretch that is good. -/
def goodS (x : S47) : Bool := decide (1 ≤ x.f1 ∧ x.f1 ≤ 16 ∧ 0 ≤ x.f0 ∧ x.f0 ≤ 16 - x.f1 ∧ 0 ≤ x.f2 ∧ x.f2 ≤ 10001 - x.f1)
theorem goodS_iff (x : S47) : goodS x = true ↔ (1 ≤ x.f1 ∧ x.f1 ≤ 16 ∧ 0 ≤ x.f0 ∧ x.f0 ≤ 16 - x.f1 ∧ 0 ≤ x.f2 ∧ x.f2 ≤ 10001 - x.f1) := by simp [goodS]
def pairS (y x : S47) : Bool := decide (¬ x.f0 < y.f0 + y.f1 ∧ ¬ (x.f0 = y.f0 + y.f1 ∧ x.f2 = y.f2 + y.f1))
def goodFrom : Option S47 → List S47 → Bool
  | _, [] => true
  | none, x :: r => goodS x && goodFrom (some x) r
  | some y, x :: r => goodS x && pairS y x && goodFrom (some x) r
theorem specS_v (x : S47) : spec_l4Stretch.f x.f0 x.f1 x.f2 = some (goodS x) := by
  unfold spec_l4Stretch.f
  simp only [in_v, Option.bind_some]
  by_cases h : 1 ≤ x.f1 ∧ x.f1 ≤ 16
  · rw [if_pos (decide_eq_true h), wrap_in (by omega) (by omega), wrap_in (by omega) (by omega)]
    by_cases h2 : 0 ≤ x.f0 ∧ x.f0 ≤ 16 - x.f1
    · rw [if_pos (decide_eq_true h2)]; congr 1; unfold goodS; rw [decide_eq_decide]; omega
    · rw [if_neg (by simp [h2])]; congr 1; symm; unfold goodS; rw [decide_eq_false_iff_not]; omega
  · rw [if_neg (by simp [h])]; congr 1; symm; unfold goodS; rw [decide_eq_false_iff_not]; omega
theorem implS_v (x : S47) (h1 : -9223372036854775808 ≤ x.f1 ∧ x.f1 ≤ 9223372036854775807) : impl_Stretch_isGood.f x.f0 x.f1 x.f2 = some (goodS x) := by
  unfold impl_Stretch_isGood.f impl_isRun.f
  by_cases h : x.f0 ≥ 0
  · rw [if_pos h]
    by_cases h2 : x.f1 ≥ 1
    · rw [if_pos h2, wrap_in (by omega) (by omega), Option.bind_some]
      by_cases h3 : x.f0 ≤ 16 - x.f1
      · rw [if_pos (decide_eq_true h3)]
        by_cases h4 : x.f2 ≥ 0
        · rw [if_pos h4, wrap_in (x := 10000 - x.f1) (by omega) (by omega), wrap_in (by omega) (by omega)]; congr 1; unfold goodS; rw [decide_eq_decide]; omega
        · rw [if_neg h4]; congr 1; symm; unfold goodS; rw [decide_eq_false_iff_not]; omega
      · rw [if_neg (by simp [h3])]; congr 1; symm; unfold goodS; rw [decide_eq_false_iff_not]; omega
    · rw [if_neg h2, Option.bind_some, if_neg (by simp)]; congr 1; symm; unfold goodS; rw [decide_eq_false_iff_not]; omega
  · rw [if_neg h, Option.bind_some, if_neg (by simp)]; congr 1; symm; unfold goodS; rw [decide_eq_false_iff_not]; omega
theorem rd_prev (a b : List S47) (y : S47) : rd_T47 ((a ++ [y]) ++ b) (a.length : Int) = y := by simp [rd_T47, List.getD]
theorem specMap_l : ∀ (b a : List S47), ((a ++ b).length : Int) ≤ 9223372036850000000 → (∀ y ∈ a, goodS y = true) → Tot (fun k => spec_GoodMap.l0 k (a ++ b) (a ++ b) ((a ++ b).length : Int) a.length) (goodFrom a.getLast? b)
  | [], a, h, hg => by
    refine Tot.step (fun k => spec_GoodMap.l0.eq_2 ..) ?_
    have e : goodFrom a.getLast? [] = true := by cases a.getLast? <;> rfl
    rw [e]
    exact Tot.no (by simp) (Tot.pure _)
  | x :: b, a, h, hg => by
    have hl : ((a ++ x :: b).length : Int) = a.length + b.length + 1 := by simp; omega
    have next : goodS x = true → Tot (fun k => spec_GoodMap.l0 k (a ++ x :: b) (a ++ x :: b) ((a ++ x :: b).length : Int) (wrap64 ((a.length : Int) + 1))) (goodFrom (some x) b) := fun hx => by
      have := specMap_l b (a ++ [x]) (by simp at hl h ⊢; omega) (fun y hy => by rcases List.mem_append.1 hy with hy | hy; exact hg y hy; rw [List.mem_singleton.1 hy]; exact hx)
      rw [wrap_in (by omega) (by omega)]
      simpa using this
    refine Tot.step (fun k => spec_GoodMap.l0.eq_2 ..) (Tot.yes (by omega) (Tot.yes (by omega) (Tot.yes (by omega) ?_)))
    rw [rdIStretch_at]
    simp only [specS_v, Option.bind_some]
    by_cases hx : goodS x = true
    · refine Tot.yes hx ?_
      rcases List.eq_nil_or_concat a with rfl | ⟨a', y, rfl⟩
      · have e : goodFrom (List.getLast? []) (x :: b) = goodFrom (some x) b := by simp [goodFrom, hx]
        rw [e]
        exact Tot.no (by simp) (next hx)
      · rw [List.concat_eq_append] at *
        have hy : goodS y = true := hg y (by simp)
        have hyb := (goodS_iff y).1 hy
        have hxb := (goodS_iff x).1 hx
        have e : goodFrom (List.getLast? (a' ++ [y])) (x :: b) = (pairS y x && goodFrom (some x) b) := by simp [goodFrom, hx]
        rw [e]
        have hL : ((a' ++ [y]).length : Int) = a'.length + 1 := by simp
        have hw : wrap64 (((a' ++ [y]).length : Int) - 1) = (a'.length : Int) := (wrap_in (by omega) (by omega)).trans (by omega)
        refine Tot.yes (by omega) ?_
        rw [hw]
        refine Tot.yes (by omega) (Tot.yes (by omega) ?_)
        rw [rd_prev, wrap_in (x := y.f0 + y.f1) (by omega) (by omega), wrap_in (x := y.f2 + y.f1) (by omega) (by omega)]
        by_cases h1 : x.f0 < y.f0 + y.f1
        · have ep : pairS y x = false := by unfold pairS; rw [decide_eq_false_iff_not]; omega
          rw [ep]
          exact Tot.yes h1 (Tot.pure _)
        · refine Tot.no h1 ?_
          by_cases h2 : x.f0 = y.f0 + y.f1
          · refine Tot.yes h2 ?_
            by_cases h3 : x.f2 = y.f2 + y.f1
            · have ep : pairS y x = false := by unfold pairS; rw [decide_eq_false_iff_not]; omega
              rw [ep]
              exact Tot.yes h3 (Tot.pure _)
            · have ep : pairS y x = true := by unfold pairS; rw [decide_eq_true_eq]; omega
              rw [ep]
              exact Tot.no h3 (next hx)
          · have ep : pairS y x = true := by unfold pairS; rw [decide_eq_true_eq]; omega
            rw [ep]
            exact Tot.no h2 (next hx)
    · have e : goodFrom a.getLast? (x :: b) = false := by cases a.getLast? <;> simp [goodFrom, hx]
      rw [e]
      exact Tot.no hx (Tot.pure _)
theorem implMap_l : ∀ (b a : List S47), ((a ++ b).length : Int) ≤ 9223372036850000000 → (∀ y ∈ a, goodS y = true) → (∀ y ∈ b, -9223372036854775808 ≤ y.f1 ∧ y.f1 ≤ 9223372036854775807) → Tot (fun k => impl_GoodMap.l0 k (a ++ b) (a ++ b) ((a ++ b).length : Int) a.length) (goodFrom a.getLast? b && decide (((a ++ b).length : Int) ≤ 16))
  | [], a, h, hg, hb => by
    refine Tot.step (fun k => impl_GoodMap.l0.eq_2 ..) ?_
    have e : goodFrom a.getLast? [] = true := by cases a.getLast? <;> rfl
    rw [e, Bool.true_and]
    exact Tot.no (by simp) (Tot.pure _)
  | x :: b, a, h, hg, hb => by
    have hl : ((a ++ x :: b).length : Int) = a.length + b.length + 1 := by simp; omega
    have next : goodS x = true → Tot (fun k => impl_GoodMap.l0 k (a ++ x :: b) (a ++ x :: b) ((a ++ x :: b).length : Int) (wrap64 ((a.length : Int) + 1))) (goodFrom (some x) b && decide (((a ++ x :: b).length : Int) ≤ 16)) := fun hx => by
      have := implMap_l b (a ++ [x]) (by simp at hl h ⊢; omega) (fun y hy => by rcases List.mem_append.1 hy with hy | hy; exact hg y hy; rw [List.mem_singleton.1 hy]; exact hx) (fun y hy => hb y (by simp [hy]))
      rw [wrap_in (by omega) (by omega)]
      simpa using this
    refine Tot.step (fun k => impl_GoodMap.l0.eq_2 ..) (Tot.yes (by omega) (Tot.yes (by omega) (Tot.yes (by omega) ?_)))
    rw [rdIStretch_at]
    simp only [implS_v x (hb x (by simp)), Option.bind_some]
    by_cases hx : goodS x = true
    · refine Tot.yes hx ?_
      rcases List.eq_nil_or_concat a with rfl | ⟨a', y, rfl⟩
      · have e : goodFrom (List.getLast? []) (x :: b) = goodFrom (some x) b := by simp [goodFrom, hx]
        rw [e]
        exact Tot.yes (by simp) (next hx)
      · rw [List.concat_eq_append] at *
        have hy : goodS y = true := hg y (by simp)
        have hyb := (goodS_iff y).1 hy
        have hxb := (goodS_iff x).1 hx
        have e : goodFrom (List.getLast? (a' ++ [y])) (x :: b) = (pairS y x && goodFrom (some x) b) := by simp [goodFrom, hx]
        rw [e]
        have hL : ((a' ++ [y]).length : Int) = a'.length + 1 := by simp
        have hw : wrap64 (((a' ++ [y]).length : Int) - 1) = (a'.length : Int) := (wrap_in (by omega) (by omega)).trans (by omega)
        refine Tot.no (by omega) ?_
        rw [hw]
        refine Tot.yes (by omega) (Tot.yes (by omega) ?_)
        rw [rd_prev, wrap_in (x := y.f0 + y.f1) (by omega) (by omega), wrap_in (x := y.f2 + y.f1) (by omega) (by omega)]
        by_cases h1 : x.f0 < y.f0 + y.f1
        · have ep : pairS y x = false := by unfold pairS; rw [decide_eq_false_iff_not]; omega
          rw [ep]
          exact Tot.yes h1 (Tot.pure _)
        · refine Tot.no h1 ?_
          by_cases h2 : x.f0 = y.f0 + y.f1
          · refine Tot.yes h2 ?_
            by_cases h3 : x.f2 = y.f2 + y.f1
            · have ep : pairS y x = false := by unfold pairS; rw [decide_eq_false_iff_not]; omega
              rw [ep]
              exact Tot.yes h3 (Tot.pure _)
            · have ep : pairS y x = true := by unfold pairS; rw [decide_eq_true_eq]; omega
              rw [ep]
              exact Tot.no h3 (next hx)
          · have ep : pairS y x = true := by unfold pairS; rw [decide_eq_true_eq]; omega
            rw [ep]
            exact Tot.no h2 (next hx)
    · have e : goodFrom a.getLast? (x :: b) = false := by cases a.getLast? <;> simp [goodFrom, hx]
      rw [e]
      exact Tot.no hx (Tot.pure _)
theorem goodFrom_short : ∀ (b : List S47) (y : S47), goodS y = true → goodFrom (some y) b = true → y.f0 + y.f1 + b.length ≤ 16
  | [], y, hy, _ => by have := (goodS_iff y).1 hy; simp; omega
  | x :: b, y, hy, h => by
    simp only [goodFrom, Bool.and_eq_true] at h
    obtain ⟨⟨hx, hp⟩, hr⟩ := h
    have h1 := goodFrom_short b x hx hr
    have h2 := (goodS_iff x).1 hx
    unfold pairS at hp
    have h3 := of_decide_eq_true hp
    simp only [List.length_cons]
    omega
theorem goodMap_short (l : List S47) (h : goodFrom none l = true) : (l.length : Int) ≤ 16 := by
  cases l with
  | nil => simp
  | cons x b =>
    simp only [goodFrom, Bool.and_eq_true] at h
    have h1 := goodFrom_short b x h.1 h.2
    have h2 := (goodS_iff x).1 h.1
    simp only [List.length_cons]
    omega
theorem specMap_v (l : List S47) (h : (l.length : Int) ≤ 9223372036850000000) : Tot (fun k => spec_GoodMap.f k l) (goodFrom none l) := by
  have := specMap_l l [] (by simpa using h) (fun y hy => by simp at hy)
  unfold spec_GoodMap.f
  simpa using this
theorem implMap_v (l : List S47) (h : (l.length : Int) ≤ 9223372036850000000) (hb : ∀ y ∈ l, -9223372036854775808 ≤ y.f1 ∧ y.f1 ≤ 9223372036854775807) : Tot (fun k => impl_GoodMap.f k l) (goodFrom none l) := by
  have := implMap_l l [] (by simpa using h) (fun y hy => by simp at hy) hb
  unfold impl_GoodMap.f
  have e : goodFrom none l = (goodFrom none l && decide ((l.length : Int) ≤ 16)) := by
    by_cases hg : goodFrom none l = true
    · rw [hg, decide_eq_true (goodMap_short l hg)]; rfl
    · rw [Bool.eq_false_iff.2 hg]; rfl
  rw [e]
  simpa using this

def plL : List Int → List S47 → List Int
  | out, [] => out
  | out, x :: l => plL (splice out x.f0.toNat (rng x.f1.toNat x.f2)) l
theorem goodFrom_mem : ∀ (b : List S47) (o : Option S47), goodFrom o b = true → ∀ x ∈ b, goodS x = true
  | [], _, _, x, hx => by simp at hx
  | y :: b, none, h, x, hx => by
    simp only [goodFrom, Bool.and_eq_true] at h
    rcases List.mem_cons.1 hx with rfl | hx
    · exact h.1
    · exact goodFrom_mem b _ h.2 x hx
  | y :: b, some z, h, x, hx => by
    simp only [goodFrom, Bool.and_eq_true] at h
    rcases List.mem_cons.1 hx with rfl | hx
    · exact h.1.1
    · exact goodFrom_mem b _ h.2 x hx
theorem rng_succ : ∀ (d : Nat) (p : Int), rng (d + 1) p = rng d p ++ [p + d]
  | 0, p => by simp [rng]
  | d + 1, p => by
    show p :: rng (d + 1) (p + 1) = (p :: rng d (p + 1)) ++ [p + ((d + 1 : Nat) : Int)]
    rw [rng_succ d (p + 1), List.cons_append]
    congr 2
    simp; omega
theorem rng_mem : ∀ (d : Nat) (p y : Int), y ∈ rng d p → p ≤ y ∧ y < p + d
  | 0, p, y, h => by simp [rng] at h
  | d + 1, p, y, h => by
    rcases List.mem_cons.1 (show y ∈ p :: rng d (p + 1) from h) with rfl | h
    · omega
    · have := rng_mem d (p + 1) y h; omega
theorem splice_nil (out : List Int) (a : Nat) : splice out a [] = out := by simp [splice]
theorem splice_len (out : List Int) (a : Nat) (cs : List Int) (h : a + cs.length ≤ out.length) : (splice out a cs).length = out.length := length_splice _ _ _ h
theorem splice_mem {out : List Int} {a : Nat} {cs : List Int} {y : Int} (h : y ∈ splice out a cs) : y ∈ out ∨ y ∈ cs := by
  unfold splice at h
  rcases List.mem_append.1 h with h | h
  · exact .inl (List.mem_of_mem_take h)
  · rcases List.mem_append.1 h with h | h
    · exact .inr h
    · exact .inl (List.mem_of_mem_drop h)
theorem set_splice (out : List Int) (a d : Nat) (p : Int) (h : a + d < out.length) : (splice out a (rng d p)).set (a + d) (p + d) = splice out a (rng (d + 1) p) := by
  unfold splice
  rw [rng_length, rng_length, rng_succ]
  have e : out.drop (a + d) = (out[a + d]) :: out.drop (a + d + 1) := List.drop_eq_getElem_cons h
  rw [e, List.set_append_right _ _ (by simp; omega), List.set_append_right _ _ (by simp [rng_length]; omega)]
  have e2 : a + d - (out.take a).length - (rng d p).length = 0 := by simp [rng_length]; omega
  rw [e2, List.set_cons_zero, List.append_assoc]
  rfl
def plInv (out : List Int) : Prop := out.length = 16 ∧ ∀ y ∈ out, -1 ≤ y ∧ y ≤ 20000
theorem plInv_step {out : List Int} {x : S47} (h : plInv out) (hx : goodS x = true) : plInv (splice out x.f0.toNat (rng x.f1.toNat x.f2)) := by
  have hb := (goodS_iff x).1 hx
  refine ⟨by rw [splice_len _ _ _ (by rw [rng_length, h.1]; omega)]; exact h.1, fun y hy => ?_⟩
  rcases splice_mem hy with hy | hy
  · exact h.2 y hy
  · have := rng_mem _ _ _ hy; omega
theorem plInv_all : ∀ (l : List S47) (out : List Int), plInv out → (∀ x ∈ l, goodS x = true) → plInv (plL out l)
  | [], out, h, _ => h
  | x :: l, out, h, hx => plInv_all l _ (plInv_step h (hx x (by simp))) (fun y hy => hx y (by simp [hy]))
theorem specPl2 (L : List S47) (n i : Int) (out : List Int) (a p : Int) (l : Nat) (ho : out.length = 16) (ha : 0 ≤ a) (hl : a + l ≤ 16) (hp : 0 ≤ p ∧ p ≤ 20000) (R : List Int) (hR : Tot (fun k => spec_l4Places.l1 k (splice out a.toNat (rng l p)) L n (wrap64 (i + 1))) R) :
    ∀ (d j : Nat), j + d = l → Tot (fun k => spec_l4Places.l2 k (splice out a.toNat (rng j p)) j L n i a l p) R
  | 0, j, h => by
    obtain rfl : j = l := by omega
    exact Tot.step (fun k => spec_l4Places.l2.eq_2 ..) (Tot.no (by omega) hR)
  | d + 1, j, h => by
    have hlen : (splice out a.toNat (rng j p)).length = 16 := by rw [splice_len _ _ _ (by rw [rng_length, ho]; omega)]; exact ho
    refine Tot.step (fun k => spec_l4Places.l2.eq_2 ..) (Tot.yes (by omega) ?_)
    rw [wrap_in (x := a + j) (by omega) (by omega), wrap_in (x := p + j) (by omega) (by omega), wrap_in (x := (j : Int) + 1) (by omega) (by omega)]
    refine Tot.yes (by omega) (Tot.yes (by rw [hlen]; omega) ?_)
    rw [show (a + (j : Int)).toNat = a.toNat + j by omega, set_splice out a.toNat j p (by rw [ho]; omega)]
    exact specPl2 L n i out a p l ho ha hl hp R hR d (j + 1) (by omega)
theorem specPl1 : ∀ (b a : List S47) (out : List Int), out.length = 16 → ((a ++ b).length : Int) ≤ 9223372036850000000 → (∀ x ∈ b, goodS x = true) → Tot (fun k => spec_l4Places.l1 k out (a ++ b) ((a ++ b).length : Int) a.length) (plL out b)
  | [], a, out, ho, h, hg => Tot.step (fun k => spec_l4Places.l1.eq_2 ..) (Tot.no (by simp) (Tot.pure _))
  | x :: b, a, out, ho, h, hg => by
    have hl : ((a ++ x :: b).length : Int) = a.length + b.length + 1 := by simp; omega
    have hb := (goodS_iff x).1 (hg x (by simp))
    refine Tot.step (fun k => spec_l4Places.l1.eq_2 ..) (Tot.yes (by omega) (Tot.yes (by omega) (Tot.yes (by omega) ?_)))
    rw [rdIStretch_at]
    have hlen : (splice out x.f0.toNat (rng x.f1.toNat x.f2)).length = 16 := by rw [splice_len _ _ _ (by rw [rng_length, ho]; omega)]; exact ho
    have ih := specPl1 b (a ++ [x]) (splice out x.f0.toNat (rng x.f1.toNat x.f2)) hlen (by simpa using h) (fun y hy => hg y (by simp [hy]))
    have := specPl2 (a ++ x :: b) ((a ++ x :: b).length : Int) a.length out x.f0 x.f2 x.f1.toNat ho hb.2.2.1 (by omega) (by omega) (plL out (x :: b)) (by
      rw [wrap_in (x := (a.length : Int) + 1) (by omega) (by omega)]
      simpa [plL] using ih) x.f1.toNat 0 (by omega)
    have e : ((x.f1.toNat : Nat) : Int) = x.f1 := by omega
    rw [e] at this
    simpa [rng, splice_nil] using this
theorem specPl0 (l : List S47) (R : List Int) (hR : Tot (fun k => spec_l4Places.l1 k (List.replicate 16 (-1)) l (l.length : Int) 0) R) : ∀ (d j : Nat), j + d = 16 → Tot (fun k => spec_l4Places.l0 k l (List.replicate j (-1)) j) R
  | 0, j, h => by
    obtain rfl : j = 16 := by omega
    exact Tot.step (fun k => spec_l4Places.l0.eq_2 ..) (Tot.no (by omega) hR)
  | d + 1, j, h => by
    refine Tot.step (fun k => spec_l4Places.l0.eq_2 ..) (Tot.yes (by omega) (Tot.yes (by simp; omega) ?_))
    rw [wrap_in (x := (j : Int) + 1) (by omega) (by omega), ← List.replicate_succ']
    exact specPl0 l R hR d (j + 1) (by omega)
theorem specPlaces_v (l : List S47) (h : (l.length : Int) ≤ 1048576) (hg : ∀ x ∈ l, goodS x = true) : Tot (fun k => spec_l4Places.f k l) (plL (List.replicate 16 (-1)) l) := by
  have h1 := specPl1 l [] (List.replicate 16 (-1)) (by simp) (by simp; omega) hg
  have := specPl0 l _ (by simpa using h1) 16 0 (by omega)
  unfold spec_l4Places.f
  simpa using this
theorem implPlaces_v (l : List S47) (hg : ∀ x ∈ l, goodS x = true) : Tot (fun k => impl_places.f k l) (plL (List.replicate 16 (-1)) l) := by
  unfold impl_places.f
  have : ∀ (l : List S47) (out : List Int), (∀ x ∈ l, goodS x = true) → Tot (fun k => placesF k out l) (plL out l) := by
    intro l
    induction l with
    | nil => exact fun out _ => Tot.pure _
    | cons x l ih =>
      intro out hg
      have hb := (goodS_iff x).1 (hg x (by simp))
      show Tot (fun k => (placeStep k out x).bind fun o => placesF k o l) (plL (splice out x.f0.toNat (rng x.f1.toNat x.f2)) l)
      refine Tot.bind (a := splice out x.f0.toNat (rng x.f1.toNat x.f2)) ?_ (ih _ (fun y hy => hg y (by simp [hy])))
      unfold placeStep
      exact Tot.yes (by omega) (Tot.bind (run_v x.f2 x.f1 (by omega) (by omega) (by omega)) (Tot.yes (by rw [rng_length]; omega) (Tot.pure _)))
  exact this l _ hg
theorem plInv0 : plInv (List.replicate 16 (-1)) := ⟨by simp, fun y hy => by rw [List.eq_of_mem_replicate hy]; omega⟩

/-- One more block of a map: it lengthens the last stretch, or begins one. -/
def mapStep (out : List S47) (i p : Int) : List S47 :=
  if p < 0 then out else
  match out.getLast? with
  | none => [⟨i, 1, p⟩]
  | some y => if y.f0 + y.f1 = i ∧ y.f2 + y.f1 = p then out.dropLast ++ [⟨y.f0, y.f1 + 1, y.f2⟩] else out ++ [⟨i, 1, p⟩]
def mapAll : List Int → Int → List S47 → List S47
  | [], _, out => out
  | p :: r, i, out => mapAll r (i + 1) (mapStep out i p)
/-- What holds of the stretches so far. -/
def mapInv (out : List S47) (i : Int) : Prop := (out.length : Int) ≤ i ∧ ∀ y ∈ out, 0 ≤ y.f0 ∧ y.f0 ≤ 1000000 ∧ 0 ≤ y.f1 ∧ y.f1 ≤ i ∧ 0 ≤ y.f2 ∧ y.f2 ≤ 1000000
theorem mapInv_step {out : List S47} {i p : Int} (h : mapInv out i) (h0 : 0 ≤ i) (h1 : i ≤ 1000000) (hp : p ≤ 1000000) : mapInv (mapStep out i p) (i + 1) := by
  have mono : ∀ y ∈ out, 0 ≤ y.f0 ∧ y.f0 ≤ 1000000 ∧ 0 ≤ y.f1 ∧ y.f1 ≤ i + 1 ∧ 0 ≤ y.f2 ∧ y.f2 ≤ 1000000 := fun y hy => by have := h.2 y hy; omega
  unfold mapStep
  split
  · exact ⟨by have := h.1; omega, mono⟩
  · rename_i hp0
    split
    · exact ⟨by simp; omega, fun y hy => by rw [List.mem_singleton.1 hy]; show 0 ≤ i ∧ i ≤ 1000000 ∧ (0 : Int) ≤ 1 ∧ 1 ≤ i + 1 ∧ 0 ≤ p ∧ p ≤ 1000000; omega⟩
    · rename_i y hy
      have hm := List.mem_of_getLast? hy
      have hyb := h.2 y hm
      have hl := h.1
      split
      · refine ⟨by simp; have : out.length ≠ 0 := fun e => by rw [List.eq_nil_of_length_eq_zero e] at hm; simp at hm
                   omega, fun z hz => ?_⟩
        rcases List.mem_append.1 hz with hz | hz
        · exact mono z (List.dropLast_subset _ hz)
        · rw [List.mem_singleton.1 hz]
          show 0 ≤ y.f0 ∧ y.f0 ≤ 1000000 ∧ 0 ≤ y.f1 + 1 ∧ y.f1 + 1 ≤ i + 1 ∧ 0 ≤ y.f2 ∧ y.f2 ≤ 1000000
          omega
      · refine ⟨by simp; omega, fun z hz => ?_⟩
        rcases List.mem_append.1 hz with hz | hz
        · exact mono z hz
        · rw [List.mem_singleton.1 hz]; show 0 ≤ i ∧ i ≤ 1000000 ∧ (0 : Int) ≤ 1 ∧ 1 ≤ i + 1 ∧ 0 ≤ p ∧ p ≤ 1000000; omega
theorem mapInv_all : ∀ (r : List Int) (i : Int) (out : List S47), mapInv out i → 0 ≤ i → i + r.length ≤ 1000000 → (∀ p ∈ r, p ≤ 1000000) → mapInv (mapAll r i out) (i + r.length)
  | [], i, out, h, h0, h1, hp => by simpa [mapAll] using h
  | p :: r, i, out, h, h0, h1, hp => by
    simp only [List.length_cons] at h1
    have := mapInv_all r (i + 1) (mapStep out i p) (mapInv_step h h0 (by omega) (hp p (by simp))) (by omega) (by omega) (fun q hq => hp q (by simp [hq]))
    have e : i + ((p :: r).length : Int) = i + 1 + r.length := by simp; omega
    rw [e]
    exact this
theorem rd_lastS (b : List S47) (y : S47) : rd_T47 (b ++ [y]) (b.length : Int) = y := by simp [rd_T47, List.getD]
theorem set_lastS (b : List S47) (y z : S47) : (b ++ [y]).set ((b.length : Int)).toNat z = b ++ [z] := by simp
theorem specMapAll_l : ∀ (b a : List Int) (out : List S47), mapInv out a.length → ((a ++ b).length : Int) ≤ 1000000 → (∀ p ∈ b, p ≤ 1000000) → Tot (fun k => spec_l4Map.l0 k out (a ++ b) ((a ++ b).length : Int) a.length) (mapAll b a.length out)
  | [], a, out, hi, h, hp => by
    refine Tot.step (fun k => spec_l4Map.l0.eq_2 ..) ?_
    exact Tot.no (by simp) (Tot.pure _)
  | p :: b, a, out, hi, h, hp => by
    have hl : ((a ++ p :: b).length : Int) = a.length + b.length + 1 := by simp; omega
    have hr : rd (a ++ p :: b) (a.length : Int) = p := by simp [rd, List.getD]
    have hpp := hp p (by simp)
    have next : Tot (fun k => spec_l4Map.l0 k (mapStep out a.length p) (a ++ p :: b) ((a ++ p :: b).length : Int) ((a.length : Int) + 1)) (mapAll (p :: b) a.length out) := by
      have hi2 := mapInv_step hi (by omega) (by omega) hpp
      have := specMapAll_l b (a ++ [p]) (mapStep out a.length p) (by simpa using hi2) (by simpa using h) (fun q hq => hp q (by simp [hq]))
      simpa [mapAll] using this
    refine Tot.step (fun k => spec_l4Map.l0.eq_2 ..) (Tot.yes (by omega) (Tot.yes (by omega) (Tot.yes (by omega) ?_)))
    rw [hr, wrap_in (x := (a.length : Int) + 1) (by omega) (by omega)]
    unfold mapStep at next
    by_cases h0 : p < 0
    · rw [if_pos h0] at next
      exact Tot.yes h0 next
    · rw [if_neg h0] at next
      refine Tot.no h0 ?_
      rcases List.eq_nil_or_concat out with rfl | ⟨o, y, rfl⟩
      · exact Tot.no (by simp) (Tot.yes (by simp) next)
      · rw [List.concat_eq_append] at *
        simp only [List.getLast?_append, List.getLast?_singleton, Option.some_or, List.dropLast_concat] at next
        have hol := hi.1
        have hyb := hi.2 y (by simp)
        have hlen : ((o ++ [y]).length : Int) = o.length + 1 := by simp
        have e1 : wrap64 (((o ++ [y]).length : Int) - 1) = (o.length : Int) := (wrap_in (by omega) (by omega)).trans (by omega)
        rw [e1, rd_lastS, wrap_in (x := y.f0 + y.f1) (by omega) (by omega), wrap_in (x := y.f2 + y.f1) (by omega) (by omega), wrap_in (x := y.f1 + 1) (by omega) (by omega), set_lastS]
        refine Tot.yes (by omega) (Tot.yes (by omega) (Tot.yes (by omega) ?_))
        by_cases c1 : y.f0 + y.f1 = a.length
        · refine Tot.yes c1 ?_
          by_cases c2 : y.f2 + y.f1 = p
          · rw [if_pos ⟨c1, c2⟩] at next
            exact Tot.yes c2 next
          · rw [if_neg (fun e => c2 e.2)] at next
            exact Tot.no c2 (Tot.yes (by omega) next)
        · rw [if_neg (fun e => c1 e.1)] at next
          exact Tot.no c1 (Tot.yes (by omega) next)
theorem specMapAll_v (l : List Int) (h : (l.length : Int) ≤ 1000000) (hp : ∀ p ∈ l, p ≤ 1000000) : Tot (fun k => spec_l4Map.f k l) (mapAll l 0 []) := by
  have := specMapAll_l l [] [] ⟨by simp, fun y hy => by simp at hy⟩ (by simpa using h) hp
  unfold spec_l4Map.f
  simpa using this

theorem implMapAll_l : ∀ (b a : List Int) (out : List S47), mapInv out a.length → ((a ++ b).length : Int) ≤ 1000000 → (∀ p ∈ b, -1 ≤ p ∧ p ≤ 1000000) → Tot (fun k => impl_mapOf.l0 k out (a ++ b) ((a ++ b).length : Int) a.length) (mapAll b a.length out)
  | [], a, out, hi, h, hp => by
    refine Tot.step (fun k => impl_mapOf.l0.eq_2 ..) ?_
    exact Tot.no (by simp) (Tot.pure _)
  | p :: b, a, out, hi, h, hp => by
    have hl : ((a ++ p :: b).length : Int) = a.length + b.length + 1 := by simp; omega
    have hr : rd (a ++ p :: b) (a.length : Int) = p := by simp [rd, List.getD]
    have hpp := hp p (by simp)
    have next : Tot (fun k => impl_mapOf.l0 k (mapStep out a.length p) (a ++ p :: b) ((a ++ p :: b).length : Int) ((a.length : Int) + 1)) (mapAll (p :: b) a.length out) := by
      have hi2 := mapInv_step hi (by omega) (by omega) hpp.2
      have := implMapAll_l b (a ++ [p]) (mapStep out a.length p) (by simpa using hi2) (by simpa using h) (fun q hq => hp q (by simp [hq]))
      simpa [mapAll] using this
    refine Tot.step (fun k => impl_mapOf.l0.eq_2 ..) (Tot.yes (by omega) (Tot.yes (by omega) (Tot.yes (by omega) ?_)))
    rw [hr, wrap_in (x := (a.length : Int) + 1) (by omega) (by omega)]
    unfold mapStep at next
    by_cases h0 : p = -1
    · rw [if_pos (by omega)] at next
      exact Tot.yes h0 next
    · rw [if_neg (by omega)] at next
      refine Tot.no h0 ?_
      rcases List.eq_nil_or_concat out with rfl | ⟨o, y, rfl⟩
      · have e0 : wrap64 (((([] : List S47)).length : Int) - 1) = -1 := (wrap_in (by simp) (by simp)).trans (by simp)
        exact Tot.no (by rw [e0]; decide) (Tot.yes (by simp) next)
      · rw [List.concat_eq_append] at *
        simp only [List.getLast?_append, List.getLast?_singleton, Option.some_or, List.dropLast_concat] at next
        have hol := hi.1
        have hyb := hi.2 y (by simp)
        have hlen : ((o ++ [y]).length : Int) = o.length + 1 := by simp
        have e1 : wrap64 (((o ++ [y]).length : Int) - 1) = (o.length : Int) := (wrap_in (by omega) (by omega)).trans (by omega)
        rw [e1, rd_lastS, wrap_in (x := y.f0 + y.f1) (by omega) (by omega), wrap_in (x := y.f2 + y.f1) (by omega) (by omega), wrap_in (x := y.f1 + 1) (by omega) (by omega), set_lastS]
        refine Tot.yes (by omega) (Tot.yes (by omega) (Tot.yes (by omega) ?_))
        by_cases c1 : y.f0 + y.f1 = a.length
        · refine Tot.yes c1 ?_
          by_cases c2 : y.f2 + y.f1 = p
          · rw [if_pos ⟨c1, c2⟩] at next
            exact Tot.yes c2 next
          · rw [if_neg (fun e => c2 e.2)] at next
            exact Tot.no c2 (Tot.yes (by omega) next)
        · rw [if_neg (fun e => c1 e.1)] at next
          exact Tot.no c1 (Tot.yes (by omega) next)
theorem implMapAll_v (l : List Int) (h : (l.length : Int) ≤ 1000000) (hp : ∀ p ∈ l, -1 ≤ p ∧ p ≤ 1000000) : Tot (fun k => impl_mapOf.f k l) (mapAll l 0 []) := by
  have := implMapAll_l l [] [] ⟨by simp, fun y hy => by simp at hy⟩ (by simpa using h) hp
  unfold impl_mapOf.f
  simpa using this

theorem goodFrom_snoc : ∀ (b : List S47) (o : Option S47) (x : S47), goodFrom o (b ++ [x]) = (goodFrom o b && goodS x && (match (match b.getLast? with | some y => some y | none => o) with | none => true | some y => pairS y x))
  | [], none, x => by simp [goodFrom]
  | [], some y, x => by simp [goodFrom]
  | z :: b, none, x => by
    show (goodS z && goodFrom (some z) (b ++ [x])) = _
    rw [goodFrom_snoc b (some z) x]
    show _ = (goodS z && goodFrom (some z) b && goodS x && _)
    cases hb : b.getLast? with
    | none =>
      have : b = [] := List.getLast?_eq_none_iff.1 hb
      subst this
      simp [Bool.and_assoc]
    | some y =>
      have : (z :: b).getLast? = some y := by rw [List.getLast?_cons, hb]; rfl
      rw [this]
      simp [Bool.and_assoc]
  | z :: b, some w, x => by
    show (goodS z && pairS w z && goodFrom (some z) (b ++ [x])) = _
    rw [goodFrom_snoc b (some z) x]
    show _ = (goodS z && pairS w z && goodFrom (some z) b && goodS x && _)
    cases hb : b.getLast? with
    | none =>
      have : b = [] := List.getLast?_eq_none_iff.1 hb
      subst this
      simp [Bool.and_assoc]
    | some y =>
      have : (z :: b).getLast? = some y := by rw [List.getLast?_cons, hb]; rfl
      rw [this]
      simp [Bool.and_assoc]
theorem plL_snoc : ∀ (b : List S47) (out : List Int) (x : S47), plL out (b ++ [x]) = splice (plL out b) x.f0.toNat (rng x.f1.toNat x.f2)
  | [], _, _ => rfl
  | _ :: b, out, x => plL_snoc b _ x
/-- The map of so many places: good, and its places are these. -/
def mapOk (a : List Int) (out : List S47) : Prop :=
  goodFrom none out = true ∧ plL (List.replicate 16 (-1)) out = a ++ List.replicate (16 - a.length) (-1) ∧ ∀ y ∈ out, y.f0 + y.f1 ≤ a.length
theorem set_tail (a : List Int) (n : Nat) (p : Int) (h : 0 < n) : (a ++ List.replicate n (-1)).set a.length p = (a ++ [p]) ++ List.replicate (n - 1) (-1) := by
  obtain ⟨m, rfl⟩ : ∃ m, n = m + 1 := ⟨n - 1, by omega⟩
  rw [List.replicate_succ]
  simp
theorem splice_one (out : List Int) (i : Nat) (p : Int) (h : i < out.length) : splice out i (rng 1 p) = out.set i p := by
  show splice out i [p] = out.set i p
  unfold splice
  rw [List.set_eq_take_append_cons_drop, if_pos h]
  rfl
theorem mapOk_step (a : List Int) (out : List S47) (p : Int) (ha : a.length < 16) (hp : -1 ≤ p ∧ p ≤ 10000) (h : mapOk a out) : mapOk (a ++ [p]) (mapStep out a.length p) := by
  obtain ⟨h1, h2, h3⟩ := h
  have hl : (a ++ [p]).length = a.length + 1 := by simp
  have hlen : (plL (List.replicate 16 (-1)) out).length = 16 := by rw [h2]; simp; omega
  have new : ∀ y : Option S47, out.getLast? = y → p ≥ 0 → (∀ z, y = some z → ¬ (z.f0 + z.f1 = (a.length : Int) ∧ z.f2 + z.f1 = p)) → mapOk (a ++ [p]) (out ++ [⟨(a.length : Int), 1, p⟩]) := fun y hy hp0 hz => by
    refine ⟨?_, ?_, fun x hx => ?_⟩
    · rw [goodFrom_snoc, h1, hy]
      have hg : goodS ⟨(a.length : Int), 1, p⟩ = true := (goodS_iff _).2 (by dsimp only; omega)
      rw [hg]
      cases y with
      | none => rfl
      | some z =>
        have hzl := h3 z (List.mem_of_getLast? hy)
        have := hz z rfl
        show (true && true && pairS z _) = true
        simp [pairS]
        omega
    · rw [plL_snoc, h2]
      show splice _ (a.length : Int).toNat (rng (1 : Int).toNat p) = _
      rw [Int.toNat_natCast]
      show splice _ a.length (rng 1 p) = _
      rw [splice_one _ _ _ (by simp; omega), set_tail _ _ _ (by omega), hl]
      congr 2
    · rw [hl]
      rcases List.mem_append.1 hx with hx | hx
      · have := h3 x hx; omega
      · obtain rfl := List.mem_singleton.1 hx
        show (a.length : Int) + 1 ≤ _
        omega
  unfold mapStep
  by_cases c : p < 0
  · rw [if_pos c]
    have hp1 : p = -1 := by omega
    refine ⟨h1, ?_, fun y hy => by rw [hl]; have := h3 y hy; omega⟩
    rw [h2, hl, hp1, List.append_assoc]
    congr 1
    rw [show 16 - a.length = (16 - (a.length + 1)) + 1 by omega, List.replicate_succ]
    rfl
  · rw [if_neg c]
    cases hy : out.getLast? with
    | none =>
      have : out = [] := List.getLast?_eq_none_iff.1 hy
      subst this
      exact new none hy (by omega) (fun z hz => by cases hz)
    | some y =>
      show mapOk _ (if y.f0 + y.f1 = (a.length : Int) ∧ y.f2 + y.f1 = p then _ else _)
      by_cases c2 : y.f0 + y.f1 = (a.length : Int) ∧ y.f2 + y.f1 = p
      · rw [if_pos c2]
        have hne : out ≠ [] := by intro e; subst e; cases hy
        obtain ⟨b, rfl⟩ : ∃ b, out = b ++ [y] := ⟨out.dropLast, by
          have e := List.dropLast_concat_getLast hne
          have e2 := List.getLast?_eq_some_getLast hne
          rw [e2] at hy
          rw [Option.some.inj hy] at e
          exact e.symm⟩
        have hgy : goodS y = true := goodFrom_mem _ none h1 y (by simp)
        obtain ⟨g1, g2, g3, g4, g5, g6⟩ := (goodS_iff y).1 hgy
        rw [goodFrom_snoc] at h1
        simp only [Bool.and_eq_true] at h1
        rw [List.dropLast_concat]
        refine ⟨?_, ?_, fun x hx => ?_⟩
        · rw [goodFrom_snoc, h1.1.1]
          have hg : goodS ⟨y.f0, y.f1 + 1, y.f2⟩ = true := (goodS_iff _).2 (by dsimp only; omega)
          rw [hg]
          exact h1.2
        · rw [plL_snoc]
          rw [plL_snoc] at h2
          show splice _ y.f0.toNat (rng (y.f1 + 1).toNat y.f2) = _
          rw [show (y.f1 + 1).toNat = y.f1.toNat + 1 by omega, ← set_splice, h2]
          · rw [show y.f0.toNat + y.f1.toNat = a.length by omega, show y.f2 + (y.f1.toNat : Int) = p by omega, set_tail _ _ _ (by omega), hl]
            congr 2
          · have := splice_len (plL (List.replicate 16 (-1)) b) y.f0.toNat (rng y.f1.toNat y.f2) (by
              rw [rng_length]
              have h5 : (plL (List.replicate 16 (-1)) b).length = 16 := (plInv_all b _ plInv0 (goodFrom_mem b none h1.1.1)).1
              omega)
            have h5 : (plL (List.replicate 16 (-1)) b).length = 16 := (plInv_all b _ plInv0 (goodFrom_mem b none h1.1.1)).1
            omega
        · rw [hl]
          rcases List.mem_append.1 hx with hx | hx
          · have := h3 x (by simp [hx]); omega
          · obtain rfl := List.mem_singleton.1 hx
            show y.f0 + (y.f1 + 1) ≤ _
            omega
      · rw [if_neg c2]
        exact new (some y) hy (by omega) (fun z hz => by cases hz; exact c2)
theorem mapOk_all : ∀ (r a : List Int) (out : List S47), a.length + r.length ≤ 16 → (∀ p ∈ r, -1 ≤ p ∧ p ≤ 10000) → mapOk a out → mapOk (a ++ r) (mapAll r a.length out)
  | [], a, out, _, _, h => by simpa [mapAll] using h
  | p :: r, a, out, hl, hp, h => by
    simp only [List.length_cons] at hl
    have h1 := mapOk_step a out p (by omega) (hp p (by simp)) h
    have h2 := mapOk_all r (a ++ [p]) _ (by simp; omega) (fun y hy => hp y (by simp [hy])) h1
    show mapOk (a ++ p :: r) (mapAll r ((a.length : Int) + 1) (mapStep out a.length p))
    simpa using h2
/-- A map of sixteen places is good, and its places are these. -/
theorem map_places (l : List Int) (hl : l.length = 16) (hp : ∀ p ∈ l, -1 ≤ p ∧ p ≤ 10000) : goodFrom none (mapAll l 0 []) = true ∧ plL (List.replicate 16 (-1)) (mapAll l 0 []) = l := by
  have h := mapOk_all l [] [] (by simp; omega) hp ⟨rfl, by simp [plL], fun y hy => by cases hy⟩
  obtain ⟨h1, h2, _⟩ := h
  simp only [List.nil_append] at h2
  rw [hl] at h2
  exact ⟨h1, by simpa using h2⟩

def placeB (x : Int) : Bool := decide (-1 ≤ x ∧ x ≤ 10000)
def mapR (l : List Int) : List S47 × Bool := if (l.length : Int) = 16 ∧ l.all placeB = true then (mapAll l 0 [], true) else ([], false)
theorem areMapOf_v (l : List Int) : impl_areAll_int_at_impl_MapOf_1.f l = some (l.all placeB) :=
  Go.Proofs.Ytcoceoplnehmcaa.Open.allO_v fun x _ => by unfold impl_MapOf_1.f; rw [within_v, Option.bind_some]; rfl
theorem specR_v (l : List Int) (h : (l.length : Int) ≤ 9223372036850000000) : Tot (fun k => spec_MapOf.f k l) (mapR l) := by
  unfold spec_MapOf.f mapR
  by_cases h1 : (l.length : Int) = 16
  · refine Tot.yes h1 (Tot.bind (all_v l (-1) 10000 h) ?_)
    by_cases h2 : l.all placeB = true
    · rw [if_pos ⟨h1, h2⟩]
      refine Tot.yes h2 (Tot.bind (specMapAll_v l (by omega) fun p hp => ?_) (Tot.pure _))
      have := List.all_eq_true.1 h2 p hp
      simp [placeB] at this
      omega
    · rw [if_neg (fun e => h2 e.2)]
      exact Tot.no h2 (Tot.pure _)
  · rw [if_neg (fun e => h1 e.1)]
    exact Tot.no h1 (Tot.pure _)
theorem implR_v (l : List Int) : Tot (fun k => impl_MapOf.f k l) (mapR l) := by
  unfold impl_MapOf.f mapR
  simp only [areMapOf_v, Option.bind_some]
  by_cases h1 : (l.length : Int) = 16
  · refine Tot.yes h1 ?_
    by_cases h2 : l.all placeB = true
    · rw [if_pos ⟨h1, h2⟩]
      refine Tot.yes h2 (Tot.bind (implMapAll_v l (by omega) fun p hp => ?_) (Tot.pure _))
      have := List.all_eq_true.1 h2 p hp
      simp [placeB] at this
      omega
    · rw [if_neg (fun e => h2 e.2)]
      exact Tot.no h2 (Tot.pure _)
  · rw [if_neg (fun e => h1 e.1)]
    exact Tot.no h1 (Tot.pure _)
theorem mapR_short (l : List Int) : ((mapR l).1.length : Int) ≤ 16 := by
  unfold mapR
  split
  · rename_i h
    have h3 : ∀ p ∈ l, p ≤ 1000000 := fun p hp => by
      have := List.all_eq_true.1 h.2 p hp
      simp [placeB] at this
      omega
    have := (mapInv_all l 0 [] ⟨by simp, fun y hy => by simp at hy⟩ (by omega) (by omega) h3).1
    show ((mapAll l 0 []).length : Int) ≤ 16
    omega
  · simp

theorem among_m (code : List Int) (at_ seed : Int) (l : List Int) (hl : 1 ≤ l.length) (h0 : 0 ≤ at_) (h1 : at_ ≤ 1000000) (hb : ∀ x ∈ code, 0 ≤ x ∧ x ≤ 255) : ∃ r a s, spec_l1Cur_among.f code at_ seed l = some (r, a, s) ∧ r ∈ l ∧ at_ ≤ a ∧ a ≤ at_ + 2 := by
  obtain ⟨x, a, s, e, a0, a1, x0, x1⟩ := pick_v code at_ seed (l.length : Int) h0 h1 hb
  have x2 := x1 (by omega)
  unfold spec_l1Cur_among.f
  rw [e, Option.bind_some]
  dsimp only
  rw [if_pos x0, if_pos x2]
  refine ⟨_, _, _, rfl, ?_, a0, a1⟩
  unfold rd
  rw [List.getD_eq_getElem?_getD, List.getElem?_eq_getElem (by omega : x.toNat < l.length)]
  exact List.getElem_mem _
theorem places_l (code : List Int) (hb : ∀ x ∈ code, 0 ≤ x ∧ x ≤ 255) : ∀ (d i : Nat) (q : List Int) (x4 at_ seed : Int), i + d = 16 → q.length = i → 0 ≤ at_ → at_ + 4 * d ≤ 900 → ∃ q' a s, Tot (fun k => spec_l1Cur_places.l0 k q x4 i code at_ seed) (q', a, s) ∧ q'.length = 16 ∧ 0 ≤ a ∧ a ≤ 1000
  | 0, i, q, x4, at_, seed, hi, hq, h0, h1 => by
    obtain ⟨t, a, s, e, a0, a1⟩ := one_v code at_ seed 30 h0 (by omega) hb
    cases t with
    | true =>
      obtain ⟨j, a2, s2, e2, b0, b1, j0, j1⟩ := pick_v code a s 16 (by omega) (by omega) hb
      have j2 := j1 (by omega)
      obtain ⟨y, a3, s3, e3, _, c0, c1⟩ := among_m code a2 s2 [(-2), 10000, 10001] (by decide) (by omega) (by omega) hb
      refine ⟨q.set j.toNat y, a3, s3, Tot.step (fun k => spec_l1Cur_places.l0.eq_2 ..) (Tot.no (by omega) ?_), by simp; omega, by omega, by omega⟩
      simp only [e, Option.bind_some]
      refine Tot.yes trivial ?_
      simp only [e2, e3, Option.bind_some]
      exact Tot.yes j0 (Tot.yes (by omega) (Tot.pure _))
    | false =>
      refine ⟨q, a, s, Tot.step (fun k => spec_l1Cur_places.l0.eq_2 ..) (Tot.no (by omega) ?_), by omega, by omega, by omega⟩
      simp only [e, Option.bind_some]
      exact Tot.no (by decide) (Tot.pure _)
  | d + 1, i, q, x4, at_, seed, hi, hq, h0, h1 => by
    obtain ⟨x, a, s, e, a0, a1, x0, x1⟩ := pick_v code at_ seed 6 h0 (by omega) hb
    have w1 : wrap64 ((i : Int) + 1) = ((i + 1 : Nat) : Int) := by rw [wrap_in (by omega) (by omega)]; omega
    by_cases c0 : x = 0
    · obtain ⟨q', a', s', ih, r1, r2, r3⟩ := places_l code hb d (i + 1) (q ++ [(-1)]) x4 a s (by omega) (by simp; omega) (by omega) (by omega)
      refine ⟨q', a', s', Tot.step (fun k => spec_l1Cur_places.l0.eq_2 ..) (Tot.yes (by omega) ?_), r1, r2, r3⟩
      simp only [e, Option.bind_some]
      refine Tot.yes c0 (Tot.yes (by omega) ?_)
      rw [w1]
      exact ih
    · by_cases c1 : x = 1
      · obtain ⟨y, a2, s2, e2, b0, b1, _, _⟩ := pick_v code a s 60 (by omega) (by omega) hb
        obtain ⟨q', a', s', ih, r1, r2, r3⟩ := places_l code hb d (i + 1) (q ++ [y]) y a2 s2 (by omega) (by simp; omega) (by omega) (by omega)
        refine ⟨q', a', s', Tot.step (fun k => spec_l1Cur_places.l0.eq_2 ..) (Tot.yes (by omega) ?_), r1, r2, r3⟩
        simp only [e, Option.bind_some]
        refine Tot.no c0 (Tot.yes c1 ?_)
        simp only [e2, Option.bind_some]
        refine Tot.yes (by omega) ?_
        rw [w1]
        exact ih
      · obtain ⟨q', a', s', ih, r1, r2, r3⟩ := places_l code hb d (i + 1) (q ++ [wrap64 (x4 + 1)]) (wrap64 (x4 + 1)) a s (by omega) (by simp; omega) (by omega) (by omega)
        refine ⟨q', a', s', Tot.step (fun k => spec_l1Cur_places.l0.eq_2 ..) (Tot.yes (by omega) ?_), r1, r2, r3⟩
        simp only [e, Option.bind_some]
        refine Tot.no c0 (Tot.no c1 (Tot.yes (by omega) ?_))
        rw [w1]
        exact ih
theorem places_v (code : List Int) (hb : ∀ x ∈ code, 0 ≤ x ∧ x ≤ 255) : ∃ q a s, Tot (fun k => spec_l1Cur_places.f k code 0 0) (q, a, s) ∧ q.length = 16 ∧ 0 ≤ a ∧ a ≤ 1000 := by
  obtain ⟨x, a1, s1, e1, a10, a11, x0, x1⟩ := pick_v code 0 0 50 (by omega) (by omega) hb
  obtain ⟨q, a, s, h, r1, r2, r3⟩ := places_l code hb 16 0 [] x a1 s1 (by omega) rfl (by omega) (by omega)
  refine ⟨q, a, s, ?_, r1, r2, r3⟩
  unfold spec_l1Cur_places.f
  simp only [e1, Option.bind_some]
  exact h
theorem mapAll_in {o : List Int} (h : o.length = 16) (hp : ∀ p ∈ o, p ≤ 1000000) : ∀ y ∈ mapAll o 0 [], 0 ≤ y.f1 ∧ y.f1 ≤ 16 := fun y hy => by
  have := (mapInv_all o 0 [] ⟨by simp, fun y hy => by simp at hy⟩ (by omega) (by rw [h]; omega) hp).2 y hy
  rw [h] at this
  omega
theorem mapR_in (q : List Int) : ∀ y ∈ (mapR q).1, 0 ≤ y.f1 ∧ y.f1 ≤ 16 := by
  unfold mapR
  by_cases c : (q.length : Int) = 16 ∧ q.all placeB = true
  · rw [if_pos c]
    exact mapAll_in (by omega) (fun p hp => by
      have := of_decide_eq_true (List.all_eq_true.1 c.2 p hp)
      omega)
  · rw [if_neg c]
    intro y hy
    cases hy
/-- What stretches draws: short, and its lengths are small. -/
theorem stretches_v (code : List Int) (hb : ∀ x ∈ code, 0 ≤ x ∧ x ≤ 255) : ∃ l a s, Tot (fun k => spec_l1Cur_stretches.f k code 0 0) (l, a, s) ∧ (l.length : Int) ≤ 16 ∧ (∀ y ∈ l, 0 ≤ y.f1 ∧ y.f1 ≤ 16) ∧ 0 ≤ a ∧ a ≤ 2000 := by
  obtain ⟨q, a, s, h, hq, a0, a1⟩ := places_v code hb
  have hm := specR_v q (by omega)
  have hsh := mapR_short q
  have hin := mapR_in q
  unfold spec_l1Cur_stretches.f
  by_cases c : ((mapR q).1.length : Int) > 1
  · obtain ⟨t, a2, s2, e, b0, b1⟩ := one_v code a s 20 a0 (by omega) hb
    cases t with
    | true =>
      refine ⟨(mapR q).1.set (1 : Int).toNat (⟨wrap64 ((rd_T47 (mapR q).1 1).f0 - 1), (rd_T47 (mapR q).1 1).f1, (rd_T47 (mapR q).1 1).f2⟩ : S47), a2, s2, Tot.bind h (Tot.bind hm (Tot.yes c ?_)), by simpa using hsh, ?_, by omega, by omega⟩
      · simp only [e, Option.bind_some]
        exact Tot.yes trivial (Tot.yes (by omega) (Tot.pure _))
      · intro y hy
        rcases List.mem_or_eq_of_mem_set hy with hy | rfl
        · exact hin y hy
        · have hm1 : rd_T47 (mapR q).1 1 ∈ (mapR q).1 := by
            unfold rd_T47
            rw [List.getD_eq_getElem?_getD, List.getElem?_eq_getElem (by show 1 < _; omega)]
            exact List.getElem_mem _
          exact hin (rd_T47 (mapR q).1 1) hm1
    | false =>
      refine ⟨(mapR q).1, a2, s2, Tot.bind h (Tot.bind hm (Tot.yes c ?_)), hsh, hin, by omega, by omega⟩
      simp only [e, Option.bind_some]
      exact Tot.no (by decide) (Tot.pure _)
  · exact ⟨(mapR q).1, a, s, Tot.bind h (Tot.bind hm (Tot.no c (Tot.pure _))), hsh, hin, by omega, by omega⟩
theorem stretch_v (code : List Int) (hb : ∀ x ∈ code, 0 ≤ x ∧ x ≤ 255) (at_ seed : Int) (h0 : 0 ≤ at_) (h1 : at_ ≤ 5000) : ∃ x y z a s, spec_l1Cur_stretch.f code at_ seed = some (x, y, z, a, s) ∧ -10 ≤ y ∧ y ≤ 100 := by
  obtain ⟨x1, a1, s1, e1, a10, a11, _, _⟩ := pick_v code at_ seed 14 h0 (by omega) hb
  obtain ⟨x2, a2, s2, e2, a20, a21, b0, b1⟩ := pick_v code a1 s1 4 (by omega) (by omega) hb
  obtain ⟨x3, a3, s3, e3, a30, a31, _, _⟩ := pick_v code a2 s2 60 (by omega) (by omega) hb
  obtain ⟨t, a4, s4, e4, a40, a41⟩ := one_v code a3 s3 20 (by omega) (by omega) hb
  have b2 := b1 (by omega)
  unfold spec_l1Cur_stretch.f
  simp only [e1, e2, e3, e4, Option.bind_some]
  cases t with
  | true =>
    obtain ⟨y1, a5, s5, e5, _, a50, a51⟩ := among_m code a4 s4 [(-1), 0, 15, 16] (by decide) (by omega) (by omega) hb
    obtain ⟨y2, a6, s6, e6, m6, a60, a61⟩ := among_m code a5 s5 [0, 1, 16, 17] (by decide) (by omega) (by omega) hb
    obtain ⟨y3, a7, s7, e7, _, a70, a71⟩ := among_m code a6 s6 [(-1), 9985, 10000] (by decide) (by omega) (by omega) hb
    simp only [e5, e6, e7, Option.bind_some, if_true]
    refine ⟨_, _, _, _, _, rfl, ?_, ?_⟩ <;> (simp at m6; omega)
  | false =>
    rw [if_neg (by decide), wrap_in (x := 1 + x2) (by omega) (by omega)]
    exact ⟨_, _, _, _, _, rfl, by omega, by omega⟩
theorem drawGood_v (code : List Int) (hb : ∀ x ∈ code, 0 ≤ x ∧ x ≤ 255) : ∃ l, Tot (fun k => spec_DrawGoodMap.f k code) l ∧ (l.length : Int) ≤ 16 ∧ ∀ y ∈ l, 0 ≤ y.f1 ∧ y.f1 ≤ 16 := by
  obtain ⟨l, a, s, h, h1, h2, _, _⟩ := stretches_v code hb
  unfold spec_DrawGoodMap.f
  exact ⟨l, Tot.bind h (Tot.pure _), h1, h2⟩
theorem drawPlace_v (code : List Int) (hb : ∀ x ∈ code, 0 ≤ x ∧ x ≤ 255) : ∃ l b, Tot (fun k => spec_DrawPlaceOf.f k code) (l, b) ∧ (l.length : Int) ≤ 16 ∧ ∀ y ∈ l, 0 ≤ y.f1 ∧ y.f1 ≤ 16 := by
  obtain ⟨l, a, s, h, h1, h2, h3, h4⟩ := stretches_v code hb
  obtain ⟨x, a2, s2, e, _, _, _, _⟩ := pick_v code a s 18 h3 (by omega) hb
  unfold spec_DrawPlaceOf.f
  refine ⟨l, wrap64 (x - 1), Tot.bind h ?_, h1, h2⟩
  simp only [e, Option.bind_some]
  exact Tot.pure _
theorem drawPut_v (code : List Int) (hb : ∀ x ∈ code, 0 ≤ x ∧ x ≤ 255) : ∃ (l : List S47) (x : S47), Tot (fun k => spec_DrawPutStretch.f k code) (l, x.f0, x.f1, x.f2) ∧ (l.length : Int) ≤ 16 ∧ (∀ y ∈ l, 0 ≤ y.f1 ∧ y.f1 ≤ 16) ∧ -10 ≤ x.f1 ∧ x.f1 ≤ 100 := by
  obtain ⟨l, a, s, h, h1, h2, h3, h4⟩ := stretches_v code hb
  obtain ⟨x, y, z, a2, s2, e, y0, y1⟩ := stretch_v code hb a s h3 (by omega)
  unfold spec_DrawPutStretch.f
  refine ⟨l, ⟨x, y, z⟩, Tot.bind h ?_, h1, h2, y0, y1⟩
  simp only [e, Option.bind_some]
  exact Tot.pure _
theorem drawMap_v (code : List Int) (hb : ∀ x ∈ code, 0 ≤ x ∧ x ≤ 255) : ∃ l, Tot (fun k => spec_DrawMapOf.f k code) l ∧ l.length ≤ 16 := by
  obtain ⟨q, a, s, h, hq, a0, a1⟩ := places_v code hb
  obtain ⟨t, a2, s2, e, b0, b1⟩ := one_v code a s 20 a0 (by omega) hb
  unfold spec_DrawMapOf.f
  cases t with
  | true =>
    refine ⟨q.drop 1, Tot.bind h ?_, by simp; omega⟩
    simp only [e, Option.bind_some]
    exact Tot.yes trivial (Tot.yes (by omega) (Tot.pure _))
  | false =>
    refine ⟨q, Tot.bind h ?_, by omega⟩
    simp only [e, Option.bind_some]
    exact Tot.no (by decide) (Tot.pure _)

def plR (l : List S47) : List Int × Bool := if goodFrom none l = true then (plL (List.replicate 16 (-1)) l, true) else ([], false)
theorem specPlR_v (l : List S47) (h : (l.length : Int) ≤ 1048576) : Tot (fun k => spec_PlacesOf.f k l) (plR l) := by
  unfold spec_PlacesOf.f plR
  refine Tot.bind (specMap_v l (by omega)) ?_
  by_cases c : goodFrom none l = true
  · rw [if_pos c]
    exact Tot.yes c (Tot.bind (specPlaces_v l h (goodFrom_mem l _ c)) (Tot.pure _))
  · rw [if_neg c]; exact Tot.no c (Tot.pure _)
theorem implPlR_v (l : List S47) (h : (l.length : Int) ≤ 1048576) (hb : ∀ y ∈ l, -9223372036854775808 ≤ y.f1 ∧ y.f1 ≤ 9223372036854775807) : Tot (fun k => impl_PlacesOf.f k l) (plR l) := by
  unfold impl_PlacesOf.f plR
  refine Tot.bind (implMap_v l (by omega) hb) ?_
  by_cases c : goodFrom none l = true
  · rw [if_pos c]
    exact Tot.yes c (Tot.bind (implPlaces_v l (goodFrom_mem l _ c)) (Tot.pure _))
  · rw [if_neg c]; exact Tot.no c (Tot.pure _)
theorem plR_short (l : List S47) : ((plR l).1.length : Int) ≤ 16 := by
  unfold plR
  split
  · rename_i c
    have := (plInv_all l _ plInv0 (goodFrom_mem l _ c)).1
    show ((plL (List.replicate 16 (-1)) l).length : Int) ≤ 16
    omega
  · simp

def placeR (l : List S47) (b : Int) : Int × Bool :=
  if goodFrom none l = true ∧ (0 ≤ b ∧ b ≤ 15) then (if rd (plL (List.replicate 16 (-1)) l) b < 0 then (0, false) else (rd (plL (List.replicate 16 (-1)) l) b, true)) else (0, false)
theorem specPc_v (l : List S47) (b : Int) (h : (l.length : Int) ≤ 1048576) : Tot (fun k => spec_PlaceOf.f k l b) (placeR l b) := by
  unfold spec_PlaceOf.f placeR
  refine Tot.bind (specMap_v l (by omega)) ?_
  simp only [in_v, Option.bind_some]
  by_cases c : goodFrom none l = true
  · refine Tot.yes c ?_
    by_cases c2 : 0 ≤ b ∧ b ≤ 15
    · rw [if_pos ⟨c, c2⟩, decide_eq_true c2]
      have hi := plInv_all l _ plInv0 (goodFrom_mem l _ c)
      refine Tot.step (fun k => spec_PlaceOf.j0.eq_2 ..) (Tot.no (by decide) (Tot.bind (specPlaces_v l h (goodFrom_mem l _ c)) (Tot.yes (by omega) (Tot.yes (by rw [hi.1]; omega) ?_))))
      by_cases c3 : rd (plL (List.replicate 16 (-1)) l) b < 0
      · have e : (if rd (plL (List.replicate 16 (-1)) l) b < 0 then ((0 : Int), false) else (rd (plL (List.replicate 16 (-1)) l) b, true)) = (0, false) := if_pos c3
        rw [e]; exact Tot.yes c3 (Tot.pure _)
      · have e : (if rd (plL (List.replicate 16 (-1)) l) b < 0 then ((0 : Int), false) else (rd (plL (List.replicate 16 (-1)) l) b, true)) = (rd (plL (List.replicate 16 (-1)) l) b, true) := if_neg c3
        rw [e]; exact Tot.no c3 (Tot.pure _)
    · rw [if_neg (fun e => c2 e.2), decide_eq_false c2]
      exact Tot.step (fun k => spec_PlaceOf.j0.eq_2 ..) (Tot.yes rfl (Tot.pure _))
  · rw [if_neg (fun e => c e.1)]
    exact Tot.no c (Tot.step (fun k => spec_PlaceOf.j0.eq_2 ..) (Tot.yes rfl (Tot.pure _)))
theorem implPc_v (l : List S47) (b : Int) (h : (l.length : Int) ≤ 1048576) (hb : ∀ y ∈ l, -9223372036854775808 ≤ y.f1 ∧ y.f1 ≤ 9223372036854775807) : Tot (fun k => impl_PlaceOf.f k l b) (placeR l b) := by
  unfold impl_PlaceOf.f placeR
  refine Tot.bind (implMap_v l (by omega) hb) ?_
  simp only [within_v, Option.bind_some]
  by_cases c : goodFrom none l = true
  · refine Tot.yes c ?_
    by_cases c2 : 0 ≤ b ∧ b ≤ 15
    · rw [if_pos ⟨c, c2⟩, decide_eq_true c2]
      have hi := plInv_all l _ plInv0 (goodFrom_mem l _ c)
      refine Tot.step (fun k => impl_PlaceOf.j0.eq_2 ..) (Tot.no (by decide) (Tot.bind (implPlaces_v l (goodFrom_mem l _ c)) (Tot.yes (by omega) (Tot.yes (by rw [hi.1]; omega) ?_))))
      have hm : -1 ≤ rd (plL (List.replicate 16 (-1)) l) b := by
        unfold rd
        rw [List.getD_eq_getElem?_getD, List.getElem?_eq_getElem (by rw [hi.1]; omega)]
        exact (hi.2 _ (List.getElem_mem _)).1
      by_cases c3 : rd (plL (List.replicate 16 (-1)) l) b < 0
      · have e : (if rd (plL (List.replicate 16 (-1)) l) b < 0 then ((0 : Int), false) else (rd (plL (List.replicate 16 (-1)) l) b, true)) = (0, false) := if_pos c3
        rw [e]; exact Tot.yes (by omega) (Tot.pure _)
      · have e : (if rd (plL (List.replicate 16 (-1)) l) b < 0 then ((0 : Int), false) else (rd (plL (List.replicate 16 (-1)) l) b, true)) = (rd (plL (List.replicate 16 (-1)) l) b, true) := if_neg c3
        rw [e]; exact Tot.no (by omega) (Tot.pure _)
    · rw [if_neg (fun e => c2 e.2), decide_eq_false c2]
      exact Tot.step (fun k => impl_PlaceOf.j0.eq_2 ..) (Tot.yes rfl (Tot.pure _))
  · rw [if_neg (fun e => c e.1)]
    exact Tot.no c (Tot.step (fun k => impl_PlaceOf.j0.eq_2 ..) (Tot.yes rfl (Tot.pure _)))

theorem mapAll_short {o : List Int} (h : plInv o) : ((mapAll o 0 []).length : Int) ≤ 16 := by
  have := (mapInv_all o 0 [] ⟨by simp, fun y hy => by simp at hy⟩ (by omega) (by rw [h.1]; omega) (fun p hp => by have := h.2 p hp; omega)).1
  rw [h.1] at this
  omega
def putR (l : List S47) (x : S47) : List S47 × Bool :=
  if goodFrom none l = true ∧ goodS x = true then (mapAll (splice (plL (List.replicate 16 (-1)) l) x.f0.toNat (rng x.f1.toNat x.f2)) 0 [], true) else ([], false)
theorem specPut_l (o : List Int) (a p : Int) (l : Nat) (ho : plInv o) (ha : 0 ≤ a) (hl : a + l ≤ 16) (hp : 0 ≤ p ∧ p + l ≤ 20000) : ∀ (d j : Nat), j + d = l → Tot (fun k => spec_PutStretch.l0 k (splice o a.toNat (rng j p)) j a l p) (mapAll (splice o a.toNat (rng l p)) 0 [], true)
  | 0, j, h => by
    obtain rfl : j = l := by omega
    refine Tot.step (fun k => spec_PutStretch.l0.eq_2 ..) (Tot.no (by omega) ?_)
    have hlen : (splice o a.toNat (rng j p)).length = 16 := by rw [splice_len _ _ _ (by rw [rng_length, ho.1]; omega)]; exact ho.1
    exact Tot.bind (specMapAll_v _ (by rw [hlen]; omega) (fun y hy => by
      rcases splice_mem hy with hy | hy
      · have := ho.2 y hy; omega
      · have := rng_mem _ _ _ hy; omega)) (Tot.pure _)
  | d + 1, j, h => by
    have hlen : (splice o a.toNat (rng j p)).length = 16 := by rw [splice_len _ _ _ (by rw [rng_length, ho.1]; omega)]; exact ho.1
    refine Tot.step (fun k => spec_PutStretch.l0.eq_2 ..) (Tot.yes (by omega) ?_)
    rw [wrap_in (x := a + j) (by omega) (by omega), wrap_in (x := p + j) (by omega) (by omega), wrap_in (x := (j : Int) + 1) (by omega) (by omega)]
    refine Tot.yes (by omega) (Tot.yes (by rw [hlen]; omega) ?_)
    rw [show (a + (j : Int)).toNat = a.toNat + j by omega, set_splice o a.toNat j p (by rw [ho.1]; omega)]
    exact specPut_l o a p l ho ha hl hp d (j + 1) (by omega)
theorem specPutR_v (l : List S47) (x : S47) (h : (l.length : Int) ≤ 1048576) : Tot (fun k => spec_PutStretch.f k l x.f0 x.f1 x.f2) (putR l x) := by
  have fin : ¬ (goodFrom none l = true ∧ goodS x = true) → Tot (fun k => spec_PutStretch.j0 k l true x.f0 x.f1 x.f2) (putR l x) := fun c => by
    unfold putR
    rw [if_neg c]
    exact Tot.step (fun k => spec_PutStretch.j0.eq_2 ..) (Tot.yes rfl (Tot.pure _))
  unfold spec_PutStretch.f
  refine Tot.bind (specMap_v l (by omega)) ?_
  simp only [specS_v, Option.bind_some]
  by_cases c : goodFrom none l = true
  · refine Tot.yes c ?_
    by_cases c2 : goodS x = true
    · have hb := (goodS_iff x).1 c2
      rw [c2]
      unfold putR
      rw [if_pos ⟨c, c2⟩]
      have hi := plInv_all l _ plInv0 (goodFrom_mem l _ c)
      refine Tot.step (fun k => spec_PutStretch.j0.eq_2 ..) (Tot.no (by decide) (Tot.bind (specPlaces_v l h (goodFrom_mem l _ c)) ?_))
      have := specPut_l _ x.f0 x.f2 x.f1.toNat hi hb.2.2.1 (by omega) (by omega) x.f1.toNat 0 (by omega)
      have e : ((x.f1.toNat : Nat) : Int) = x.f1 := by omega
      rw [e] at this
      simpa [rng, splice_nil] using this
    · rw [Bool.eq_false_iff.2 c2]
      exact fin (fun e => c2 e.2)
  · exact Tot.no c (fin (fun e => c e.1))
theorem implPutR_v (l : List S47) (x : S47) (h : (l.length : Int) ≤ 1048576) (hb : ∀ y ∈ l, -9223372036854775808 ≤ y.f1 ∧ y.f1 ≤ 9223372036854775807) (hx : -9223372036854775808 ≤ x.f1 ∧ x.f1 ≤ 9223372036854775807) : Tot (fun k => impl_PutStretch.f k l x.f0 x.f1 x.f2) (putR l x) := by
  unfold impl_PutStretch.f putR
  refine Tot.bind (implMap_v l (by omega) hb) ?_
  simp only [implS_v x hx, Option.bind_some]
  by_cases c : goodFrom none l = true
  · refine Tot.yes c ?_
    by_cases c2 : goodS x = true
    · have hg := (goodS_iff x).1 c2
      rw [if_pos ⟨c, c2⟩]
      have hi := plInv_all l _ plInv0 (goodFrom_mem l _ c)
      have hi2 := plInv_step hi c2
      refine Tot.yes c2 ?_
      unfold putG
      refine Tot.bind (implPlaces_v l (goodFrom_mem l _ c)) (Tot.bind (run_v x.f2 x.f1 (by omega) (by omega) (by omega)) (Tot.yes ⟨⟨by omega, by rw [rng_length]; omega, by rw [rng_length]; omega⟩, hi.1⟩ ?_))
      exact Tot.bind (implMapAll_v _ (by rw [hi2.1]; omega) (fun p hp => by have := hi2.2 p hp; omega)) (Tot.pure _)
    · rw [if_neg (fun e => c2 e.2)]
      exact Tot.no c2 (Tot.pure _)
  · rw [if_neg (fun e => c e.1)]
    exact Tot.no c (Tot.pure _)
theorem putR_short (l : List S47) (x : S47) : ((putR l x).1.length : Int) ≤ 16 := by
  unfold putR
  split
  · rename_i c
    exact mapAll_short (plInv_step (plInv_all l _ plInv0 (goodFrom_mem l _ c.1)) c.2)
  · simp

theorem same_l (a : List Int) (ha : (a.length : Int) ≤ 9223372036854775806) : ∀ (d : Nat) (i : Int), 0 ≤ i → i + d = a.length → Tot (fun k => laws_sameInts.l0 k a a (a.length : Int) i) true
  | 0, i, h0, h => by
    refine Tot.step (fun k => laws_sameInts.l0.eq_2 ..) ?_
    exact Tot.no (by omega) (Tot.pure _)
  | d + 1, i, h0, h => by
    refine Tot.step (fun k => laws_sameInts.l0.eq_2 ..) ?_
    refine Tot.yes (by omega) (Tot.yes h0 (Tot.yes (by omega) (Tot.yes (by omega) (Tot.yes rfl ?_))))
    rw [wrap_in (by omega) (by omega)]
    exact same_l a ha d (i + 1) (by omega) (by omega)
theorem same_v (a : List Int) (ha : (a.length : Int) ≤ 9223372036854775806) : Tot (fun k => laws_sameInts.f k a a) true := by
  unfold laws_sameInts.f
  exact Tot.yes rfl (same_l a ha a.length 0 (by omega) (by omega))
theorem sameM_l (a : List S47) (ha : (a.length : Int) ≤ 9223372036854775806) : ∀ (d : Nat) (i : Int), 0 ≤ i → i + d = a.length → Tot (fun k => laws_sameMap.l0 k a a (a.length : Int) i) true
  | 0, i, h0, h => by
    refine Tot.step (fun k => laws_sameMap.l0.eq_2 ..) ?_
    exact Tot.no (by omega) (Tot.pure _)
  | d + 1, i, h0, h => by
    refine Tot.step (fun k => laws_sameMap.l0.eq_2 ..) ?_
    refine Tot.yes (by omega) (Tot.yes h0 (Tot.yes (by omega) (Tot.yes (by omega) (Tot.no (by simp) ?_))))
    rw [wrap_in (by omega) (by omega)]
    exact sameM_l a ha d (i + 1) (by omega) (by omega)
theorem sameM_v (a : List S47) (ha : (a.length : Int) ≤ 9223372036854775806) : Tot (fun k => laws_sameMap.f k a a) true := by
  unfold laws_sameMap.f
  exact Tot.yes rfl (sameM_l a ha a.length 0 (by omega) (by omega))
theorem j7_v (code : List Int) (hb : ∀ x ∈ code, 0 ≤ x ∧ x ≤ 255) : Tot (fun k => laws_FnStretches.j7 k code) true := by
  obtain ⟨e, b, h1, e1, e2⟩ := drawPlace_v code hb
  obtain ⟨g, h2, g1, g2⟩ := drawGood_v code hb
  have h3 : Tot (fun k => spec_DrawPlacesOf.f k code) g := by
    unfold spec_DrawPlacesOf.f
    exact Tot.bind h2 (Tot.pure _)
  have hs := plR_short g
  refine Tot.step (fun k => laws_FnStretches.j7.eq_2 ..) (Tot.bind h1 (Tot.bind (implPc_v e b (by omega) (fun y hy => by have := e2 y hy; omega)) (Tot.bind (specPc_v e b (by omega)) (Tot.bind h3 (Tot.bind (implPlR_v g (by omega) (fun y hy => by have := g2 y hy; omega)) (Tot.bind (specPlR_v g (by omega)) ?_))))))
  exact Tot.yes (by simp) (Tot.yes rfl (Tot.yes (by simp) (Tot.bind (same_v _ (by omega)) (Tot.pure _))))
theorem rng_get : ∀ (d : Nat) (p : Int) (k : Nat), k < d → (rng d p)[k]? = some (p + k)
  | 0, p, k, h => by omega
  | d + 1, p, 0, h => by simp [rng]
  | d + 1, p, k + 1, h => by
    show (p :: rng d (p + 1))[k + 1]? = _
    rw [List.getElem?_cons_succ, rng_get d (p + 1) k (by omega)]
    congr 1
    omega
theorem splice_rd (P : List Int) (a l : Nat) (p : Int) (h : a + l ≤ P.length) (i : Nat) : rd (splice P a (rng l p)) (i : Int) = if a ≤ i ∧ i < a + l then p + i - a else rd P (i : Int) := by
  unfold rd splice
  rw [Int.toNat_natCast, List.getD_eq_getElem?_getD, List.getD_eq_getElem?_getD]
  have ht : (P.take a).length = a := by rw [List.length_take]; omega
  by_cases c1 : i < a
  · rw [List.getElem?_append_left (by omega), if_neg (by omega), List.getElem?_take_of_lt c1]
  · rw [List.getElem?_append_right (by omega), ht]
    by_cases c2 : i < a + l
    · rw [if_pos (by omega), List.getElem?_append_left (by rw [rng_length]; omega), rng_get l p (i - a) (by omega)]
      show p + ((i - a : Nat) : Int) = _
      omega
    · rw [if_neg (by omega), List.getElem?_append_right (by rw [rng_length]; omega), rng_length, List.getElem?_drop]
      congr 2
      omega
theorem plIn_step {out : List Int} {x : S47} (h : out.length = 16 ∧ ∀ y ∈ out, -1 ≤ y ∧ y ≤ 10000) (hx : goodS x = true) : (splice out x.f0.toNat (rng x.f1.toNat x.f2)).length = 16 ∧ ∀ y ∈ splice out x.f0.toNat (rng x.f1.toNat x.f2), -1 ≤ y ∧ y ≤ 10000 := by
  have hg := (goodS_iff x).1 hx
  refine ⟨by rw [splice_len _ _ _ (by rw [rng_length]; omega)]; exact h.1, fun y hy => ?_⟩
  rcases splice_mem hy with hy | hy
  · exact h.2 y hy
  · have := rng_mem _ _ _ hy; omega
theorem plIn_all : ∀ (l : List S47) (out : List Int), (out.length = 16 ∧ ∀ y ∈ out, -1 ≤ y ∧ y ≤ 10000) → (∀ x ∈ l, goodS x = true) → (plL out l).length = 16 ∧ ∀ y ∈ plL out l, -1 ≤ y ∧ y ≤ 10000
  | [], out, h, _ => h
  | x :: l, out, h, hg => plIn_all l _ (plIn_step h (hg x (by simp))) (fun y hy => hg y (by simp [hy]))
theorem l1_v (code : List Int) (hb : ∀ x ∈ code, 0 ≤ x ∧ x ≤ 255) (P : List Int) (x : S47) (hP : P.length = 16) (hx : goodS x = true) : ∀ (d i : Nat), i + d = 16 → Tot (fun k => laws_FnStretches.l1 k code P (splice P x.f0.toNat (rng x.f1.toNat x.f2)) ((splice P x.f0.toNat (rng x.f1.toNat x.f2)).length : Int) i x.f0 x.f1 x.f2) true
  | 0, i, h => by
    have hg := (goodS_iff x).1 hx
    have hq : (splice P x.f0.toNat (rng x.f1.toNat x.f2)).length = 16 := by rw [splice_len _ _ _ (by rw [rng_length]; omega)]; exact hP
    exact Tot.step (fun k => laws_FnStretches.l1.eq_2 ..) (Tot.no (by omega) (j7_v code hb))
  | d + 1, i, h => by
    have hg := (goodS_iff x).1 hx
    have hq : (splice P x.f0.toNat (rng x.f1.toNat x.f2)).length = 16 := by rw [splice_len _ _ _ (by rw [rng_length]; omega)]; exact hP
    have hr := splice_rd P x.f0.toNat x.f1.toNat x.f2 (by omega) i
    have ih := l1_v code hb P x hP hx d (i + 1) (by omega)
    have w1 : wrap64 ((i : Int) + 1) = ((i + 1 : Nat) : Int) := by rw [wrap_in (by omega) (by omega)]; omega
    refine Tot.step (fun k => laws_FnStretches.l1.eq_2 ..) (Tot.yes (by omega) ?_)
    rw [w1, wrap_in (x := x.f0 + x.f1) (by omega) (by omega), wrap_in (x := x.f2 + (i : Int)) (by omega) (by omega), wrap_in (x := x.f2 + (i : Int) - x.f0) (by omega) (by omega)]
    by_cases c1 : (i : Int) ≥ x.f0
    · by_cases c2 : (i : Int) < x.f0 + x.f1
      · rw [if_pos (by omega)] at hr
        exact Tot.yes c1 (Tot.yes c2 (Tot.yes (by omega) (Tot.yes (by omega) (Tot.yes (by omega) (Tot.yes c2 ih)))))
      · rw [if_neg (by omega)] at hr
        exact Tot.yes c1 (Tot.no c2 (Tot.no c2 (Tot.yes (by omega) (Tot.yes (by omega) (Tot.yes (by omega) (Tot.yes hr ih))))))
    · rw [if_neg (by omega)] at hr
      exact Tot.no c1 (Tot.yes (by omega) (Tot.yes (by omega) (Tot.yes (by omega) (Tot.yes hr ih))))
theorem j4_v (code : List Int) (hb : ∀ x ∈ code, 0 ≤ x ∧ x ≤ 255) (d : List S47) (x : S47) (hd : (d.length : Int) ≤ 16) (hd2 : ∀ y ∈ d, 0 ≤ y.f1 ∧ y.f1 ≤ 16) : Tot (fun k => laws_FnStretches.j4 k code d (putR d x).1 (putR d x).2 false x.f0 x.f1 x.f2) true := by
  refine Tot.step (fun k => laws_FnStretches.j4.eq_2 ..) (Tot.no (by decide) ?_)
  unfold putR
  by_cases c : goodFrom none d = true ∧ goodS x = true
  · rw [if_pos c]
    have hgd := goodFrom_mem d _ c.1
    have hP := plIn_all d (List.replicate 16 (-1)) ⟨by simp, fun y hy => by rw [List.eq_of_mem_replicate hy]; omega⟩ hgd
    have p1 : Tot (fun k => impl_PlacesOf.f k d) (plL (List.replicate 16 (-1)) d, true) := by
      have := implPlR_v d (by omega) (fun y hy => by have := hd2 y hy; omega)
      unfold plR at this
      rw [if_pos c.1] at this
      exact this
    generalize plL (List.replicate 16 (-1)) d = P at *
    have hq := plIn_step hP c.2
    obtain ⟨m1, m2⟩ := map_places (splice P x.f0.toNat (rng x.f1.toNat x.f2)) hq.1 hq.2
    have hsh := mapInv_all (splice P x.f0.toNat (rng x.f1.toNat x.f2)) 0 [] ⟨by simp, fun y hy => by simp at hy⟩ (by omega) (by rw [hq.1]; omega) (fun p hp => by have := hq.2 p hp; omega)
    rw [hq.1] at hsh
    have hb1 : ∀ y ∈ mapAll (splice P x.f0.toNat (rng x.f1.toNat x.f2)) 0 [], -9223372036854775808 ≤ y.f1 ∧ y.f1 ≤ 9223372036854775807 := fun y hy => by
      have := hsh.2 y hy
      omega
    have hl1 := hsh.1
    have p2 : Tot (fun k => impl_PlacesOf.f k (mapAll (splice P x.f0.toNat (rng x.f1.toNat x.f2)) 0 [])) (splice P x.f0.toNat (rng x.f1.toNat x.f2), true) := by
      have := implPlR_v (mapAll (splice P x.f0.toNat (rng x.f1.toNat x.f2)) 0 []) (by omega) hb1
      unfold plR at this
      rw [if_pos m1, m2] at this
      exact this
    have p3 : Tot (fun k => impl_GoodMap.f k (mapAll (splice P x.f0.toNat (rng x.f1.toNat x.f2)) 0 [])) true := by
      have := implMap_v (mapAll (splice P x.f0.toNat (rng x.f1.toNat x.f2)) 0 []) (by omega) hb1
      rw [m1] at this
      exact this
    exact Tot.yes rfl (Tot.bind p1 (Tot.bind p2 (Tot.bind p3 (Tot.yes rfl (Tot.yes rfl (Tot.step (fun k => laws_FnStretches.j5.eq_2 ..) (Tot.no (by simp) (l1_v code hb P x hP.1 c.2 16 0 (by omega)))))))))
  · rw [if_neg c]
    exact Tot.no (by decide) (j7_v code hb)
theorem j3_v (code : List Int) (hb : ∀ x ∈ code, 0 ≤ x ∧ x ≤ 255) : Tot (fun k => laws_FnStretches.j3 k code) true := by
  obtain ⟨d, x, h, hd, hd2, hx0, hx1⟩ := drawPut_v code hb
  have hb1 : ∀ y ∈ d, -9223372036854775808 ≤ y.f1 ∧ y.f1 ≤ 9223372036854775807 := fun y hy => by have := hd2 y hy; omega
  have hsh := putR_short d x
  refine Tot.step (fun k => laws_FnStretches.j3.eq_2 ..) (Tot.bind h (Tot.bind (implPutR_v d x (by omega) hb1 (by omega)) (Tot.bind (specPutR_v d x (by omega)) (Tot.no (by simp) (Tot.bind (sameM_v _ (by omega)) (Tot.yes rfl (Tot.bind (implMap_v d (by omega) hb1) (Tot.bind (specMap_v d (by omega)) ?_))))))))
  have e : (goodFrom none d != goodFrom none d) = false := by simp
  rw [e]
  exact j4_v code hb d x hd hd2
theorem l0_v (code : List Int) (hb : ∀ x ∈ code, 0 ≤ x ∧ x ≤ 255) (l : List Int) (m : List S47) (hl : l.length = 16) (hm : (m.length : Int) ≤ 16) (hm2 : ∀ y ∈ m, -9223372036854775808 ≤ y.f1 ∧ y.f1 ≤ 9223372036854775807) (h1 : goodFrom none m = true) (h2 : plL (List.replicate 16 (-1)) m = l) : ∀ (d i : Nat), i + d = 16 → Tot (fun k => laws_FnStretches.l0 k code m l (l.length : Int) i) true
  | 0, i, h => Tot.step (fun k => laws_FnStretches.l0.eq_2 ..) (Tot.no (by omega) (j3_v code hb))
  | d + 1, i, h => by
    have ih := l0_v code hb l m hl hm hm2 h1 h2 d (i + 1) (by omega)
    have w1 : wrap64 ((i : Int) + 1) = ((i + 1 : Nat) : Int) := by rw [wrap_in (by omega) (by omega)]; omega
    have hp := implPc_v m (i : Int) (by omega) hm2
    unfold placeR at hp
    rw [if_pos ⟨h1, by omega⟩, h2] at hp
    refine Tot.step (fun k => laws_FnStretches.l0.eq_2 ..) (Tot.yes (by omega) (Tot.yes (by omega) (Tot.yes (by omega) (Tot.bind hp ?_))))
    rw [w1]
    by_cases c : rd l (i : Int) < 0
    · rw [if_pos c, decide_eq_false (by omega : ¬ rd l (i : Int) ≥ 0)]
      exact Tot.no (by decide) (Tot.no (by decide) ih)
    · rw [if_neg c, decide_eq_true (by omega : rd l (i : Int) ≥ 0)]
      exact Tot.no (by simp) (Tot.yes rfl (Tot.yes rfl ih))
theorem j0_v (code : List Int) (hb : ∀ x ∈ code, 0 ≤ x ∧ x ≤ 255) (l : List Int) : Tot (fun k => laws_FnStretches.j0 k code l (mapR l).1 (mapR l).2 false) true := by
  refine Tot.step (fun k => laws_FnStretches.j0.eq_2 ..) (Tot.no (by decide) ?_)
  unfold mapR
  by_cases c : (l.length : Int) = 16 ∧ l.all placeB = true
  · rw [if_pos c]
    have hl : l.length = 16 := by omega
    have hp : ∀ p ∈ l, -1 ≤ p ∧ p ≤ 10000 := fun p hp => of_decide_eq_true (List.all_eq_true.1 c.2 p hp)
    obtain ⟨m1, m2⟩ := map_places l hl hp
    have hsh := mapInv_all l 0 [] ⟨by simp, fun y hy => by simp at hy⟩ (by omega) (by rw [hl]; omega) (fun p h => by have := hp p h; omega)
    rw [hl] at hsh
    have hb1 : ∀ y ∈ mapAll l 0 [], -9223372036854775808 ≤ y.f1 ∧ y.f1 ≤ 9223372036854775807 := fun y hy => by
      have := hsh.2 y hy
      omega
    have hl1 := hsh.1
    have p2 : Tot (fun k => impl_PlacesOf.f k (mapAll l 0 [])) (l, true) := by
      have := implPlR_v (mapAll l 0 []) (by omega) hb1
      unfold plR at this
      rw [if_pos m1, m2] at this
      exact this
    have p3 : Tot (fun k => impl_GoodMap.f k (mapAll l 0 [])) true := by
      have := implMap_v (mapAll l 0 []) (by omega) hb1
      rw [m1] at this
      exact this
    refine Tot.yes rfl (Tot.bind p2 (Tot.bind p3 (Tot.yes rfl (Tot.yes rfl (Tot.bind (same_v l (by omega)) (Tot.yes rfl ?_))))))
    rw [decide_eq_false (by omega : ¬ ((mapAll l 0 []).length : Int) > 16)]
    exact Tot.step (fun k => laws_FnStretches.j1.eq_2 ..) (Tot.no (by decide) (l0_v code hb l _ hl (by omega) hb1 m1 m2 16 0 (by omega)))
  · rw [if_neg c]
    exact Tot.no (by decide) (j3_v code hb)
theorem FnStretches : laws_FnStretches.Pure := by
  intro l0 l1 _ _ h0 _ _ h1
  have b0 := bytes_in h0
  have b1 := bytes_in h1
  refine Tot.at_ ?_
  unfold laws_FnStretches.f
  by_cases c : wrap64 ((l0.length : Int) + (l1.length : Int)) > 1048576
  · exact Tot.yes c (Tot.pure _)
  · obtain ⟨l, h, hl⟩ := drawMap_v l0 b0
    have hs := mapR_short l
    exact Tot.no c (Tot.bind h (Tot.bind (implR_v l) (Tot.bind (specR_v l (by omega)) (Tot.no (by simp) (Tot.bind (sameM_v _ (by omega)) (j0_v l1 b1 l))))))


end Go.Proofs.Ytcoceoplnehmcaa.Pure

/- The plain law behind FnExactShiftMap: what the two sides compute is the same, for every input. No condition. -/
import Derived.Test.YtcoceoplnehmcaaPFnExactShiftMapx6
set_option linter.unusedVariables false
set_option linter.unusedSimpArgs false
namespace Go.Proofs.Ytcoceoplnehmcaa.Pure
open Go.RowKit Go.Proofs.Ytcoceoplnehmcaa.PFnExactShiftMap Go.Proofs.YtcoceoplnehmcaaW.PrintWords Go.Proofs.YtcoceoplnehmcaaW.PrintLast Go.Proofs.YtcoceoplnehmcaaW.PrintMore

theorem wrap_in {x : Int} (h0 : -9223372036854775808 ≤ x) (h1 : x ≤ 9223372036854775807) : wrap64 x = x := by unfold wrap64; omega
theorem wf_in {x : Int} (h : (Lit.int .i64 x).wf = true) : -9223372036854775808 ≤ x ∧ x ≤ 9223372036854775807 := by
  simp only [Lit.wf, IntKind.min, IntKind.max, IntKind.bits, IntKind.signed, Bool.and_eq_true, decide_eq_true_eq] at h
  exact ⟨by have := h.1; simpa using this, by have := h.2; simpa using this⟩
theorem toList_nil (s : ByteArray) : (s.toList == ([] : List UInt8)) = decide (s.size = 0) := by
  rw [Bool.eq_iff_iff]
  simp only [beq_iff_eq, decide_eq_true_eq, ByteArray.toList_eq]
  constructor
  · intro h
    have h2 : s.data.toList.length = 0 := by rw [h]; rfl
    rw [Array.length_toList] at h2
    exact h2
  · intro h
    have h2 : s.data.toList.length = 0 := by rw [Array.length_toList]; exact h
    exact List.eq_nil_of_length_eq_zero h2

/-- From some number of rounds on the answer is r. -/
def Tot {α : Type} (g : Nat → Option α) (r : α) : Prop := ∃ K, ∀ k, K ≤ k → g k = some r
theorem Tot.at_ {α : Type} {g : Nat → Option α} {r : α} (h : Tot g r) : ∃ k, g k = some r := by
  obtain ⟨K, hK⟩ := h
  exact ⟨K, hK K (Nat.le_refl _)⟩
theorem Tot.pure {α : Type} (r : α) : Tot (fun _ => some r) r := ⟨0, fun _ _ => rfl⟩
theorem Tot.of_eq {α : Type} {g : Nat → Option α} {r : α} (h : ∀ k, g k = some r) : Tot g r := ⟨0, fun k _ => h k⟩
theorem Tot.congr {α : Type} {g g' : Nat → Option α} {r : α} (he : ∀ k, g k = g' k) (h : Tot g' r) : Tot g r := by
  obtain ⟨K, hK⟩ := h
  exact ⟨K, fun k hk => (he k).trans (hK k hk)⟩
theorem Tot.bind {α β : Type} {g : Nat → Option α} {h : Nat → α → Option β} {a : α} {r : β} (hg : Tot g a) (hh : Tot (fun k => h k a) r) : Tot (fun k => (g k).bind (h k)) r := by
  obtain ⟨K, hK⟩ := hg
  obtain ⟨L, hL⟩ := hh
  refine ⟨max K L, fun k hk => ?_⟩
  show (g k).bind (h k) = some r
  rw [hK k (by omega)]
  exact hL k (by omega)
theorem Tot.step {α : Type} {F G : Nat → Option α} {r : α} (hF : ∀ k, F (k + 1) = G k) (h : Tot G r) : Tot F r := by
  obtain ⟨K, hK⟩ := h
  refine ⟨K + 1, fun k hk => ?_⟩
  obtain ⟨m, rfl⟩ : ∃ m, k = m + 1 := ⟨k - 1, by omega⟩
  rw [hF]
  exact hK m (by omega)
theorem Tot.yes {α : Type} {p : Prop} [Decidable p] {g h : Nat → Option α} {r : α} (hp : p) (hg : Tot g r) : Tot (fun k => if p then g k else h k) r := by
  simpa only [if_pos hp] using hg
theorem Tot.no {α : Type} {p : Prop} [Decidable p] {g h : Nat → Option α} {r : α} (hp : ¬ p) (hg : Tot h r) : Tot (fun k => if p then g k else h k) r := by
  simpa only [if_neg hp] using hg
theorem Tot.some_bind {α β : Type} {h : Nat → α → Option β} {a : α} {r : β} (hh : Tot (fun k => h k a) r) : Tot (fun k => (some a).bind (h k)) r := hh

theorem in_v (a b c : Int) : spec_l1In.f a b c = some (decide (b ≤ a ∧ a ≤ c)) := by
  unfold spec_l1In.f
  by_cases h : a ≥ b
  · rw [if_pos h]; congr 1; rw [decide_eq_decide]; omega
  · rw [if_neg h]; congr 1; symm; rw [decide_eq_false_iff_not]; omega

/-- a, a + 1, .. : d of them. -/
def rng : Nat → Int → List Int
  | 0, _ => []
  | d + 1, a => a :: rng d (a + 1)
theorem rng_length : ∀ (d : Nat) (a : Int), (rng d a).length = d
  | 0, _ => rfl
  | d + 1, a => by simp [rng, rng_length d]
theorem run_l (a l : Int) (ha : -1000000 ≤ a ∧ a ≤ 1000000) (hl : l ≤ 1000000) : ∀ (d : Nat) (out : List Int) (i : Int), 0 ≤ i → i + d = l → out.length = i.toNat → Tot (fun k => impl_run.l0 k a out l i) (out ++ rng d (a + i))
  | 0, out, i, h0, h, ho => by
    refine Tot.step (fun k => impl_run.l0.eq_2 ..) ?_
    simp only [rng, List.append_nil]
    exact Tot.no (by omega) (Tot.pure _)
  | d + 1, out, i, h0, h, ho => by
    refine Tot.step (fun k => impl_run.l0.eq_2 ..) ?_
    refine Tot.yes (by omega) (Tot.yes (by omega) ?_)
    rw [wrap_in (x := a + i) (by omega) (by omega), wrap_in (x := i + 1) (by omega) (by omega)]
    have := run_l a l ha hl d (out ++ [a + i]) (i + 1) (by omega) (by omega) (by simp; omega)
    have e : out ++ rng (d + 1) (a + i) = (out ++ [a + i]) ++ rng d (a + (i + 1)) := by simp [rng, Int.add_assoc]
    rw [e]
    exact this
theorem run_v (a l : Int) (ha : -1000000 ≤ a ∧ a ≤ 1000000) (hl : l ≤ 1000000) (h0 : 0 ≤ l) : Tot (fun k => impl_run.f k a l) (rng l.toNat a) := by
  have := run_l a l ha hl l.toNat [] 0 (by omega) (by omega) rfl
  simpa [impl_run.f] using this

theorem within_v (a b c : Int) : impl_within.f a b c = some (decide (b ≤ a ∧ a ≤ c)) := by
  unfold impl_within.f
  by_cases h : b ≤ a
  · rw [if_pos h]; congr 1; rw [decide_eq_decide]; omega
  · rw [if_neg h]; congr 1; symm; rw [decide_eq_false_iff_not]; omega

theorem set_app {α : Type} (a b : List α) (x y : α) : (a ++ x :: b).set ((a.length : Int)).toNat y = a ++ y :: b := by simp

theorem rdIStretch_at (a b : List S47) (x : S47) : rd_T47 (a ++ x :: b) (a.length : Int) = x := by simp [rd_T47, List.getD]
theorem rdLStretch_at (a b : List S45) (x : S45) : rd_T45 (a ++ x :: b) (a.length : Int) = x := by simp [rd_T45, List.getD]
def cvStretch (x : S45) : S47 := ⟨x.f0, x.f1, x.f2⟩
theorem toStretch_v (x : S45) (hs : True) : Tot (fun (_ : Nat) => laws_toStretch.f x.f0 x.f1 x.f2) (x.f0, x.f1, x.f2) := Tot.of_eq fun _ => by simp [laws_toStretch.f]
theorem toStretchS_l : ∀ (b a : List S45), ((a ++ b).length : Int) ≤ 9223372036854775806 → (∀ y ∈ b, True) → Tot (fun k => laws_toStretchS.l0 k (a ++ b) (a.map cvStretch ++ List.replicate b.length z47) a.length) ((a ++ b).map cvStretch)
  | [], a, h, hs => by
    refine Tot.step (fun k => laws_toStretchS.l0.eq_2 ..) ?_
    simp only [List.append_nil, List.length_nil, List.replicate_zero]
    exact Tot.no (by omega) (Tot.pure _)
  | x :: b, a, h, hs => by
    refine Tot.step (fun k => laws_toStretchS.l0.eq_2 ..) ?_
    have hl : ((a ++ x :: b).length : Int) = a.length + b.length + 1 := by simp; omega
    have hl2 : ((a.map cvStretch ++ List.replicate (x :: b).length z47).length : Int) = a.length + b.length + 1 := by simp; omega
    refine Tot.yes (by omega) (Tot.yes (by omega) ?_)
    rw [rdLStretch_at, wrap_in (x := (a.length : Int) + 1) (by omega) (by omega)]
    refine Tot.bind (toStretch_v x (hs x (by simp))) (Tot.yes (by omega) ?_)
    have e : (a.map cvStretch ++ List.replicate (x :: b).length z47).set ((a.length : Int)).toNat (cvStretch x) = (a ++ [x]).map cvStretch ++ List.replicate b.length z47 := by
      rw [List.length_cons, List.replicate_succ, List.set_append_right _ _ (by simp)]
      simp
    have e2 : (⟨x.f0, x.f1, x.f2⟩ : S47) = cvStretch x := rfl
    dsimp only
    rw [e2, e]
    have := toStretchS_l b (a ++ [x]) (by simp at hl h ⊢; omega) (fun y hy => hs y (by simp [hy]))
    simpa using this
theorem toStretchS_v (l : List S45) (h : (l.length : Int) ≤ 1048576) (hs : ∀ y ∈ l, True) : Tot (fun k => laws_toStretchS.f k l) (l.map cvStretch) := by
  unfold laws_toStretchS.f
  refine Tot.yes (by omega) (Tot.yes (by omega) ?_)
  have := toStretchS_l l [] (by simp; omega) hs
  simpa using this
theorem eqStretch_v (x : S47) (hs : True) : Tot (fun (_ : Nat) => laws_eqStretch.f x.f0 x.f1 x.f2 x.f0 x.f1 x.f2) true := Tot.of_eq fun _ => by simp [laws_eqStretch.f]
theorem eqStretchS_l : ∀ (b a : List S47), ((a ++ b).length : Int) ≤ 9223372036854775806 → (∀ y ∈ b, True) → Tot (fun k => laws_eqStretchS.l0 k (a ++ b) (a ++ b) a.length) true
  | [], a, h, hs => by
    refine Tot.step (fun k => laws_eqStretchS.l0.eq_2 ..) ?_
    simp only [List.append_nil]
    exact Tot.no (by omega) (Tot.pure _)
  | x :: b, a, h, hs => by
    refine Tot.step (fun k => laws_eqStretchS.l0.eq_2 ..) ?_
    have hl : ((a ++ x :: b).length : Int) = a.length + b.length + 1 := by simp; omega
    refine Tot.yes (by omega) (Tot.yes (by omega) (Tot.yes (by omega) ?_))
    rw [rdIStretch_at, wrap_in (x := (a.length : Int) + 1) (by omega) (by omega)]
    refine Tot.bind (eqStretch_v x (hs x (by simp))) (Tot.yes rfl ?_)
    have := eqStretchS_l b (a ++ [x]) (by simp at hl h ⊢; omega) (fun y hy => hs y (by simp [hy]))
    simpa using this
theorem eqStretchS_v (l : List S47) (h : (l.length : Int) ≤ 9223372036854775806) (hs : ∀ y ∈ l, True) : Tot (fun k => laws_eqStretchS.f k l l) true := by
  unfold laws_eqStretchS.f
  refine Tot.yes rfl ?_
  have := eqStretchS_l l [] (by simpa using h) hs
  simpa using this
theorem szStretchS_v (l : List S45) (m : Int) (h0 : 0 ≤ m) (h1 : m ≤ 1048576) (hl : (l.length : Int) ≤ 9223372036850000000) : ∃ v, laws_szStretchS.f l m = some v ∧ v ≤ 1048576 ∧ (0 ≤ v → (l.length : Int) ≤ 1048576) := by
  unfold laws_szStretchS.f
  rw [wrap_in (by omega) (by omega)]
  by_cases h : m - (l.length : Int) < 0
  · exact ⟨-1, by rw [if_pos h], by omega, fun h => by omega⟩
  · exact ⟨_, by rw [if_neg h], by omega, fun _ => by omega⟩
noncomputable def mkStretch : List S47 → Int → List S47
  | [], _ => []
  | _ :: l, m => ⟨m, (m + 1), (m + 2)⟩ :: mkStretch l (m + 3)
theorem mkStretch_length : ∀ (l : List S47) (m : Int), (mkStretch l m).length = l.length
  | [], _ => rfl
  | _ :: l, m => by simp [mkStretch, mkStretch_length l]
theorem markStretchS_l : ∀ (b a : List S47) (m : Int), 0 ≤ m → m + 3 * b.length ≤ 1125899906842624 → ((a ++ b).length : Int) ≤ 9223372036854775806 → Tot (fun k => laws_markStretchS.l0 k (a ++ b) m a.length) (m + 3 * b.length, a ++ mkStretch b m)
  | [], a, m, h0, h1, h => by
    refine Tot.step (fun k => laws_markStretchS.l0.eq_2 ..) ?_
    simp only [List.append_nil, mkStretch, List.length_nil, Int.natCast_zero, Int.mul_zero, Int.add_zero]
    exact Tot.no (by omega) (Tot.pure _)
  | x :: b, a, m, h0, h1, h => by
    have hl : ((a ++ x :: b).length : Int) = a.length + b.length + 1 := by simp; omega
    simp only [List.length_cons] at h1
    have hw1 : wrap64 (m + 1 + 1) = m + 2 := (wrap_in (by omega) (by omega)).trans (by omega); have hw2 : wrap64 (m + 2 + 1) = m + 3 := (wrap_in (by omega) (by omega)).trans (by omega)
    refine Tot.step (fun k => laws_markStretchS.l0.eq_2 ..) (Tot.yes (by omega) ?_)
    rw [wrap_in (x := (a.length : Int) + 1) (by omega) (by omega)]
    simp only [wrap_in (x := m + 1) (by omega) (by omega), hw1, hw2, rdIStretch_at, set_app]
    refine Tot.yes (by omega) ?_
    refine Tot.some_bind ?_
    try simp only [rdIStretch_at, set_app]
    refine Tot.some_bind ?_
    try simp only [rdIStretch_at, set_app]
    try simp only [rdIStretch_at, set_app]
    have := markStretchS_l b (a ++ [⟨m, (m + 1), (m + 2)⟩]) (m + 3) (by omega) (by omega) (by simp at hl h ⊢; omega)
    have e : m + 3 * ((x :: b).length : Int) = m + 3 + 3 * b.length := by simp; omega
    rw [e]
    simpa [mkStretch] using this
theorem markStretchS_v (l : List S47) (m : Int) (h0 : 0 ≤ m) (h1 : m + 3 * l.length ≤ 1125899906842624) : Tot (fun k => laws_markStretchS.f k l m) (m + 3 * l.length, mkStretch l m) := by
  have := markStretchS_l l [] m h0 h1 (by simp; omega)
  unfold laws_markStretchS.f
  simpa using this
theorem heldStretchS_l : ∀ (b a : List S47) (m : Int), 0 ≤ m → m + 3 * b.length ≤ 1125899906842624 → ((a ++ b).length : Int) ≤ 9223372036854775806 → Tot (fun k => laws_heldStretchS.l0 k (a ++ mkStretch b m) m a.length) (m + 3 * b.length)
  | [], a, m, h0, h1, h => by
    refine Tot.step (fun k => laws_heldStretchS.l0.eq_2 ..) ?_
    simp only [List.append_nil, mkStretch, List.length_nil, Int.natCast_zero, Int.mul_zero, Int.add_zero]
    exact Tot.no (by omega) (Tot.pure _)
  | x :: b, a, m, h0, h1, h => by
    have hl : ((a ++ x :: b).length : Int) = a.length + b.length + 1 := by simp; omega
    have hl2 : ((a ++ mkStretch (x :: b) m).length : Int) = a.length + b.length + 1 := by simp [mkStretch, mkStretch_length]; omega
    simp only [List.length_cons] at h1
    have hw1 : wrap64 (m + 1 + 1) = m + 2 := (wrap_in (by omega) (by omega)).trans (by omega); have hw2 : wrap64 (m + 2 + 1) = m + 3 := (wrap_in (by omega) (by omega)).trans (by omega)
    refine Tot.step (fun k => laws_heldStretchS.l0.eq_2 ..) (Tot.yes (by omega) (Tot.yes (by omega) ?_))
    rw [wrap_in (x := (a.length : Int) + 1) (by omega) (by omega)]
    simp only [mkStretch, wrap_in (x := m + 1) (by omega) (by omega), hw1, hw2, rdIStretch_at]
    refine Tot.yes (by first | rfl | trivial) ?_
    refine Tot.yes (by first | rfl | trivial) ?_
    refine Tot.yes (by first | rfl | trivial) ?_
    have := heldStretchS_l b (a ++ [⟨m, (m + 1), (m + 2)⟩]) (m + 3) (by omega) (by omega) (by simp at hl h ⊢; omega)
    have e : m + 3 * ((x :: b).length : Int) = m + 3 + 3 * b.length := by simp; omega
    rw [e]
    simpa [mkStretch] using this
theorem heldStretchS_v (l : List S47) (m : Int) (h0 : 0 ≤ m) (h1 : m + 3 * l.length ≤ 1125899906842624) : Tot (fun k => laws_heldStretchS.f k (mkStretch l m) m) (m + 3 * l.length) := by
  have := heldStretchS_l l [] m h0 h1 (by simp; omega)
  unfold laws_heldStretchS.f
  simpa using this
/-- A stretch that is good. -/
def goodS (x : S47) : Bool := decide (1 ≤ x.f1 ∧ x.f1 ≤ 16 ∧ 0 ≤ x.f0 ∧ x.f0 ≤ 16 - x.f1 ∧ 0 ≤ x.f2 ∧ x.f2 ≤ 10001 - x.f1)
theorem goodS_iff (x : S47) : goodS x = true ↔ (1 ≤ x.f1 ∧ x.f1 ≤ 16 ∧ 0 ≤ x.f0 ∧ x.f0 ≤ 16 - x.f1 ∧ 0 ≤ x.f2 ∧ x.f2 ≤ 10001 - x.f1) := by simp [goodS]
def pairS (y x : S47) : Bool := decide (¬ x.f0 < y.f0 + y.f1 ∧ ¬ (x.f0 = y.f0 + y.f1 ∧ x.f2 = y.f2 + y.f1))
def goodFrom : Option S47 → List S47 → Bool
  | _, [] => true
  | none, x :: r => goodS x && goodFrom (some x) r
  | some y, x :: r => goodS x && pairS y x && goodFrom (some x) r
theorem specS_v (x : S47) : spec_l4Stretch.f x.f0 x.f1 x.f2 = some (goodS x) := by
  unfold spec_l4Stretch.f
  simp only [in_v, Option.bind_some]
  by_cases h : 1 ≤ x.f1 ∧ x.f1 ≤ 16
  · rw [if_pos (decide_eq_true h), wrap_in (by omega) (by omega), wrap_in (by omega) (by omega)]
    by_cases h2 : 0 ≤ x.f0 ∧ x.f0 ≤ 16 - x.f1
    · rw [if_pos (decide_eq_true h2)]; congr 1; unfold goodS; rw [decide_eq_decide]; omega
    · rw [if_neg (by simp [h2])]; congr 1; symm; unfold goodS; rw [decide_eq_false_iff_not]; omega
  · rw [if_neg (by simp [h])]; congr 1; symm; unfold goodS; rw [decide_eq_false_iff_not]; omega
theorem implS_v (x : S47) (h1 : -9223372036854775808 ≤ x.f1 ∧ x.f1 ≤ 9223372036854775807) : impl_Stretch_isGood.f x.f0 x.f1 x.f2 = some (goodS x) := by
  unfold impl_Stretch_isGood.f impl_isRun.f
  by_cases h : x.f0 ≥ 0
  · rw [if_pos h]
    by_cases h2 : x.f1 ≥ 1
    · rw [if_pos h2, wrap_in (by omega) (by omega), Option.bind_some]
      by_cases h3 : x.f0 ≤ 16 - x.f1
      · rw [if_pos (decide_eq_true h3)]
        by_cases h4 : x.f2 ≥ 0
        · rw [if_pos h4, wrap_in (x := 10000 - x.f1) (by omega) (by omega), wrap_in (by omega) (by omega)]; congr 1; unfold goodS; rw [decide_eq_decide]; omega
        · rw [if_neg h4]; congr 1; symm; unfold goodS; rw [decide_eq_false_iff_not]; omega
      · rw [if_neg (by simp [h3])]; congr 1; symm; unfold goodS; rw [decide_eq_false_iff_not]; omega
    · rw [if_neg h2, Option.bind_some, if_neg (by simp)]; congr 1; symm; unfold goodS; rw [decide_eq_false_iff_not]; omega
  · rw [if_neg h, Option.bind_some, if_neg (by simp)]; congr 1; symm; unfold goodS; rw [decide_eq_false_iff_not]; omega
theorem rd_prev (a b : List S47) (y : S47) : rd_T47 ((a ++ [y]) ++ b) (a.length : Int) = y := by simp [rd_T47, List.getD]
theorem specMap_l : ∀ (b a : List S47), ((a ++ b).length : Int) ≤ 9223372036850000000 → (∀ y ∈ a, goodS y = true) → Tot (fun k => spec_GoodMap.l0 k (a ++ b) (a ++ b) ((a ++ b).length : Int) a.length) (goodFrom a.getLast? b)
  | [], a, h, hg => by
    refine Tot.step (fun k => spec_GoodMap.l0.eq_2 ..) ?_
    have e : goodFrom a.getLast? [] = true := by cases a.getLast? <;> rfl
    rw [e]
    exact Tot.no (by simp) (Tot.pure _)
  | x :: b, a, h, hg => by
    have hl : ((a ++ x :: b).length : Int) = a.length + b.length + 1 := by simp; omega
    have next : goodS x = true → Tot (fun k => spec_GoodMap.l0 k (a ++ x :: b) (a ++ x :: b) ((a ++ x :: b).length : Int) (wrap64 ((a.length : Int) + 1))) (goodFrom (some x) b) := fun hx => by
      have := specMap_l b (a ++ [x]) (by simp at hl h ⊢; omega) (fun y hy => by rcases List.mem_append.1 hy with hy | hy; exact hg y hy; rw [List.mem_singleton.1 hy]; exact hx)
      rw [wrap_in (by omega) (by omega)]
      simpa using this
    refine Tot.step (fun k => spec_GoodMap.l0.eq_2 ..) (Tot.yes (by omega) (Tot.yes (by omega) (Tot.yes (by omega) ?_)))
    rw [rdIStretch_at]
    simp only [specS_v, Option.bind_some]
    by_cases hx : goodS x = true
    · refine Tot.yes hx ?_
      rcases List.eq_nil_or_concat a with rfl | ⟨a', y, rfl⟩
      · have e : goodFrom (List.getLast? []) (x :: b) = goodFrom (some x) b := by simp [goodFrom, hx]
        rw [e]
        exact Tot.no (by simp) (next hx)
      · rw [List.concat_eq_append] at *
        have hy : goodS y = true := hg y (by simp)
        have hyb := (goodS_iff y).1 hy
        have hxb := (goodS_iff x).1 hx
        have e : goodFrom (List.getLast? (a' ++ [y])) (x :: b) = (pairS y x && goodFrom (some x) b) := by simp [goodFrom, hx]
        rw [e]
        have hL : ((a' ++ [y]).length : Int) = a'.length + 1 := by simp
        have hw : wrap64 (((a' ++ [y]).length : Int) - 1) = (a'.length : Int) := (wrap_in (by omega) (by omega)).trans (by omega)
        refine Tot.yes (by omega) ?_
        rw [hw]
        refine Tot.yes (by omega) (Tot.yes (by omega) ?_)
        rw [rd_prev, wrap_in (x := y.f0 + y.f1) (by omega) (by omega), wrap_in (x := y.f2 + y.f1) (by omega) (by omega)]
        by_cases h1 : x.f0 < y.f0 + y.f1
        · have ep : pairS y x = false := by unfold pairS; rw [decide_eq_false_iff_not]; omega
          rw [ep]
          exact Tot.yes h1 (Tot.pure _)
        · refine Tot.no h1 ?_
          by_cases h2 : x.f0 = y.f0 + y.f1
          · refine Tot.yes h2 ?_
            by_cases h3 : x.f2 = y.f2 + y.f1
            · have ep : pairS y x = false := by unfold pairS; rw [decide_eq_false_iff_not]; omega
              rw [ep]
              exact Tot.yes h3 (Tot.pure _)
            · have ep : pairS y x = true := by unfold pairS; rw [decide_eq_true_eq]; omega
              rw [ep]
              exact Tot.no h3 (next hx)
          · have ep : pairS y x = true := by unfold pairS; rw [decide_eq_true_eq]; omega
            rw [ep]
            exact Tot.no h2 (next hx)
    · have e : goodFrom a.getLast? (x :: b) = false := by cases a.getLast? <;> simp [goodFrom, hx]
      rw [e]
      exact Tot.no hx (Tot.pure _)
theorem implMap_l : ∀ (b a : List S47), ((a ++ b).length : Int) ≤ 9223372036850000000 → (∀ y ∈ a, goodS y = true) → (∀ y ∈ b, -9223372036854775808 ≤ y.f1 ∧ y.f1 ≤ 9223372036854775807) → Tot (fun k => impl_GoodMap.l0 k (a ++ b) (a ++ b) ((a ++ b).length : Int) a.length) (goodFrom a.getLast? b && decide (((a ++ b).length : Int) ≤ 16))
  | [], a, h, hg, hb => by
    refine Tot.step (fun k => impl_GoodMap.l0.eq_2 ..) ?_
    have e : goodFrom a.getLast? [] = true := by cases a.getLast? <;> rfl
    rw [e, Bool.true_and]
    exact Tot.no (by simp) (Tot.pure _)
  | x :: b, a, h, hg, hb => by
    have hl : ((a ++ x :: b).length : Int) = a.length + b.length + 1 := by simp; omega
    have next : goodS x = true → Tot (fun k => impl_GoodMap.l0 k (a ++ x :: b) (a ++ x :: b) ((a ++ x :: b).length : Int) (wrap64 ((a.length : Int) + 1))) (goodFrom (some x) b && decide (((a ++ x :: b).length : Int) ≤ 16)) := fun hx => by
      have := implMap_l b (a ++ [x]) (by simp at hl h ⊢; omega) (fun y hy => by rcases List.mem_append.1 hy with hy | hy; exact hg y hy; rw [List.mem_singleton.1 hy]; exact hx) (fun y hy => hb y (by simp [hy]))
      rw [wrap_in (by omega) (by omega)]
      simpa using this
    refine Tot.step (fun k => impl_GoodMap.l0.eq_2 ..) (Tot.yes (by omega) (Tot.yes (by omega) (Tot.yes (by omega) ?_)))
    rw [rdIStretch_at]
    simp only [implS_v x (hb x (by simp)), Option.bind_some]
    by_cases hx : goodS x = true
    · refine Tot.yes hx ?_
      rcases List.eq_nil_or_concat a with rfl | ⟨a', y, rfl⟩
      · have e : goodFrom (List.getLast? []) (x :: b) = goodFrom (some x) b := by simp [goodFrom, hx]
        rw [e]
        exact Tot.yes (by simp) (next hx)
      · rw [List.concat_eq_append] at *
        have hy : goodS y = true := hg y (by simp)
        have hyb := (goodS_iff y).1 hy
        have hxb := (goodS_iff x).1 hx
        have e : goodFrom (List.getLast? (a' ++ [y])) (x :: b) = (pairS y x && goodFrom (some x) b) := by simp [goodFrom, hx]
        rw [e]
        have hL : ((a' ++ [y]).length : Int) = a'.length + 1 := by simp
        have hw : wrap64 (((a' ++ [y]).length : Int) - 1) = (a'.length : Int) := (wrap_in (by omega) (by omega)).trans (by omega)
        refine Tot.no (by omega) ?_
        rw [hw]
        refine Tot.yes (by omega) (Tot.yes (by omega) ?_)
        rw [rd_prev, wrap_in (x := y.f0 + y.f1) (by omega) (by omega), wrap_in (x := y.f2 + y.f1) (by omega) (by omega)]
        by_cases h1 : x.f0 < y.f0 + y.f1
        · have ep : pairS y x = false := by unfold pairS; rw [decide_eq_false_iff_not]; omega
          rw [ep]
          exact Tot.yes h1 (Tot.pure _)
        · refine Tot.no h1 ?_
          by_cases h2 : x.f0 = y.f0 + y.f1
          · refine Tot.yes h2 ?_
            by_cases h3 : x.f2 = y.f2 + y.f1
            · have ep : pairS y x = false := by unfold pairS; rw [decide_eq_false_iff_not]; omega
              rw [ep]
              exact Tot.yes h3 (Tot.pure _)
            · have ep : pairS y x = true := by unfold pairS; rw [decide_eq_true_eq]; omega
              rw [ep]
              exact Tot.no h3 (next hx)
          · have ep : pairS y x = true := by unfold pairS; rw [decide_eq_true_eq]; omega
            rw [ep]
            exact Tot.no h2 (next hx)
    · have e : goodFrom a.getLast? (x :: b) = false := by cases a.getLast? <;> simp [goodFrom, hx]
      rw [e]
      exact Tot.no hx (Tot.pure _)
theorem goodFrom_short : ∀ (b : List S47) (y : S47), goodS y = true → goodFrom (some y) b = true → y.f0 + y.f1 + b.length ≤ 16
  | [], y, hy, _ => by have := (goodS_iff y).1 hy; simp; omega
  | x :: b, y, hy, h => by
    simp only [goodFrom, Bool.and_eq_true] at h
    obtain ⟨⟨hx, hp⟩, hr⟩ := h
    have h1 := goodFrom_short b x hx hr
    have h2 := (goodS_iff x).1 hx
    unfold pairS at hp
    have h3 := of_decide_eq_true hp
    simp only [List.length_cons]
    omega
theorem goodMap_short (l : List S47) (h : goodFrom none l = true) : (l.length : Int) ≤ 16 := by
  cases l with
  | nil => simp
  | cons x b =>
    simp only [goodFrom, Bool.and_eq_true] at h
    have h1 := goodFrom_short b x h.1 h.2
    have h2 := (goodS_iff x).1 h.1
    simp only [List.length_cons]
    omega
theorem specMap_v (l : List S47) (h : (l.length : Int) ≤ 9223372036850000000) : Tot (fun k => spec_GoodMap.f k l) (goodFrom none l) := by
  have := specMap_l l [] (by simpa using h) (fun y hy => by simp at hy)
  unfold spec_GoodMap.f
  simpa using this
theorem implMap_v (l : List S47) (h : (l.length : Int) ≤ 9223372036850000000) (hb : ∀ y ∈ l, -9223372036854775808 ≤ y.f1 ∧ y.f1 ≤ 9223372036854775807) : Tot (fun k => impl_GoodMap.f k l) (goodFrom none l) := by
  have := implMap_l l [] (by simpa using h) (fun y hy => by simp at hy) hb
  unfold impl_GoodMap.f
  have e : goodFrom none l = (goodFrom none l && decide ((l.length : Int) ≤ 16)) := by
    by_cases hg : goodFrom none l = true
    · rw [hg, decide_eq_true (goodMap_short l hg)]; rfl
    · rw [Bool.eq_false_iff.2 hg]; rfl
  rw [e]
  simpa using this

def plL : List Int → List S47 → List Int
  | out, [] => out
  | out, x :: l => plL (splice out x.f0.toNat (rng x.f1.toNat x.f2)) l
theorem goodFrom_mem : ∀ (b : List S47) (o : Option S47), goodFrom o b = true → ∀ x ∈ b, goodS x = true
  | [], _, _, x, hx => by simp at hx
  | y :: b, none, h, x, hx => by
    simp only [goodFrom, Bool.and_eq_true] at h
    rcases List.mem_cons.1 hx with rfl | hx
    · exact h.1
    · exact goodFrom_mem b _ h.2 x hx
  | y :: b, some z, h, x, hx => by
    simp only [goodFrom, Bool.and_eq_true] at h
    rcases List.mem_cons.1 hx with rfl | hx
    · exact h.1.1
    · exact goodFrom_mem b _ h.2 x hx
theorem rng_succ : ∀ (d : Nat) (p : Int), rng (d + 1) p = rng d p ++ [p + d]
  | 0, p => by simp [rng]
  | d + 1, p => by
    show p :: rng (d + 1) (p + 1) = (p :: rng d (p + 1)) ++ [p + ((d + 1 : Nat) : Int)]
    rw [rng_succ d (p + 1), List.cons_append]
    congr 2
    simp; omega
theorem rng_mem : ∀ (d : Nat) (p y : Int), y ∈ rng d p → p ≤ y ∧ y < p + d
  | 0, p, y, h => by simp [rng] at h
  | d + 1, p, y, h => by
    rcases List.mem_cons.1 (show y ∈ p :: rng d (p + 1) from h) with rfl | h
    · omega
    · have := rng_mem d (p + 1) y h; omega
theorem splice_nil (out : List Int) (a : Nat) : splice out a [] = out := by simp [splice]
theorem splice_len (out : List Int) (a : Nat) (cs : List Int) (h : a + cs.length ≤ out.length) : (splice out a cs).length = out.length := length_splice _ _ _ h
theorem splice_mem {out : List Int} {a : Nat} {cs : List Int} {y : Int} (h : y ∈ splice out a cs) : y ∈ out ∨ y ∈ cs := by
  unfold splice at h
  rcases List.mem_append.1 h with h | h
  · exact .inl (List.mem_of_mem_take h)
  · rcases List.mem_append.1 h with h | h
    · exact .inr h
    · exact .inl (List.mem_of_mem_drop h)
theorem set_splice (out : List Int) (a d : Nat) (p : Int) (h : a + d < out.length) : (splice out a (rng d p)).set (a + d) (p + d) = splice out a (rng (d + 1) p) := by
  unfold splice
  rw [rng_length, rng_length, rng_succ]
  have e : out.drop (a + d) = (out[a + d]) :: out.drop (a + d + 1) := List.drop_eq_getElem_cons h
  rw [e, List.set_append_right _ _ (by simp; omega), List.set_append_right _ _ (by simp [rng_length]; omega)]
  have e2 : a + d - (out.take a).length - (rng d p).length = 0 := by simp [rng_length]; omega
  rw [e2, List.set_cons_zero, List.append_assoc]
  rfl
def plInv (out : List Int) : Prop := out.length = 16 ∧ ∀ y ∈ out, -1 ≤ y ∧ y ≤ 20000
theorem plInv_step {out : List Int} {x : S47} (h : plInv out) (hx : goodS x = true) : plInv (splice out x.f0.toNat (rng x.f1.toNat x.f2)) := by
  have hb := (goodS_iff x).1 hx
  refine ⟨by rw [splice_len _ _ _ (by rw [rng_length, h.1]; omega)]; exact h.1, fun y hy => ?_⟩
  rcases splice_mem hy with hy | hy
  · exact h.2 y hy
  · have := rng_mem _ _ _ hy; omega
theorem plInv_all : ∀ (l : List S47) (out : List Int), plInv out → (∀ x ∈ l, goodS x = true) → plInv (plL out l)
  | [], out, h, _ => h
  | x :: l, out, h, hx => plInv_all l _ (plInv_step h (hx x (by simp))) (fun y hy => hx y (by simp [hy]))
theorem specPl2 (L : List S47) (n i : Int) (out : List Int) (a p : Int) (l : Nat) (ho : out.length = 16) (ha : 0 ≤ a) (hl : a + l ≤ 16) (hp : 0 ≤ p ∧ p ≤ 20000) (R : List Int) (hR : Tot (fun k => spec_l4Places.l1 k (splice out a.toNat (rng l p)) L n (wrap64 (i + 1))) R) :
    ∀ (d j : Nat), j + d = l → Tot (fun k => spec_l4Places.l2 k (splice out a.toNat (rng j p)) j L n i a l p) R
  | 0, j, h => by
    obtain rfl : j = l := by omega
    exact Tot.step (fun k => spec_l4Places.l2.eq_2 ..) (Tot.no (by omega) hR)
  | d + 1, j, h => by
    have hlen : (splice out a.toNat (rng j p)).length = 16 := by rw [splice_len _ _ _ (by rw [rng_length, ho]; omega)]; exact ho
    refine Tot.step (fun k => spec_l4Places.l2.eq_2 ..) (Tot.yes (by omega) ?_)
    rw [wrap_in (x := a + j) (by omega) (by omega), wrap_in (x := p + j) (by omega) (by omega), wrap_in (x := (j : Int) + 1) (by omega) (by omega)]
    refine Tot.yes (by omega) (Tot.yes (by rw [hlen]; omega) ?_)
    rw [show (a + (j : Int)).toNat = a.toNat + j by omega, set_splice out a.toNat j p (by rw [ho]; omega)]
    exact specPl2 L n i out a p l ho ha hl hp R hR d (j + 1) (by omega)
theorem specPl1 : ∀ (b a : List S47) (out : List Int), out.length = 16 → ((a ++ b).length : Int) ≤ 9223372036850000000 → (∀ x ∈ b, goodS x = true) → Tot (fun k => spec_l4Places.l1 k out (a ++ b) ((a ++ b).length : Int) a.length) (plL out b)
  | [], a, out, ho, h, hg => Tot.step (fun k => spec_l4Places.l1.eq_2 ..) (Tot.no (by simp) (Tot.pure _))
  | x :: b, a, out, ho, h, hg => by
    have hl : ((a ++ x :: b).length : Int) = a.length + b.length + 1 := by simp; omega
    have hb := (goodS_iff x).1 (hg x (by simp))
    refine Tot.step (fun k => spec_l4Places.l1.eq_2 ..) (Tot.yes (by omega) (Tot.yes (by omega) (Tot.yes (by omega) ?_)))
    rw [rdIStretch_at]
    have hlen : (splice out x.f0.toNat (rng x.f1.toNat x.f2)).length = 16 := by rw [splice_len _ _ _ (by rw [rng_length, ho]; omega)]; exact ho
    have ih := specPl1 b (a ++ [x]) (splice out x.f0.toNat (rng x.f1.toNat x.f2)) hlen (by simpa using h) (fun y hy => hg y (by simp [hy]))
    have := specPl2 (a ++ x :: b) ((a ++ x :: b).length : Int) a.length out x.f0 x.f2 x.f1.toNat ho hb.2.2.1 (by omega) (by omega) (plL out (x :: b)) (by
      rw [wrap_in (x := (a.length : Int) + 1) (by omega) (by omega)]
      simpa [plL] using ih) x.f1.toNat 0 (by omega)
    have e : ((x.f1.toNat : Nat) : Int) = x.f1 := by omega
    rw [e] at this
    simpa [rng, splice_nil] using this
theorem specPl0 (l : List S47) (R : List Int) (hR : Tot (fun k => spec_l4Places.l1 k (List.replicate 16 (-1)) l (l.length : Int) 0) R) : ∀ (d j : Nat), j + d = 16 → Tot (fun k => spec_l4Places.l0 k l (List.replicate j (-1)) j) R
  | 0, j, h => by
    obtain rfl : j = 16 := by omega
    exact Tot.step (fun k => spec_l4Places.l0.eq_2 ..) (Tot.no (by omega) hR)
  | d + 1, j, h => by
    refine Tot.step (fun k => spec_l4Places.l0.eq_2 ..) (Tot.yes (by omega) (Tot.yes (by simp; omega) ?_))
    rw [wrap_in (x := (j : Int) + 1) (by omega) (by omega), ← List.replicate_succ']
    exact specPl0 l R hR d (j + 1) (by omega)
theorem specPlaces_v (l : List S47) (h : (l.length : Int) ≤ 1048576) (hg : ∀ x ∈ l, goodS x = true) : Tot (fun k => spec_l4Places.f k l) (plL (List.replicate 16 (-1)) l) := by
  have h1 := specPl1 l [] (List.replicate 16 (-1)) (by simp) (by simp; omega) hg
  have := specPl0 l _ (by simpa using h1) 16 0 (by omega)
  unfold spec_l4Places.f
  simpa using this
theorem implPlaces_v (l : List S47) (hg : ∀ x ∈ l, goodS x = true) : Tot (fun k => impl_places.f k l) (plL (List.replicate 16 (-1)) l) := by
  unfold impl_places.f
  have : ∀ (l : List S47) (out : List Int), (∀ x ∈ l, goodS x = true) → Tot (fun k => placesF k out l) (plL out l) := by
    intro l
    induction l with
    | nil => exact fun out _ => Tot.pure _
    | cons x l ih =>
      intro out hg
      have hb := (goodS_iff x).1 (hg x (by simp))
      show Tot (fun k => (placeStep k out x).bind fun o => placesF k o l) (plL (splice out x.f0.toNat (rng x.f1.toNat x.f2)) l)
      refine Tot.bind (a := splice out x.f0.toNat (rng x.f1.toNat x.f2)) ?_ (ih _ (fun y hy => hg y (by simp [hy])))
      unfold placeStep
      exact Tot.yes (by omega) (Tot.bind (run_v x.f2 x.f1 (by omega) (by omega) (by omega)) (Tot.yes (by rw [rng_length]; omega) (Tot.pure _)))
  exact this l _ hg
theorem plInv0 : plInv (List.replicate 16 (-1)) := ⟨by simp, fun y hy => by rw [List.eq_of_mem_replicate hy]; omega⟩
/-- What is told of a map that came in. -/
theorem cvS_b {l : List S45} (hok : ∀ y ∈ l, ok45 y) : ∀ y ∈ l.map cvStretch, -9223372036854775808 ≤ y.f1 ∧ y.f1 ≤ 9223372036854775807 := fun y hy => by
  obtain ⟨x, hx, rfl⟩ := List.mem_map.1 hy
  exact wf_in (hok x hx).2.1

/-- One more block of a map: it lengthens the last stretch, or begins one. -/
def mapStep (out : List S47) (i p : Int) : List S47 :=
  if p < 0 then out else
  match out.getLast? with
  | none => [⟨i, 1, p⟩]
  | some y => if y.f0 + y.f1 = i ∧ y.f2 + y.f1 = p then out.dropLast ++ [⟨y.f0, y.f1 + 1, y.f2⟩] else out ++ [⟨i, 1, p⟩]
def mapAll : List Int → Int → List S47 → List S47
  | [], _, out => out
  | p :: r, i, out => mapAll r (i + 1) (mapStep out i p)
/-- What holds of the stretches so far. -/
def mapInv (out : List S47) (i : Int) : Prop := (out.length : Int) ≤ i ∧ ∀ y ∈ out, 0 ≤ y.f0 ∧ y.f0 ≤ 1000000 ∧ 0 ≤ y.f1 ∧ y.f1 ≤ i ∧ 0 ≤ y.f2 ∧ y.f2 ≤ 1000000
theorem mapInv_step {out : List S47} {i p : Int} (h : mapInv out i) (h0 : 0 ≤ i) (h1 : i ≤ 1000000) (hp : p ≤ 1000000) : mapInv (mapStep out i p) (i + 1) := by
  have mono : ∀ y ∈ out, 0 ≤ y.f0 ∧ y.f0 ≤ 1000000 ∧ 0 ≤ y.f1 ∧ y.f1 ≤ i + 1 ∧ 0 ≤ y.f2 ∧ y.f2 ≤ 1000000 := fun y hy => by have := h.2 y hy; omega
  unfold mapStep
  split
  · exact ⟨by have := h.1; omega, mono⟩
  · rename_i hp0
    split
    · exact ⟨by simp; omega, fun y hy => by rw [List.mem_singleton.1 hy]; show 0 ≤ i ∧ i ≤ 1000000 ∧ (0 : Int) ≤ 1 ∧ 1 ≤ i + 1 ∧ 0 ≤ p ∧ p ≤ 1000000; omega⟩
    · rename_i y hy
      have hm := List.mem_of_getLast? hy
      have hyb := h.2 y hm
      have hl := h.1
      split
      · refine ⟨by simp; have : out.length ≠ 0 := fun e => by rw [List.eq_nil_of_length_eq_zero e] at hm; simp at hm
                   omega, fun z hz => ?_⟩
        rcases List.mem_append.1 hz with hz | hz
        · exact mono z (List.dropLast_subset _ hz)
        · rw [List.mem_singleton.1 hz]
          show 0 ≤ y.f0 ∧ y.f0 ≤ 1000000 ∧ 0 ≤ y.f1 + 1 ∧ y.f1 + 1 ≤ i + 1 ∧ 0 ≤ y.f2 ∧ y.f2 ≤ 1000000
          omega
      · refine ⟨by simp; omega, fun z hz => ?_⟩
        rcases List.mem_append.1 hz with hz | hz
        · exact mono z hz
        · rw [List.mem_singleton.1 hz]; show 0 ≤ i ∧ i ≤ 1000000 ∧ (0 : Int) ≤ 1 ∧ 1 ≤ i + 1 ∧ 0 ≤ p ∧ p ≤ 1000000; omega
theorem mapInv_all : ∀ (r : List Int) (i : Int) (out : List S47), mapInv out i → 0 ≤ i → i + r.length ≤ 1000000 → (∀ p ∈ r, p ≤ 1000000) → mapInv (mapAll r i out) (i + r.length)
  | [], i, out, h, h0, h1, hp => by simpa [mapAll] using h
  | p :: r, i, out, h, h0, h1, hp => by
    simp only [List.length_cons] at h1
    have := mapInv_all r (i + 1) (mapStep out i p) (mapInv_step h h0 (by omega) (hp p (by simp))) (by omega) (by omega) (fun q hq => hp q (by simp [hq]))
    have e : i + ((p :: r).length : Int) = i + 1 + r.length := by simp; omega
    rw [e]
    exact this
theorem rd_lastS (b : List S47) (y : S47) : rd_T47 (b ++ [y]) (b.length : Int) = y := by simp [rd_T47, List.getD]
theorem set_lastS (b : List S47) (y z : S47) : (b ++ [y]).set ((b.length : Int)).toNat z = b ++ [z] := by simp
theorem specMapAll_l : ∀ (b a : List Int) (out : List S47), mapInv out a.length → ((a ++ b).length : Int) ≤ 1000000 → (∀ p ∈ b, p ≤ 1000000) → Tot (fun k => spec_l4Map.l0 k out (a ++ b) ((a ++ b).length : Int) a.length) (mapAll b a.length out)
  | [], a, out, hi, h, hp => by
    refine Tot.step (fun k => spec_l4Map.l0.eq_2 ..) ?_
    exact Tot.no (by simp) (Tot.pure _)
  | p :: b, a, out, hi, h, hp => by
    have hl : ((a ++ p :: b).length : Int) = a.length + b.length + 1 := by simp; omega
    have hr : rd (a ++ p :: b) (a.length : Int) = p := by simp [rd, List.getD]
    have hpp := hp p (by simp)
    have next : Tot (fun k => spec_l4Map.l0 k (mapStep out a.length p) (a ++ p :: b) ((a ++ p :: b).length : Int) ((a.length : Int) + 1)) (mapAll (p :: b) a.length out) := by
      have hi2 := mapInv_step hi (by omega) (by omega) hpp
      have := specMapAll_l b (a ++ [p]) (mapStep out a.length p) (by simpa using hi2) (by simpa using h) (fun q hq => hp q (by simp [hq]))
      simpa [mapAll] using this
    refine Tot.step (fun k => spec_l4Map.l0.eq_2 ..) (Tot.yes (by omega) (Tot.yes (by omega) (Tot.yes (by omega) ?_)))
    rw [hr, wrap_in (x := (a.length : Int) + 1) (by omega) (by omega)]
    unfold mapStep at next
    by_cases h0 : p < 0
    · rw [if_pos h0] at next
      exact Tot.yes h0 next
    · rw [if_neg h0] at next
      refine Tot.no h0 ?_
      rcases List.eq_nil_or_concat out with rfl | ⟨o, y, rfl⟩
      · exact Tot.no (by simp) (Tot.yes (by simp) next)
      · rw [List.concat_eq_append] at *
        simp only [List.getLast?_append, List.getLast?_singleton, Option.some_or, List.dropLast_concat] at next
        have hol := hi.1
        have hyb := hi.2 y (by simp)
        have hlen : ((o ++ [y]).length : Int) = o.length + 1 := by simp
        have e1 : wrap64 (((o ++ [y]).length : Int) - 1) = (o.length : Int) := (wrap_in (by omega) (by omega)).trans (by omega)
        rw [e1, rd_lastS, wrap_in (x := y.f0 + y.f1) (by omega) (by omega), wrap_in (x := y.f2 + y.f1) (by omega) (by omega), wrap_in (x := y.f1 + 1) (by omega) (by omega), set_lastS]
        refine Tot.yes (by omega) (Tot.yes (by omega) (Tot.yes (by omega) ?_))
        by_cases c1 : y.f0 + y.f1 = a.length
        · refine Tot.yes c1 ?_
          by_cases c2 : y.f2 + y.f1 = p
          · rw [if_pos ⟨c1, c2⟩] at next
            exact Tot.yes c2 next
          · rw [if_neg (fun e => c2 e.2)] at next
            exact Tot.no c2 (Tot.yes (by omega) next)
        · rw [if_neg (fun e => c1 e.1)] at next
          exact Tot.no c1 (Tot.yes (by omega) next)
theorem specMapAll_v (l : List Int) (h : (l.length : Int) ≤ 1000000) (hp : ∀ p ∈ l, p ≤ 1000000) : Tot (fun k => spec_l4Map.f k l) (mapAll l 0 []) := by
  have := specMapAll_l l [] [] ⟨by simp, fun y hy => by simp at hy⟩ (by simpa using h) hp
  unfold spec_l4Map.f
  simpa using this

theorem implMapAll_l : ∀ (b a : List Int) (out : List S47), mapInv out a.length → ((a ++ b).length : Int) ≤ 1000000 → (∀ p ∈ b, -1 ≤ p ∧ p ≤ 1000000) → Tot (fun k => impl_mapOf.l0 k out (a ++ b) ((a ++ b).length : Int) a.length) (mapAll b a.length out)
  | [], a, out, hi, h, hp => by
    refine Tot.step (fun k => impl_mapOf.l0.eq_2 ..) ?_
    exact Tot.no (by simp) (Tot.pure _)
  | p :: b, a, out, hi, h, hp => by
    have hl : ((a ++ p :: b).length : Int) = a.length + b.length + 1 := by simp; omega
    have hr : rd (a ++ p :: b) (a.length : Int) = p := by simp [rd, List.getD]
    have hpp := hp p (by simp)
    have next : Tot (fun k => impl_mapOf.l0 k (mapStep out a.length p) (a ++ p :: b) ((a ++ p :: b).length : Int) ((a.length : Int) + 1)) (mapAll (p :: b) a.length out) := by
      have hi2 := mapInv_step hi (by omega) (by omega) hpp.2
      have := implMapAll_l b (a ++ [p]) (mapStep out a.length p) (by simpa using hi2) (by simpa using h) (fun q hq => hp q (by simp [hq]))
      simpa [mapAll] using this
    refine Tot.step (fun k => impl_mapOf.l0.eq_2 ..) (Tot.yes (by omega) (Tot.yes (by omega) (Tot.yes (by omega) ?_)))
    rw [hr, wrap_in (x := (a.length : Int) + 1) (by omega) (by omega)]
    unfold mapStep at next
    by_cases h0 : p = -1
    · rw [if_pos (by omega)] at next
      exact Tot.yes h0 next
    · rw [if_neg (by omega)] at next
      refine Tot.no h0 ?_
      rcases List.eq_nil_or_concat out with rfl | ⟨o, y, rfl⟩
      · have e0 : wrap64 (((([] : List S47)).length : Int) - 1) = -1 := (wrap_in (by simp) (by simp)).trans (by simp)
        exact Tot.no (by rw [e0]; decide) (Tot.yes (by simp) next)
      · rw [List.concat_eq_append] at *
        simp only [List.getLast?_append, List.getLast?_singleton, Option.some_or, List.dropLast_concat] at next
        have hol := hi.1
        have hyb := hi.2 y (by simp)
        have hlen : ((o ++ [y]).length : Int) = o.length + 1 := by simp
        have e1 : wrap64 (((o ++ [y]).length : Int) - 1) = (o.length : Int) := (wrap_in (by omega) (by omega)).trans (by omega)
        rw [e1, rd_lastS, wrap_in (x := y.f0 + y.f1) (by omega) (by omega), wrap_in (x := y.f2 + y.f1) (by omega) (by omega), wrap_in (x := y.f1 + 1) (by omega) (by omega), set_lastS]
        refine Tot.yes (by omega) (Tot.yes (by omega) (Tot.yes (by omega) ?_))
        by_cases c1 : y.f0 + y.f1 = a.length
        · refine Tot.yes c1 ?_
          by_cases c2 : y.f2 + y.f1 = p
          · rw [if_pos ⟨c1, c2⟩] at next
            exact Tot.yes c2 next
          · rw [if_neg (fun e => c2 e.2)] at next
            exact Tot.no c2 (Tot.yes (by omega) next)
        · rw [if_neg (fun e => c1 e.1)] at next
          exact Tot.no c1 (Tot.yes (by omega) next)
theorem implMapAll_v (l : List Int) (h : (l.length : Int) ≤ 1000000) (hp : ∀ p ∈ l, -1 ≤ p ∧ p ≤ 1000000) : Tot (fun k => impl_mapOf.f k l) (mapAll l 0 []) := by
  have := implMapAll_l l [] [] ⟨by simp, fun y hy => by simp at hy⟩ (by simpa using h) hp
  unfold impl_mapOf.f
  simpa using this

theorem mapAll_short {o : List Int} (h : plInv o) : ((mapAll o 0 []).length : Int) ≤ 16 := by
  have := (mapInv_all o 0 [] ⟨by simp, fun y hy => by simp at hy⟩ (by omega) (by rw [h.1]; omega) (fun p hp => by have := h.2 p hp; omega)).1
  rw [h.1] at this
  omega
def shGo (f t b : Int) : List Int → Option (List Int)
  | [] => some []
  | x :: r => if f ≤ x ∧ x ≤ t then (if 0 ≤ x + b ∧ x + b ≤ 10000 then (shGo f t b r).map ((x + b) :: ·) else none) else (shGo f t b r).map (x :: ·)
def shFin : Option (List Int) → List S47 × Bool
  | some o => (mapAll o 0 [], true)
  | none => ([], false)
theorem map_app (o : Option (List Int)) (a : List Int) (y : Int) : (o.map (y :: ·)).map (a ++ ·) = o.map ((a ++ [y]) ++ ·) := by cases o <;> simp
theorem rdSh (a b : List Int) (x : Int) : rd (a ++ x :: b) (a.length : Int) = x := by simp [rd, List.getD]
theorem setSh (a b : List Int) (x y : Int) : (a ++ x :: b).set ((a.length : Int)).toNat y = a ++ y :: b := by simp
theorem inv_put {a b : List Int} {x y : Int} (h : plInv (a ++ x :: b)) (hy : -1 ≤ y ∧ y ≤ 20000) : plInv (a ++ y :: b) := by
  refine ⟨by have := h.1; simp at this ⊢; omega, fun z hz => ?_⟩
  rcases List.mem_append.1 hz with hz | hz
  · exact h.2 z (by simp [hz])
  · rcases List.mem_cons.1 hz with rfl | hz
    · exact hy
    · exact h.2 z (by simp [hz])
theorem specSh_l (f t b : Int) (hb : -10000 ≤ b ∧ b ≤ 10000) : ∀ (c a : List Int), plInv (a ++ c) → Tot (fun k => spec_ShiftMap.l0 k f t b (a ++ c) ((a ++ c).length : Int) a.length) (shFin ((shGo f t b c).map (a ++ ·)))
  | [], a, h => by
    refine Tot.step (fun k => spec_ShiftMap.l0.eq_2 ..) (Tot.no (by simp) ?_)
    simp only [List.append_nil] at h ⊢
    show Tot _ (shFin (some (a ++ [])))
    rw [List.append_nil]
    exact Tot.bind (specMapAll_v a (by rw [h.1]; omega) (fun p hp => by have := h.2 p hp; omega)) (Tot.pure _)
  | x :: c, a, h => by
    have hl : ((a ++ x :: c).length : Int) = a.length + c.length + 1 := by simp; omega
    have h16 := h.1
    have hx := h.2 x (by simp)
    refine Tot.step (fun k => spec_ShiftMap.l0.eq_2 ..) (Tot.yes (by omega) (Tot.yes (by omega) (Tot.yes (by omega) ?_)))
    rw [rdSh, wrap_in (x := (a.length : Int) + 1) (by omega) (by omega), wrap_in (x := x + b) (by omega) (by omega), setSh]
    simp only [in_v, Option.bind_some]
    unfold shGo
    by_cases c1 : f ≤ x ∧ x ≤ t
    · rw [if_pos c1]
      refine Tot.yes (decide_eq_true c1) ?_
      by_cases c2 : 0 ≤ x + b ∧ x + b ≤ 10000
      · rw [if_pos c2, map_app]
        refine Tot.yes (decide_eq_true c2) ?_
        have := specSh_l f t b hb c (a ++ [x + b]) (by simpa using inv_put h (y := x + b) (by omega))
        have e : ((a ++ x :: c).length : Int) = (((a ++ [x + b]) ++ c).length : Int) := by simp
        rw [e]
        simpa using this
      · rw [if_neg c2]
        exact Tot.no (by rw [decide_eq_true_eq]; exact c2) (Tot.pure _)
    · rw [if_neg c1, map_app]
      refine Tot.no (by rw [decide_eq_true_eq]; exact c1) ?_
      have := specSh_l f t b hb c (a ++ [x]) (by simpa using h)
      simpa using this
theorem isPlace_v (x : Int) : impl_isPlace.f x = some (decide (0 ≤ x ∧ x ≤ 10000)) := by unfold impl_isPlace.f; rw [within_v]; rfl
theorem implSh_l (f t b : Int) (hb : -10000 ≤ b ∧ b ≤ 10000) : ∀ (c a : List Int), plInv (a ++ c) → Tot (fun k => impl_ShiftMap.l0 k f t b (a ++ c) ((a ++ c).length : Int) a.length) (shFin ((shGo f t b c).map (a ++ ·)))
  | [], a, h => by
    refine Tot.step (fun k => impl_ShiftMap.l0.eq_2 ..) (Tot.no (by simp) ?_)
    simp only [List.append_nil] at h ⊢
    show Tot _ (shFin (some (a ++ [])))
    rw [List.append_nil]
    exact Tot.bind (implMapAll_v a (by rw [h.1]; omega) (fun p hp => by have := h.2 p hp; omega)) (Tot.pure _)
  | x :: c, a, h => by
    have hl : ((a ++ x :: c).length : Int) = a.length + c.length + 1 := by simp; omega
    have h16 := h.1
    have hx := h.2 x (by simp)
    refine Tot.step (fun k => impl_ShiftMap.l0.eq_2 ..) (Tot.yes (by omega) (Tot.yes (by omega) (Tot.yes (by omega) ?_)))
    rw [rdSh, wrap_in (x := (a.length : Int) + 1) (by omega) (by omega), wrap_in (x := x + b) (by omega) (by omega), setSh]
    simp only [within_v, isPlace_v, Option.bind_some, rdSh]
    unfold shGo
    by_cases c1 : f ≤ x ∧ x ≤ t
    · rw [if_pos c1]
      refine Tot.yes (decide_eq_true c1) ?_
      by_cases c2 : 0 ≤ x + b ∧ x + b ≤ 10000
      · rw [if_pos c2, map_app]
        refine Tot.yes (decide_eq_true c2) ?_
        have := implSh_l f t b hb c (a ++ [x + b]) (by simpa using inv_put h (y := x + b) (by omega))
        have e : ((a ++ x :: c).length : Int) = (((a ++ [x + b]) ++ c).length : Int) := by simp
        rw [e]
        simpa using this
      · rw [if_neg c2]
        exact Tot.no (by rw [decide_eq_true_eq]; exact c2) (Tot.pure _)
    · rw [if_neg c1, map_app]
      refine Tot.no (by rw [decide_eq_true_eq]; exact c1) ?_
      have := implSh_l f t b hb c (a ++ [x]) (by simpa using h)
      simpa using this
def okSh (f t b : Int) : Bool := decide ((0 ≤ f ∧ f ≤ t ∧ t ≤ 10000) ∧ -10000 ≤ b ∧ b ≤ 10000)
def shR (l : List S47) (f t b : Int) : List S47 × Bool :=
  if goodFrom none l = true ∧ okSh f t b = true then shFin (shGo f t b (plL (List.replicate 16 (-1)) l)) else ([], false)
theorem specShR_v (l : List S47) (f t b : Int) (h : (l.length : Int) ≤ 1048576) : Tot (fun k => spec_ShiftMap.f k l f t b) (shR l f t b) := by
  have fin : ¬ (goodFrom none l = true ∧ okSh f t b = true) → Tot (fun k => spec_ShiftMap.j0 k l f t b true) (shR l f t b) := fun c => by
    unfold shR
    rw [if_neg c]
    exact Tot.step (fun k => spec_ShiftMap.j0.eq_2 ..) (Tot.yes rfl (Tot.pure _))
  have ne : ∀ {p : Prop}, (okSh f t b = true → p) → ¬ p → ¬ (goodFrom none l = true ∧ okSh f t b = true) := fun h1 h2 e => h2 (h1 e.2)
  have ok := fun (e : okSh f t b = true) => of_decide_eq_true e
  unfold spec_ShiftMap.f
  refine Tot.bind (specMap_v l (by omega)) ?_
  simp only [in_v, Option.bind_some]
  by_cases c : goodFrom none l = true
  · refine Tot.yes c ?_
    by_cases c1 : 0 ≤ f ∧ f ≤ 10000
    · refine Tot.yes (decide_eq_true c1) ?_
      by_cases c2 : f ≤ t ∧ t ≤ 10000
      · refine Tot.yes (decide_eq_true c2) ?_
        by_cases c3 : -10000 ≤ b ∧ b ≤ 10000
        · rw [decide_eq_true c3]
          unfold shR
          rw [if_pos ⟨c, decide_eq_true ⟨⟨c1.1, c2⟩, c3⟩⟩]
          have hi := plInv_all l _ plInv0 (goodFrom_mem l _ c)
          refine Tot.step (fun k => spec_ShiftMap.j0.eq_2 ..) (Tot.no (by decide) (Tot.bind (specPlaces_v l h (goodFrom_mem l _ c)) ?_))
          generalize plL (List.replicate 16 (-1)) l = P at *
          have := specSh_l f t b c3 P [] hi
          simpa using this
        · rw [decide_eq_false c3]; exact fin (fun e => c3 (ok e.2).2)
      · exact Tot.no (by rw [decide_eq_true_eq]; exact c2) (fin (fun e => c2 (ok e.2).1.2))
    · exact Tot.no (by rw [decide_eq_true_eq]; exact c1) (fin (fun e => c1 (by have := (ok e.2).1; omega)))
  · exact Tot.no c (fin (fun e => c e.1))
theorem implShR_v (l : List S47) (f t b : Int) (h : (l.length : Int) ≤ 1048576) (hb : ∀ y ∈ l, -9223372036854775808 ≤ y.f1 ∧ y.f1 ≤ 9223372036854775807) : Tot (fun k => impl_ShiftMap.f k l f t b) (shR l f t b) := by
  have fin : ¬ (goodFrom none l = true ∧ okSh f t b = true) → Tot (fun k => impl_ShiftMap.j0 k l f t b true) (shR l f t b) := fun c => by
    unfold shR
    rw [if_neg c]
    exact Tot.step (fun k => impl_ShiftMap.j0.eq_2 ..) (Tot.yes rfl (Tot.pure _))
  have ok := fun (e : okSh f t b = true) => of_decide_eq_true e
  unfold impl_ShiftMap.f
  refine Tot.bind (implMap_v l (by omega) hb) ?_
  simp only [within_v, isPlace_v, Option.bind_some]
  by_cases c : goodFrom none l = true
  · refine Tot.yes c ?_
    by_cases c1 : 0 ≤ f ∧ f ≤ 10000
    · refine Tot.yes (decide_eq_true c1) ?_
      by_cases c2 : 0 ≤ t ∧ t ≤ 10000
      · refine Tot.yes (decide_eq_true c2) ?_
        by_cases c4 : f > t
        · exact Tot.yes c4 (fin (fun e => by have := (ok e.2).1; omega))
        · refine Tot.no c4 ?_
          by_cases c3 : -10000 ≤ b ∧ b ≤ 10000
          · rw [decide_eq_true c3]
            unfold shR
            rw [if_pos ⟨c, decide_eq_true ⟨⟨c1.1, by omega, c2.2⟩, c3⟩⟩]
            have hi := plInv_all l _ plInv0 (goodFrom_mem l _ c)
            refine Tot.step (fun k => impl_ShiftMap.j0.eq_2 ..) (Tot.no (by decide) (Tot.bind (implPlaces_v l (goodFrom_mem l _ c)) ?_))
            generalize plL (List.replicate 16 (-1)) l = P at *
            have := implSh_l f t b c3 P [] hi
            simpa using this
          · rw [decide_eq_false c3]; exact fin (fun e => c3 (ok e.2).2)
      · exact Tot.no (by rw [decide_eq_true_eq]; exact c2) (fin (fun e => c2 (by have := (ok e.2).1; omega)))
    · exact Tot.no (by rw [decide_eq_true_eq]; exact c1) (fin (fun e => c1 (by have := (ok e.2).1; omega)))
  · exact Tot.no c (fin (fun e => c e.1))
theorem shGo_inv (f t b : Int) : ∀ (c : List Int) (o : List Int), shGo f t b c = some o → o.length = c.length ∧ ((∀ y ∈ c, -1 ≤ y ∧ y ≤ 20000) → ∀ y ∈ o, -1 ≤ y ∧ y ≤ 20000)
  | [], o, h => by
    obtain rfl := Option.some.inj h
    exact ⟨rfl, fun h => h⟩
  | x :: c, o, h => by
    unfold shGo at h
    split at h
    · split at h
      · rename_i c2
        obtain ⟨o2, h2, rfl⟩ := Option.map_eq_some_iff.1 h
        have ih := shGo_inv f t b c o2 h2
        refine ⟨by simp [ih.1], fun hc y hy => ?_⟩
        rcases List.mem_cons.1 hy with rfl | hy
        · omega
        · exact ih.2 (fun z hz => hc z (by simp [hz])) y hy
      · cases h
    · obtain ⟨o2, h2, rfl⟩ := Option.map_eq_some_iff.1 h
      have ih := shGo_inv f t b c o2 h2
      refine ⟨by simp [ih.1], fun hc y hy => ?_⟩
      rcases List.mem_cons.1 hy with rfl | hy
      · exact hc y (by simp)
      · exact ih.2 (fun z hz => hc z (by simp [hz])) y hy
theorem shR_short (l : List S47) (f t b : Int) : ((shR l f t b).1.length : Int) ≤ 16 := by
  unfold shR
  split
  · rename_i c
    have hi := plInv_all l _ plInv0 (goodFrom_mem l _ c.1)
    generalize plL (List.replicate 16 (-1)) l = P at *
    cases e : shGo f t b P with
    | none => simp [shFin]
    | some o =>
      have := shGo_inv f t b P o e
      exact mapAll_short (o := o) ⟨by rw [this.1]; exact hi.1, this.2 hi.2⟩
  · simp
theorem FnExactShiftMap : laws_FnExactShiftMap.Pure := by
  intro l f t b ⟨hl, hok⟩ _ _ _
  obtain ⟨v, hv, hv1, hv2⟩ := szStretchS_v l 1048576 (by omega) (by omega) (by omega)
  refine Tot.at_ ?_
  unfold laws_FnExactShiftMap.f
  simp only [hv, Option.bind_some]
  by_cases h0 : v < 0
  · exact Tot.yes h0 (Tot.pure _)
  · have hs := hv2 (by omega)
    have toV := toStretchS_v l hs (fun _ _ => trivial)
    have hb := cvS_b hok
    have hs' : ((l.map cvStretch).length : Int) ≤ 1048576 := by simpa using hs
    generalize l.map cvStretch = L at *
    have sp := specShR_v L f t b hs'
    have im := implShR_v L f t b hs' hb
    have hsh := shR_short L f t b
    generalize shR L f t b = Q at *
    have eqV := eqStretchS_v Q.1 (by omega) (fun _ _ => trivial)
    refine Tot.no h0 (Tot.bind toV (Tot.bind sp (Tot.bind toV (Tot.bind im (Tot.bind eqV (Tot.yes rfl ?_))))))
    refine Tot.step (fun k => laws_FnExactShiftMap.j0.eq_2 ..) (Tot.no (by simp) ?_)
    refine Tot.bind toV (Tot.bind (eqStretchS_v L (by omega) (fun _ _ => trivial)) (Tot.yes rfl (Tot.bind (markStretchS_v L 1 (by omega) (by omega)) (Tot.no (by omega) (Tot.bind eqV (Tot.yes rfl ?_))))))
    refine Tot.step (fun k => laws_FnExactShiftMap.j1.eq_2 ..) (Tot.no (by simp) ?_)
    refine Tot.bind (markStretchS_v Q.1 1 (by omega) (by omega)) (Tot.bind (heldStretchS_v Q.1 1 (by omega) (by omega)) (Tot.no (by omega) (Tot.yes rfl ?_)))
    refine Tot.bind toV (Tot.bind im (Tot.bind eqV (Tot.yes rfl ?_)))
    refine Tot.step (fun k => laws_FnExactShiftMap.j2.eq_2 ..) (Tot.no (by simp) ?_)
    exact Tot.bind (heldStretchS_v Q.1 1 (by omega) (by omega)) (Tot.no (by omega) (Tot.yes rfl (Tot.pure _)))

end Go.Proofs.Ytcoceoplnehmcaa.Pure

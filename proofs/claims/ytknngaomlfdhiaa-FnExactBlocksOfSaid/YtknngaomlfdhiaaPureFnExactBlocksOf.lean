/- The plain law behind FnExactBlocksOf: what the two sides compute is the same, for every input. No condition. -/
import Derived.Test.YtknngaomlfdhiaaPFnExactBlocksOfx2
set_option linter.unusedVariables false
set_option linter.unusedSimpArgs false
namespace Go.Proofs.Ytknngaomlfdhiaa.Pure
open Go.RowKit Go.Proofs.Ytknngaomlfdhiaa.PFnExactBlocksOf Go.Proofs.YtknngaomlfdhiaaW.PrintWords Go.Proofs.YtknngaomlfdhiaaW.PrintLast Go.Proofs.YtknngaomlfdhiaaW.PrintMore

theorem wrap_in {x : Int} (h0 : -9223372036854775808 ≤ x) (h1 : x ≤ 9223372036854775807) : wrap64 x = x := by unfold wrap64; omega
theorem wf_in {x : Int} (h : (Lit.int .i64 x).wf = true) : -9223372036854775808 ≤ x ∧ x ≤ 9223372036854775807 := by
  simp only [Lit.wf, IntKind.min, IntKind.max, IntKind.bits, IntKind.signed, Bool.and_eq_true, decide_eq_true_eq] at h
  exact ⟨by have := h.1; simpa using this, by have := h.2; simpa using this⟩
theorem toList_nil (s : ByteArray) : (s.toList == ([] : List UInt8)) = decide (s.size = 0) := by
  rw [Bool.eq_iff_iff]
  simp only [beq_iff_eq, decide_eq_true_eq, ByteArray.toList_eq]
  constructor
  · intro h
    have h2 : s.data.toList.length = 0 := by rw [h]; rfl
    rw [Array.length_toList] at h2
    exact h2
  · intro h
    have h2 : s.data.toList.length = 0 := by rw [Array.length_toList]; exact h
    exact List.eq_nil_of_length_eq_zero h2

theorem in_v (a b c : Int) : spec_l1In.f a b c = some (decide (b ≤ a ∧ a ≤ c)) := by
  unfold spec_l1In.f
  by_cases h : a ≥ b
  · rw [if_pos h]; congr 1; rw [decide_eq_decide]; omega
  · rw [if_neg h]; congr 1; symm; rw [decide_eq_false_iff_not]; omega
theorem within_v (a b c : Int) : impl_within.f a b c = some (decide (b ≤ a ∧ a ≤ c)) := by
  unfold impl_within.f
  by_cases h : b ≤ a
  · rw [if_pos h]; congr 1; rw [decide_eq_decide]; omega
  · rw [if_neg h]; congr 1; symm; rw [decide_eq_false_iff_not]; omega

def goodR (k a l : Int) (s : ByteArray) : Bool :=
  if k = 1 then decide (1 ≤ l ∧ l ≤ 4 ∧ 0 ≤ a ∧ a ≤ 16 - l ∧ (s.size : Int) = 2 * l) else if k = 2 then decide (1 ≤ l ∧ l ≤ 4 ∧ 0 ≤ a ∧ a ≤ 16 - l ∧ s.size = 0) else if k = 3 then decide (0 ≤ a ∧ a ≤ 200 ∧ l = 0 ∧ s.size = 0) else false
theorem where_v (k a l : Int) (s : ByteArray) : spec_l3Where.f k a l s = some (decide (1 ≤ l ∧ l ≤ 4 ∧ 0 ≤ a ∧ a ≤ 16 - l)) := by
  unfold spec_l3Where.f
  simp only [in_v, Option.bind_some]
  by_cases h : 1 ≤ l ∧ l ≤ 4
  · rw [if_pos (decide_eq_true h)]; congr 1; rw [wrap_in (by omega) (by omega), decide_eq_decide]; omega
  · rw [if_neg (by rw [decide_eq_false h]; decide)]; congr 1; symm; rw [decide_eq_false_iff_not]; omega
theorem specRecord_v (k a l : Int) (s : ByteArray) : spec_GoodRecord.f k a l s = some (goodR k a l s) := by
  unfold spec_GoodRecord.f goodR
  simp only [where_v, in_v, Option.bind_some, toList_nil]
  by_cases h1 : k = 1
  · rw [if_pos h1, if_pos h1]
    by_cases h : 1 ≤ l ∧ l ≤ 4 ∧ 0 ≤ a ∧ a ≤ 16 - l
    · rw [if_pos (decide_eq_true h), wrap_in (by omega) (by omega)]; congr 1; rw [Bool.eq_iff_iff, beq_iff_eq, decide_eq_true_eq]; omega
    · rw [if_neg (by rw [decide_eq_false h]; decide)]; congr 1; symm; rw [decide_eq_false_iff_not]; omega
  · rw [if_neg h1, if_neg h1]
    by_cases h2 : k = 2
    · rw [if_pos h2, if_pos h2]
      by_cases h : 1 ≤ l ∧ l ≤ 4 ∧ 0 ≤ a ∧ a ≤ 16 - l
      · rw [if_pos (decide_eq_true h)]; congr 1; rw [decide_eq_decide]; omega
      · rw [if_neg (by rw [decide_eq_false h]; decide)]; congr 1; symm; rw [decide_eq_false_iff_not]; omega
    · rw [if_neg h2, if_neg h2]
      by_cases h3 : k = 3
      · rw [if_pos h3, if_pos h3]
        by_cases h : 0 ≤ a ∧ a ≤ 200
        · rw [if_pos (decide_eq_true h)]
          by_cases h4 : l = 0
          · rw [if_pos h4]; congr 1; rw [decide_eq_decide]; omega
          · rw [if_neg h4]; congr 1; symm; rw [decide_eq_false_iff_not]; omega
        · rw [if_neg (by rw [decide_eq_false h]; decide)]; congr 1; symm; rw [decide_eq_false_iff_not]; omega
      · rw [if_neg h3, if_neg h3]
theorem isRun_v (a l : Int) (hl : -9223372036854775808 ≤ l ∧ l ≤ 9223372036854775807) : impl_isRun.f a l = some (decide (0 ≤ a ∧ 1 ≤ l ∧ a ≤ 16 - l)) := by
  unfold impl_isRun.f
  by_cases h : a ≥ 0
  · rw [if_pos h]
    by_cases h2 : l ≥ 1
    · rw [if_pos h2, wrap_in (by omega) (by omega)]; congr 1; rw [decide_eq_decide]; omega
    · rw [if_neg h2]; congr 1; symm; rw [decide_eq_false_iff_not]; omega
  · rw [if_neg h]; congr 1; symm; rw [decide_eq_false_iff_not]; omega
theorem implRecord_v (k a l : Int) (s : ByteArray) (hl : -9223372036854775808 ≤ l ∧ l ≤ 9223372036854775807) : impl_GoodRecord.f k a l s = some (goodR k a l s) := by
  unfold impl_GoodRecord.f goodR
  simp only [within_v, isRun_v a l hl, Option.bind_some, toList_nil]
  by_cases h1 : k = 1
  · rw [if_pos h1, if_pos h1]
    by_cases h : 1 ≤ l ∧ l ≤ 4
    · rw [if_pos (decide_eq_true h)]
      by_cases h' : 0 ≤ a ∧ 1 ≤ l ∧ a ≤ 16 - l
      · rw [if_pos (decide_eq_true h'), wrap_in (by omega) (by omega)]; congr 1; rw [Bool.eq_iff_iff, beq_iff_eq, decide_eq_true_eq]; omega
      · rw [if_neg (by rw [decide_eq_false h']; decide)]; congr 1; symm; rw [decide_eq_false_iff_not]; omega
    · rw [if_neg (by rw [decide_eq_false h]; decide)]; congr 1; symm; rw [decide_eq_false_iff_not]; omega
  · rw [if_neg h1, if_neg h1]
    by_cases h2 : k = 2
    · rw [if_pos h2, if_pos h2]
      by_cases h : 1 ≤ l ∧ l ≤ 4
      · rw [if_pos (decide_eq_true h)]
        by_cases h' : 0 ≤ a ∧ 1 ≤ l ∧ a ≤ 16 - l
        · rw [if_pos (decide_eq_true h')]; congr 1; rw [decide_eq_decide]; omega
        · rw [if_neg (by rw [decide_eq_false h']; decide)]; congr 1; symm; rw [decide_eq_false_iff_not]; omega
      · rw [if_neg (by rw [decide_eq_false h]; decide)]; congr 1; symm; rw [decide_eq_false_iff_not]; omega
    · rw [if_neg h2, if_neg h2]
      by_cases h3 : k = 3
      · rw [if_pos h3, if_pos h3]
        by_cases h : 0 ≤ a ∧ a ≤ 200
        · rw [if_pos (decide_eq_true h)]
          by_cases h4 : l = 0
          · rw [if_pos h4]; congr 1; rw [decide_eq_decide]; omega
          · rw [if_neg h4]; congr 1; symm; rw [decide_eq_false_iff_not]; omega
        · rw [if_neg (by rw [decide_eq_false h]; decide)]; congr 1; symm; rw [decide_eq_false_iff_not]; omega
      · rw [if_neg h3, if_neg h3]

/-- From some number of rounds on the answer is r. -/
def Tot {α : Type} (g : Nat → Option α) (r : α) : Prop := ∃ K, ∀ k, K ≤ k → g k = some r
theorem Tot.at_ {α : Type} {g : Nat → Option α} {r : α} (h : Tot g r) : ∃ k, g k = some r := by
  obtain ⟨K, hK⟩ := h
  exact ⟨K, hK K (Nat.le_refl _)⟩
theorem Tot.pure {α : Type} (r : α) : Tot (fun _ => some r) r := ⟨0, fun _ _ => rfl⟩
theorem Tot.of_eq {α : Type} {g : Nat → Option α} {r : α} (h : ∀ k, g k = some r) : Tot g r := ⟨0, fun k _ => h k⟩
theorem Tot.congr {α : Type} {g g' : Nat → Option α} {r : α} (he : ∀ k, g k = g' k) (h : Tot g' r) : Tot g r := by
  obtain ⟨K, hK⟩ := h
  exact ⟨K, fun k hk => (he k).trans (hK k hk)⟩
theorem Tot.bind {α β : Type} {g : Nat → Option α} {h : Nat → α → Option β} {a : α} {r : β} (hg : Tot g a) (hh : Tot (fun k => h k a) r) : Tot (fun k => (g k).bind (h k)) r := by
  obtain ⟨K, hK⟩ := hg
  obtain ⟨L, hL⟩ := hh
  refine ⟨max K L, fun k hk => ?_⟩
  show (g k).bind (h k) = some r
  rw [hK k (by omega)]
  exact hL k (by omega)
theorem Tot.step {α : Type} {F G : Nat → Option α} {r : α} (hF : ∀ k, F (k + 1) = G k) (h : Tot G r) : Tot F r := by
  obtain ⟨K, hK⟩ := h
  refine ⟨K + 1, fun k hk => ?_⟩
  obtain ⟨m, rfl⟩ : ∃ m, k = m + 1 := ⟨k - 1, by omega⟩
  rw [hF]
  exact hK m (by omega)
theorem Tot.yes {α : Type} {p : Prop} [Decidable p] {g h : Nat → Option α} {r : α} (hp : p) (hg : Tot g r) : Tot (fun k => if p then g k else h k) r := by
  simpa only [if_pos hp] using hg
theorem Tot.no {α : Type} {p : Prop} [Decidable p] {g h : Nat → Option α} {r : α} (hp : ¬ p) (hg : Tot h r) : Tot (fun k => if p then g k else h k) r := by
  simpa only [if_neg hp] using hg
theorem Tot.some_bind {α β : Type} {h : Nat → α → Option β} {a : α} {r : β} (hh : Tot (fun k => h k a) r) : Tot (fun k => (some a).bind (h k)) r := hh

theorem rd_at {l : List Int} {i : Int} (h0 : 0 ≤ i) (h1 : i < (l.length : Int)) : rd l i = l[i.toNat]'(by omega) := by
  unfold rd
  rw [List.getD_eq_getElem?_getD, List.getElem?_eq_getElem (by omega : i.toNat < l.length)]
  rfl
theorem eqInt_l (a : List Int) (ha : (a.length : Int) ≤ 9223372036854775806) : ∀ (d : Nat) (i : Int), 0 ≤ i → i + d = a.length → Tot (fun k => laws_eqIntS.l0 k a a i) true
  | 0, i, h0, h => by
    refine Tot.step (fun k => laws_eqIntS.l0.eq_2 ..) ?_
    exact Tot.no (by omega) (Tot.pure _)
  | d + 1, i, h0, h => by
    refine Tot.step (fun k => laws_eqIntS.l0.eq_2 ..) ?_
    refine Tot.yes (by omega) (Tot.yes h0 (Tot.yes (by omega) (Tot.yes rfl ?_)))
    rw [wrap_in (by omega) (by omega)]
    exact eqInt_l a ha d (i + 1) (by omega) (by omega)
theorem eqInt_v (a : List Int) (ha : (a.length : Int) ≤ 9223372036854775806) : Tot (fun k => laws_eqIntS.f k a a) true := by
  unfold laws_eqIntS.f
  exact Tot.yes rfl (eqInt_l a ha a.length 0 (by omega) (by omega))
/-- m, m + 1, .. in the place of what stands from i on. -/
def marked : List Int → Int → List Int
  | [], _ => []
  | _ :: l, m => m :: marked l (wrap64 (m + 1))
def markEnd : List Int → Int → Int
  | [], m => m
  | _ :: l, m => markEnd l (wrap64 (m + 1))
theorem marked_length : ∀ (l : List Int) (m : Int), (marked l m).length = l.length
  | [], _ => rfl
  | _ :: l, m => by simp [marked, marked_length l]
theorem markEnd_marked : ∀ (l : List Int) (m : Int), markEnd (marked l m) m = markEnd l m
  | [], _ => rfl
  | _ :: l, m => markEnd_marked l _
theorem markInt_l : ∀ (b a : List Int) (m : Int), ((a ++ b).length : Int) ≤ 9223372036854775806 → Tot (fun k => laws_markIntS.l0 k (a ++ b) m a.length) (markEnd b m, a ++ marked b m)
  | [], a, m, h => by
    refine Tot.step (fun k => laws_markIntS.l0.eq_2 ..) ?_
    simp only [List.append_nil, marked, markEnd]
    exact Tot.no (by omega) (Tot.pure _)
  | x :: b, a, m, h => by
    refine Tot.step (fun k => laws_markIntS.l0.eq_2 ..) ?_
    have hl : ((a ++ x :: b).length : Int) = a.length + b.length + 1 := by simp; omega
    refine Tot.yes (by omega) (Tot.yes (by omega) ?_)
    have e : (a ++ x :: b).set ((a.length : Int)).toNat m = (a ++ [m]) ++ b := by simp
    rw [e, wrap_in (x := (a.length : Int) + 1) (by omega) (by omega)]
    have := markInt_l b (a ++ [m]) (wrap64 (m + 1)) (by simp at hl h ⊢; omega)
    simpa [marked, markEnd] using this
theorem markInt_v (a : List Int) (m : Int) (ha : (a.length : Int) ≤ 9223372036854775806) : Tot (fun k => laws_markIntS.f k a m) (markEnd a m, marked a m) := by
  have := markInt_l a [] m (by simpa using ha)
  unfold laws_markIntS.f
  simpa using this
theorem heldInt_l : ∀ (b a : List Int) (m : Int), ((a ++ b).length : Int) ≤ 9223372036854775806 → Tot (fun k => laws_heldIntS.l0 k (a ++ marked b m) m a.length) (markEnd b m)
  | [], a, m, h => by
    refine Tot.step (fun k => laws_heldIntS.l0.eq_2 ..) ?_
    simp only [List.append_nil, marked, markEnd]
    exact Tot.no (by omega) (Tot.pure _)
  | x :: b, a, m, h => by
    refine Tot.step (fun k => laws_heldIntS.l0.eq_2 ..) ?_
    have hl : ((a ++ marked (x :: b) m).length : Int) = a.length + b.length + 1 := by simp [marked, marked_length]; omega
    have h2 : ((a ++ x :: b).length : Int) = a.length + b.length + 1 := by simp; omega
    refine Tot.yes (by omega) (Tot.yes (by omega) (Tot.yes ?_ ?_))
    · rw [rd_at (by omega) (by omega)]
      simp [marked]
    · rw [wrap_in (x := (a.length : Int) + 1) (by omega) (by omega)]
      have := heldInt_l b (a ++ [m]) (wrap64 (m + 1)) (by simp at h2 h ⊢; omega)
      simpa [marked, markEnd] using this
theorem heldInt_v (a : List Int) (m : Int) (ha : (a.length : Int) ≤ 9223372036854775806) : Tot (fun k => laws_heldIntS.f k (marked a m) m) (markEnd a m) := by
  have := heldInt_l a [] m (by simpa using ha)
  unfold laws_heldIntS.f
  simpa using this
theorem markEnd_nonneg : ∀ (l : List Int) (m : Int), 0 ≤ m → m + l.length ≤ 9223372036854775806 → 0 ≤ markEnd l m
  | [], m, h, _ => h
  | _ :: l, m, h, h2 => by
    simp at h2
    unfold markEnd
    rw [wrap_in (by omega) (by omega)]
    exact markEnd_nonneg l _ (by omega) (by omega)

/-- a, a + 1, .. : d of them. -/
def rng : Nat → Int → List Int
  | 0, _ => []
  | d + 1, a => a :: rng d (a + 1)
theorem rng_length : ∀ (d : Nat) (a : Int), (rng d a).length = d
  | 0, _ => rfl
  | d + 1, a => by simp [rng, rng_length d]
theorem run_l (a l : Int) (ha : -1000000 ≤ a ∧ a ≤ 1000000) (hl : l ≤ 1000000) : ∀ (d : Nat) (out : List Int) (i : Int), 0 ≤ i → i + d = l → out.length = i.toNat → Tot (fun k => impl_run.l0 k a out l i) (out ++ rng d (a + i))
  | 0, out, i, h0, h, ho => by
    refine Tot.step (fun k => impl_run.l0.eq_2 ..) ?_
    simp only [rng, List.append_nil]
    exact Tot.no (by omega) (Tot.pure _)
  | d + 1, out, i, h0, h, ho => by
    refine Tot.step (fun k => impl_run.l0.eq_2 ..) ?_
    refine Tot.yes (by omega) (Tot.yes (by omega) ?_)
    rw [wrap_in (x := a + i) (by omega) (by omega), wrap_in (x := i + 1) (by omega) (by omega)]
    have := run_l a l ha hl d (out ++ [a + i]) (i + 1) (by omega) (by omega) (by simp; omega)
    have e : out ++ rng (d + 1) (a + i) = (out ++ [a + i]) ++ rng d (a + (i + 1)) := by simp [rng, Int.add_assoc]
    rw [e]
    exact this
theorem run_v (a l : Int) (ha : -1000000 ≤ a ∧ a ≤ 1000000) (hl : l ≤ 1000000) (h0 : 0 ≤ l) : Tot (fun k => impl_run.f k a l) (rng l.toNat a) := by
  have := run_l a l ha hl l.toNat [] 0 (by omega) (by omega) rfl
  simpa [impl_run.f] using this

theorem specBlocks_l (x a l : Int) (s : ByteArray) (ha : -1000000 ≤ a ∧ a ≤ 1000000) (hl : l ≤ 1000000) : ∀ (d : Nat) (out : List Int) (i : Int), 0 ≤ i → i + d = l → out.length = i.toNat → Tot (fun k => spec_BlocksOf.l0 k out i x a l s) (out ++ rng d (a + i), true)
  | 0, out, i, h0, h, ho => by
    refine Tot.step (fun k => spec_BlocksOf.l0.eq_2 ..) ?_
    simp only [rng, List.append_nil]
    exact Tot.no (by omega) (Tot.pure _)
  | d + 1, out, i, h0, h, ho => by
    refine Tot.step (fun k => spec_BlocksOf.l0.eq_2 ..) ?_
    refine Tot.yes (by omega) (Tot.yes (by omega) ?_)
    rw [wrap_in (x := a + i) (by omega) (by omega), wrap_in (x := i + 1) (by omega) (by omega)]
    have := specBlocks_l x a l s ha hl d (out ++ [a + i]) (i + 1) (by omega) (by omega) (by simp; omega)
    have e : out ++ rng (d + 1) (a + i) = (out ++ [a + i]) ++ rng d (a + (i + 1)) := by simp [rng, Int.add_assoc]
    rw [e]
    exact this
def blocksOf (k a l : Int) (s : ByteArray) : List Int × Bool := if goodR k a l s = true then (rng l.toNat a, true) else ([], false)
theorem goodR_bounds {k a l : Int} {s : ByteArray} (h : goodR k a l s = true) : 0 ≤ a ∧ a ≤ 200 ∧ 0 ≤ l ∧ l ≤ 4 := by
  unfold goodR at h
  split at h
  · have := of_decide_eq_true h; omega
  · split at h
    · have := of_decide_eq_true h; omega
    · split at h
      · have := of_decide_eq_true h; omega
      · cases h
theorem specBlocks_v (k a l : Int) (s : ByteArray) : Tot (fun n => spec_BlocksOf.f n k a l s) (blocksOf k a l s) := by
  unfold spec_BlocksOf.f blocksOf
  simp only [specRecord_v, Option.bind_some]
  by_cases h : goodR k a l s = true
  · have hb := goodR_bounds h
    rw [if_pos h]
    refine Tot.yes h ?_
    have := specBlocks_l k a l s (by omega) (by omega) l.toNat [] 0 (by omega) (by omega) rfl
    simpa using this
  · rw [if_neg h]
    exact Tot.no h (Tot.pure _)
theorem implBlocks_v (k a l : Int) (s : ByteArray) (hl : -9223372036854775808 ≤ l ∧ l ≤ 9223372036854775807) : Tot (fun n => impl_BlocksOf.f n k a l s) (blocksOf k a l s) := by
  unfold impl_BlocksOf.f blocksOf
  simp only [implRecord_v k a l s hl, Option.bind_some]
  by_cases h : goodR k a l s = true
  · have hb := goodR_bounds h
    rw [if_pos h]
    refine Tot.yes h ?_
    exact Tot.bind (run_v a l (by omega) (by omega) (by omega)) (Tot.pure _)
  · rw [if_neg h]
    exact Tot.no h (Tot.pure _)
theorem blocks_short (k a l : Int) (s : ByteArray) : ((blocksOf k a l s).1.length : Int) ≤ 1000 := by
  unfold blocksOf
  split
  · rename_i h
    have := goodR_bounds h
    simp only [rng_length]; omega
  · simp
theorem FnExactBlocksOf : laws_FnExactBlocksOf.Pure := by
  intro k a l s hk ha hl hs
  have hsh := blocks_short k a l s
  refine Tot.at_ ?_
  unfold laws_FnExactBlocksOf.f laws_szRecord.f laws_toRecord.f
  rw [wrap_in (by omega) (by omega)]
  by_cases hz : (1048576 : Int) - (s.size : Int) < 0
  · simp only [if_pos hz, Option.bind_some]
    exact Tot.yes (by omega) (Tot.pure _)
  · simp only [if_neg hz, Option.bind_some]
    refine Tot.bind (specBlocks_v k a l s) ?_
    refine Tot.bind (implBlocks_v k a l s (wf_in hl)) ?_
    refine Tot.bind (eqInt_v _ (by omega)) ?_
    refine Tot.yes rfl ?_
    refine Tot.step (fun k => laws_FnExactBlocksOf.j0.eq_2 ..) ?_
    refine Tot.no (by simp) ?_
    refine Tot.bind (markInt_v _ _ (by omega)) ?_
    refine Tot.bind (heldInt_v _ _ (by omega)) ?_
    have hn := markEnd_nonneg (blocksOf k a l s).1 1 (by omega) (by omega)
    refine Tot.no (by omega) (Tot.yes rfl ?_)
    unfold laws_toRecord.f
    refine Tot.some_bind ?_
    refine Tot.bind (implBlocks_v k a l s (wf_in hl)) ?_
    refine Tot.bind (eqInt_v _ (by omega)) ?_
    refine Tot.yes rfl ?_
    refine Tot.step (fun k => laws_FnExactBlocksOf.j1.eq_2 ..) ?_
    refine Tot.no (by simp) ?_
    refine Tot.bind (heldInt_v _ _ (by omega)) ?_
    exact Tot.no (by omega) (Tot.yes rfl (Tot.pure _))

end Go.Proofs.Ytknngaomlfdhiaa.Pure

/- The plain law behind FnExactWaitsOf: what the two sides compute is the same, for every input. No condition. -/
import Derived.Test.YtdjekgeoaekplaaPFnExactWaitsOfx3
set_option linter.unusedVariables false
set_option linter.unusedSimpArgs false
namespace Go.Proofs.Ytdjekgeoaekplaa.Pure
open Go.RowKit Go.Proofs.Ytdjekgeoaekplaa.PFnExactWaitsOf Go.Proofs.YtdjekgeoaekplaaW.PrintWords Go.Proofs.YtdjekgeoaekplaaW.PrintLast Go.Proofs.YtdjekgeoaekplaaW.PrintMore

theorem wrap_in {x : Int} (h0 : -9223372036854775808 ≤ x) (h1 : x ≤ 9223372036854775807) : wrap64 x = x := by unfold wrap64; omega
theorem wf_in {x : Int} (h : (Lit.int .i64 x).wf = true) : -9223372036854775808 ≤ x ∧ x ≤ 9223372036854775807 := by
  simp only [Lit.wf, IntKind.min, IntKind.max, IntKind.bits, IntKind.signed, Bool.and_eq_true, decide_eq_true_eq] at h
  exact ⟨by have := h.1; simpa using this, by have := h.2; simpa using this⟩
theorem toList_nil (s : ByteArray) : (s.toList == ([] : List UInt8)) = decide (s.size = 0) := by
  rw [Bool.eq_iff_iff]
  simp only [beq_iff_eq, decide_eq_true_eq, ByteArray.toList_eq]
  constructor
  · intro h
    have h2 : s.data.toList.length = 0 := by rw [h]; rfl
    rw [Array.length_toList] at h2
    exact h2
  · intro h
    have h2 : s.data.toList.length = 0 := by rw [Array.length_toList]; exact h
    exact List.eq_nil_of_length_eq_zero h2

/-- From some number of rounds on the answer is r. -/
def Tot {α : Type} (g : Nat → Option α) (r : α) : Prop := ∃ K, ∀ k, K ≤ k → g k = some r
theorem Tot.at_ {α : Type} {g : Nat → Option α} {r : α} (h : Tot g r) : ∃ k, g k = some r := by
  obtain ⟨K, hK⟩ := h
  exact ⟨K, hK K (Nat.le_refl _)⟩
theorem Tot.pure {α : Type} (r : α) : Tot (fun _ => some r) r := ⟨0, fun _ _ => rfl⟩
theorem Tot.of_eq {α : Type} {g : Nat → Option α} {r : α} (h : ∀ k, g k = some r) : Tot g r := ⟨0, fun k _ => h k⟩
theorem Tot.congr {α : Type} {g g' : Nat → Option α} {r : α} (he : ∀ k, g k = g' k) (h : Tot g' r) : Tot g r := by
  obtain ⟨K, hK⟩ := h
  exact ⟨K, fun k hk => (he k).trans (hK k hk)⟩
theorem Tot.bind {α β : Type} {g : Nat → Option α} {h : Nat → α → Option β} {a : α} {r : β} (hg : Tot g a) (hh : Tot (fun k => h k a) r) : Tot (fun k => (g k).bind (h k)) r := by
  obtain ⟨K, hK⟩ := hg
  obtain ⟨L, hL⟩ := hh
  refine ⟨max K L, fun k hk => ?_⟩
  show (g k).bind (h k) = some r
  rw [hK k (by omega)]
  exact hL k (by omega)
theorem Tot.step {α : Type} {F G : Nat → Option α} {r : α} (hF : ∀ k, F (k + 1) = G k) (h : Tot G r) : Tot F r := by
  obtain ⟨K, hK⟩ := h
  refine ⟨K + 1, fun k hk => ?_⟩
  obtain ⟨m, rfl⟩ : ∃ m, k = m + 1 := ⟨k - 1, by omega⟩
  rw [hF]
  exact hK m (by omega)
theorem Tot.yes {α : Type} {p : Prop} [Decidable p] {g h : Nat → Option α} {r : α} (hp : p) (hg : Tot g r) : Tot (fun k => if p then g k else h k) r := by
  simpa only [if_pos hp] using hg
theorem Tot.no {α : Type} {p : Prop} [Decidable p] {g h : Nat → Option α} {r : α} (hp : ¬ p) (hg : Tot h r) : Tot (fun k => if p then g k else h k) r := by
  simpa only [if_neg hp] using hg
theorem Tot.some_bind {α β : Type} {h : Nat → α → Option β} {a : α} {r : β} (hh : Tot (fun k => h k a) r) : Tot (fun k => (some a).bind (h k)) r := hh

theorem in_v (a b c : Int) : spec_l1In.f a b c = some (decide (b ≤ a ∧ a ≤ c)) := by
  unfold spec_l1In.f
  by_cases h : a ≥ b
  · rw [if_pos h]; congr 1; rw [decide_eq_decide]; omega
  · rw [if_neg h]; congr 1; symm; rw [decide_eq_false_iff_not]; omega

theorem within_v (a b c : Int) : impl_within.f a b c = some (decide (b ≤ a ∧ a ≤ c)) := by
  unfold impl_within.f
  by_cases h : b ≤ a
  · rw [if_pos h]; congr 1; rw [decide_eq_decide]; omega
  · rw [if_neg h]; congr 1; symm; rw [decide_eq_false_iff_not]; omega


theorem all_l (lo hi : Int) : ∀ (b a : List Int), ((a ++ b).length : Int) ≤ 9223372036850000000 → Tot (fun k => spec_l1All.l0 k lo hi (a ++ b) ((a ++ b).length : Int) a.length) (b.all fun x => decide (lo ≤ x ∧ x ≤ hi))
  | [], a, h => by
    refine Tot.step (fun k => spec_l1All.l0.eq_2 ..) ?_
    exact Tot.no (by simp) (Tot.pure _)
  | x :: b, a, h => by
    have hl : ((a ++ x :: b).length : Int) = a.length + b.length + 1 := by simp; omega
    have hr : rd (a ++ x :: b) (a.length : Int) = x := by simp [rd, List.getD]
    refine Tot.step (fun k => spec_l1All.l0.eq_2 ..) (Tot.yes (by omega) (Tot.yes (by omega) (Tot.yes (by omega) ?_)))
    rw [hr, wrap_in (x := (a.length : Int) + 1) (by omega) (by omega)]
    simp only [in_v, Option.bind_some, List.all_cons]
    by_cases hx : lo ≤ x ∧ x ≤ hi
    · rw [decide_eq_true hx, Bool.true_and]
      refine Tot.yes rfl ?_
      have := all_l lo hi b (a ++ [x]) (by simp at hl h ⊢; omega)
      simpa using this
    · rw [decide_eq_false hx, Bool.false_and]
      exact Tot.no (by decide) (Tot.pure _)
theorem all_v (l : List Int) (lo hi : Int) (h : (l.length : Int) ≤ 9223372036850000000) : Tot (fun k => spec_l1All.f k l lo hi) (l.all fun x => decide (lo ≤ x ∧ x ≤ hi)) := by
  have := all_l lo hi l [] (by simpa using h)
  unfold spec_l1All.f
  simpa using this
def asksB (l : List Int) : Bool := decide ((l.length : Int) ≤ 8) && l.all isTrackB
theorem specAsks_v (l : List Int) (h : (l.length : Int) ≤ 9223372036850000000) : Tot (fun k => spec_GoodAsks.f k l) (asksB l) := by
  unfold spec_GoodAsks.f asksB
  by_cases hl : (l.length : Int) ≤ 8
  · rw [decide_eq_true hl, Bool.true_and]
    exact Tot.yes hl (Tot.bind (all_v l 0 200 h) (Tot.pure _))
  · rw [decide_eq_false hl, Bool.false_and]
    exact Tot.no hl (Tot.pure _)
theorem implAsks_v (l : List Int) : impl_GoodAsks.f l = some (asksB l) := rfl
theorem asksB_iff (l : List Int) : asksB l = true ↔ ((l.length : Int) ≤ 8 ∧ ∀ x ∈ l, 0 ≤ x ∧ x ≤ 200) := by
  simp [asksB, isTrackB]

def areAsksB (s : Int) (l : List Int) : Bool := isTrackB s && asksB l
theorem specGood_v (s : Int) (l : List Int) (h : (l.length : Int) ≤ 9223372036850000000) : Tot (fun k => spec_l8Good.f k s l) (areAsksB s l) := by
  unfold spec_l8Good.f spec_l8Track.f areAsksB
  simp only [in_v, Option.bind_some]
  by_cases hs : 0 ≤ s ∧ s ≤ 200
  · have e : isTrackB s = true := decide_eq_true hs
    rw [e, Bool.true_and]
    exact Tot.yes (decide_eq_true hs) (Tot.bind (specAsks_v l h) (Tot.pure _))
  · have e : isTrackB s = false := decide_eq_false hs
    rw [e, Bool.false_and]
    exact Tot.no (by simp [hs]) (Tot.pure _)
theorem implAre_v (s : Int) (l : List Int) : impl_areAsks.f s l = some (areAsksB s l) := by
  unfold impl_areAsks.f areAsksB
  rw [isTrackB_v, Option.bind_some]
  cases isTrackB s <;> simp [implAsks_v]
theorem areAsksB_iff (s : Int) (l : List Int) : areAsksB s l = true ↔ ((0 ≤ s ∧ s ≤ 200) ∧ (l.length : Int) ≤ 8 ∧ ∀ x ∈ l, 0 ≤ x ∧ x ≤ 200) := by
  rw [← asksB_iff]
  simp [areAsksB, isTrackB]
/-- From one track to another. -/
def way (a b : Int) : Int := if a < b then b - a else a - b
theorem way_nonneg (a b : Int) : 0 ≤ way a b := by unfold way; split <;> omega
theorem way_le (a b : Int) (ha : 0 ≤ a ∧ a ≤ 200) (hb : 0 ≤ b ∧ b ≤ 200) : way a b ≤ 200 := by unfold way; split <;> omega
def travelL : Int → List Int → Int
  | _, [] => 0
  | s, t :: l => way s t + travelL t l
def waitsL : Int → Int → List Int → List Int
  | _, _, [] => []
  | acc, s, t :: l => (acc + way s t) :: waitsL (acc + way s t) t l
theorem waitsL_length : ∀ (l : List Int) (acc s : Int), (waitsL acc s l).length = l.length
  | [], _, _ => rfl
  | t :: l, acc, s => by simp [waitsL, waitsL_length l]
theorem travelL_nonneg : ∀ (l : List Int) (s : Int), 0 ≤ travelL s l
  | [], _ => by simp [travelL]
  | t :: l, s => by have := travelL_nonneg l t; have := way_nonneg s t; simp [travelL]; omega

theorem apart_v (a b : Int) (ha : 0 ≤ a ∧ a ≤ 200) (hb : 0 ≤ b ∧ b ≤ 200) : impl_apart.f a b = some (way a b) := by
  unfold impl_apart.f way
  rw [wrap_in (x := a - b) (by omega) (by omega), wrap_in (x := b - a) (by omega) (by omega)]
  congr 1
  unfold mx
  split <;> split <;> omega
theorem waits_l : ∀ (b a out : List Int) (s acc : Int), (0 ≤ s ∧ s ≤ 200) → (∀ x ∈ b, 0 ≤ x ∧ x ≤ 200) → 0 ≤ acc → acc + 200 * b.length ≤ 1000000 → ((a ++ b).length : Int) ≤ 1000 → out.length = a.length →
    Tot (fun k => impl_waits.l0 k s out acc (a ++ b) ((a ++ b).length : Int) a.length) (out ++ waitsL acc s b)
  | [], a, out, s, acc, hs, hb, h0, h1, hl, ho => by
    refine Tot.step (fun k => impl_waits.l0.eq_2 ..) ?_
    simp only [waitsL, List.append_nil]
    exact Tot.no (by omega) (Tot.pure _)
  | x :: b, a, out, s, acc, hs, hb, h0, h1, hl, ho => by
    have hll : ((a ++ x :: b).length : Int) = a.length + b.length + 1 := by simp; omega
    have hr : rd (a ++ x :: b) (a.length : Int) = x := by simp [rd, List.getD]
    have hx := hb x (by simp)
    have hw := way_le s x hs hx
    have hw0 := way_nonneg s x
    simp only [List.length_cons] at h1
    refine Tot.step (fun k => impl_waits.l0.eq_2 ..) (Tot.yes (by omega) (Tot.yes (by omega) (Tot.yes (by omega) ?_)))
    rw [hr, wrap_in (x := (a.length : Int) + 1) (by omega) (by omega)]
    simp only [apart_v s x hs hx, Option.bind_some]
    rw [wrap_in (x := acc + way s x) (by omega) (by omega)]
    refine Tot.yes (by omega) ?_
    have := waits_l b (a ++ [x]) (out ++ [acc + way s x]) x (acc + way s x) hx (fun y hy => hb y (by simp [hy])) (by omega) (by omega) (by simp at hll hl ⊢; omega) (by simp [ho])
    have e : out ++ waitsL acc s (x :: b) = (out ++ [acc + way s x]) ++ waitsL (acc + way s x) x b := by simp [waitsL]
    rw [e]
    simpa using this
theorem waits_v (s : Int) (l : List Int) (hs : 0 ≤ s ∧ s ≤ 200) (hl : (l.length : Int) ≤ 8) (hb : ∀ x ∈ l, 0 ≤ x ∧ x ≤ 200) : Tot (fun k => impl_waits.f k s l) (waitsL 0 s l) := by
  have := waits_l l [] [] s 0 hs hb (by omega) (by omega) (by simp; omega) rfl
  unfold impl_waits.f
  simpa using this

theorem way_v (a b : Int) (ha : 0 ≤ a ∧ a ≤ 200) (hb : 0 ≤ b ∧ b ≤ 200) : spec_l8Way.f a b = some (way a b) := by
  unfold spec_l8Way.f way
  rw [wrap_in (x := a - b) (by omega) (by omega), wrap_in (x := b - a) (by omega) (by omega)]
  split <;> rfl
theorem specTravel_l : ∀ (b a : List Int) (s acc : Int), (0 ≤ s ∧ s ≤ 200) → (∀ x ∈ b, 0 ≤ x ∧ x ≤ 200) → 0 ≤ acc → acc + 200 * b.length ≤ 1000000 → ((a ++ b).length : Int) ≤ 1000 →
    Tot (fun k => spec_l8Travel.l0 k s acc (a ++ b) ((a ++ b).length : Int) a.length) (acc + travelL s b)
  | [], a, s, acc, hs, hb, h0, h1, hl => by
    refine Tot.step (fun k => spec_l8Travel.l0.eq_2 ..) ?_
    simp only [travelL, Int.add_zero]
    exact Tot.no (by simp) (Tot.pure _)
  | x :: b, a, s, acc, hs, hb, h0, h1, hl => by
    have hll : ((a ++ x :: b).length : Int) = a.length + b.length + 1 := by simp; omega
    have hr : rd (a ++ x :: b) (a.length : Int) = x := by simp [rd, List.getD]
    have hx := hb x (by simp)
    have hw := way_le s x hs hx
    have hw0 := way_nonneg s x
    simp only [List.length_cons] at h1
    refine Tot.step (fun k => spec_l8Travel.l0.eq_2 ..) (Tot.yes (by omega) (Tot.yes (by omega) (Tot.yes (by omega) ?_)))
    rw [hr, wrap_in (x := (a.length : Int) + 1) (by omega) (by omega)]
    simp only [way_v s x hs hx, Option.bind_some]
    rw [wrap_in (x := acc + way s x) (by omega) (by omega)]
    have := specTravel_l b (a ++ [x]) x (acc + way s x) hx (fun y hy => hb y (by simp [hy])) (by omega) (by omega) (by simp at hll hl ⊢; omega)
    have e : acc + travelL s (x :: b) = acc + way s x + travelL x b := by simp [travelL]; omega
    rw [e]
    simpa using this
theorem specTravel_v (s : Int) (l : List Int) (hs : 0 ≤ s ∧ s ≤ 200) (hl : (l.length : Int) ≤ 8) (hb : ∀ x ∈ l, 0 ≤ x ∧ x ≤ 200) : Tot (fun k => spec_l8Travel.f k s l) (travelL s l) := by
  have := specTravel_l l [] s 0 hs hb (by omega) (by omega) (by simp; omega)
  unfold spec_l8Travel.f
  simpa using this
theorem waitsL_snoc : ∀ (l : List Int) (acc s t : Int), waitsL acc s (l ++ [t]) = waitsL acc s l ++ [acc + travelL s (l ++ [t])]
  | [], acc, s, t => by simp [waitsL, travelL]
  | x :: l, acc, s, t => by
    simp only [List.cons_append, waitsL, travelL, waitsL_snoc l]
    simp [Int.add_assoc]

theorem rd_at {l : List Int} {i : Int} (h0 : 0 ≤ i) (h1 : i < (l.length : Int)) : rd l i = l[i.toNat]'(by omega) := by
  unfold rd
  rw [List.getD_eq_getElem?_getD, List.getElem?_eq_getElem (by omega : i.toNat < l.length)]
  rfl
theorem eqInt_l (a : List Int) (ha : (a.length : Int) ≤ 9223372036854775806) : ∀ (d : Nat) (i : Int), 0 ≤ i → i + d = a.length → Tot (fun k => laws_eqIntS.l0 k a a i) true
  | 0, i, h0, h => by
    refine Tot.step (fun k => laws_eqIntS.l0.eq_2 ..) ?_
    exact Tot.no (by omega) (Tot.pure _)
  | d + 1, i, h0, h => by
    refine Tot.step (fun k => laws_eqIntS.l0.eq_2 ..) ?_
    refine Tot.yes (by omega) (Tot.yes h0 (Tot.yes (by omega) (Tot.yes rfl ?_)))
    rw [wrap_in (by omega) (by omega)]
    exact eqInt_l a ha d (i + 1) (by omega) (by omega)
theorem eqInt_v (a : List Int) (ha : (a.length : Int) ≤ 9223372036854775806) : Tot (fun k => laws_eqIntS.f k a a) true := by
  unfold laws_eqIntS.f
  exact Tot.yes rfl (eqInt_l a ha a.length 0 (by omega) (by omega))

/-- m, m + 1, .. in the place of what stands from i on. -/
def marked : List Int → Int → List Int
  | [], _ => []
  | _ :: l, m => m :: marked l (wrap64 (m + 1))
def markEnd : List Int → Int → Int
  | [], m => m
  | _ :: l, m => markEnd l (wrap64 (m + 1))
theorem marked_length : ∀ (l : List Int) (m : Int), (marked l m).length = l.length
  | [], _ => rfl
  | _ :: l, m => by simp [marked, marked_length l]
theorem markEnd_marked : ∀ (l : List Int) (m : Int), markEnd (marked l m) m = markEnd l m
  | [], _ => rfl
  | _ :: l, m => markEnd_marked l _
theorem markInt_l : ∀ (b a : List Int) (m : Int), ((a ++ b).length : Int) ≤ 9223372036854775806 → Tot (fun k => laws_markIntS.l0 k (a ++ b) m a.length) (markEnd b m, a ++ marked b m)
  | [], a, m, h => by
    refine Tot.step (fun k => laws_markIntS.l0.eq_2 ..) ?_
    simp only [List.append_nil, marked, markEnd]
    exact Tot.no (by omega) (Tot.pure _)
  | x :: b, a, m, h => by
    refine Tot.step (fun k => laws_markIntS.l0.eq_2 ..) ?_
    have hl : ((a ++ x :: b).length : Int) = a.length + b.length + 1 := by simp; omega
    refine Tot.yes (by omega) (Tot.yes (by omega) ?_)
    have e : (a ++ x :: b).set ((a.length : Int)).toNat m = (a ++ [m]) ++ b := by simp
    rw [e, wrap_in (x := (a.length : Int) + 1) (by omega) (by omega)]
    have := markInt_l b (a ++ [m]) (wrap64 (m + 1)) (by simp at hl h ⊢; omega)
    simpa [marked, markEnd] using this
theorem markInt_v (a : List Int) (m : Int) (ha : (a.length : Int) ≤ 9223372036854775806) : Tot (fun k => laws_markIntS.f k a m) (markEnd a m, marked a m) := by
  have := markInt_l a [] m (by simpa using ha)
  unfold laws_markIntS.f
  simpa using this
theorem heldInt_l : ∀ (b a : List Int) (m : Int), ((a ++ b).length : Int) ≤ 9223372036854775806 → Tot (fun k => laws_heldIntS.l0 k (a ++ marked b m) m a.length) (markEnd b m)
  | [], a, m, h => by
    refine Tot.step (fun k => laws_heldIntS.l0.eq_2 ..) ?_
    simp only [List.append_nil, marked, markEnd]
    exact Tot.no (by omega) (Tot.pure _)
  | x :: b, a, m, h => by
    refine Tot.step (fun k => laws_heldIntS.l0.eq_2 ..) ?_
    have hl : ((a ++ marked (x :: b) m).length : Int) = a.length + b.length + 1 := by simp [marked, marked_length]; omega
    have h2 : ((a ++ x :: b).length : Int) = a.length + b.length + 1 := by simp; omega
    refine Tot.yes (by omega) (Tot.yes (by omega) (Tot.yes ?_ ?_))
    · rw [rd_at (by omega) (by omega)]
      simp [marked]
    · rw [wrap_in (x := (a.length : Int) + 1) (by omega) (by omega)]
      have := heldInt_l b (a ++ [m]) (wrap64 (m + 1)) (by simp at h2 h ⊢; omega)
      simpa [marked, markEnd] using this
theorem heldInt_v (a : List Int) (m : Int) (ha : (a.length : Int) ≤ 9223372036854775806) : Tot (fun k => laws_heldIntS.f k (marked a m) m) (markEnd a m) := by
  have := heldInt_l a [] m (by simpa using ha)
  unfold laws_heldIntS.f
  simpa using this
theorem markEnd_nonneg : ∀ (l : List Int) (m : Int), 0 ≤ m → m + l.length ≤ 9223372036854775806 → 0 ≤ markEnd l m
  | [], m, h, _ => h
  | _ :: l, m, h, h2 => by
    simp at h2
    unfold markEnd
    rw [wrap_in (by omega) (by omega)]
    exact markEnd_nonneg l _ (by omega) (by omega)


theorem rdInt_at (a b : List Int) (x : Int) : (rd (a ++ x :: b) (a.length : Int)) = x := by simp [rd, List.getD]
theorem toInt_l : ∀ (b a : List Int), ((a ++ b).length : Int) ≤ 9223372036854775806 → Tot (fun k => laws_toIntS.l0 k (a ++ b) (a ++ List.replicate b.length 0) a.length) (a ++ b)
  | [], a, h => by
    refine Tot.step (fun k => laws_toIntS.l0.eq_2 ..) ?_
    simp only [List.append_nil, List.length_nil, List.replicate_zero]
    exact Tot.no (by omega) (Tot.pure _)
  | x :: b, a, h => by
    refine Tot.step (fun k => laws_toIntS.l0.eq_2 ..) ?_
    have hl : ((a ++ x :: b).length : Int) = a.length + b.length + 1 := by simp; omega
    have hl2 : ((a ++ List.replicate (x :: b).length 0).length : Int) = a.length + b.length + 1 := by simp; omega
    refine Tot.yes (by omega) (Tot.yes (by omega) (Tot.yes (by omega) ?_))
    rw [rdInt_at, wrap_in (x := (a.length : Int) + 1) (by omega) (by omega)]
    have e : (a ++ List.replicate (x :: b).length 0).set ((a.length : Int)).toNat x = (a ++ [x]) ++ List.replicate b.length 0 := by simp [List.replicate_succ]
    rw [e]
    have := toInt_l b (a ++ [x]) (by simp at hl h ⊢; omega)
    simpa using this
theorem toInt_v (l : List Int) (h : (l.length : Int) ≤ 1048576) : Tot (fun k => laws_toIntS.f k l) l := by
  unfold laws_toIntS.f
  refine Tot.yes (by omega) (Tot.yes (by omega) ?_)
  have := toInt_l l [] (by simp; omega)
  simpa using this
def waitsR (s : Int) (l : List Int) : List Int × Bool := if areAsksB s l = true then (waitsL 0 s l, true) else ([], false)
theorem waitsR_short (s : Int) (l : List Int) : ((waitsR s l).1.length : Int) ≤ 1000 := by
  unfold waitsR
  split
  · rename_i h
    have := (areAsksB_iff s l).1 h
    simp only [waitsL_length]
    omega
  · simp
theorem specWaits_l (s : Int) (hs : 0 ≤ s ∧ s ≤ 200) : ∀ (b a : List Int), ((a ++ b).length : Int) ≤ 8 → (∀ x ∈ a ++ b, 0 ≤ x ∧ x ≤ 200) → Tot (fun k => spec_WaitsOf.l0 k s (a ++ b) (waitsL 0 s a) ((a ++ b).length : Int) a.length) (waitsL 0 s (a ++ b), true)
  | [], a, hl, hb => by
    refine Tot.step (fun k => spec_WaitsOf.l0.eq_2 ..) ?_
    simp only [List.append_nil]
    exact Tot.no (by omega) (Tot.pure _)
  | x :: b, a, hl, hb => by
    have hll : ((a ++ x :: b).length : Int) = a.length + b.length + 1 := by simp; omega
    refine Tot.step (fun k => spec_WaitsOf.l0.eq_2 ..) (Tot.yes (by omega) ?_)
    rw [wrap_in (x := (a.length : Int) + 1) (by omega) (by omega)]
    refine Tot.yes (by omega) (Tot.yes (by omega) ?_)
    have e : (a ++ x :: b).take ((a.length : Int) + 1).toNat = a ++ [x] := by
      rw [show ((a.length : Int) + 1).toNat = (a ++ [x]).length by simp, show a ++ x :: b = (a ++ [x]) ++ b by simp, List.take_left']
      rfl
    rw [e]
    have hl1 : ((a ++ [x]).length : Int) = a.length + 1 := by simp
    refine Tot.bind (specTravel_v s (a ++ [x]) hs (by omega) (fun y hy => hb y (by rcases List.mem_append.1 hy with h | h; simp [h]; simp at h; simp [h]))) ?_
    refine Tot.yes (by rw [waitsL_length]; omega) ?_
    have := specWaits_l s hs b (a ++ [x]) (by simpa using hl) (by simpa using hb)
    rw [waitsL_snoc] at this
    simpa using this
theorem specWaitsOf_v (s : Int) (l : List Int) (h : (l.length : Int) ≤ 1048576) : Tot (fun k => spec_WaitsOf.f k s l) (waitsR s l) := by
  unfold spec_WaitsOf.f waitsR
  refine Tot.bind (specGood_v s l (by omega)) ?_
  by_cases hg : areAsksB s l = true
  · obtain ⟨h1, h2, h3⟩ := (areAsksB_iff s l).1 hg
    rw [if_pos hg]
    exact Tot.yes hg (specWaits_l s h1 l [] (by simpa using h2) (by simpa using h3))
  · rw [if_neg hg]
    exact Tot.no hg (Tot.pure _)
theorem implWaitsOf_v (s : Int) (l : List Int) : Tot (fun k => impl_WaitsOf.f k s l) (waitsR s l) := by
  unfold impl_WaitsOf.f waitsR
  simp only [implAre_v, Option.bind_some]
  by_cases hg : areAsksB s l = true
  · obtain ⟨h1, h2, h3⟩ := (areAsksB_iff s l).1 hg
    rw [if_pos hg]
    exact Tot.yes hg (Tot.bind (waits_v s l h1 h2 h3) (Tot.pure _))
  · rw [if_neg hg]
    exact Tot.no hg (Tot.pure _)
theorem FnExactWaitsOf : laws_FnExactWaitsOf.Pure := by
  intro s l hs hl h8 hx
  have hsh := waitsR_short s l
  have hn := markEnd_nonneg (waitsR s l).1 1 (by omega) (by omega)
  refine Tot.at_ ?_
  unfold laws_FnExactWaitsOf.f
  by_cases hz : (l.length : Int) > 1048576
  · exact Tot.yes hz (Tot.pure _)
  · have hn2 := markEnd_nonneg l 1 (by omega) (by omega)
    refine Tot.no hz (Tot.bind (toInt_v l (by omega)) (Tot.bind (specWaitsOf_v s l (by omega)) (Tot.bind (toInt_v l (by omega)) (Tot.bind (implWaitsOf_v s l) (Tot.bind (eqInt_v _ (by omega)) (Tot.yes rfl ?_))))))
    refine Tot.step (fun k => laws_FnExactWaitsOf.j0.eq_2 ..) (Tot.no (by simp) ?_)
    refine Tot.bind (toInt_v l (by omega)) (Tot.bind (eqInt_v l (by omega)) (Tot.yes rfl (Tot.bind (markInt_v l 1 (by omega)) ?_)))
    refine Tot.no (by omega) (Tot.bind (eqInt_v _ (by omega)) (Tot.yes rfl ?_))
    refine Tot.step (fun k => laws_FnExactWaitsOf.j1.eq_2 ..) (Tot.no (by simp) ?_)
    refine Tot.bind (markInt_v _ 1 (by omega)) (Tot.bind (heldInt_v _ 1 (by omega)) (Tot.no (by omega) (Tot.yes rfl ?_)))
    refine Tot.bind (toInt_v l (by omega)) (Tot.bind (implWaitsOf_v s l) (Tot.bind (eqInt_v _ (by omega)) (Tot.yes rfl ?_)))
    refine Tot.step (fun k => laws_FnExactWaitsOf.j2.eq_2 ..) (Tot.no (by simp) ?_)
    exact Tot.bind (heldInt_v _ 1 (by omega)) (Tot.no (by omega) (Tot.yes rfl (Tot.pure _)))

end Go.Proofs.Ytdjekgeoaekplaa.Pure

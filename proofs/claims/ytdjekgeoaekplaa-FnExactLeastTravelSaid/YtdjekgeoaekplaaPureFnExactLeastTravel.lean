/- The plain law behind FnExactLeastTravel: what the two sides compute is the same, for every input. No condition. -/
import Derived.Test.YtdjekgeoaekplaaPFnExactLeastTravelx3
set_option linter.unusedVariables false
set_option linter.unusedSimpArgs false
namespace Go.Proofs.Ytdjekgeoaekplaa.Pure
open Go.RowKit Go.Proofs.Ytdjekgeoaekplaa.PFnExactLeastTravel Go.Proofs.YtdjekgeoaekplaaW.PrintWords Go.Proofs.YtdjekgeoaekplaaW.PrintLast Go.Proofs.YtdjekgeoaekplaaW.PrintMore

theorem wrap_in {x : Int} (h0 : -9223372036854775808 ≤ x) (h1 : x ≤ 9223372036854775807) : wrap64 x = x := by unfold wrap64; omega
theorem wf_in {x : Int} (h : (Lit.int .i64 x).wf = true) : -9223372036854775808 ≤ x ∧ x ≤ 9223372036854775807 := by
  simp only [Lit.wf, IntKind.min, IntKind.max, IntKind.bits, IntKind.signed, Bool.and_eq_true, decide_eq_true_eq] at h
  exact ⟨by have := h.1; simpa using this, by have := h.2; simpa using this⟩
theorem toList_nil (s : ByteArray) : (s.toList == ([] : List UInt8)) = decide (s.size = 0) := by
  rw [Bool.eq_iff_iff]
  simp only [beq_iff_eq, decide_eq_true_eq, ByteArray.toList_eq]
  constructor
  · intro h
    have h2 : s.data.toList.length = 0 := by rw [h]; rfl
    rw [Array.length_toList] at h2
    exact h2
  · intro h
    have h2 : s.data.toList.length = 0 := by rw [Array.length_toList]; exact h
    exact List.eq_nil_of_length_eq_zero h2

theorem in_v (a b c : Int) : spec_l1In.f a b c = some (decide (b ≤ a ∧ a ≤ c)) := by
  unfold spec_l1In.f
  by_cases h : a ≥ b
  · rw [if_pos h]; congr 1; rw [decide_eq_decide]; omega
  · rw [if_neg h]; congr 1; symm; rw [decide_eq_false_iff_not]; omega

theorem within_v (a b c : Int) : impl_within.f a b c = some (decide (b ≤ a ∧ a ≤ c)) := by
  unfold impl_within.f
  by_cases h : b ≤ a
  · rw [if_pos h]; congr 1; rw [decide_eq_decide]; omega
  · rw [if_neg h]; congr 1; symm; rw [decide_eq_false_iff_not]; omega


/-- From some number of rounds on the answer is r. -/
def Tot {α : Type} (g : Nat → Option α) (r : α) : Prop := ∃ K, ∀ k, K ≤ k → g k = some r
theorem Tot.at_ {α : Type} {g : Nat → Option α} {r : α} (h : Tot g r) : ∃ k, g k = some r := by
  obtain ⟨K, hK⟩ := h
  exact ⟨K, hK K (Nat.le_refl _)⟩
theorem Tot.pure {α : Type} (r : α) : Tot (fun _ => some r) r := ⟨0, fun _ _ => rfl⟩
theorem Tot.of_eq {α : Type} {g : Nat → Option α} {r : α} (h : ∀ k, g k = some r) : Tot g r := ⟨0, fun k _ => h k⟩
theorem Tot.congr {α : Type} {g g' : Nat → Option α} {r : α} (he : ∀ k, g k = g' k) (h : Tot g' r) : Tot g r := by
  obtain ⟨K, hK⟩ := h
  exact ⟨K, fun k hk => (he k).trans (hK k hk)⟩
theorem Tot.bind {α β : Type} {g : Nat → Option α} {h : Nat → α → Option β} {a : α} {r : β} (hg : Tot g a) (hh : Tot (fun k => h k a) r) : Tot (fun k => (g k).bind (h k)) r := by
  obtain ⟨K, hK⟩ := hg
  obtain ⟨L, hL⟩ := hh
  refine ⟨max K L, fun k hk => ?_⟩
  show (g k).bind (h k) = some r
  rw [hK k (by omega)]
  exact hL k (by omega)
theorem Tot.step {α : Type} {F G : Nat → Option α} {r : α} (hF : ∀ k, F (k + 1) = G k) (h : Tot G r) : Tot F r := by
  obtain ⟨K, hK⟩ := h
  refine ⟨K + 1, fun k hk => ?_⟩
  obtain ⟨m, rfl⟩ : ∃ m, k = m + 1 := ⟨k - 1, by omega⟩
  rw [hF]
  exact hK m (by omega)
theorem Tot.yes {α : Type} {p : Prop} [Decidable p] {g h : Nat → Option α} {r : α} (hp : p) (hg : Tot g r) : Tot (fun k => if p then g k else h k) r := by
  simpa only [if_pos hp] using hg
theorem Tot.no {α : Type} {p : Prop} [Decidable p] {g h : Nat → Option α} {r : α} (hp : ¬ p) (hg : Tot h r) : Tot (fun k => if p then g k else h k) r := by
  simpa only [if_neg hp] using hg
theorem Tot.some_bind {α β : Type} {h : Nat → α → Option β} {a : α} {r : β} (hh : Tot (fun k => h k a) r) : Tot (fun k => (some a).bind (h k)) r := hh

theorem all_l (lo hi : Int) : ∀ (b a : List Int), ((a ++ b).length : Int) ≤ 9223372036850000000 → Tot (fun k => spec_l1All.l0 k lo hi (a ++ b) ((a ++ b).length : Int) a.length) (b.all fun x => decide (lo ≤ x ∧ x ≤ hi))
  | [], a, h => by
    refine Tot.step (fun k => spec_l1All.l0.eq_2 ..) ?_
    exact Tot.no (by simp) (Tot.pure _)
  | x :: b, a, h => by
    have hl : ((a ++ x :: b).length : Int) = a.length + b.length + 1 := by simp; omega
    have hr : rd (a ++ x :: b) (a.length : Int) = x := by simp [rd, List.getD]
    refine Tot.step (fun k => spec_l1All.l0.eq_2 ..) (Tot.yes (by omega) (Tot.yes (by omega) (Tot.yes (by omega) ?_)))
    rw [hr, wrap_in (x := (a.length : Int) + 1) (by omega) (by omega)]
    simp only [in_v, Option.bind_some, List.all_cons]
    by_cases hx : lo ≤ x ∧ x ≤ hi
    · rw [decide_eq_true hx, Bool.true_and]
      refine Tot.yes rfl ?_
      have := all_l lo hi b (a ++ [x]) (by simp at hl h ⊢; omega)
      simpa using this
    · rw [decide_eq_false hx, Bool.false_and]
      exact Tot.no (by decide) (Tot.pure _)
theorem all_v (l : List Int) (lo hi : Int) (h : (l.length : Int) ≤ 9223372036850000000) : Tot (fun k => spec_l1All.f k l lo hi) (l.all fun x => decide (lo ≤ x ∧ x ≤ hi)) := by
  have := all_l lo hi l [] (by simpa using h)
  unfold spec_l1All.f
  simpa using this

def asksB (l : List Int) : Bool := decide ((l.length : Int) ≤ 8) && l.all isTrackB
theorem specAsks_v (l : List Int) (h : (l.length : Int) ≤ 9223372036850000000) : Tot (fun k => spec_GoodAsks.f k l) (asksB l) := by
  unfold spec_GoodAsks.f asksB
  by_cases hl : (l.length : Int) ≤ 8
  · rw [decide_eq_true hl, Bool.true_and]
    exact Tot.yes hl (Tot.bind (all_v l 0 200 h) (Tot.pure _))
  · rw [decide_eq_false hl, Bool.false_and]
    exact Tot.no hl (Tot.pure _)
theorem implAsks_v (l : List Int) : impl_GoodAsks.f l = some (asksB l) := rfl
theorem asksB_iff (l : List Int) : asksB l = true ↔ ((l.length : Int) ≤ 8 ∧ ∀ x ∈ l, 0 ≤ x ∧ x ≤ 200) := by
  simp [asksB, isTrackB]

def areAsksB (s : Int) (l : List Int) : Bool := isTrackB s && asksB l
theorem specGood_v (s : Int) (l : List Int) (h : (l.length : Int) ≤ 9223372036850000000) : Tot (fun k => spec_l8Good.f k s l) (areAsksB s l) := by
  unfold spec_l8Good.f spec_l8Track.f areAsksB
  simp only [in_v, Option.bind_some]
  by_cases hs : 0 ≤ s ∧ s ≤ 200
  · have e : isTrackB s = true := decide_eq_true hs
    rw [e, Bool.true_and]
    exact Tot.yes (decide_eq_true hs) (Tot.bind (specAsks_v l h) (Tot.pure _))
  · have e : isTrackB s = false := decide_eq_false hs
    rw [e, Bool.false_and]
    exact Tot.no (by simp [hs]) (Tot.pure _)
theorem implAre_v (s : Int) (l : List Int) : impl_areAsks.f s l = some (areAsksB s l) := by
  unfold impl_areAsks.f areAsksB
  rw [isTrackB_v, Option.bind_some]
  cases isTrackB s <;> simp [implAsks_v]
theorem areAsksB_iff (s : Int) (l : List Int) : areAsksB s l = true ↔ ((0 ≤ s ∧ s ≤ 200) ∧ (l.length : Int) ≤ 8 ∧ ∀ x ∈ l, 0 ≤ x ∧ x ≤ 200) := by
  rw [← asksB_iff]
  simp [areAsksB, isTrackB]
/-- From one track to another. -/
def way (a b : Int) : Int := if a < b then b - a else a - b
theorem way_nonneg (a b : Int) : 0 ≤ way a b := by unfold way; split <;> omega
theorem way_le (a b : Int) (ha : 0 ≤ a ∧ a ≤ 200) (hb : 0 ≤ b ∧ b ≤ 200) : way a b ≤ 200 := by unfold way; split <;> omega
def travelL : Int → List Int → Int
  | _, [] => 0
  | s, t :: l => way s t + travelL t l
def waitsL : Int → Int → List Int → List Int
  | _, _, [] => []
  | acc, s, t :: l => (acc + way s t) :: waitsL (acc + way s t) t l
theorem waitsL_length : ∀ (l : List Int) (acc s : Int), (waitsL acc s l).length = l.length
  | [], _, _ => rfl
  | t :: l, acc, s => by simp [waitsL, waitsL_length l]
theorem travelL_nonneg : ∀ (l : List Int) (s : Int), 0 ≤ travelL s l
  | [], _ => by simp [travelL]
  | t :: l, s => by have := travelL_nonneg l t; have := way_nonneg s t; simp [travelL]; omega

theorem way_v (a b : Int) (ha : 0 ≤ a ∧ a ≤ 200) (hb : 0 ≤ b ∧ b ≤ 200) : spec_l8Way.f a b = some (way a b) := by
  unfold spec_l8Way.f way
  rw [wrap_in (x := a - b) (by omega) (by omega), wrap_in (x := b - a) (by omega) (by omega)]
  split <;> rfl
theorem specTravel_l : ∀ (b a : List Int) (s acc : Int), (0 ≤ s ∧ s ≤ 200) → (∀ x ∈ b, 0 ≤ x ∧ x ≤ 200) → 0 ≤ acc → acc + 200 * b.length ≤ 1000000 → ((a ++ b).length : Int) ≤ 1000 →
    Tot (fun k => spec_l8Travel.l0 k s acc (a ++ b) ((a ++ b).length : Int) a.length) (acc + travelL s b)
  | [], a, s, acc, hs, hb, h0, h1, hl => by
    refine Tot.step (fun k => spec_l8Travel.l0.eq_2 ..) ?_
    simp only [travelL, Int.add_zero]
    exact Tot.no (by simp) (Tot.pure _)
  | x :: b, a, s, acc, hs, hb, h0, h1, hl => by
    have hll : ((a ++ x :: b).length : Int) = a.length + b.length + 1 := by simp; omega
    have hr : rd (a ++ x :: b) (a.length : Int) = x := by simp [rd, List.getD]
    have hx := hb x (by simp)
    have hw := way_le s x hs hx
    have hw0 := way_nonneg s x
    simp only [List.length_cons] at h1
    refine Tot.step (fun k => spec_l8Travel.l0.eq_2 ..) (Tot.yes (by omega) (Tot.yes (by omega) (Tot.yes (by omega) ?_)))
    rw [hr, wrap_in (x := (a.length : Int) + 1) (by omega) (by omega)]
    simp only [way_v s x hs hx, Option.bind_some]
    rw [wrap_in (x := acc + way s x) (by omega) (by omega)]
    have := specTravel_l b (a ++ [x]) x (acc + way s x) hx (fun y hy => hb y (by simp [hy])) (by omega) (by omega) (by simp at hll hl ⊢; omega)
    have e : acc + travelL s (x :: b) = acc + way s x + travelL x b := by simp [travelL]; omega
    rw [e]
    simpa using this
theorem specTravel_v (s : Int) (l : List Int) (hs : 0 ≤ s ∧ s ≤ 200) (hl : (l.length : Int) ≤ 8) (hb : ∀ x ∈ l, 0 ≤ x ∧ x ≤ 200) : Tot (fun k => spec_l8Travel.f k s l) (travelL s l) := by
  have := specTravel_l l [] s 0 hs hb (by omega) (by omega) (by simp; omega)
  unfold spec_l8Travel.f
  simpa using this

theorem rd_at {l : List Int} {i : Int} (h0 : 0 ≤ i) (h1 : i < (l.length : Int)) : rd l i = l[i.toNat]'(by omega) := by
  unfold rd
  rw [List.getD_eq_getElem?_getD, List.getElem?_eq_getElem (by omega : i.toNat < l.length)]
  rfl
theorem eqInt_l (a : List Int) (ha : (a.length : Int) ≤ 9223372036854775806) : ∀ (d : Nat) (i : Int), 0 ≤ i → i + d = a.length → Tot (fun k => laws_eqIntS.l0 k a a i) true
  | 0, i, h0, h => by
    refine Tot.step (fun k => laws_eqIntS.l0.eq_2 ..) ?_
    exact Tot.no (by omega) (Tot.pure _)
  | d + 1, i, h0, h => by
    refine Tot.step (fun k => laws_eqIntS.l0.eq_2 ..) ?_
    refine Tot.yes (by omega) (Tot.yes h0 (Tot.yes (by omega) (Tot.yes rfl ?_)))
    rw [wrap_in (by omega) (by omega)]
    exact eqInt_l a ha d (i + 1) (by omega) (by omega)
theorem eqInt_v (a : List Int) (ha : (a.length : Int) ≤ 9223372036854775806) : Tot (fun k => laws_eqIntS.f k a a) true := by
  unfold laws_eqIntS.f
  exact Tot.yes rfl (eqInt_l a ha a.length 0 (by omega) (by omega))

/-- The lowest and the highest of a list and one more. -/
def loL : Int → List Int → Int
  | s, [] => s
  | s, x :: l => min x (loL s l)
def hiL : Int → List Int → Int
  | s, [] => s
  | s, x :: l => max x (hiL s l)
theorem loL_le (s : Int) : ∀ l : List Int, loL s l ≤ s ∧ ∀ x ∈ l, loL s l ≤ x
  | [] => ⟨Int.le_refl _, fun x hx => by simp at hx⟩
  | y :: l => by
    have ih := loL_le s l
    refine ⟨by show min y (loL s l) ≤ s; omega, fun x hx => ?_⟩
    show min y (loL s l) ≤ x
    rcases List.mem_cons.1 hx with rfl | hx
    · omega
    · have := ih.2 x hx; omega
theorem loL_or (s : Int) : ∀ l : List Int, loL s l = s ∨ loL s l ∈ l
  | [] => .inl rfl
  | y :: l => by
    show min y (loL s l) = s ∨ min y (loL s l) ∈ y :: l
    rcases loL_or s l with h | h
    · by_cases hy : y ≤ loL s l
      · right; rw [show min y (loL s l) = y by omega]; simp
      · left; omega
    · by_cases hy : y ≤ loL s l
      · right; rw [show min y (loL s l) = y by omega]; simp
      · right; rw [show min y (loL s l) = loL s l by omega]; simp [h]
theorem hiL_ge (s : Int) : ∀ l : List Int, s ≤ hiL s l ∧ ∀ x ∈ l, x ≤ hiL s l
  | [] => ⟨Int.le_refl _, fun x hx => by simp at hx⟩
  | y :: l => by
    have ih := hiL_ge s l
    refine ⟨by show s ≤ max y (hiL s l); omega, fun x hx => ?_⟩
    show x ≤ max y (hiL s l)
    rcases List.mem_cons.1 hx with rfl | hx
    · omega
    · have := ih.2 x hx; omega
theorem hiL_or (s : Int) : ∀ l : List Int, hiL s l = s ∨ hiL s l ∈ l
  | [] => .inl rfl
  | y :: l => by
    show max y (hiL s l) = s ∨ max y (hiL s l) ∈ y :: l
    rcases hiL_or s l with h | h
    · by_cases hy : hiL s l ≤ y
      · right; rw [show max y (hiL s l) = y by omega]; simp
      · left; omega
    · by_cases hy : hiL s l ≤ y
      · right; rw [show max y (hiL s l) = y by omega]; simp
      · right; rw [show max y (hiL s l) = hiL s l by omega]; simp [h]
/-- The least travel from s over all of l. -/
def opt (s : Int) (l : List Int) : Int := (hiL s l - loL s l) + min (hiL s l - s) (s - loL s l)
theorem opt_nil (s : Int) : opt s [] = 0 := by simp [opt, hiL, loL]
theorem opt_nonneg (s : Int) (l : List Int) : 0 ≤ opt s l := by
  have h1 := (loL_le s l).1
  have h2 := (hiL_ge s l).1
  unfold opt
  omega
/-- More elements: no less travel. -/
theorem opt_mono (s : Int) (l m : List Int) (h : ∀ x ∈ l, x ∈ m) : opt s l ≤ opt s m := by
  have h1 := loL_le s l
  have h2 := hiL_ge s l
  have h3 := loL_le s m
  have h4 := hiL_ge s m
  have hlo : loL s m ≤ loL s l := by
    rcases loL_or s l with e | e
    · rw [e]; exact h3.1
    · exact h3.2 _ (h _ e)
  have hhi : hiL s l ≤ hiL s m := by
    rcases hiL_or s l with e | e
    · rw [e]; exact h4.1
    · exact h4.2 _ (h _ e)
  unfold opt
  have := h1.1
  have := h2.1
  omega
/-- One step: it cannot beat the least. -/
theorem opt_step (s x : Int) (l m : List Int) (hm : ∀ y ∈ m, y = x ∨ y ∈ l) : opt s m ≤ way s x + opt x l := by
  have h1 := loL_le x l
  have h2 := hiL_ge x l
  have h3 := loL_le s m
  have h4 := hiL_ge s m
  have hlo : min s (loL x l) ≤ loL s m := by
    rcases loL_or s m with e | e
    · omega
    · rcases hm _ e with e2 | e2
      · have := h1.1; omega
      · have := h1.2 _ e2; omega
  have hhi : hiL s m ≤ max s (hiL x l) := by
    rcases hiL_or s m with e | e
    · omega
    · rcases hm _ e with e2 | e2
      · have := h2.1; omega
      · have := h2.2 _ e2; omega
  have a1 := h1.1
  have a2 := h2.1
  have a3 := h3.1
  have a4 := h4.1
  unfold opt way
  split <;> omega
theorem travel_ge : ∀ (o : List Int) (s : Int), opt s o ≤ travelL s o
  | [], s => by rw [opt_nil]; exact Int.le_refl _
  | x :: o, s => by
    have := travel_ge o x
    have h := opt_step s x o (x :: o) (fun y hy => List.mem_cons.1 hy)
    show opt s (x :: o) ≤ way s x + travelL x o
    omega
/-- Some first step is one of a least travel. -/
theorem opt_hit (s : Int) (m : List Int) (hne : m ≠ []) : ∃ x ∈ m, ∀ l : List Int, (∀ y ∈ l, y ∈ m) → way s x + opt x l ≤ opt s m := by
  have h3 := loL_le s m
  have h4 := hiL_ge s m
  obtain ⟨z, hz⟩ : ∃ z, z ∈ m := List.exists_mem_of_ne_nil m hne
  -- an element that lies lowest, and one that lies highest
  obtain ⟨p, hp, hpl⟩ : ∃ p ∈ m, ∀ y ∈ m, p ≤ y := by
    rcases loL_or z m with e | e
    · exact ⟨z, hz, fun y hy => by rw [← e]; exact (loL_le z m).2 y hy⟩
    · exact ⟨_, e, (loL_le z m).2⟩
  obtain ⟨q, hq, hqh⟩ : ∃ q ∈ m, ∀ y ∈ m, y ≤ q := by
    rcases hiL_or z m with e | e
    · exact ⟨z, hz, fun y hy => by rw [← e]; exact (hiL_ge z m).2 y hy⟩
    · exact ⟨_, e, (hiL_ge z m).2⟩
  have hlo : loL s m = min s p := by
    have := h3.2 p hp
    have := h3.1
    rcases loL_or s m with e | e
    · omega
    · have := hpl _ e; omega
  have hhi : hiL s m = max s q := by
    have := h4.2 q hq
    have := h4.1
    rcases hiL_or s m with e | e
    · omega
    · have := hqh _ e; omega
  have hpq := hpl q hq
  have key : ∀ (x : Int) (l : List Int), (∀ y ∈ l, y ∈ m) → (x = p ∨ x = q) → min x p ≤ loL x l ∧ loL x l ≤ x ∧ x ≤ hiL x l ∧ hiL x l ≤ max x q := by
    intro x l hl _
    have g1 := loL_le x l
    have g2 := hiL_ge x l
    refine ⟨?_, g1.1, g2.1, ?_⟩
    · rcases loL_or x l with e | e
      · omega
      · have := hpl _ (hl _ e); omega
    · rcases hiL_or x l with e | e
      · omega
      · have := hqh _ (hl _ e); omega
  by_cases hc : q - s ≤ s - p
  · refine ⟨q, hq, fun l hl => ?_⟩
    obtain ⟨k1, k2, k3, k4⟩ := key q l hl (.inr rfl)
    unfold opt way
    rw [hlo, hhi]
    split <;> omega
  · refine ⟨p, hp, fun l hl => ?_⟩
    obtain ⟨k1, k2, k3, k4⟩ := key p l hl (.inl rfl)
    unfold opt way
    rw [hlo, hhi]
    split <;> omega

theorem rdInt_at (a b : List Int) (x : Int) : (rd (a ++ x :: b) (a.length : Int)) = x := by simp [rd, List.getD]
theorem toInt_l : ∀ (b a : List Int), ((a ++ b).length : Int) ≤ 9223372036854775806 → Tot (fun k => laws_toIntS.l0 k (a ++ b) (a ++ List.replicate b.length 0) a.length) (a ++ b)
  | [], a, h => by
    refine Tot.step (fun k => laws_toIntS.l0.eq_2 ..) ?_
    simp only [List.append_nil, List.length_nil, List.replicate_zero]
    exact Tot.no (by omega) (Tot.pure _)
  | x :: b, a, h => by
    refine Tot.step (fun k => laws_toIntS.l0.eq_2 ..) ?_
    have hl : ((a ++ x :: b).length : Int) = a.length + b.length + 1 := by simp; omega
    have hl2 : ((a ++ List.replicate (x :: b).length 0).length : Int) = a.length + b.length + 1 := by simp; omega
    refine Tot.yes (by omega) (Tot.yes (by omega) (Tot.yes (by omega) ?_))
    rw [rdInt_at, wrap_in (x := (a.length : Int) + 1) (by omega) (by omega)]
    have e : (a ++ List.replicate (x :: b).length 0).set ((a.length : Int)).toNat x = (a ++ [x]) ++ List.replicate b.length 0 := by simp [List.replicate_succ]
    rw [e]
    have := toInt_l b (a ++ [x]) (by simp at hl h ⊢; omega)
    simpa using this
theorem toInt_v (l : List Int) (h : (l.length : Int) ≤ 1048576) : Tot (fun k => laws_toIntS.f k l) l := by
  unfold laws_toIntS.f
  refine Tot.yes (by omega) (Tot.yes (by omega) ?_)
  have := toInt_l l [] (by simp; omega)
  simpa using this
theorem opt_le (s : Int) (l : List Int) (hs : 0 ≤ s ∧ s ≤ 200) (hl : ∀ x ∈ l, 0 ≤ x ∧ x ≤ 200) : opt s l ≤ 400 := by
  have h1 : 0 ≤ loL s l := by
    rcases loL_or s l with e | e
    · omega
    · have := hl _ e; omega
  have h2 : hiL s l ≤ 200 := by
    rcases hiL_or s l with e | e
    · omega
    · have := hl _ e; omega
  have := (loL_le s l).1
  have := (hiL_ge s l).1
  unfold opt
  omega
def lf (s more : Int) : List Int → List Int → Int → Int
  | _, [], best => best
  | a, x :: b, best => lf s more (a ++ [x]) b (min best (more + way s x + opt x (a ++ b)))
theorem lf_le (s more : Int) : ∀ (b a : List Int) (best : Int), lf s more a b best ≤ best
  | [], _, _ => Int.le_refl _
  | x :: b, a, best => by
    have := lf_le s more b (a ++ [x]) (min best (more + way s x + opt x (a ++ b)))
    show lf s more (a ++ [x]) b _ ≤ best
    omega
theorem lf_ge (s more : Int) (L : List Int) : ∀ (b a : List Int) (best : Int), a ++ b = L → min best (more + opt s L) ≤ lf s more a b best
  | [], a, best, _ => by show min best (more + opt s L) ≤ best; omega
  | x :: b, a, best, h => by
    have ih := lf_ge s more L b (a ++ [x]) (min best (more + way s x + opt x (a ++ b))) (by simpa using h)
    have hst := opt_step s x (a ++ b) L (fun y hy => by
      rw [← h] at hy
      rcases List.mem_append.1 hy with hy | hy
      · exact .inr (List.mem_append_left _ hy)
      · rcases List.mem_cons.1 hy with rfl | hy
        · exact .inl rfl
        · exact .inr (List.mem_append_right _ hy))
    show _ ≤ lf s more (a ++ [x]) b _
    omega
theorem lf_hit (s more : Int) (L : List Int) (z : Int) (hz : ∀ l : List Int, (∀ y ∈ l, y ∈ L) → way s z + opt z l ≤ opt s L) : ∀ (b a : List Int) (best : Int), a ++ b = L → z ∈ b → lf s more a b best ≤ more + opt s L
  | [], _, _, _, h => by simp at h
  | x :: b, a, best, h, hm => by
    rcases List.mem_cons.1 hm with rfl | hm
    · have h1 := hz (a ++ b) (fun y hy => by
        rw [← h]
        rcases List.mem_append.1 hy with hy | hy
        · exact List.mem_append_left _ hy
        · exact List.mem_append_right _ (List.mem_cons_of_mem _ hy))
      have h2 := lf_le s more b (a ++ [z]) (min best (more + way s z + opt z (a ++ b)))
      show lf s more (a ++ [z]) b _ ≤ _
      omega
    · exact lf_hit s more L z hz b (a ++ [x]) _ (by simpa using h) hm
theorem least_v : ∀ (n : Nat) (l : List Int) (s more best : Int), l.length = n → n ≤ 8 → (0 ≤ s ∧ s ≤ 200) → (∀ x ∈ l, 0 ≤ x ∧ x ≤ 200) → 0 ≤ more → more + 200 * n ≤ 1000000 → Tot (fun k => spec_l8Least.f k s l more best) (min best (more + opt s l)) := by
  intro n
  induction n with
  | zero =>
    intro l s more best hl _ hs hb h0 h1
    obtain rfl := List.eq_nil_of_length_eq_zero hl
    rw [opt_nil, Int.add_zero]
    refine Tot.step (fun k => spec_l8Least.f.eq_2 ..) ?_
    by_cases c : more ≥ best
    · rw [show min best more = best by omega]; exact Tot.yes c (Tot.pure _)
    · rw [show min best more = more by omega]; exact Tot.no c (Tot.yes (by simp) (Tot.pure _))
  | succ n ih =>
    intro l s more best hl hn hs hb h0 h1
    have hopt := opt_nonneg s l
    have loop : ∀ (b a : List Int) (best : Int), a ++ b = l → Tot (fun k => spec_l8Least.l0 k s l more best l (l.length : Int) a.length) (lf s more a b best) := by
      intro b
      induction b with
      | nil =>
        intro a best h
        simp only [List.append_nil] at h
        subst h
        exact Tot.step (fun k => spec_l8Least.l0.eq_2 ..) (Tot.no (by omega) (Tot.pure _))
      | cons x b ihb =>
        intro a best h
        have hll : l.length = a.length + b.length + 1 := by rw [← h]; simp; omega
        have hr : rd l (a.length : Int) = x := by rw [← h]; simp [rd, List.getD]
        have hx := hb x (by rw [← h]; simp)
        have hw := way_le s x hs hx
        have hw0 := way_nonneg s x
        have e1 : l.take ((a.length : Int)).toNat = a := by rw [← h]; simp
        have e2 : l.drop ((a.length : Int) + 1).toNat = b := by
          rw [show ((a.length : Int) + 1).toNat = a.length + 1 by omega, ← h, List.drop_append]
          simp
        refine Tot.step (fun k => spec_l8Least.l0.eq_2 ..) (Tot.yes (by omega) (Tot.yes (by omega) (Tot.yes (by omega) (Tot.some_bind (Tot.yes (by omega) ?_)))))
        rw [e1, wrap_in (x := (a.length : Int) + 1) (by omega) (by omega), e2, hr]
        refine Tot.yes (by simp; omega) (Tot.some_bind (Tot.yes (by omega) (Tot.yes (by omega) (Tot.yes (by simp; omega) ?_))))
        simp only [way_v s x hs hx, Option.bind_some]
        rw [wrap_in (x := more + way s x) (by omega) (by omega)]
        have hrec := ih (a ++ b) x (more + way s x) best (by simp; omega) (by omega) hx (fun y hy => hb y (by
          rw [← h]
          rcases List.mem_append.1 hy with hy | hy
          · exact List.mem_append_left _ hy
          · exact List.mem_append_right _ (List.mem_cons_of_mem _ hy))) (by omega) (by omega)
        have hnext := ihb (a ++ [x]) (min best (more + way s x + opt x (a ++ b))) (by simpa using h)
        refine Tot.bind (a := min best (more + way s x + opt x (a ++ b))) (by simpa using hrec) ?_
        show Tot _ (lf s more (a ++ [x]) b (min best (more + way s x + opt x (a ++ b))))
        simpa using hnext
    refine Tot.step (fun k => spec_l8Least.f.eq_2 ..) ?_
    by_cases c : more ≥ best
    · rw [show min best (more + opt s l) = best by omega]; exact Tot.yes c (Tot.pure _)
    · refine Tot.no c (Tot.no (by omega) ?_)
      have h := loop l [] best rfl
      have e : lf s more [] l best = min best (more + opt s l) := by
        obtain ⟨z, hz, hz2⟩ := opt_hit s l (fun e => by rw [e] at hl; simp at hl)
        have g1 := lf_ge s more l l [] best rfl
        have g2 := lf_le s more l [] best
        have g3 := lf_hit s more l z hz2 l [] best rfl hz
        omega
      rw [← e]
      simpa using h
-- the sweep: some order of the same elements
theorem sorted_l (L : List Int) (hL : L.length ≤ 8) : ∀ (b a out : List Int), a ++ b = L → out.length = a.length → ∃ r, Tot (fun k => spec_l8Sorted.l0 k out L (L.length : Int) a.length) r ∧ r.length = L.length ∧ ∀ y, y ∈ r ↔ y ∈ out ∨ y ∈ b := by
  intro b
  induction b with
  | nil =>
    intro a out h ho
    simp only [List.append_nil] at h
    subst h
    exact ⟨out, Tot.step (fun k => spec_l8Sorted.l0.eq_2 ..) (Tot.no (by omega) (Tot.pure _)), ho, fun y => by simp⟩
  | cons x b ihb =>
    intro a out h ho
    have hll : L.length = a.length + b.length + 1 := by rw [← h]; simp; omega
    have hr : rd L (a.length : Int) = x := by rw [← h]; simp [rd, List.getD]
    have fin : ∀ j : Nat, j ≤ out.length → ∃ r, Tot (fun k => spec_l8Sorted.l0 k ((out.take j ++ [x]) ++ out.drop j) L (L.length : Int) ((a.length : Int) + 1)) r ∧ r.length = L.length ∧ ∀ y, y ∈ r ↔ y ∈ out ∨ y ∈ x :: b := by
      intro j hj
      obtain ⟨r, h1, h2, h3⟩ := ihb (a ++ [x]) ((out.take j ++ [x]) ++ out.drop j) (by simpa using h) (by simp; omega)
      refine ⟨r, by simpa using h1, h2, fun y => ?_⟩
      rw [h3]
      have hsp : y ∈ out ↔ y ∈ out.take j ∨ y ∈ out.drop j := by
        rw [← List.mem_append, List.take_append_drop]
      rw [hsp]
      simp only [List.mem_append, List.mem_cons, List.not_mem_nil, or_false, false_or, or_assoc, or_comm, or_left_comm]
    have inner : ∀ (d j : Nat), j + d = out.length → ∃ r, Tot (fun k => spec_l8Sorted.l1 k out x j L (L.length : Int) a.length) r ∧ r.length = L.length ∧ ∀ y, y ∈ r ↔ y ∈ out ∨ y ∈ x :: b := by
      intro d
      induction d with
      | zero =>
        intro j hj
        obtain ⟨r, h1, h2, h3⟩ := fin j (by omega)
        refine ⟨r, Tot.step (fun k => spec_l8Sorted.l1.eq_2 ..) (Tot.no (by omega) (Tot.some_bind (Tot.yes (by omega) (Tot.yes (by omega) (Tot.some_bind (Tot.yes (by simp; omega) (Tot.some_bind (Tot.yes (by simp; omega) (Tot.some_bind (Tot.some_bind (Tot.yes (by simp; omega) ?_))))))))))), h2, h3⟩
        rw [wrap_in (x := (a.length : Int) + 1) (by omega) (by omega)]
        simpa using h1
      | succ d ihd =>
        intro j hj
        by_cases c : rd out (j : Int) ≤ x
        · obtain ⟨r, h1, h2, h3⟩ := ihd (j + 1) (by omega)
          refine ⟨r, Tot.step (fun k => spec_l8Sorted.l1.eq_2 ..) (Tot.yes (by omega) (Tot.yes (by omega) (Tot.yes c ?_))), h2, h3⟩
          rw [wrap_in (x := (j : Int) + 1) (by omega) (by omega)]
          exact h1
        · obtain ⟨r, h1, h2, h3⟩ := fin j (by omega)
          refine ⟨r, Tot.step (fun k => spec_l8Sorted.l1.eq_2 ..) (Tot.yes (by omega) (Tot.yes (by omega) (Tot.no c (Tot.some_bind (Tot.yes (by omega) (Tot.some_bind (Tot.yes (by simp; omega) (Tot.some_bind (Tot.yes (by simp; omega) (Tot.some_bind (Tot.some_bind (Tot.yes (by simp; omega) ?_)))))))))))), h2, h3⟩
          rw [wrap_in (x := (a.length : Int) + 1) (by omega) (by omega)]
          simpa using h1
    obtain ⟨r, h1, h2, h3⟩ := inner out.length 0 (by omega)
    refine ⟨r, Tot.step (fun k => spec_l8Sorted.l0.eq_2 ..) (Tot.yes (by omega) (Tot.yes (by omega) (Tot.yes (by omega) ?_))), h2, h3⟩
    rw [hr]
    exact h1
theorem turned_l (L : List Int) (hL : L.length ≤ 8) : ∀ (d : Nat) (out : List Int), d ≤ L.length → out.length + d ≤ 100 → Tot (fun k => spec_l8Turned.l0 k L out ((d : Int) - 1)) (out ++ (L.take d).reverse)
  | 0, out, hd, ho => by
    refine Tot.step (fun k => spec_l8Turned.l0.eq_2 ..) (Tot.no (by omega) ?_)
    simp only [List.take_zero, List.reverse_nil, List.append_nil]
    exact Tot.pure _
  | d + 1, out, hd, ho => by
    have hlt : d < L.length := by omega
    have hr : rd L (((d + 1 : Nat) : Int) - 1) = L[d] := by
      unfold rd
      rw [show (((d + 1 : Nat) : Int) - 1).toNat = d by omega, List.getD_eq_getElem?_getD, List.getElem?_eq_getElem hlt]
      rfl
    refine Tot.step (fun k => spec_l8Turned.l0.eq_2 ..) (Tot.yes (by omega) (Tot.yes (by omega) (Tot.yes (by omega) (Tot.yes (by omega) ?_))))
    rw [hr, wrap_in (by omega) (by omega), show ((d + 1 : Nat) : Int) - 1 - 1 = (d : Int) - 1 by omega]
    have := turned_l L hL d (out ++ [L[d]]) (by omega) (by simp; omega)
    have e : (L.take (d + 1)).reverse = L[d] :: (L.take d).reverse := by
      rw [List.take_succ_eq_append_getElem hlt, List.reverse_append]; rfl
    rw [e]
    simpa using this
theorem turned_v (L : List Int) (hL : L.length ≤ 8) : Tot (fun k => spec_l8Turned.f k L) L.reverse := by
  have := turned_l L hL L.length [] (Nat.le_refl _) (by simp; omega)
  unfold spec_l8Turned.f
  rw [wrap_in (by omega) (by omega)]
  simpa using this
theorem sweep_l (s : Int) (L : List Int) (hL : L.length ≤ 8) : ∀ (b a p q : List Int), a ++ b = L → p.length + q.length = a.length → ∃ r, Tot (fun k => spec_l8Sweep.l0 k s true p q L (L.length : Int) a.length) r ∧ r.length = L.length ∧ ∀ y, y ∈ r ↔ (y ∈ p ∨ y ∈ q) ∨ y ∈ b := by
  intro b
  induction b with
  | nil =>
    intro a p q h ho
    simp only [List.append_nil] at h
    subst h
    refine ⟨q ++ p.reverse, Tot.step (fun k => spec_l8Sweep.l0.eq_2 ..) (Tot.no (by omega) (Tot.yes rfl (Tot.some_bind (Tot.yes (by simp; omega) (Tot.some_bind (Tot.bind (turned_v p (by omega)) (Tot.yes (by simp; omega) ?_))))))), by simp; omega, fun y => by simp [or_comm]⟩
    simpa using Tot.pure (q ++ p.reverse)
  | cons x b ihb =>
    intro a p q h ho
    have hll : L.length = a.length + b.length + 1 := by rw [← h]; simp; omega
    have hr : rd L (a.length : Int) = x := by rw [← h]; simp [rd, List.getD]
    obtain ⟨r1, g1, g2, g3⟩ := ihb (a ++ [x]) (p ++ [x]) q (by simpa using h) (by simp; omega)
    obtain ⟨r2, k1, k2, k3⟩ := ihb (a ++ [x]) p (q ++ [x]) (by simpa using h) (by simp; omega)
    have g1 : Tot (fun k => spec_l8Sweep.l0 k s true (p ++ [x]) q L (L.length : Int) ((a.length : Int) + 1)) r1 := by simpa using g1
    have k1 : Tot (fun k => spec_l8Sweep.l0 k s true p (q ++ [x]) L (L.length : Int) ((a.length : Int) + 1)) r2 := by simpa using k1
    by_cases c : x < s
    · refine ⟨r1, Tot.step (fun k => spec_l8Sweep.l0.eq_2 ..) (Tot.yes (by omega) (Tot.yes (by omega) (Tot.yes (by omega) ?_))), g2, fun y => by rw [g3]; simp only [List.mem_append, List.mem_cons, List.not_mem_nil, or_false, false_or, or_assoc, or_comm, or_left_comm]⟩
      rw [hr, wrap_in (x := (a.length : Int) + 1) (by omega) (by omega)]
      exact Tot.yes c (Tot.yes (by omega) g1)
    · refine ⟨r2, Tot.step (fun k => spec_l8Sweep.l0.eq_2 ..) (Tot.yes (by omega) (Tot.yes (by omega) (Tot.yes (by omega) ?_))), k2, fun y => by rw [k3]; simp only [List.mem_append, List.mem_cons, List.not_mem_nil, or_false, false_or, or_assoc, or_comm, or_left_comm]⟩
      rw [hr, wrap_in (x := (a.length : Int) + 1) (by omega) (by omega)]
      refine Tot.no c ?_
      by_cases c2 : x = s
      · exact Tot.yes c2 (Tot.yes rfl (Tot.yes (by omega) k1))
      · exact Tot.no c2 (Tot.yes (by omega) k1)
theorem sweep_v (s : Int) (l : List Int) (hl : l.length ≤ 8) : ∃ o, Tot (fun k => spec_l8Sweep.f k s l true) o ∧ o.length = l.length ∧ ∀ y, y ∈ o ↔ y ∈ l := by
  obtain ⟨r, h1, h2, h3⟩ := sorted_l l hl l [] [] rfl rfl
  obtain ⟨o, k1, k2, k3⟩ := sweep_l s r (by omega) r [] [] [] rfl rfl
  refine ⟨o, ?_, by omega, fun y => by rw [k3]; simp only [List.not_mem_nil, false_or]; rw [h3]; simp⟩
  unfold spec_l8Sweep.f spec_l8Sorted.f
  exact Tot.bind (by simpa using h1) (by simpa using k1)
def leastR (s : Int) (l : List Int) : Int × Bool := if areAsksB s l = true then (opt s l, true) else (0, false)
theorem specLeastR_v (s : Int) (l : List Int) (h : (l.length : Int) ≤ 9223372036850000000) : Tot (fun k => spec_LeastTravel.f k s l) (leastR s l) := by
  unfold spec_LeastTravel.f leastR
  refine Tot.bind (specGood_v s l h) ?_
  by_cases c : areAsksB s l = true
  · rw [if_pos c]
    obtain ⟨hs, hl, hb⟩ := (areAsksB_iff s l).1 c
    obtain ⟨o, h1, h2, h3⟩ := sweep_v s l (by omega)
    have hT := travel_ge o s
    have hM := opt_mono s l o (fun x hx => (h3 x).2 hx)
    have hob : ∀ x ∈ o, 0 ≤ x ∧ x ≤ 200 := fun x hx => hb x ((h3 x).1 hx)
    have hT2 : travelL s o ≤ 1000000 := by
      have : ∀ (o : List Int) (s : Int), (0 ≤ s ∧ s ≤ 200) → (∀ x ∈ o, 0 ≤ x ∧ x ≤ 200) → travelL s o ≤ 200 * o.length := by
        intro o
        induction o with
        | nil => intro s _ _; simp [travelL]
        | cons x o ih =>
          intro s hs hx
          have h1 := way_le s x hs (hx x (by simp))
          have h2 := ih x (hx x (by simp)) (fun y hy => hx y (by simp [hy]))
          simp only [travelL, List.length_cons]
          omega
      have := this o s hs hob
      omega
    have h0 := opt_nonneg s l
    refine Tot.yes c (Tot.bind h1 (Tot.bind (specTravel_v s o hs (by omega) hob) ?_))
    rw [wrap_in (x := travelL s o + 1) (by omega) (by omega)]
    have hle := least_v l.length l s 0 (travelL s o + 1) rfl (by omega) hs hb (by omega) (by omega)
    rw [show min (travelL s o + 1) (0 + opt s l) = opt s l by omega] at hle
    exact Tot.bind hle (Tot.pure _)
  · rw [if_neg c]
    exact Tot.no c (Tot.pure _)
theorem mnL_spec : ∀ (l : List Int) (m : Int), (mnL m l ≤ m ∧ ∀ x ∈ l, mnL m l ≤ x) ∧ (mnL m l = m ∨ mnL m l ∈ l)
  | [], m => ⟨⟨Int.le_refl _, fun x hx => by simp at hx⟩, .inl rfl⟩
  | x :: l, m => by
    have ih := mnL_spec l (mn m x)
    have h1 : mn m x ≤ m ∧ mn m x ≤ x ∧ (mn m x = m ∨ mn m x = x) := by unfold mn; split <;> omega
    show (mnL (mn m x) l ≤ m ∧ ∀ y ∈ x :: l, mnL (mn m x) l ≤ y) ∧ (mnL (mn m x) l = m ∨ mnL (mn m x) l ∈ x :: l)
    refine ⟨⟨by omega, fun y hy => ?_⟩, ?_⟩
    · rcases List.mem_cons.1 hy with rfl | hy
      · omega
      · exact ih.1.2 y hy
    · rcases ih.2 with e | e
      · rcases h1.2.2 with e2 | e2
        · left; omega
        · right; rw [e, e2]; simp
      · right; simp [e]
theorem mxL_spec : ∀ (l : List Int) (m : Int), (m ≤ mxL m l ∧ ∀ x ∈ l, x ≤ mxL m l) ∧ (mxL m l = m ∨ mxL m l ∈ l)
  | [], m => ⟨⟨Int.le_refl _, fun x hx => by simp at hx⟩, .inl rfl⟩
  | x :: l, m => by
    have ih := mxL_spec l (mx m x)
    have h1 : m ≤ mx m x ∧ x ≤ mx m x ∧ (mx m x = m ∨ mx m x = x) := by unfold mx; split <;> omega
    show (m ≤ mxL (mx m x) l ∧ ∀ y ∈ x :: l, y ≤ mxL (mx m x) l) ∧ (mxL (mx m x) l = m ∨ mxL (mx m x) l ∈ x :: l)
    refine ⟨⟨by omega, fun y hy => ?_⟩, ?_⟩
    · rcases List.mem_cons.1 hy with rfl | hy
      · omega
      · exact ih.1.2 y hy
    · rcases ih.2 with e | e
      · rcases h1.2.2 with e2 | e2
        · left; omega
        · right; rw [e, e2]; simp
      · right; simp [e]
theorem implLeastR_v (s : Int) (l : List Int) : impl_LeastTravel.f s l = some (leastR s l) := by
  unfold impl_LeastTravel.f leastR
  rw [implAre_v, Option.bind_some]
  by_cases c : areAsksB s l = true
  · rw [if_pos c, if_pos c]
    obtain ⟨hs, hl, hb⟩ := (areAsksB_iff s l).1 c
    cases l with
    | nil => rw [if_pos (by simp), opt_nil]
    | cons x l =>
      rw [if_neg (by simp; omega)]
      show ((some (mnL x l)).bind fun t112 => ((some (mxL x l)).bind fun t113 => _)) = _
      rw [Option.bind_some, Option.bind_some]
      have h1 := mnL_spec l x
      have h2 := mxL_spec l x
      have hm : mnL x l ∈ x :: l := by rcases h1.2 with e | e <;> simp [e]
      have hM : mxL x l ∈ x :: l := by rcases h2.2 with e | e <;> simp [e]
      have bm := hb _ hm
      have bM := hb _ hM
      have l1 := loL_le s (x :: l)
      have l2 := hiL_ge s (x :: l)
      have hlo : loL s (x :: l) = min s (mnL x l) := by
        have := l1.2 _ hm
        have := l1.1
        rcases loL_or s (x :: l) with e | e
        · omega
        · rcases List.mem_cons.1 e with e2 | e2
          · have := h1.1.1; omega
          · have := h1.1.2 _ e2; omega
      have hhi : hiL s (x :: l) = max s (mxL x l) := by
        have := l2.2 _ hM
        have := l2.1
        rcases hiL_or s (x :: l) with e | e
        · omega
        · rcases List.mem_cons.1 e with e2 | e2
          · have := h2.1.1; omega
          · have := h2.1.2 _ e2; omega
      rw [wrap_in (x := s - mnL x l) (by omega) (by omega), wrap_in (x := mxL x l - s) (by omega) (by omega)]
      have e1 : mx (s - mnL x l) 0 = s - loL s (x :: l) := by rw [hlo]; unfold mx; split <;> omega
      have e2 : mx (mxL x l - s) 0 = hiL s (x :: l) - s := by rw [hhi]; unfold mx; split <;> omega
      rw [e1, e2]
      have hb1 : 0 ≤ s - loL s (x :: l) ∧ s - loL s (x :: l) ≤ 200 := by rw [hlo]; omega
      have hb2 : 0 ≤ hiL s (x :: l) - s ∧ hiL s (x :: l) - s ≤ 200 := by rw [hhi]; omega
      have e3 : mn (s - loL s (x :: l)) (hiL s (x :: l) - s) = min (hiL s (x :: l) - s) (s - loL s (x :: l)) := by unfold mn; split <;> omega
      rw [e3, wrap_in (x := s - loL s (x :: l) + (hiL s (x :: l) - s)) (by omega) (by omega), wrap_in (by omega) (by omega)]
      unfold opt
      congr 2
      omega
  · rw [if_neg c, if_neg c]
theorem FnExactLeastTravel : laws_FnExactLeastTravel.Pure := by
  intro s l _ _ _ _
  refine Tot.at_ ?_
  unfold laws_FnExactLeastTravel.f
  by_cases hz : (l.length : Int) > 1048576
  · exact Tot.yes hz (Tot.pure _)
  · have toV := toInt_v l (by omega)
    simp only [implLeastR_v, Option.bind_some]
    refine Tot.no hz (Tot.bind toV (Tot.bind (specLeastR_v s l (by omega)) (Tot.bind toV (Tot.yes rfl ?_))))
    refine Tot.step (fun k => laws_FnExactLeastTravel.j0.eq_2 ..) (Tot.no (by simp) ?_)
    exact Tot.bind toV (Tot.bind (eqInt_v l (by omega)) (Tot.yes rfl (Tot.pure _)))

end Go.Proofs.Ytdjekgeoaekplaa.Pure

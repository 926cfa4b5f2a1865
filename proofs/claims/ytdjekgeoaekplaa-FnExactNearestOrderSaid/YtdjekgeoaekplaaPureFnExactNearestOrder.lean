/- The plain law behind FnExactNearestOrder: what the two sides compute is the same, for every input. No condition. -/
import Derived.Test.YtdjekgeoaekplaaPFnExactNearestOrderx3
set_option linter.unusedVariables false
set_option linter.unusedSimpArgs false
namespace Go.Proofs.Ytdjekgeoaekplaa.Pure
open Go.RowKit Go.Proofs.Ytdjekgeoaekplaa.PFnExactNearestOrder Go.Proofs.YtdjekgeoaekplaaW.PrintWords Go.Proofs.YtdjekgeoaekplaaW.PrintLast Go.Proofs.YtdjekgeoaekplaaW.PrintMore

theorem wrap_in {x : Int} (h0 : -9223372036854775808 ≤ x) (h1 : x ≤ 9223372036854775807) : wrap64 x = x := by unfold wrap64; omega
theorem wf_in {x : Int} (h : (Lit.int .i64 x).wf = true) : -9223372036854775808 ≤ x ∧ x ≤ 9223372036854775807 := by
  simp only [Lit.wf, IntKind.min, IntKind.max, IntKind.bits, IntKind.signed, Bool.and_eq_true, decide_eq_true_eq] at h
  exact ⟨by have := h.1; simpa using this, by have := h.2; simpa using this⟩
theorem toList_nil (s : ByteArray) : (s.toList == ([] : List UInt8)) = decide (s.size = 0) := by
  rw [Bool.eq_iff_iff]
  simp only [beq_iff_eq, decide_eq_true_eq, ByteArray.toList_eq]
  constructor
  · intro h
    have h2 : s.data.toList.length = 0 := by rw [h]; rfl
    rw [Array.length_toList] at h2
    exact h2
  · intro h
    have h2 : s.data.toList.length = 0 := by rw [Array.length_toList]; exact h
    exact List.eq_nil_of_length_eq_zero h2

theorem in_v (a b c : Int) : spec_l1In.f a b c = some (decide (b ≤ a ∧ a ≤ c)) := by
  unfold spec_l1In.f
  by_cases h : a ≥ b
  · rw [if_pos h]; congr 1; rw [decide_eq_decide]; omega
  · rw [if_neg h]; congr 1; symm; rw [decide_eq_false_iff_not]; omega

theorem within_v (a b c : Int) : impl_within.f a b c = some (decide (b ≤ a ∧ a ≤ c)) := by
  unfold impl_within.f
  by_cases h : b ≤ a
  · rw [if_pos h]; congr 1; rw [decide_eq_decide]; omega
  · rw [if_neg h]; congr 1; symm; rw [decide_eq_false_iff_not]; omega


/-- From some number of rounds on the answer is r. -/
def Tot {α : Type} (g : Nat → Option α) (r : α) : Prop := ∃ K, ∀ k, K ≤ k → g k = some r
theorem Tot.at_ {α : Type} {g : Nat → Option α} {r : α} (h : Tot g r) : ∃ k, g k = some r := by
  obtain ⟨K, hK⟩ := h
  exact ⟨K, hK K (Nat.le_refl _)⟩
theorem Tot.pure {α : Type} (r : α) : Tot (fun _ => some r) r := ⟨0, fun _ _ => rfl⟩
theorem Tot.of_eq {α : Type} {g : Nat → Option α} {r : α} (h : ∀ k, g k = some r) : Tot g r := ⟨0, fun k _ => h k⟩
theorem Tot.congr {α : Type} {g g' : Nat → Option α} {r : α} (he : ∀ k, g k = g' k) (h : Tot g' r) : Tot g r := by
  obtain ⟨K, hK⟩ := h
  exact ⟨K, fun k hk => (he k).trans (hK k hk)⟩
theorem Tot.bind {α β : Type} {g : Nat → Option α} {h : Nat → α → Option β} {a : α} {r : β} (hg : Tot g a) (hh : Tot (fun k => h k a) r) : Tot (fun k => (g k).bind (h k)) r := by
  obtain ⟨K, hK⟩ := hg
  obtain ⟨L, hL⟩ := hh
  refine ⟨max K L, fun k hk => ?_⟩
  show (g k).bind (h k) = some r
  rw [hK k (by omega)]
  exact hL k (by omega)
theorem Tot.step {α : Type} {F G : Nat → Option α} {r : α} (hF : ∀ k, F (k + 1) = G k) (h : Tot G r) : Tot F r := by
  obtain ⟨K, hK⟩ := h
  refine ⟨K + 1, fun k hk => ?_⟩
  obtain ⟨m, rfl⟩ : ∃ m, k = m + 1 := ⟨k - 1, by omega⟩
  rw [hF]
  exact hK m (by omega)
theorem Tot.yes {α : Type} {p : Prop} [Decidable p] {g h : Nat → Option α} {r : α} (hp : p) (hg : Tot g r) : Tot (fun k => if p then g k else h k) r := by
  simpa only [if_pos hp] using hg
theorem Tot.no {α : Type} {p : Prop} [Decidable p] {g h : Nat → Option α} {r : α} (hp : ¬ p) (hg : Tot h r) : Tot (fun k => if p then g k else h k) r := by
  simpa only [if_neg hp] using hg
theorem Tot.some_bind {α β : Type} {h : Nat → α → Option β} {a : α} {r : β} (hh : Tot (fun k => h k a) r) : Tot (fun k => (some a).bind (h k)) r := hh

theorem all_l (lo hi : Int) : ∀ (b a : List Int), ((a ++ b).length : Int) ≤ 9223372036850000000 → Tot (fun k => spec_l1All.l0 k lo hi (a ++ b) ((a ++ b).length : Int) a.length) (b.all fun x => decide (lo ≤ x ∧ x ≤ hi))
  | [], a, h => by
    refine Tot.step (fun k => spec_l1All.l0.eq_2 ..) ?_
    exact Tot.no (by simp) (Tot.pure _)
  | x :: b, a, h => by
    have hl : ((a ++ x :: b).length : Int) = a.length + b.length + 1 := by simp; omega
    have hr : rd (a ++ x :: b) (a.length : Int) = x := by simp [rd, List.getD]
    refine Tot.step (fun k => spec_l1All.l0.eq_2 ..) (Tot.yes (by omega) (Tot.yes (by omega) (Tot.yes (by omega) ?_)))
    rw [hr, wrap_in (x := (a.length : Int) + 1) (by omega) (by omega)]
    simp only [in_v, Option.bind_some, List.all_cons]
    by_cases hx : lo ≤ x ∧ x ≤ hi
    · rw [decide_eq_true hx, Bool.true_and]
      refine Tot.yes rfl ?_
      have := all_l lo hi b (a ++ [x]) (by simp at hl h ⊢; omega)
      simpa using this
    · rw [decide_eq_false hx, Bool.false_and]
      exact Tot.no (by decide) (Tot.pure _)
theorem all_v (l : List Int) (lo hi : Int) (h : (l.length : Int) ≤ 9223372036850000000) : Tot (fun k => spec_l1All.f k l lo hi) (l.all fun x => decide (lo ≤ x ∧ x ≤ hi)) := by
  have := all_l lo hi l [] (by simpa using h)
  unfold spec_l1All.f
  simpa using this

def asksB (l : List Int) : Bool := decide ((l.length : Int) ≤ 8) && l.all isTrackB
theorem specAsks_v (l : List Int) (h : (l.length : Int) ≤ 9223372036850000000) : Tot (fun k => spec_GoodAsks.f k l) (asksB l) := by
  unfold spec_GoodAsks.f asksB
  by_cases hl : (l.length : Int) ≤ 8
  · rw [decide_eq_true hl, Bool.true_and]
    exact Tot.yes hl (Tot.bind (all_v l 0 200 h) (Tot.pure _))
  · rw [decide_eq_false hl, Bool.false_and]
    exact Tot.no hl (Tot.pure _)
theorem implAsks_v (l : List Int) : impl_GoodAsks.f l = some (asksB l) := rfl
theorem asksB_iff (l : List Int) : asksB l = true ↔ ((l.length : Int) ≤ 8 ∧ ∀ x ∈ l, 0 ≤ x ∧ x ≤ 200) := by
  simp [asksB, isTrackB]

def areAsksB (s : Int) (l : List Int) : Bool := isTrackB s && asksB l
theorem specGood_v (s : Int) (l : List Int) (h : (l.length : Int) ≤ 9223372036850000000) : Tot (fun k => spec_l8Good.f k s l) (areAsksB s l) := by
  unfold spec_l8Good.f spec_l8Track.f areAsksB
  simp only [in_v, Option.bind_some]
  by_cases hs : 0 ≤ s ∧ s ≤ 200
  · have e : isTrackB s = true := decide_eq_true hs
    rw [e, Bool.true_and]
    exact Tot.yes (decide_eq_true hs) (Tot.bind (specAsks_v l h) (Tot.pure _))
  · have e : isTrackB s = false := decide_eq_false hs
    rw [e, Bool.false_and]
    exact Tot.no (by simp [hs]) (Tot.pure _)
theorem implAre_v (s : Int) (l : List Int) : impl_areAsks.f s l = some (areAsksB s l) := by
  unfold impl_areAsks.f areAsksB
  rw [isTrackB_v, Option.bind_some]
  cases isTrackB s <;> simp [implAsks_v]
theorem areAsksB_iff (s : Int) (l : List Int) : areAsksB s l = true ↔ ((0 ≤ s ∧ s ≤ 200) ∧ (l.length : Int) ≤ 8 ∧ ∀ x ∈ l, 0 ≤ x ∧ x ≤ 200) := by
  rw [← asksB_iff]
  simp [areAsksB, isTrackB]
/-- From one track to another. -/
def way (a b : Int) : Int := if a < b then b - a else a - b
theorem way_nonneg (a b : Int) : 0 ≤ way a b := by unfold way; split <;> omega
theorem way_le (a b : Int) (ha : 0 ≤ a ∧ a ≤ 200) (hb : 0 ≤ b ∧ b ≤ 200) : way a b ≤ 200 := by unfold way; split <;> omega
def travelL : Int → List Int → Int
  | _, [] => 0
  | s, t :: l => way s t + travelL t l
def waitsL : Int → Int → List Int → List Int
  | _, _, [] => []
  | acc, s, t :: l => (acc + way s t) :: waitsL (acc + way s t) t l
theorem waitsL_length : ∀ (l : List Int) (acc s : Int), (waitsL acc s l).length = l.length
  | [], _, _ => rfl
  | t :: l, acc, s => by simp [waitsL, waitsL_length l]
theorem travelL_nonneg : ∀ (l : List Int) (s : Int), 0 ≤ travelL s l
  | [], _ => by simp [travelL]
  | t :: l, s => by have := travelL_nonneg l t; have := way_nonneg s t; simp [travelL]; omega

def insL (x : Int) : List Int → List Int
  | [] => [x]
  | y :: l => if y ≤ x then y :: insL x l else x :: y :: l
theorem insL_perm (x : Int) : ∀ l : List Int, (insL x l).Perm (x :: l)
  | [] => List.Perm.refl _
  | y :: l => by
    unfold insL
    split
    · exact ((insL_perm x l).cons y).trans (List.Perm.swap x y l)
    · exact List.Perm.refl _
theorem insL_sorted (x : Int) : ∀ l : List Int, l.Pairwise (· ≤ ·) → (insL x l).Pairwise (· ≤ ·)
  | [], _ => by simp [insL]
  | y :: l, h => by
    obtain ⟨h1, h2⟩ := List.pairwise_cons.1 h
    unfold insL
    split
    · rename_i hy
      refine List.pairwise_cons.2 ⟨fun z hz => ?_, insL_sorted x l h2⟩
      rcases List.mem_cons.1 ((insL_perm x l).mem_iff.1 hz) with rfl | hz
      · exact hy
      · exact h1 z hz
    · rename_i hy
      refine List.pairwise_cons.2 ⟨fun z hz => ?_, h⟩
      rcases List.mem_cons.1 hz with rfl | hz
      · omega
      · have := h1 z hz; omega
theorem insL_at (x : Int) : ∀ (a b : List Int), (∀ y ∈ a, y ≤ x) → (∀ y, b.head? = some y → x < y) → insL x (a ++ b) = a ++ x :: b
  | [], [], _, _ => rfl
  | [], y :: b, _, h => by
    have := h y rfl
    simp [insL, show ¬ y ≤ x by omega]
  | z :: a, b, ha, h => by
    have := ha z (by simp)
    have ih := insL_at x a b (fun y hy => ha y (by simp [hy])) h
    simp [insL, this, ih]
def sortL (l : List Int) : List Int := l.foldl (fun o x => insL x o) []
theorem foldIns_perm : ∀ (l o : List Int), (l.foldl (fun o x => insL x o) o).Perm (l ++ o)
  | [], o => List.Perm.refl _
  | x :: l, o => by
    refine (foldIns_perm l (insL x o)).trans ?_
    refine (List.Perm.append_left l (insL_perm x o)).trans ?_
    exact List.perm_middle
theorem foldIns_sorted : ∀ (l o : List Int), o.Pairwise (· ≤ ·) → (l.foldl (fun o x => insL x o) o).Pairwise (· ≤ ·)
  | [], _, h => h
  | x :: l, o, h => foldIns_sorted l (insL x o) (insL_sorted x o h)
theorem sortL_perm (l : List Int) : (sortL l).Perm l := by unfold sortL; simpa using foldIns_perm l []
theorem sortL_sorted (l : List Int) : (sortL l).Pairwise (· ≤ ·) := foldIns_sorted l [] List.Pairwise.nil
theorem sortL_length (l : List Int) : (sortL l).length = l.length := (sortL_perm l).length_eq
theorem sorted_eq {a b : List Int} (ha : a.Pairwise (· ≤ ·)) (hb : b.Pairwise (· ≤ ·)) (h : a.Perm b) : a = b :=
  List.Perm.eq_of_pairwise (le := (· ≤ ·)) (fun x y _ _ h1 h2 => by omega) ha hb h
theorem foldIns_length (l o : List Int) : (l.foldl (fun o x => insL x o) o).length = l.length + o.length := by simpa using (foldIns_perm l o).length_eq

theorem sortI_eq (l : List Int) : Go.Proofs.Ytdjekgeoaekplaa.Sort.sortI l = sortL l := by
  refine sorted_eq ?_ (sortL_sorted l) ((List.mergeSort_perm l _).trans (sortL_perm l).symm)
  refine (List.pairwise_mergeSort (fun a b c h1 h2 => ?_) (fun a b => ?_) l).imp (fun h => of_decide_eq_true h)
  · rw [decide_eq_true_eq] at *; omega
  · simp only [Bool.or_eq_true, decide_eq_true_eq]; omega
theorem mem_sortL (l : List Int) (x : Int) : x ∈ sortL l ↔ x ∈ l := (sortL_perm l).mem_iff

theorem way_v (a b : Int) (ha : 0 ≤ a ∧ a ≤ 200) (hb : 0 ≤ b ∧ b ≤ 200) : spec_l8Way.f a b = some (way a b) := by
  unfold spec_l8Way.f way
  rw [wrap_in (x := a - b) (by omega) (by omega), wrap_in (x := b - a) (by omega) (by omega)]
  split <;> rfl

def lexle (s a b : Int) : Prop := way s a < way s b ∨ (way s a = way s b ∧ a ≤ b)
theorem lexle_refl (s a : Int) : lexle s a a := .inr ⟨rfl, Int.le_refl _⟩
theorem lexle_trans {s a b c : Int} (h1 : lexle s a b) (h2 : lexle s b c) : lexle s a c := by
  unfold lexle at *
  omega
theorem lexle_anti {s a b : Int} (h1 : lexle s a b) (h2 : lexle s b a) : a = b := by
  unfold lexle at *
  omega
def bestS (s : Int) (L : List Int) : Nat → Nat
  | 0 => 0
  | i + 1 => if way s (L.getD i 0) < way s (L.getD (bestS s L i) 0) then i else if way s (L.getD i 0) = way s (L.getD (bestS s L i) 0) ∧ L.getD i 0 < L.getD (bestS s L i) 0 then i else bestS s L i
theorem bestS_ok (s : Int) (L : List Int) (h : 0 < L.length) : ∀ i, i ≤ L.length → bestS s L i < L.length ∧ ∀ j, j < i → lexle s (L.getD (bestS s L i) 0) (L.getD j 0)
  | 0, _ => ⟨h, fun j hj => by omega⟩
  | i + 1, hi => by
    obtain ⟨h1, h2⟩ := bestS_ok s L h i (by omega)
    unfold bestS
    split
    · rename_i c
      refine ⟨by omega, fun j hj => ?_⟩
      rcases Nat.lt_or_ge j i with hlt | hge
      · exact lexle_trans (.inl c) (h2 j hlt)
      · obtain rfl : j = i := by omega
        exact lexle_refl _ _
    · rename_i c
      split
      · rename_i c2
        refine ⟨by omega, fun j hj => ?_⟩
        rcases Nat.lt_or_ge j i with hlt | hge
        · exact lexle_trans (.inr ⟨c2.1, by omega⟩) (h2 j hlt)
        · obtain rfl : j = i := by omega
          exact lexle_refl _ _
      · rename_i c2
        refine ⟨h1, fun j hj => ?_⟩
        rcases Nat.lt_or_ge j i with hlt | hge
        · exact h2 j hlt
        · obtain rfl : j = i := by omega
          unfold lexle
          omega
theorem nearI_ok (s : Int) (L : List Int) (h : 0 < L.length) : ∀ i, i ≤ L.length → (Go.Proofs.Ytdjekgeoaekplaa.Near.nearI s L i < L.length ∧ Go.Proofs.Ytdjekgeoaekplaa.Near.nearI s L i ≤ i) ∧ ∀ j, j < i → way s (L.getD (Go.Proofs.Ytdjekgeoaekplaa.Near.nearI s L i) 0) < way s (L.getD j 0) ∨ (way s (L.getD (Go.Proofs.Ytdjekgeoaekplaa.Near.nearI s L i) 0) = way s (L.getD j 0) ∧ Go.Proofs.Ytdjekgeoaekplaa.Near.nearI s L i ≤ j)
  | 0, _ => ⟨⟨h, Nat.le_refl _⟩, fun j hj => by omega⟩
  | i + 1, hi => by
    obtain ⟨⟨h1, h0⟩, h2⟩ := nearI_ok s L h i (by omega)
    unfold Go.Proofs.Ytdjekgeoaekplaa.Near.nearI
    have e : ∀ a b, Go.Proofs.Ytdjekgeoaekplaa.Near.wayI a b = way a b := fun _ _ => rfl
    simp only [e]
    split
    · rename_i c
      refine ⟨⟨by omega, by omega⟩, fun j hj => ?_⟩
      rcases Nat.lt_or_ge j i with hlt | hge
      · have := h2 j hlt; omega
      · obtain rfl : j = i := by omega
        exact .inr ⟨rfl, Nat.le_refl _⟩
    · rename_i c
      refine ⟨⟨h1, by omega⟩, fun j hj => ?_⟩
      rcases Nat.lt_or_ge j i with hlt | hge
      · exact h2 j hlt
      · obtain rfl : j = i := by omega
        omega
theorem getD_mem {L : List Int} {i : Nat} (h : i < L.length) : L.getD i 0 ∈ L := by
  rw [List.getD_eq_getElem?_getD, List.getElem?_eq_getElem h]
  exact List.getElem_mem _
theorem mem_getD {L : List Int} {x : Int} (h : x ∈ L) : ∃ i, i < L.length ∧ L.getD i 0 = x := by
  obtain ⟨i, hi, rfl⟩ := List.mem_iff_getElem.1 h
  exact ⟨i, hi, by rw [List.getD_eq_getElem?_getD, List.getElem?_eq_getElem hi]; rfl⟩
theorem sorted_getD {L : List Int} (h : L.Pairwise (· ≤ ·)) {i j : Nat} (hij : i ≤ j) (hj : j < L.length) : L.getD i 0 ≤ L.getD j 0 := by
  rw [List.getD_eq_getElem?_getD, List.getElem?_eq_getElem (show i < L.length by omega), List.getD_eq_getElem?_getD, List.getElem?_eq_getElem hj]
  rcases Nat.lt_or_ge i j with hlt | hge
  · exact List.pairwise_iff_getElem.1 h i j _ hj hlt
  · obtain rfl : i = j := by omega
    exact Int.le_refl _
theorem erase_perm {L : List Int} {i : Nat} (h : i < L.length) : L.Perm (L.getD i 0 :: L.eraseIdx i) := by
  have e : L = L.take i ++ L.getD i 0 :: L.drop (i + 1) := by
    rw [List.getD_eq_getElem?_getD, List.getElem?_eq_getElem h]
    show L = L.take i ++ L[i] :: L.drop (i + 1)
    rw [← List.drop_eq_getElem_cons h, List.take_append_drop]
  have e2 : L.eraseIdx i = L.take i ++ L.drop (i + 1) := List.eraseIdx_eq_take_drop_succ L i
  rw [e2]
  exact (List.Perm.of_eq e).trans List.perm_middle
theorem sorted_erase {L : List Int} (h : L.Pairwise (· ≤ ·)) (i : Nat) : (L.eraseIdx i).Pairwise (· ≤ ·) := h.sublist (List.eraseIdx_sublist L i)
def greedyS : Nat → Int → List Int → List Int
  | 0, _, _ => []
  | n + 1, s, L => L.getD (bestS s L L.length) 0 :: greedyS n (L.getD (bestS s L L.length) 0) (L.eraseIdx (bestS s L L.length))
theorem greedy_eq : ∀ (n : Nat) (s : Int) (L M : List Int), L.length = n → L.Perm M → M.Pairwise (· ≤ ·) → greedyS n s L = Go.Proofs.Ytdjekgeoaekplaa.Near.greedyI n s M
  | 0, _, _, _, _, _, _ => rfl
  | n + 1, s, L, M, hl, hp, hs => by
    have hm : M.length = n + 1 := by rw [← hp.length_eq, hl]
    obtain ⟨b1, b2⟩ := bestS_ok s L (by omega) L.length (Nat.le_refl _)
    obtain ⟨⟨c1, c0⟩, c2⟩ := nearI_ok s M (by omega) M.length (Nat.le_refl _)
    have e : L.getD (bestS s L L.length) 0 = M.getD (Go.Proofs.Ytdjekgeoaekplaa.Near.nearI s M M.length) 0 := by
      refine lexle_anti (s := s) ?_ ?_
      · obtain ⟨j, hj, hje⟩ := mem_getD (hp.mem_iff.2 (getD_mem c1))
        rw [← hje]
        exact b2 j hj
      · obtain ⟨j, hj, hje⟩ := mem_getD (hp.mem_iff.1 (getD_mem b1))
        rw [← hje]
        have h1 := c2 j hj
        rcases h1 with h1 | ⟨h1, h2⟩
        · exact .inl h1
        · exact .inr ⟨h1, sorted_getD hs h2 hj⟩
    show L.getD (bestS s L L.length) 0 :: greedyS n (L.getD (bestS s L L.length) 0) (L.eraseIdx (bestS s L L.length)) = M.getD (Go.Proofs.Ytdjekgeoaekplaa.Near.nearI s M M.length) 0 :: Go.Proofs.Ytdjekgeoaekplaa.Near.greedyI n (M.getD (Go.Proofs.Ytdjekgeoaekplaa.Near.nearI s M M.length) 0) (M.eraseIdx (Go.Proofs.Ytdjekgeoaekplaa.Near.nearI s M M.length))
    have p1 := (erase_perm b1).symm.trans (hp.trans (erase_perm c1))
    rw [e] at p1 ⊢
    rw [greedy_eq n _ (L.eraseIdx (bestS s L L.length)) (M.eraseIdx (Go.Proofs.Ytdjekgeoaekplaa.Near.nearI s M M.length)) (by rw [List.length_eraseIdx_of_lt b1]; omega) p1.cons_inv (sorted_erase hs _)]
theorem greedyS_length : ∀ (n : Nat) (s : Int) (L : List Int), (greedyS n s L).length = n
  | 0, _, _ => rfl
  | n + 1, s, L => by simp [greedyS, greedyS_length n]
theorem rd_nat (L : List Int) (i : Nat) : rd L (i : Int) = L.getD i 0 := by
  show L.getD (i : Int).toNat 0 = _
  rw [Int.toNat_natCast]
theorem specNear_l : ∀ (n : Nat) (s : Int) (L out : List Int), L.length = n → n ≤ 8 → (0 ≤ s ∧ s ≤ 200) → (∀ x ∈ L, 0 ≤ x ∧ x ≤ 200) → out.length ≤ 8 - n → Tot (fun k => spec_NearestOrder.l0 k s L out) (out ++ greedyS n s L, true)
  | 0, s, L, out, hl, _, _, _, _ => by
    refine Tot.step (fun k => spec_NearestOrder.l0.eq_2 ..) (Tot.no (by omega) ?_)
    simpa [greedyS] using Tot.pure _
  | n + 1, s, L, out, hl, hn, hs, hb, ho => by
    have inner : ∀ (d i : Nat), i + d = L.length → Tot (fun k => spec_NearestOrder.l1 k s L out (bestS s L i) L (L.length : Int) i) (out ++ greedyS (n + 1) s L, true) := by
      intro d
      induction d with
      | zero =>
        intro i hi
        obtain rfl : i = L.length := by omega
        obtain ⟨b1, _⟩ := bestS_ok s L (by omega) L.length (Nat.le_refl _)
        have hx := hb _ (getD_mem b1)
        have ih := specNear_l n (L.getD (bestS s L L.length) 0) (L.eraseIdx (bestS s L L.length)) (out ++ [L.getD (bestS s L L.length) 0]) (by rw [List.length_eraseIdx_of_lt b1]; omega) (by omega) hx (fun y hy => hb y (List.mem_of_mem_eraseIdx hy)) (by simp; omega)
        have eg : greedyS (n + 1) s L = L.getD (bestS s L L.length) 0 :: greedyS n (L.getD (bestS s L L.length) 0) (L.eraseIdx (bestS s L L.length)) := rfl
        have ee : L.eraseIdx (bestS s L L.length) = L.take (bestS s L L.length) ++ L.drop (bestS s L L.length + 1) := List.eraseIdx_eq_take_drop_succ L _
        rw [eg]
        rw [ee] at ih ⊢
        generalize bestS s L L.length = b at *
        refine Tot.step (fun k => spec_NearestOrder.l1.eq_2 ..) (Tot.no (by omega) (Tot.yes (by omega) (Tot.yes (by omega) (Tot.yes (by omega) (Tot.some_bind (Tot.yes (by omega) (Tot.some_bind (Tot.yes (by simp; omega) (Tot.some_bind ?_)))))))))
        rw [wrap_in (x := (b : Int) + 1) (by omega) (by omega), rd_nat]
        refine Tot.yes (by omega) (Tot.yes (by omega) (Tot.some_bind (Tot.yes (by simp; omega) ?_)))
        rw [show ((b : Int) + 1).toNat = b + 1 by omega]
        simpa using ih
      | succ d ihd =>
        intro i hi
        obtain ⟨b1, _⟩ := bestS_ok s L (by omega) i (by omega)
        have hx := hb _ (getD_mem (show i < L.length by omega))
        have hy := hb _ (getD_mem b1)
        have ih := ihd (i + 1) (by omega)
        have es : bestS s L (i + 1) = if way s (L.getD i 0) < way s (L.getD (bestS s L i) 0) then i else if way s (L.getD i 0) = way s (L.getD (bestS s L i) 0) ∧ L.getD i 0 < L.getD (bestS s L i) 0 then i else bestS s L i := rfl
        rw [es] at ih
        generalize bestS s L i = b at *
        refine Tot.step (fun k => spec_NearestOrder.l1.eq_2 ..) (Tot.yes (by omega) (Tot.yes (by omega) (Tot.yes (by omega) ?_)))
        simp only [rd_nat, way_v s (L.getD i 0) hs hx, way_v s (L.getD b 0) hs hy, Option.bind_some]
        rw [wrap_in (x := (i : Int) + 1) (by omega) (by omega)]
        refine Tot.yes (by omega) (Tot.yes (by omega) ?_)
        by_cases c : way s (L.getD i 0) < way s (L.getD b 0)
        · rw [if_pos c] at ih
          exact Tot.yes c ih
        · rw [if_neg c] at ih
          refine Tot.no c ?_
          by_cases c2 : way s (L.getD i 0) = way s (L.getD b 0)
          · refine Tot.yes c2 ?_
            by_cases c3 : L.getD i 0 < L.getD b 0
            · rw [if_pos ⟨c2, c3⟩] at ih
              exact Tot.yes c3 ih
            · rw [if_neg (fun h => c3 h.2)] at ih
              exact Tot.no c3 ih
          · rw [if_neg (fun h => c2 h.1)] at ih
            exact Tot.no c2 ih
    exact Tot.step (fun k => spec_NearestOrder.l0.eq_2 ..) (Tot.yes (by omega) (inner L.length 0 (by omega)))
def nearR (s : Int) (l : List Int) : List Int × Bool := if areAsksB s l = true then (greedyS l.length s l, true) else ([], false)
theorem nearR_short (s : Int) (l : List Int) : ((nearR s l).1.length : Int) ≤ 1000 := by
  unfold nearR
  split
  · rename_i h
    have := (areAsksB_iff s l).1 h
    show ((greedyS l.length s l).length : Int) ≤ 1000
    rw [greedyS_length]
    omega
  · simp
theorem specNear_v (s : Int) (l : List Int) (h : (l.length : Int) ≤ 1048576) : Tot (fun k => spec_NearestOrder.f k s l) (nearR s l) := by
  unfold spec_NearestOrder.f nearR
  refine Tot.bind (specGood_v s l (by omega)) ?_
  by_cases hg : areAsksB s l = true
  · obtain ⟨h1, h2, h3⟩ := (areAsksB_iff s l).1 hg
    rw [if_pos hg]
    have := specNear_l l.length s l [] rfl (by omega) h1 h3 (by simp)
    exact Tot.yes hg (Tot.some_bind (Tot.yes (by simp; omega) (by simpa using this)))
  · rw [if_neg hg]
    exact Tot.no hg (Tot.pure _)
theorem implNear_v (s : Int) (l : List Int) : impl_NearestOrder.f s l = some (nearR s l) := by
  unfold impl_NearestOrder.f nearR
  rw [implAre_v, Option.bind_some]
  by_cases hg : areAsksB s l = true
  · obtain ⟨h1, h2, h3⟩ := (areAsksB_iff s l).1 hg
    rw [if_pos hg, if_pos hg, if_pos ⟨h1, by omega, h3⟩, sortI_eq, greedy_eq l.length s l (sortL l) rfl (sortL_perm l).symm (sortL_sorted l)]
  · rw [if_neg hg, if_neg hg]

theorem rd_at {l : List Int} {i : Int} (h0 : 0 ≤ i) (h1 : i < (l.length : Int)) : rd l i = l[i.toNat]'(by omega) := by
  unfold rd
  rw [List.getD_eq_getElem?_getD, List.getElem?_eq_getElem (by omega : i.toNat < l.length)]
  rfl
theorem eqInt_l (a : List Int) (ha : (a.length : Int) ≤ 9223372036854775806) : ∀ (d : Nat) (i : Int), 0 ≤ i → i + d = a.length → Tot (fun k => laws_eqIntS.l0 k a a i) true
  | 0, i, h0, h => by
    refine Tot.step (fun k => laws_eqIntS.l0.eq_2 ..) ?_
    exact Tot.no (by omega) (Tot.pure _)
  | d + 1, i, h0, h => by
    refine Tot.step (fun k => laws_eqIntS.l0.eq_2 ..) ?_
    refine Tot.yes (by omega) (Tot.yes h0 (Tot.yes (by omega) (Tot.yes rfl ?_)))
    rw [wrap_in (by omega) (by omega)]
    exact eqInt_l a ha d (i + 1) (by omega) (by omega)
theorem eqInt_v (a : List Int) (ha : (a.length : Int) ≤ 9223372036854775806) : Tot (fun k => laws_eqIntS.f k a a) true := by
  unfold laws_eqIntS.f
  exact Tot.yes rfl (eqInt_l a ha a.length 0 (by omega) (by omega))

/-- m, m + 1, .. in the place of what stands from i on. -/
def marked : List Int → Int → List Int
  | [], _ => []
  | _ :: l, m => m :: marked l (wrap64 (m + 1))
def markEnd : List Int → Int → Int
  | [], m => m
  | _ :: l, m => markEnd l (wrap64 (m + 1))
theorem marked_length : ∀ (l : List Int) (m : Int), (marked l m).length = l.length
  | [], _ => rfl
  | _ :: l, m => by simp [marked, marked_length l]
theorem markEnd_marked : ∀ (l : List Int) (m : Int), markEnd (marked l m) m = markEnd l m
  | [], _ => rfl
  | _ :: l, m => markEnd_marked l _
theorem markInt_l : ∀ (b a : List Int) (m : Int), ((a ++ b).length : Int) ≤ 9223372036854775806 → Tot (fun k => laws_markIntS.l0 k (a ++ b) m a.length) (markEnd b m, a ++ marked b m)
  | [], a, m, h => by
    refine Tot.step (fun k => laws_markIntS.l0.eq_2 ..) ?_
    simp only [List.append_nil, marked, markEnd]
    exact Tot.no (by omega) (Tot.pure _)
  | x :: b, a, m, h => by
    refine Tot.step (fun k => laws_markIntS.l0.eq_2 ..) ?_
    have hl : ((a ++ x :: b).length : Int) = a.length + b.length + 1 := by simp; omega
    refine Tot.yes (by omega) (Tot.yes (by omega) ?_)
    have e : (a ++ x :: b).set ((a.length : Int)).toNat m = (a ++ [m]) ++ b := by simp
    rw [e, wrap_in (x := (a.length : Int) + 1) (by omega) (by omega)]
    have := markInt_l b (a ++ [m]) (wrap64 (m + 1)) (by simp at hl h ⊢; omega)
    simpa [marked, markEnd] using this
theorem markInt_v (a : List Int) (m : Int) (ha : (a.length : Int) ≤ 9223372036854775806) : Tot (fun k => laws_markIntS.f k a m) (markEnd a m, marked a m) := by
  have := markInt_l a [] m (by simpa using ha)
  unfold laws_markIntS.f
  simpa using this
theorem markEnd_nonneg : ∀ (l : List Int) (m : Int), 0 ≤ m → m + l.length ≤ 9223372036854775806 → 0 ≤ markEnd l m
  | [], m, h, _ => h
  | _ :: l, m, h, h2 => by
    simp at h2
    unfold markEnd
    rw [wrap_in (by omega) (by omega)]
    exact markEnd_nonneg l _ (by omega) (by omega)

theorem heldInt_l : ∀ (b a : List Int) (m : Int), ((a ++ b).length : Int) ≤ 9223372036854775806 → Tot (fun k => laws_heldIntS.l0 k (a ++ marked b m) m a.length) (markEnd b m)
  | [], a, m, h => by
    refine Tot.step (fun k => laws_heldIntS.l0.eq_2 ..) ?_
    simp only [List.append_nil, marked, markEnd]
    exact Tot.no (by omega) (Tot.pure _)
  | x :: b, a, m, h => by
    refine Tot.step (fun k => laws_heldIntS.l0.eq_2 ..) ?_
    have hl : ((a ++ marked (x :: b) m).length : Int) = a.length + b.length + 1 := by simp [marked, marked_length]; omega
    have h2 : ((a ++ x :: b).length : Int) = a.length + b.length + 1 := by simp; omega
    refine Tot.yes (by omega) (Tot.yes (by omega) (Tot.yes ?_ ?_))
    · rw [rd_at (by omega) (by omega)]
      simp [marked]
    · rw [wrap_in (x := (a.length : Int) + 1) (by omega) (by omega)]
      have := heldInt_l b (a ++ [m]) (wrap64 (m + 1)) (by simp at h2 h ⊢; omega)
      simpa [marked, markEnd] using this
theorem heldInt_v (a : List Int) (m : Int) (ha : (a.length : Int) ≤ 9223372036854775806) : Tot (fun k => laws_heldIntS.f k (marked a m) m) (markEnd a m) := by
  have := heldInt_l a [] m (by simpa using ha)
  unfold laws_heldIntS.f
  simpa using this


theorem rdInt_at (a b : List Int) (x : Int) : (rd (a ++ x :: b) (a.length : Int)) = x := by simp [rd, List.getD]
theorem toInt_l : ∀ (b a : List Int), ((a ++ b).length : Int) ≤ 9223372036854775806 → Tot (fun k => laws_toIntS.l0 k (a ++ b) (a ++ List.replicate b.length 0) a.length) (a ++ b)
  | [], a, h => by
    refine Tot.step (fun k => laws_toIntS.l0.eq_2 ..) ?_
    simp only [List.append_nil, List.length_nil, List.replicate_zero]
    exact Tot.no (by omega) (Tot.pure _)
  | x :: b, a, h => by
    refine Tot.step (fun k => laws_toIntS.l0.eq_2 ..) ?_
    have hl : ((a ++ x :: b).length : Int) = a.length + b.length + 1 := by simp; omega
    have hl2 : ((a ++ List.replicate (x :: b).length 0).length : Int) = a.length + b.length + 1 := by simp; omega
    refine Tot.yes (by omega) (Tot.yes (by omega) (Tot.yes (by omega) ?_))
    rw [rdInt_at, wrap_in (x := (a.length : Int) + 1) (by omega) (by omega)]
    have e : (a ++ List.replicate (x :: b).length 0).set ((a.length : Int)).toNat x = (a ++ [x]) ++ List.replicate b.length 0 := by simp [List.replicate_succ]
    rw [e]
    have := toInt_l b (a ++ [x]) (by simp at hl h ⊢; omega)
    simpa using this
theorem toInt_v (l : List Int) (h : (l.length : Int) ≤ 1048576) : Tot (fun k => laws_toIntS.f k l) l := by
  unfold laws_toIntS.f
  refine Tot.yes (by omega) (Tot.yes (by omega) ?_)
  have := toInt_l l [] (by simp; omega)
  simpa using this
theorem FnExactNearestOrder : laws_FnExactNearestOrder.Pure := by
  intro s l hs hl h8 hx
  have hsh := nearR_short s l
  have hn := markEnd_nonneg (nearR s l).1 1 (by omega) (by omega)
  refine Tot.at_ ?_
  unfold laws_FnExactNearestOrder.f
  by_cases hz : (l.length : Int) > 1048576
  · exact Tot.yes hz (Tot.pure _)
  · have hn2 := markEnd_nonneg l 1 (by omega) (by omega)
    have toV := toInt_v l (by omega)
    simp only [implNear_v, Option.bind_some]
    refine Tot.no hz (Tot.bind toV (Tot.bind (specNear_v s l (by omega)) (Tot.bind toV (Tot.bind (eqInt_v _ (by omega)) (Tot.yes rfl ?_)))))
    refine Tot.step (fun k => laws_FnExactNearestOrder.j0.eq_2 ..) (Tot.no (by simp) ?_)
    refine Tot.bind toV (Tot.bind (eqInt_v l (by omega)) (Tot.yes rfl (Tot.bind (markInt_v l 1 (by omega)) ?_)))
    refine Tot.no (by omega) (Tot.bind (eqInt_v _ (by omega)) (Tot.yes rfl ?_))
    refine Tot.step (fun k => laws_FnExactNearestOrder.j1.eq_2 ..) (Tot.no (by simp) ?_)
    simp only [implNear_v, Option.bind_some]
    refine Tot.bind (markInt_v _ 1 (by omega)) (Tot.bind (heldInt_v _ 1 (by omega)) (Tot.no (by omega) (Tot.yes rfl ?_)))
    refine Tot.bind toV (Tot.bind (eqInt_v _ (by omega)) (Tot.yes rfl ?_))
    refine Tot.step (fun k => laws_FnExactNearestOrder.j2.eq_2 ..) (Tot.no (by simp) ?_)
    exact Tot.bind (heldInt_v _ 1 (by omega)) (Tot.no (by omega) (Tot.yes rfl (Tot.pure _)))

end Go.Proofs.Ytdjekgeoaekplaa.Pure

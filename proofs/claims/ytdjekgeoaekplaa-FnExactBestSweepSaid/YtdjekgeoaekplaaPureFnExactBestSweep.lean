/- The plain law behind FnExactBestSweep: what the two sides compute is the same, for every input. No condition. -/
import Derived.Test.YtdjekgeoaekplaaPFnExactBestSweepx4
set_option linter.unusedVariables false
set_option linter.unusedSimpArgs false
namespace Go.Proofs.Ytdjekgeoaekplaa.Pure
open Go.RowKit Go.Proofs.Ytdjekgeoaekplaa.PFnExactBestSweep Go.Proofs.YtdjekgeoaekplaaW.PrintWords Go.Proofs.YtdjekgeoaekplaaW.PrintLast Go.Proofs.YtdjekgeoaekplaaW.PrintMore

theorem wrap_in {x : Int} (h0 : -9223372036854775808 ≤ x) (h1 : x ≤ 9223372036854775807) : wrap64 x = x := by unfold wrap64; omega
theorem wf_in {x : Int} (h : (Lit.int .i64 x).wf = true) : -9223372036854775808 ≤ x ∧ x ≤ 9223372036854775807 := by
  simp only [Lit.wf, IntKind.min, IntKind.max, IntKind.bits, IntKind.signed, Bool.and_eq_true, decide_eq_true_eq] at h
  exact ⟨by have := h.1; simpa using this, by have := h.2; simpa using this⟩
theorem toList_nil (s : ByteArray) : (s.toList == ([] : List UInt8)) = decide (s.size = 0) := by
  rw [Bool.eq_iff_iff]
  simp only [beq_iff_eq, decide_eq_true_eq, ByteArray.toList_eq]
  constructor
  · intro h
    have h2 : s.data.toList.length = 0 := by rw [h]; rfl
    rw [Array.length_toList] at h2
    exact h2
  · intro h
    have h2 : s.data.toList.length = 0 := by rw [Array.length_toList]; exact h
    exact List.eq_nil_of_length_eq_zero h2

theorem in_v (a b c : Int) : spec_l1In.f a b c = some (decide (b ≤ a ∧ a ≤ c)) := by
  unfold spec_l1In.f
  by_cases h : a ≥ b
  · rw [if_pos h]; congr 1; rw [decide_eq_decide]; omega
  · rw [if_neg h]; congr 1; symm; rw [decide_eq_false_iff_not]; omega

theorem within_v (a b c : Int) : impl_within.f a b c = some (decide (b ≤ a ∧ a ≤ c)) := by
  unfold impl_within.f
  by_cases h : b ≤ a
  · rw [if_pos h]; congr 1; rw [decide_eq_decide]; omega
  · rw [if_neg h]; congr 1; symm; rw [decide_eq_false_iff_not]; omega


/-- From some number of rounds on the answer is r. -/
def Tot {α : Type} (g : Nat → Option α) (r : α) : Prop := ∃ K, ∀ k, K ≤ k → g k = some r
theorem Tot.at_ {α : Type} {g : Nat → Option α} {r : α} (h : Tot g r) : ∃ k, g k = some r := by
  obtain ⟨K, hK⟩ := h
  exact ⟨K, hK K (Nat.le_refl _)⟩
theorem Tot.pure {α : Type} (r : α) : Tot (fun _ => some r) r := ⟨0, fun _ _ => rfl⟩
theorem Tot.of_eq {α : Type} {g : Nat → Option α} {r : α} (h : ∀ k, g k = some r) : Tot g r := ⟨0, fun k _ => h k⟩
theorem Tot.congr {α : Type} {g g' : Nat → Option α} {r : α} (he : ∀ k, g k = g' k) (h : Tot g' r) : Tot g r := by
  obtain ⟨K, hK⟩ := h
  exact ⟨K, fun k hk => (he k).trans (hK k hk)⟩
theorem Tot.bind {α β : Type} {g : Nat → Option α} {h : Nat → α → Option β} {a : α} {r : β} (hg : Tot g a) (hh : Tot (fun k => h k a) r) : Tot (fun k => (g k).bind (h k)) r := by
  obtain ⟨K, hK⟩ := hg
  obtain ⟨L, hL⟩ := hh
  refine ⟨max K L, fun k hk => ?_⟩
  show (g k).bind (h k) = some r
  rw [hK k (by omega)]
  exact hL k (by omega)
theorem Tot.step {α : Type} {F G : Nat → Option α} {r : α} (hF : ∀ k, F (k + 1) = G k) (h : Tot G r) : Tot F r := by
  obtain ⟨K, hK⟩ := h
  refine ⟨K + 1, fun k hk => ?_⟩
  obtain ⟨m, rfl⟩ : ∃ m, k = m + 1 := ⟨k - 1, by omega⟩
  rw [hF]
  exact hK m (by omega)
theorem Tot.yes {α : Type} {p : Prop} [Decidable p] {g h : Nat → Option α} {r : α} (hp : p) (hg : Tot g r) : Tot (fun k => if p then g k else h k) r := by
  simpa only [if_pos hp] using hg
theorem Tot.no {α : Type} {p : Prop} [Decidable p] {g h : Nat → Option α} {r : α} (hp : ¬ p) (hg : Tot h r) : Tot (fun k => if p then g k else h k) r := by
  simpa only [if_neg hp] using hg
theorem Tot.some_bind {α β : Type} {h : Nat → α → Option β} {a : α} {r : β} (hh : Tot (fun k => h k a) r) : Tot (fun k => (some a).bind (h k)) r := hh

theorem all_l (lo hi : Int) : ∀ (b a : List Int), ((a ++ b).length : Int) ≤ 9223372036850000000 → Tot (fun k => spec_l1All.l0 k lo hi (a ++ b) ((a ++ b).length : Int) a.length) (b.all fun x => decide (lo ≤ x ∧ x ≤ hi))
  | [], a, h => by
    refine Tot.step (fun k => spec_l1All.l0.eq_2 ..) ?_
    exact Tot.no (by simp) (Tot.pure _)
  | x :: b, a, h => by
    have hl : ((a ++ x :: b).length : Int) = a.length + b.length + 1 := by simp; omega
    have hr : rd (a ++ x :: b) (a.length : Int) = x := by simp [rd, List.getD]
    refine Tot.step (fun k => spec_l1All.l0.eq_2 ..) (Tot.yes (by omega) (Tot.yes (by omega) (Tot.yes (by omega) ?_)))
    rw [hr, wrap_in (x := (a.length : Int) + 1) (by omega) (by omega)]
    simp only [in_v, Option.bind_some, List.all_cons]
    by_cases hx : lo ≤ x ∧ x ≤ hi
    · rw [decide_eq_true hx, Bool.true_and]
      refine Tot.yes rfl ?_
      have := all_l lo hi b (a ++ [x]) (by simp at hl h ⊢; omega)
      simpa using this
    · rw [decide_eq_false hx, Bool.false_and]
      exact Tot.no (by decide) (Tot.pure _)
theorem all_v (l : List Int) (lo hi : Int) (h : (l.length : Int) ≤ 9223372036850000000) : Tot (fun k => spec_l1All.f k l lo hi) (l.all fun x => decide (lo ≤ x ∧ x ≤ hi)) := by
  have := all_l lo hi l [] (by simpa using h)
  unfold spec_l1All.f
  simpa using this

def asksB (l : List Int) : Bool := decide ((l.length : Int) ≤ 8) && l.all isTrackB
theorem specAsks_v (l : List Int) (h : (l.length : Int) ≤ 9223372036850000000) : Tot (fun k => spec_GoodAsks.f k l) (asksB l) := by
  unfold spec_GoodAsks.f asksB
  by_cases hl : (l.length : Int) ≤ 8
  · rw [decide_eq_true hl, Bool.true_and]
    exact Tot.yes hl (Tot.bind (all_v l 0 200 h) (Tot.pure _))
  · rw [decide_eq_false hl, Bool.false_and]
    exact Tot.no hl (Tot.pure _)
theorem implAsks_v (l : List Int) : impl_GoodAsks.f l = some (asksB l) := rfl
theorem asksB_iff (l : List Int) : asksB l = true ↔ ((l.length : Int) ≤ 8 ∧ ∀ x ∈ l, 0 ≤ x ∧ x ≤ 200) := by
  simp [asksB, isTrackB]

def areAsksB (s : Int) (l : List Int) : Bool := isTrackB s && asksB l
theorem specGood_v (s : Int) (l : List Int) (h : (l.length : Int) ≤ 9223372036850000000) : Tot (fun k => spec_l8Good.f k s l) (areAsksB s l) := by
  unfold spec_l8Good.f spec_l8Track.f areAsksB
  simp only [in_v, Option.bind_some]
  by_cases hs : 0 ≤ s ∧ s ≤ 200
  · have e : isTrackB s = true := decide_eq_true hs
    rw [e, Bool.true_and]
    exact Tot.yes (decide_eq_true hs) (Tot.bind (specAsks_v l h) (Tot.pure _))
  · have e : isTrackB s = false := decide_eq_false hs
    rw [e, Bool.false_and]
    exact Tot.no (by simp [hs]) (Tot.pure _)
theorem implAre_v (s : Int) (l : List Int) : impl_areAsks.f s l = some (areAsksB s l) := by
  unfold impl_areAsks.f areAsksB
  rw [isTrackB_v, Option.bind_some]
  cases isTrackB s <;> simp [implAsks_v]
theorem areAsksB_iff (s : Int) (l : List Int) : areAsksB s l = true ↔ ((0 ≤ s ∧ s ≤ 200) ∧ (l.length : Int) ≤ 8 ∧ ∀ x ∈ l, 0 ≤ x ∧ x ≤ 200) := by
  rw [← asksB_iff]
  simp [areAsksB, isTrackB]
/-- From one track to another. -/
def way (a b : Int) : Int := if a < b then b - a else a - b
theorem way_nonneg (a b : Int) : 0 ≤ way a b := by unfold way; split <;> omega
theorem way_le (a b : Int) (ha : 0 ≤ a ∧ a ≤ 200) (hb : 0 ≤ b ∧ b ≤ 200) : way a b ≤ 200 := by unfold way; split <;> omega
def travelL : Int → List Int → Int
  | _, [] => 0
  | s, t :: l => way s t + travelL t l
def waitsL : Int → Int → List Int → List Int
  | _, _, [] => []
  | acc, s, t :: l => (acc + way s t) :: waitsL (acc + way s t) t l
theorem waitsL_length : ∀ (l : List Int) (acc s : Int), (waitsL acc s l).length = l.length
  | [], _, _ => rfl
  | t :: l, acc, s => by simp [waitsL, waitsL_length l]
theorem travelL_nonneg : ∀ (l : List Int) (s : Int), 0 ≤ travelL s l
  | [], _ => by simp [travelL]
  | t :: l, s => by have := travelL_nonneg l t; have := way_nonneg s t; simp [travelL]; omega

def insL (x : Int) : List Int → List Int
  | [] => [x]
  | y :: l => if y ≤ x then y :: insL x l else x :: y :: l
theorem insL_perm (x : Int) : ∀ l : List Int, (insL x l).Perm (x :: l)
  | [] => List.Perm.refl _
  | y :: l => by
    unfold insL
    split
    · exact ((insL_perm x l).cons y).trans (List.Perm.swap x y l)
    · exact List.Perm.refl _
theorem insL_sorted (x : Int) : ∀ l : List Int, l.Pairwise (· ≤ ·) → (insL x l).Pairwise (· ≤ ·)
  | [], _ => by simp [insL]
  | y :: l, h => by
    obtain ⟨h1, h2⟩ := List.pairwise_cons.1 h
    unfold insL
    split
    · rename_i hy
      refine List.pairwise_cons.2 ⟨fun z hz => ?_, insL_sorted x l h2⟩
      rcases List.mem_cons.1 ((insL_perm x l).mem_iff.1 hz) with rfl | hz
      · exact hy
      · exact h1 z hz
    · rename_i hy
      refine List.pairwise_cons.2 ⟨fun z hz => ?_, h⟩
      rcases List.mem_cons.1 hz with rfl | hz
      · omega
      · have := h1 z hz; omega
theorem insL_at (x : Int) : ∀ (a b : List Int), (∀ y ∈ a, y ≤ x) → (∀ y, b.head? = some y → x < y) → insL x (a ++ b) = a ++ x :: b
  | [], [], _, _ => rfl
  | [], y :: b, _, h => by
    have := h y rfl
    simp [insL, show ¬ y ≤ x by omega]
  | z :: a, b, ha, h => by
    have := ha z (by simp)
    have ih := insL_at x a b (fun y hy => ha y (by simp [hy])) h
    simp [insL, this, ih]
def sortL (l : List Int) : List Int := l.foldl (fun o x => insL x o) []
theorem foldIns_perm : ∀ (l o : List Int), (l.foldl (fun o x => insL x o) o).Perm (l ++ o)
  | [], o => List.Perm.refl _
  | x :: l, o => by
    refine (foldIns_perm l (insL x o)).trans ?_
    refine (List.Perm.append_left l (insL_perm x o)).trans ?_
    exact List.perm_middle
theorem foldIns_sorted : ∀ (l o : List Int), o.Pairwise (· ≤ ·) → (l.foldl (fun o x => insL x o) o).Pairwise (· ≤ ·)
  | [], _, h => h
  | x :: l, o, h => foldIns_sorted l (insL x o) (insL_sorted x o h)
theorem sortL_perm (l : List Int) : (sortL l).Perm l := by unfold sortL; simpa using foldIns_perm l []
theorem sortL_sorted (l : List Int) : (sortL l).Pairwise (· ≤ ·) := foldIns_sorted l [] List.Pairwise.nil
theorem sortL_length (l : List Int) : (sortL l).length = l.length := (sortL_perm l).length_eq
theorem sorted_eq {a b : List Int} (ha : a.Pairwise (· ≤ ·)) (hb : b.Pairwise (· ≤ ·)) (h : a.Perm b) : a = b :=
  List.Perm.eq_of_pairwise (le := (· ≤ ·)) (fun x y _ _ h1 h2 => by omega) ha hb h
theorem foldIns_length (l o : List Int) : (l.foldl (fun o x => insL x o) o).length = l.length + o.length := by simpa using (foldIns_perm l o).length_eq
theorem sorted_l (L : List Int) (hL : L.length ≤ 8) : ∀ (b a out : List Int), a ++ b = L → out.length = a.length → Tot (fun k => spec_l8Sorted.l0 k out L (L.length : Int) a.length) (b.foldl (fun o x => insL x o) out) := by
  intro b
  induction b with
  | nil =>
    intro a out h ho
    simp only [List.append_nil] at h
    subst h
    exact Tot.step (fun k => spec_l8Sorted.l0.eq_2 ..) (Tot.no (by omega) (Tot.pure _))
  | cons x b ihb =>
    intro a out h ho
    have hll : L.length = a.length + b.length + 1 := by rw [← h]; simp; omega
    have hr : rd L (a.length : Int) = x := by rw [← h]; simp [rd, List.getD]
    have fin : ∀ j : Nat, j ≤ out.length → (∀ y ∈ out.take j, y ≤ x) → (∀ y, (out.drop j).head? = some y → x < y) → Tot (fun k => spec_l8Sorted.l0 k ((out.take j ++ [x]) ++ out.drop j) L (L.length : Int) ((a.length : Int) + 1)) (b.foldl (fun o x => insL x o) (insL x out)) := by
      intro j hj h1 h2
      have e : insL x out = (out.take j ++ [x]) ++ out.drop j := by
        have := insL_at x (out.take j) (out.drop j) h1 h2
        rw [List.take_append_drop] at this
        simpa using this
      have := ihb (a ++ [x]) (insL x out) (by simpa using h) (by rw [(insL_perm x out).length_eq]; simp; omega)
      rw [e] at this ⊢
      simpa using this
    have inner : ∀ (d j : Nat), j + d = out.length → (∀ y ∈ out.take j, y ≤ x) → Tot (fun k => spec_l8Sorted.l1 k out x j L (L.length : Int) a.length) (b.foldl (fun o x => insL x o) (insL x out)) := by
      intro d
      induction d with
      | zero =>
        intro j hj hle
        have h1 := fin j (by omega) hle (fun y hy => by rw [List.drop_eq_nil_of_le (by omega)] at hy; cases hy)
        refine Tot.step (fun k => spec_l8Sorted.l1.eq_2 ..) (Tot.no (by omega) (Tot.some_bind (Tot.yes (by omega) (Tot.yes (by omega) (Tot.some_bind (Tot.yes (by simp; omega) (Tot.some_bind (Tot.yes (by simp; omega) (Tot.some_bind (Tot.some_bind (Tot.yes (by simp; omega) ?_)))))))))))
        rw [wrap_in (x := (a.length : Int) + 1) (by omega) (by omega)]
        simpa using h1
      | succ d ihd =>
        intro j hj hle
        have hg : out[j]? = some (out[j]'(by omega)) := List.getElem?_eq_getElem (by omega)
        have hrj : rd out (j : Int) = out[j]'(by omega) := by simp [rd, List.getD, hg]
        by_cases c : rd out (j : Int) ≤ x
        · have h1 := ihd (j + 1) (by omega) (fun y hy => by
            rw [List.take_succ_eq_append_getElem (by omega), List.mem_append, List.mem_singleton] at hy
            rcases hy with hy | rfl
            · exact hle y hy
            · rw [← hrj]; exact c)
          refine Tot.step (fun k => spec_l8Sorted.l1.eq_2 ..) (Tot.yes (by omega) (Tot.yes (by omega) (Tot.yes c ?_)))
          rw [wrap_in (x := (j : Int) + 1) (by omega) (by omega)]
          exact h1
        · have h1 := fin j (by omega) hle (fun y hy => by
            rw [List.head?_drop, hg] at hy
            have := Option.some.inj hy
            omega)
          refine Tot.step (fun k => spec_l8Sorted.l1.eq_2 ..) (Tot.yes (by omega) (Tot.yes (by omega) (Tot.no c (Tot.some_bind (Tot.yes (by omega) (Tot.some_bind (Tot.yes (by simp; omega) (Tot.some_bind (Tot.yes (by simp; omega) (Tot.some_bind (Tot.some_bind (Tot.yes (by simp; omega) ?_))))))))))))
          rw [wrap_in (x := (a.length : Int) + 1) (by omega) (by omega)]
          simpa using h1
    refine Tot.step (fun k => spec_l8Sorted.l0.eq_2 ..) (Tot.yes (by omega) (Tot.yes (by omega) (Tot.yes (by omega) ?_)))
    rw [hr]
    have := inner out.length 0 (by omega) (fun y hy => by simp at hy)
    simpa using this
theorem sorted_v (l : List Int) (hl : l.length ≤ 8) : Tot (fun k => spec_l8Sorted.f k l) (sortL l) := by
  have := sorted_l l hl l [] [] rfl rfl
  unfold spec_l8Sorted.f sortL
  simpa using this

theorem sortI_eq (l : List Int) : Go.Proofs.Ytdjekgeoaekplaa.Sort.sortI l = sortL l := by
  refine sorted_eq ?_ (sortL_sorted l) ((List.mergeSort_perm l _).trans (sortL_perm l).symm)
  refine (List.pairwise_mergeSort (fun a b c h1 h2 => ?_) (fun a b => ?_) l).imp (fun h => of_decide_eq_true h)
  · rw [decide_eq_true_eq] at *; omega
  · simp only [Bool.or_eq_true, decide_eq_true_eq]; omega
theorem mem_sortL (l : List Int) (x : Int) : x ∈ sortL l ↔ x ∈ l := (sortL_perm l).mem_iff

def lowS (s : Int) (up : Bool) (l : List Int) : List Int := l.filter fun x => decide (x < s ∨ (x = s ∧ up = false))
def highS (s : Int) (up : Bool) (l : List Int) : List Int := l.filter fun x => !decide (x < s ∨ (x = s ∧ up = false))
def sweepL (s : Int) (l : List Int) (up : Bool) : List Int := if up = true then highS s up (sortL l) ++ (lowS s up (sortL l)).reverse else (lowS s up (sortL l)).reverse ++ highS s up (sortL l)
theorem lowS_len (s : Int) (up : Bool) (l : List Int) : (lowS s up l).length ≤ l.length := List.length_filter_le _ l
theorem highS_len (s : Int) (up : Bool) (l : List Int) : (highS s up l).length ≤ l.length := List.length_filter_le _ l
theorem parts_perm (p : Int → Bool) : ∀ l : List Int, (l.filter p ++ l.filter fun x => !p x).Perm l
  | [] => List.Perm.refl _
  | x :: l => by
    have ih := parts_perm p l
    cases h : p x
    · simp only [List.filter_cons, h, Bool.not_false, Bool.false_eq_true, if_false, if_true]
      exact List.perm_middle.trans (ih.cons x)
    · simp only [List.filter_cons, h, Bool.not_true, Bool.false_eq_true, if_false, if_true]
      exact ih.cons x
theorem sweepL_perm (s : Int) (l : List Int) (up : Bool) : (sweepL s l up).Perm l := by
  unfold sweepL
  have h := parts_perm (fun x => decide (x < s ∨ (x = s ∧ up = false))) (sortL l)
  have h1 : (lowS s up (sortL l) ++ highS s up (sortL l)).Perm l := h.trans (sortL_perm l)
  split
  · exact ((List.Perm.append_left _ (List.reverse_perm _)).trans List.perm_append_comm).trans h1
  · exact (List.Perm.append_right _ (List.reverse_perm _)).trans h1
theorem sweepL_length (s : Int) (l : List Int) (up : Bool) : (sweepL s l up).length = l.length := (sweepL_perm s l up).length_eq
theorem turned_l (L : List Int) (hL : L.length ≤ 8) : ∀ (d : Nat) (i : Int) (out : List Int), i + 1 = d → d ≤ L.length → out = (L.drop d).reverse → Tot (fun k => spec_l8Turned.l0 k L out i) L.reverse
  | 0, i, out, h, _, ho => by
    refine Tot.step (fun k => spec_l8Turned.l0.eq_2 ..) (Tot.no (by omega) ?_)
    rw [ho, List.drop_zero]
    exact Tot.pure _
  | d + 1, i, out, h, hd, ho => by
    have hi : i = (d : Int) := by omega
    subst hi
    have hr : rd L (d : Int) = L[d]'(by omega) := by simp [rd, List.getD, List.getElem?_eq_getElem (show d < L.length by omega)]
    have hlen : out.length ≤ 8 := by rw [ho]; simp; omega
    refine Tot.step (fun k => spec_l8Turned.l0.eq_2 ..) (Tot.yes (by omega) (Tot.yes (by omega) (Tot.yes (by omega) (Tot.yes (by omega) ?_))))
    rw [wrap_in (x := (d : Int) - 1) (by omega) (by omega), hr]
    refine turned_l L hL d _ _ (by omega) (by omega) ?_
    rw [ho, List.drop_eq_getElem_cons (show d < L.length by omega), List.reverse_cons]
theorem turned_v (l : List Int) (hl : l.length ≤ 8) : Tot (fun k => spec_l8Turned.f k l) l.reverse := by
  unfold spec_l8Turned.f
  rw [wrap_in (x := (l.length : Int) - 1) (by omega) (by omega)]
  exact turned_l l hl l.length _ [] (by omega) (Nat.le_refl _) (by simp)
theorem specSweep_l (s : Int) (up : Bool) (L : List Int) (hL : L.length ≤ 8) : ∀ (b a : List Int), a ++ b = L → Tot (fun k => spec_l8Sweep.l0 k s up (lowS s up a) (highS s up a) L (L.length : Int) a.length) (if up = true then highS s up L ++ (lowS s up L).reverse else (lowS s up L).reverse ++ highS s up L)
  | [], a, h => by
    simp only [List.append_nil] at h
    subst h
    have h1 := lowS_len s up a
    have h2 := highS_len s up a
    refine Tot.step (fun k => spec_l8Sweep.l0.eq_2 ..) (Tot.no (by omega) ?_)
    by_cases hu : up = true
    · refine Tot.yes hu (Tot.some_bind (Tot.yes (by simp; omega) (Tot.some_bind (Tot.bind (turned_v _ (by omega)) (Tot.yes (by simp; omega) ?_)))))
      rw [if_pos hu]
      simpa using Tot.pure _
    · refine Tot.no hu (Tot.bind (turned_v _ (by omega)) (Tot.yes (by simp; omega) ?_))
      rw [if_neg hu]
      exact Tot.pure _
  | x :: b, a, h => by
    have hll : L.length = a.length + b.length + 1 := by rw [← h]; simp; omega
    have hr : rd L (a.length : Int) = x := by rw [← h]; simp [rd, List.getD]
    have ih := specSweep_l s up L hL b (a ++ [x]) (by simpa using h)
    have h1 := lowS_len s up a
    have h2 := highS_len s up a
    refine Tot.step (fun k => spec_l8Sweep.l0.eq_2 ..) (Tot.yes (by omega) (Tot.yes (by omega) (Tot.yes (by omega) ?_)))
    rw [hr, wrap_in (x := (a.length : Int) + 1) (by omega) (by omega)]
    by_cases c : x < s
    · refine Tot.yes c (Tot.yes (by omega) ?_)
      have e1 : lowS s up (a ++ [x]) = lowS s up a ++ [x] := by simp [lowS, c]
      have e2 : highS s up (a ++ [x]) = highS s up a := by simp [highS, c]
      rw [e1, e2] at ih
      simpa using ih
    · refine Tot.no c ?_
      by_cases c2 : x = s
      · refine Tot.yes c2 ?_
        by_cases hu : up = true
        · refine Tot.yes hu (Tot.yes (by omega) ?_)
          have e1 : lowS s up (a ++ [x]) = lowS s up a := by simp [lowS, c, hu]
          have e2 : highS s up (a ++ [x]) = highS s up a ++ [x] := by simp [highS, hu]; omega
          rw [e1, e2] at ih
          simpa using ih
        · refine Tot.no hu (Tot.yes (by omega) ?_)
          have hf : up = false := by simpa using hu
          have e1 : lowS s up (a ++ [x]) = lowS s up a ++ [x] := by simp [lowS, hf, c2]
          have e2 : highS s up (a ++ [x]) = highS s up a := by simp [highS, hf, c2]
          rw [e1, e2] at ih
          simpa using ih
      · refine Tot.no c2 (Tot.yes (by omega) ?_)
        have e1 : lowS s up (a ++ [x]) = lowS s up a := by simp [lowS, c, c2]
        have e2 : highS s up (a ++ [x]) = highS s up a ++ [x] := by simp [highS, c2]; omega
        rw [e1, e2] at ih
        simpa using ih
theorem specSweep_v (s : Int) (l : List Int) (up : Bool) (hl : l.length ≤ 8) : Tot (fun k => spec_l8Sweep.f k s l up) (sweepL s l up) := by
  unfold spec_l8Sweep.f sweepL
  refine Tot.bind (sorted_v l hl) ?_
  have := specSweep_l s up (sortL l) (by rw [sortL_length]; exact hl) (sortL l) [] rfl
  simpa [lowS, highS] using this
theorem implSweep_v (s : Int) (l : List Int) (up : Bool) (hl : l.length ≤ 8) : impl_sweep.f s l up = some (sweepL s l up) := by
  unfold impl_sweep.f sweepL Go.Proofs.Ytdjekgeoaekplaa.Ord.sweepI
  rw [if_pos (by omega), sortI_eq]
  cases up with
  | true =>
    rw [if_pos rfl, if_pos rfl]
    have e1 : (fun x : Int => decide (s ≤ x)) = fun x => !decide (x < s ∨ (x = s ∧ true = false)) := by
      funext x
      rw [← decide_not]
      congr 1
      simp only [Bool.true_eq_false, and_false, or_false]
      exact propext (by omega)
    have e2 : (fun x : Int => !decide (s ≤ x)) = fun x => decide (x < s ∨ (x = s ∧ true = false)) := by
      funext x
      rw [← decide_not]
      congr 1
      simp only [Bool.true_eq_false, and_false, or_false]
      exact propext (by omega)
    rw [e1, e2]
    rfl
  | false =>
    rw [if_neg (by decide), if_neg (by decide)]
    have e1 : (fun x : Int => decide (x ≤ s)) = fun x => decide (x < s ∨ (x = s ∧ false = false)) := by
      funext x
      congr 1
      simp only [and_true]
      exact propext (by omega)
    have e2 : (fun x : Int => !decide (x ≤ s)) = fun x => !decide (x < s ∨ (x = s ∧ false = false)) := by
      funext x
      rw [← decide_not, ← decide_not]
      congr 1
      simp only [and_true]
      exact propext (by omega)
    rw [e1, e2]
    rfl

theorem apart_v (a b : Int) (ha : 0 ≤ a ∧ a ≤ 200) (hb : 0 ≤ b ∧ b ≤ 200) : impl_apart.f a b = some (way a b) := by
  unfold impl_apart.f way
  rw [wrap_in (x := a - b) (by omega) (by omega), wrap_in (x := b - a) (by omega) (by omega)]
  congr 1
  unfold mx
  split <;> split <;> omega
theorem waits_l : ∀ (b a out : List Int) (s acc : Int), (0 ≤ s ∧ s ≤ 200) → (∀ x ∈ b, 0 ≤ x ∧ x ≤ 200) → 0 ≤ acc → acc + 200 * b.length ≤ 1000000 → ((a ++ b).length : Int) ≤ 1000 → out.length = a.length →
    Tot (fun k => impl_waits.l0 k s out acc (a ++ b) ((a ++ b).length : Int) a.length) (out ++ waitsL acc s b)
  | [], a, out, s, acc, hs, hb, h0, h1, hl, ho => by
    refine Tot.step (fun k => impl_waits.l0.eq_2 ..) ?_
    simp only [waitsL, List.append_nil]
    exact Tot.no (by omega) (Tot.pure _)
  | x :: b, a, out, s, acc, hs, hb, h0, h1, hl, ho => by
    have hll : ((a ++ x :: b).length : Int) = a.length + b.length + 1 := by simp; omega
    have hr : rd (a ++ x :: b) (a.length : Int) = x := by simp [rd, List.getD]
    have hx := hb x (by simp)
    have hw := way_le s x hs hx
    have hw0 := way_nonneg s x
    simp only [List.length_cons] at h1
    refine Tot.step (fun k => impl_waits.l0.eq_2 ..) (Tot.yes (by omega) (Tot.yes (by omega) (Tot.yes (by omega) ?_)))
    rw [hr, wrap_in (x := (a.length : Int) + 1) (by omega) (by omega)]
    simp only [apart_v s x hs hx, Option.bind_some]
    rw [wrap_in (x := acc + way s x) (by omega) (by omega)]
    refine Tot.yes (by omega) ?_
    have := waits_l b (a ++ [x]) (out ++ [acc + way s x]) x (acc + way s x) hx (fun y hy => hb y (by simp [hy])) (by omega) (by omega) (by simp at hll hl ⊢; omega) (by simp [ho])
    have e : out ++ waitsL acc s (x :: b) = (out ++ [acc + way s x]) ++ waitsL (acc + way s x) x b := by simp [waitsL]
    rw [e]
    simpa using this
theorem waits_v (s : Int) (l : List Int) (hs : 0 ≤ s ∧ s ≤ 200) (hl : (l.length : Int) ≤ 8) (hb : ∀ x ∈ l, 0 ≤ x ∧ x ≤ 200) : Tot (fun k => impl_waits.f k s l) (waitsL 0 s l) := by
  have := waits_l l [] [] s 0 hs hb (by omega) (by omega) (by simp; omega) rfl
  unfold impl_waits.f
  simpa using this

theorem way_v (a b : Int) (ha : 0 ≤ a ∧ a ≤ 200) (hb : 0 ≤ b ∧ b ≤ 200) : spec_l8Way.f a b = some (way a b) := by
  unfold spec_l8Way.f way
  rw [wrap_in (x := a - b) (by omega) (by omega), wrap_in (x := b - a) (by omega) (by omega)]
  split <;> rfl
theorem specTravel_l : ∀ (b a : List Int) (s acc : Int), (0 ≤ s ∧ s ≤ 200) → (∀ x ∈ b, 0 ≤ x ∧ x ≤ 200) → 0 ≤ acc → acc + 200 * b.length ≤ 1000000 → ((a ++ b).length : Int) ≤ 1000 →
    Tot (fun k => spec_l8Travel.l0 k s acc (a ++ b) ((a ++ b).length : Int) a.length) (acc + travelL s b)
  | [], a, s, acc, hs, hb, h0, h1, hl => by
    refine Tot.step (fun k => spec_l8Travel.l0.eq_2 ..) ?_
    simp only [travelL, Int.add_zero]
    exact Tot.no (by simp) (Tot.pure _)
  | x :: b, a, s, acc, hs, hb, h0, h1, hl => by
    have hll : ((a ++ x :: b).length : Int) = a.length + b.length + 1 := by simp; omega
    have hr : rd (a ++ x :: b) (a.length : Int) = x := by simp [rd, List.getD]
    have hx := hb x (by simp)
    have hw := way_le s x hs hx
    have hw0 := way_nonneg s x
    simp only [List.length_cons] at h1
    refine Tot.step (fun k => spec_l8Travel.l0.eq_2 ..) (Tot.yes (by omega) (Tot.yes (by omega) (Tot.yes (by omega) ?_)))
    rw [hr, wrap_in (x := (a.length : Int) + 1) (by omega) (by omega)]
    simp only [way_v s x hs hx, Option.bind_some]
    rw [wrap_in (x := acc + way s x) (by omega) (by omega)]
    have := specTravel_l b (a ++ [x]) x (acc + way s x) hx (fun y hy => hb y (by simp [hy])) (by omega) (by omega) (by simp at hll hl ⊢; omega)
    have e : acc + travelL s (x :: b) = acc + way s x + travelL x b := by simp [travelL]; omega
    rw [e]
    simpa using this
theorem specTravel_v (s : Int) (l : List Int) (hs : 0 ≤ s ∧ s ≤ 200) (hl : (l.length : Int) ≤ 8) (hb : ∀ x ∈ l, 0 ≤ x ∧ x ≤ 200) : Tot (fun k => spec_l8Travel.f k s l) (travelL s l) := by
  have := specTravel_l l [] s 0 hs hb (by omega) (by omega) (by simp; omega)
  unfold spec_l8Travel.f
  simpa using this

theorem waitsL_snoc : ∀ (l : List Int) (acc s t : Int), waitsL acc s (l ++ [t]) = waitsL acc s l ++ [acc + travelL s (l ++ [t])]
  | [], acc, s, t => by simp [waitsL, travelL]
  | x :: l, acc, s, t => by
    simp only [List.cons_append, waitsL, travelL, waitsL_snoc l]
    simp [Int.add_assoc]

theorem implTravel_v (s : Int) (l : List Int) (hs : 0 ≤ s ∧ s ≤ 200) (hl : (l.length : Int) ≤ 8) (hb : ∀ x ∈ l, 0 ≤ x ∧ x ≤ 200) : Tot (fun k => impl_travel.f k s l) (travelL s l) := by
  unfold impl_travel.f
  refine Tot.bind (waits_v s l hs hl hb) ?_
  rcases List.eq_nil_or_concat l with rfl | ⟨a, t, rfl⟩
  · exact Tot.yes rfl (Tot.pure _)
  · rw [List.concat_eq_append] at *
    have hw : ((waitsL 0 s (a ++ [t])).length : Int) = a.length + 1 := by rw [waitsL_length]; simp
    have hl2 : ((a ++ [t]).length : Int) = a.length + 1 := by simp
    rw [hw, wrap_in (by omega) (by omega)]
    refine Tot.no (by omega) (Tot.yes (by omega) (Tot.yes (by omega) ?_))
    have e : rd (waitsL 0 s (a ++ [t])) ((a.length : Int) + 1 - 1) = travelL s (a ++ [t]) := by
      rw [waitsL_snoc, show (a.length : Int) + 1 - 1 = ((waitsL 0 s a).length : Int) by rw [waitsL_length]; omega]
      simp [rd, List.getD]
    rw [e]
    exact Tot.pure _

theorem rd_at {l : List Int} {i : Int} (h0 : 0 ≤ i) (h1 : i < (l.length : Int)) : rd l i = l[i.toNat]'(by omega) := by
  unfold rd
  rw [List.getD_eq_getElem?_getD, List.getElem?_eq_getElem (by omega : i.toNat < l.length)]
  rfl
theorem eqInt_l (a : List Int) (ha : (a.length : Int) ≤ 9223372036854775806) : ∀ (d : Nat) (i : Int), 0 ≤ i → i + d = a.length → Tot (fun k => laws_eqIntS.l0 k a a i) true
  | 0, i, h0, h => by
    refine Tot.step (fun k => laws_eqIntS.l0.eq_2 ..) ?_
    exact Tot.no (by omega) (Tot.pure _)
  | d + 1, i, h0, h => by
    refine Tot.step (fun k => laws_eqIntS.l0.eq_2 ..) ?_
    refine Tot.yes (by omega) (Tot.yes h0 (Tot.yes (by omega) (Tot.yes rfl ?_)))
    rw [wrap_in (by omega) (by omega)]
    exact eqInt_l a ha d (i + 1) (by omega) (by omega)
theorem eqInt_v (a : List Int) (ha : (a.length : Int) ≤ 9223372036854775806) : Tot (fun k => laws_eqIntS.f k a a) true := by
  unfold laws_eqIntS.f
  exact Tot.yes rfl (eqInt_l a ha a.length 0 (by omega) (by omega))

/-- m, m + 1, .. in the place of what stands from i on. -/
def marked : List Int → Int → List Int
  | [], _ => []
  | _ :: l, m => m :: marked l (wrap64 (m + 1))
def markEnd : List Int → Int → Int
  | [], m => m
  | _ :: l, m => markEnd l (wrap64 (m + 1))
theorem marked_length : ∀ (l : List Int) (m : Int), (marked l m).length = l.length
  | [], _ => rfl
  | _ :: l, m => by simp [marked, marked_length l]
theorem markEnd_marked : ∀ (l : List Int) (m : Int), markEnd (marked l m) m = markEnd l m
  | [], _ => rfl
  | _ :: l, m => markEnd_marked l _
theorem markInt_l : ∀ (b a : List Int) (m : Int), ((a ++ b).length : Int) ≤ 9223372036854775806 → Tot (fun k => laws_markIntS.l0 k (a ++ b) m a.length) (markEnd b m, a ++ marked b m)
  | [], a, m, h => by
    refine Tot.step (fun k => laws_markIntS.l0.eq_2 ..) ?_
    simp only [List.append_nil, marked, markEnd]
    exact Tot.no (by omega) (Tot.pure _)
  | x :: b, a, m, h => by
    refine Tot.step (fun k => laws_markIntS.l0.eq_2 ..) ?_
    have hl : ((a ++ x :: b).length : Int) = a.length + b.length + 1 := by simp; omega
    refine Tot.yes (by omega) (Tot.yes (by omega) ?_)
    have e : (a ++ x :: b).set ((a.length : Int)).toNat m = (a ++ [m]) ++ b := by simp
    rw [e, wrap_in (x := (a.length : Int) + 1) (by omega) (by omega)]
    have := markInt_l b (a ++ [m]) (wrap64 (m + 1)) (by simp at hl h ⊢; omega)
    simpa [marked, markEnd] using this
theorem markInt_v (a : List Int) (m : Int) (ha : (a.length : Int) ≤ 9223372036854775806) : Tot (fun k => laws_markIntS.f k a m) (markEnd a m, marked a m) := by
  have := markInt_l a [] m (by simpa using ha)
  unfold laws_markIntS.f
  simpa using this
theorem markEnd_nonneg : ∀ (l : List Int) (m : Int), 0 ≤ m → m + l.length ≤ 9223372036854775806 → 0 ≤ markEnd l m
  | [], m, h, _ => h
  | _ :: l, m, h, h2 => by
    simp at h2
    unfold markEnd
    rw [wrap_in (by omega) (by omega)]
    exact markEnd_nonneg l _ (by omega) (by omega)

theorem heldInt_l : ∀ (b a : List Int) (m : Int), ((a ++ b).length : Int) ≤ 9223372036854775806 → Tot (fun k => laws_heldIntS.l0 k (a ++ marked b m) m a.length) (markEnd b m)
  | [], a, m, h => by
    refine Tot.step (fun k => laws_heldIntS.l0.eq_2 ..) ?_
    simp only [List.append_nil, marked, markEnd]
    exact Tot.no (by omega) (Tot.pure _)
  | x :: b, a, m, h => by
    refine Tot.step (fun k => laws_heldIntS.l0.eq_2 ..) ?_
    have hl : ((a ++ marked (x :: b) m).length : Int) = a.length + b.length + 1 := by simp [marked, marked_length]; omega
    have h2 : ((a ++ x :: b).length : Int) = a.length + b.length + 1 := by simp; omega
    refine Tot.yes (by omega) (Tot.yes (by omega) (Tot.yes ?_ ?_))
    · rw [rd_at (by omega) (by omega)]
      simp [marked]
    · rw [wrap_in (x := (a.length : Int) + 1) (by omega) (by omega)]
      have := heldInt_l b (a ++ [m]) (wrap64 (m + 1)) (by simp at h2 h ⊢; omega)
      simpa [marked, markEnd] using this
theorem heldInt_v (a : List Int) (m : Int) (ha : (a.length : Int) ≤ 9223372036854775806) : Tot (fun k => laws_heldIntS.f k (marked a m) m) (markEnd a m) := by
  have := heldInt_l a [] m (by simpa using ha)
  unfold laws_heldIntS.f
  simpa using this


theorem rdInt_at (a b : List Int) (x : Int) : (rd (a ++ x :: b) (a.length : Int)) = x := by simp [rd, List.getD]
theorem toInt_l : ∀ (b a : List Int), ((a ++ b).length : Int) ≤ 9223372036854775806 → Tot (fun k => laws_toIntS.l0 k (a ++ b) (a ++ List.replicate b.length 0) a.length) (a ++ b)
  | [], a, h => by
    refine Tot.step (fun k => laws_toIntS.l0.eq_2 ..) ?_
    simp only [List.append_nil, List.length_nil, List.replicate_zero]
    exact Tot.no (by omega) (Tot.pure _)
  | x :: b, a, h => by
    refine Tot.step (fun k => laws_toIntS.l0.eq_2 ..) ?_
    have hl : ((a ++ x :: b).length : Int) = a.length + b.length + 1 := by simp; omega
    have hl2 : ((a ++ List.replicate (x :: b).length 0).length : Int) = a.length + b.length + 1 := by simp; omega
    refine Tot.yes (by omega) (Tot.yes (by omega) (Tot.yes (by omega) ?_))
    rw [rdInt_at, wrap_in (x := (a.length : Int) + 1) (by omega) (by omega)]
    have e : (a ++ List.replicate (x :: b).length 0).set ((a.length : Int)).toNat x = (a ++ [x]) ++ List.replicate b.length 0 := by simp [List.replicate_succ]
    rw [e]
    have := toInt_l b (a ++ [x]) (by simp at hl h ⊢; omega)
    simpa using this
theorem toInt_v (l : List Int) (h : (l.length : Int) ≤ 1048576) : Tot (fun k => laws_toIntS.f k l) l := by
  unfold laws_toIntS.f
  refine Tot.yes (by omega) (Tot.yes (by omega) ?_)
  have := toInt_l l [] (by simp; omega)
  simpa using this
def bestR (s : Int) (l : List Int) : List Int × Int × Bool := if areAsksB s l = true then (if travelL s (sweepL s l false) < travelL s (sweepL s l true) then (sweepL s l false, travelL s (sweepL s l false), true) else (sweepL s l true, travelL s (sweepL s l true), true)) else ([], 0, false)
theorem bestR_short (s : Int) (l : List Int) : ((bestR s l).1.length : Int) ≤ 1000 := by
  unfold bestR
  split
  · rename_i h
    have := (areAsksB_iff s l).1 h
    split
    · show ((sweepL s l false).length : Int) ≤ 1000
      rw [sweepL_length]
      omega
    · show ((sweepL s l true).length : Int) ≤ 1000
      rw [sweepL_length]
      omega
  · simp
theorem sweepL_in (s : Int) (l : List Int) (up : Bool) (h : ∀ x ∈ l, 0 ≤ x ∧ x ≤ 200) : ∀ x ∈ sweepL s l up, 0 ≤ x ∧ x ≤ 200 := fun x hx => h x ((sweepL_perm s l up).mem_iff.1 hx)
theorem specBest_v (s : Int) (l : List Int) (h : (l.length : Int) ≤ 1048576) : Tot (fun k => spec_BestSweep.f k s l) (bestR s l) := by
  unfold spec_BestSweep.f bestR
  refine Tot.bind (specGood_v s l (by omega)) ?_
  by_cases hg : areAsksB s l = true
  · obtain ⟨h1, h2, h3⟩ := (areAsksB_iff s l).1 hg
    have tr := fun up => specTravel_v s (sweepL s l up) h1 (by rw [sweepL_length]; omega) (sweepL_in s l up h3)
    rw [if_pos hg]
    refine Tot.yes hg (Tot.bind (specSweep_v s l true (by omega)) (Tot.bind (specSweep_v s l false (by omega)) (Tot.bind (tr false) (Tot.bind (tr true) ?_))))
    by_cases c : travelL s (sweepL s l false) < travelL s (sweepL s l true)
    · rw [if_pos c]
      exact Tot.yes c (Tot.bind (tr false) (Tot.pure _))
    · rw [if_neg c]
      exact Tot.no c (Tot.bind (tr true) (Tot.pure _))
  · rw [if_neg hg]
    exact Tot.no hg (Tot.pure _)
theorem implBest_v (s : Int) (l : List Int) : Tot (fun k => impl_BestSweep.f k s l) (bestR s l) := by
  unfold impl_BestSweep.f bestR
  simp only [implAre_v, Option.bind_some]
  by_cases hg : areAsksB s l = true
  · obtain ⟨h1, h2, h3⟩ := (areAsksB_iff s l).1 hg
    have tr := fun up => implTravel_v s (sweepL s l up) h1 (by rw [sweepL_length]; omega) (sweepL_in s l up h3)
    rw [if_pos hg]
    simp only [implSweep_v s l _ (show l.length ≤ 8 by omega), Option.bind_some]
    refine Tot.yes hg (Tot.bind (tr false) (Tot.bind (tr true) ?_))
    by_cases c : travelL s (sweepL s l false) < travelL s (sweepL s l true)
    · rw [if_pos c]
      exact Tot.yes c (Tot.bind (tr false) (Tot.pure _))
    · rw [if_neg c]
      exact Tot.no c (Tot.bind (tr true) (Tot.pure _))
  · rw [if_neg hg]
    exact Tot.no hg (Tot.pure _)
theorem FnExactBestSweep : laws_FnExactBestSweep.Pure := by
  intro s l hs hl h8 hx
  have hsh := bestR_short s l
  have hn := markEnd_nonneg (bestR s l).1 1 (by omega) (by omega)
  refine Tot.at_ ?_
  unfold laws_FnExactBestSweep.f
  by_cases hz : (l.length : Int) > 1048576
  · exact Tot.yes hz (Tot.pure _)
  · have hn2 := markEnd_nonneg l 1 (by omega) (by omega)
    have toV := toInt_v l (by omega)
    refine Tot.no hz (Tot.bind toV (Tot.bind (specBest_v s l (by omega)) (Tot.bind toV (Tot.bind (implBest_v s l) (Tot.bind (eqInt_v _ (by omega)) (Tot.yes rfl (Tot.yes rfl ?_)))))))
    refine Tot.step (fun k => laws_FnExactBestSweep.j0.eq_2 ..) (Tot.no (by simp) ?_)
    refine Tot.bind toV (Tot.bind (eqInt_v l (by omega)) (Tot.yes rfl (Tot.bind (markInt_v l 1 (by omega)) ?_)))
    refine Tot.no (by omega) (Tot.bind (eqInt_v _ (by omega)) (Tot.yes rfl (Tot.yes rfl ?_)))
    refine Tot.step (fun k => laws_FnExactBestSweep.j1.eq_2 ..) (Tot.no (by simp) ?_)
    refine Tot.bind (markInt_v _ 1 (by omega)) (Tot.bind (heldInt_v _ 1 (by omega)) (Tot.no (by omega) (Tot.yes rfl ?_)))
    refine Tot.bind toV (Tot.bind (implBest_v s l) (Tot.bind (eqInt_v _ (by omega)) (Tot.yes rfl (Tot.yes rfl ?_))))
    refine Tot.step (fun k => laws_FnExactBestSweep.j2.eq_2 ..) (Tot.no (by simp) ?_)
    exact Tot.bind (heldInt_v _ 1 (by omega)) (Tot.no (by omega) (Tot.yes rfl (Tot.pure _)))

end Go.Proofs.Ytdjekgeoaekplaa.Pure

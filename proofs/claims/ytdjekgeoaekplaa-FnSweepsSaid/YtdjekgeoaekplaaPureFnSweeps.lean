/- The plain law behind FnSweeps: what the two sides compute is the same, for every input. No condition. -/
import Derived.Test.YtdjekgeoaekplaaPFnSweepsx6
import Derived.Laws.Bits64b
set_option linter.unusedVariables false
set_option linter.unusedSimpArgs false
namespace Go.Proofs.Ytdjekgeoaekplaa.Pure
open Go.RowKit Go.Proofs.Ytdjekgeoaekplaa.PFnSweeps Go.Proofs.YtdjekgeoaekplaaW.PrintWords Go.Proofs.YtdjekgeoaekplaaW.PrintLast Go.Proofs.YtdjekgeoaekplaaW.PrintMore

theorem wrap_in {x : Int} (h0 : -9223372036854775808 ≤ x) (h1 : x ≤ 9223372036854775807) : wrap64 x = x := by unfold wrap64; omega
theorem wf_in {x : Int} (h : (Lit.int .i64 x).wf = true) : -9223372036854775808 ≤ x ∧ x ≤ 9223372036854775807 := by
  simp only [Lit.wf, IntKind.min, IntKind.max, IntKind.bits, IntKind.signed, Bool.and_eq_true, decide_eq_true_eq] at h
  exact ⟨by have := h.1; simpa using this, by have := h.2; simpa using this⟩
theorem toList_nil (s : ByteArray) : (s.toList == ([] : List UInt8)) = decide (s.size = 0) := by
  rw [Bool.eq_iff_iff]
  simp only [beq_iff_eq, decide_eq_true_eq, ByteArray.toList_eq]
  constructor
  · intro h
    have h2 : s.data.toList.length = 0 := by rw [h]; rfl
    rw [Array.length_toList] at h2
    exact h2
  · intro h
    have h2 : s.data.toList.length = 0 := by rw [Array.length_toList]; exact h
    exact List.eq_nil_of_length_eq_zero h2

theorem in_v (a b c : Int) : spec_l1In.f a b c = some (decide (b ≤ a ∧ a ≤ c)) := by
  unfold spec_l1In.f
  by_cases h : a ≥ b
  · rw [if_pos h]; congr 1; rw [decide_eq_decide]; omega
  · rw [if_neg h]; congr 1; symm; rw [decide_eq_false_iff_not]; omega

theorem within_v (a b c : Int) : impl_within.f a b c = some (decide (b ≤ a ∧ a ≤ c)) := by
  unfold impl_within.f
  by_cases h : b ≤ a
  · rw [if_pos h]; congr 1; rw [decide_eq_decide]; omega
  · rw [if_neg h]; congr 1; symm; rw [decide_eq_false_iff_not]; omega


/-- From some number of rounds on the answer is r. -/
def Tot {α : Type} (g : Nat → Option α) (r : α) : Prop := ∃ K, ∀ k, K ≤ k → g k = some r
theorem Tot.at_ {α : Type} {g : Nat → Option α} {r : α} (h : Tot g r) : ∃ k, g k = some r := by
  obtain ⟨K, hK⟩ := h
  exact ⟨K, hK K (Nat.le_refl _)⟩
theorem Tot.pure {α : Type} (r : α) : Tot (fun _ => some r) r := ⟨0, fun _ _ => rfl⟩
theorem Tot.of_eq {α : Type} {g : Nat → Option α} {r : α} (h : ∀ k, g k = some r) : Tot g r := ⟨0, fun k _ => h k⟩
theorem Tot.congr {α : Type} {g g' : Nat → Option α} {r : α} (he : ∀ k, g k = g' k) (h : Tot g' r) : Tot g r := by
  obtain ⟨K, hK⟩ := h
  exact ⟨K, fun k hk => (he k).trans (hK k hk)⟩
theorem Tot.bind {α β : Type} {g : Nat → Option α} {h : Nat → α → Option β} {a : α} {r : β} (hg : Tot g a) (hh : Tot (fun k => h k a) r) : Tot (fun k => (g k).bind (h k)) r := by
  obtain ⟨K, hK⟩ := hg
  obtain ⟨L, hL⟩ := hh
  refine ⟨max K L, fun k hk => ?_⟩
  show (g k).bind (h k) = some r
  rw [hK k (by omega)]
  exact hL k (by omega)
theorem Tot.step {α : Type} {F G : Nat → Option α} {r : α} (hF : ∀ k, F (k + 1) = G k) (h : Tot G r) : Tot F r := by
  obtain ⟨K, hK⟩ := h
  refine ⟨K + 1, fun k hk => ?_⟩
  obtain ⟨m, rfl⟩ : ∃ m, k = m + 1 := ⟨k - 1, by omega⟩
  rw [hF]
  exact hK m (by omega)
theorem Tot.yes {α : Type} {p : Prop} [Decidable p] {g h : Nat → Option α} {r : α} (hp : p) (hg : Tot g r) : Tot (fun k => if p then g k else h k) r := by
  simpa only [if_pos hp] using hg
theorem Tot.no {α : Type} {p : Prop} [Decidable p] {g h : Nat → Option α} {r : α} (hp : ¬ p) (hg : Tot h r) : Tot (fun k => if p then g k else h k) r := by
  simpa only [if_neg hp] using hg
theorem Tot.some_bind {α β : Type} {h : Nat → α → Option β} {a : α} {r : β} (hh : Tot (fun k => h k a) r) : Tot (fun k => (some a).bind (h k)) r := hh

theorem all_l (lo hi : Int) : ∀ (b a : List Int), ((a ++ b).length : Int) ≤ 9223372036850000000 → Tot (fun k => spec_l1All.l0 k lo hi (a ++ b) ((a ++ b).length : Int) a.length) (b.all fun x => decide (lo ≤ x ∧ x ≤ hi))
  | [], a, h => by
    refine Tot.step (fun k => spec_l1All.l0.eq_2 ..) ?_
    exact Tot.no (by simp) (Tot.pure _)
  | x :: b, a, h => by
    have hl : ((a ++ x :: b).length : Int) = a.length + b.length + 1 := by simp; omega
    have hr : rd (a ++ x :: b) (a.length : Int) = x := by simp [rd, List.getD]
    refine Tot.step (fun k => spec_l1All.l0.eq_2 ..) (Tot.yes (by omega) (Tot.yes (by omega) (Tot.yes (by omega) ?_)))
    rw [hr, wrap_in (x := (a.length : Int) + 1) (by omega) (by omega)]
    simp only [in_v, Option.bind_some, List.all_cons]
    by_cases hx : lo ≤ x ∧ x ≤ hi
    · rw [decide_eq_true hx, Bool.true_and]
      refine Tot.yes rfl ?_
      have := all_l lo hi b (a ++ [x]) (by simp at hl h ⊢; omega)
      simpa using this
    · rw [decide_eq_false hx, Bool.false_and]
      exact Tot.no (by decide) (Tot.pure _)
theorem all_v (l : List Int) (lo hi : Int) (h : (l.length : Int) ≤ 9223372036850000000) : Tot (fun k => spec_l1All.f k l lo hi) (l.all fun x => decide (lo ≤ x ∧ x ≤ hi)) := by
  have := all_l lo hi l [] (by simpa using h)
  unfold spec_l1All.f
  simpa using this

def asksB (l : List Int) : Bool := decide ((l.length : Int) ≤ 8) && l.all isTrackB
theorem specAsks_v (l : List Int) (h : (l.length : Int) ≤ 9223372036850000000) : Tot (fun k => spec_GoodAsks.f k l) (asksB l) := by
  unfold spec_GoodAsks.f asksB
  by_cases hl : (l.length : Int) ≤ 8
  · rw [decide_eq_true hl, Bool.true_and]
    exact Tot.yes hl (Tot.bind (all_v l 0 200 h) (Tot.pure _))
  · rw [decide_eq_false hl, Bool.false_and]
    exact Tot.no hl (Tot.pure _)
theorem implAsks_v (l : List Int) : impl_GoodAsks.f l = some (asksB l) := rfl
theorem asksB_iff (l : List Int) : asksB l = true ↔ ((l.length : Int) ≤ 8 ∧ ∀ x ∈ l, 0 ≤ x ∧ x ≤ 200) := by
  simp [asksB, isTrackB]

def areAsksB (s : Int) (l : List Int) : Bool := isTrackB s && asksB l
theorem specGood_v (s : Int) (l : List Int) (h : (l.length : Int) ≤ 9223372036850000000) : Tot (fun k => spec_l8Good.f k s l) (areAsksB s l) := by
  unfold spec_l8Good.f spec_l8Track.f areAsksB
  simp only [in_v, Option.bind_some]
  by_cases hs : 0 ≤ s ∧ s ≤ 200
  · have e : isTrackB s = true := decide_eq_true hs
    rw [e, Bool.true_and]
    exact Tot.yes (decide_eq_true hs) (Tot.bind (specAsks_v l h) (Tot.pure _))
  · have e : isTrackB s = false := decide_eq_false hs
    rw [e, Bool.false_and]
    exact Tot.no (by simp [hs]) (Tot.pure _)
theorem implAre_v (s : Int) (l : List Int) : impl_areAsks.f s l = some (areAsksB s l) := by
  unfold impl_areAsks.f areAsksB
  rw [isTrackB_v, Option.bind_some]
  cases isTrackB s <;> simp [implAsks_v]
theorem areAsksB_iff (s : Int) (l : List Int) : areAsksB s l = true ↔ ((0 ≤ s ∧ s ≤ 200) ∧ (l.length : Int) ≤ 8 ∧ ∀ x ∈ l, 0 ≤ x ∧ x ≤ 200) := by
  rw [← asksB_iff]
  simp [areAsksB, isTrackB]
/-- From one track to another. -/
def way (a b : Int) : Int := if a < b then b - a else a - b
theorem way_nonneg (a b : Int) : 0 ≤ way a b := by unfold way; split <;> omega
theorem way_le (a b : Int) (ha : 0 ≤ a ∧ a ≤ 200) (hb : 0 ≤ b ∧ b ≤ 200) : way a b ≤ 200 := by unfold way; split <;> omega
def travelL : Int → List Int → Int
  | _, [] => 0
  | s, t :: l => way s t + travelL t l
def waitsL : Int → Int → List Int → List Int
  | _, _, [] => []
  | acc, s, t :: l => (acc + way s t) :: waitsL (acc + way s t) t l
theorem waitsL_length : ∀ (l : List Int) (acc s : Int), (waitsL acc s l).length = l.length
  | [], _, _ => rfl
  | t :: l, acc, s => by simp [waitsL, waitsL_length l]
theorem travelL_nonneg : ∀ (l : List Int) (s : Int), 0 ≤ travelL s l
  | [], _ => by simp [travelL]
  | t :: l, s => by have := travelL_nonneg l t; have := way_nonneg s t; simp [travelL]; omega

def insL (x : Int) : List Int → List Int
  | [] => [x]
  | y :: l => if y ≤ x then y :: insL x l else x :: y :: l
theorem insL_perm (x : Int) : ∀ l : List Int, (insL x l).Perm (x :: l)
  | [] => List.Perm.refl _
  | y :: l => by
    unfold insL
    split
    · exact ((insL_perm x l).cons y).trans (List.Perm.swap x y l)
    · exact List.Perm.refl _
theorem insL_sorted (x : Int) : ∀ l : List Int, l.Pairwise (· ≤ ·) → (insL x l).Pairwise (· ≤ ·)
  | [], _ => by simp [insL]
  | y :: l, h => by
    obtain ⟨h1, h2⟩ := List.pairwise_cons.1 h
    unfold insL
    split
    · rename_i hy
      refine List.pairwise_cons.2 ⟨fun z hz => ?_, insL_sorted x l h2⟩
      rcases List.mem_cons.1 ((insL_perm x l).mem_iff.1 hz) with rfl | hz
      · exact hy
      · exact h1 z hz
    · rename_i hy
      refine List.pairwise_cons.2 ⟨fun z hz => ?_, h⟩
      rcases List.mem_cons.1 hz with rfl | hz
      · omega
      · have := h1 z hz; omega
theorem insL_at (x : Int) : ∀ (a b : List Int), (∀ y ∈ a, y ≤ x) → (∀ y, b.head? = some y → x < y) → insL x (a ++ b) = a ++ x :: b
  | [], [], _, _ => rfl
  | [], y :: b, _, h => by
    have := h y rfl
    simp [insL, show ¬ y ≤ x by omega]
  | z :: a, b, ha, h => by
    have := ha z (by simp)
    have ih := insL_at x a b (fun y hy => ha y (by simp [hy])) h
    simp [insL, this, ih]
def sortL (l : List Int) : List Int := l.foldl (fun o x => insL x o) []
theorem foldIns_perm : ∀ (l o : List Int), (l.foldl (fun o x => insL x o) o).Perm (l ++ o)
  | [], o => List.Perm.refl _
  | x :: l, o => by
    refine (foldIns_perm l (insL x o)).trans ?_
    refine (List.Perm.append_left l (insL_perm x o)).trans ?_
    exact List.perm_middle
theorem foldIns_sorted : ∀ (l o : List Int), o.Pairwise (· ≤ ·) → (l.foldl (fun o x => insL x o) o).Pairwise (· ≤ ·)
  | [], _, h => h
  | x :: l, o, h => foldIns_sorted l (insL x o) (insL_sorted x o h)
theorem sortL_perm (l : List Int) : (sortL l).Perm l := by unfold sortL; simpa using foldIns_perm l []
theorem sortL_sorted (l : List Int) : (sortL l).Pairwise (· ≤ ·) := foldIns_sorted l [] List.Pairwise.nil
theorem sortL_length (l : List Int) : (sortL l).length = l.length := (sortL_perm l).length_eq
theorem sorted_eq {a b : List Int} (ha : a.Pairwise (· ≤ ·)) (hb : b.Pairwise (· ≤ ·)) (h : a.Perm b) : a = b :=
  List.Perm.eq_of_pairwise (le := (· ≤ ·)) (fun x y _ _ h1 h2 => by omega) ha hb h
theorem foldIns_length (l o : List Int) : (l.foldl (fun o x => insL x o) o).length = l.length + o.length := by simpa using (foldIns_perm l o).length_eq

theorem sorted_l (L : List Int) (hL : L.length ≤ 8) : ∀ (b a out : List Int), a ++ b = L → out.length = a.length → Tot (fun k => spec_l8Sorted.l0 k out L (L.length : Int) a.length) (b.foldl (fun o x => insL x o) out) := by
  intro b
  induction b with
  | nil =>
    intro a out h ho
    simp only [List.append_nil] at h
    subst h
    exact Tot.step (fun k => spec_l8Sorted.l0.eq_2 ..) (Tot.no (by omega) (Tot.pure _))
  | cons x b ihb =>
    intro a out h ho
    have hll : L.length = a.length + b.length + 1 := by rw [← h]; simp; omega
    have hr : rd L (a.length : Int) = x := by rw [← h]; simp [rd, List.getD]
    have fin : ∀ j : Nat, j ≤ out.length → (∀ y ∈ out.take j, y ≤ x) → (∀ y, (out.drop j).head? = some y → x < y) → Tot (fun k => spec_l8Sorted.l0 k ((out.take j ++ [x]) ++ out.drop j) L (L.length : Int) ((a.length : Int) + 1)) (b.foldl (fun o x => insL x o) (insL x out)) := by
      intro j hj h1 h2
      have e : insL x out = (out.take j ++ [x]) ++ out.drop j := by
        have := insL_at x (out.take j) (out.drop j) h1 h2
        rw [List.take_append_drop] at this
        simpa using this
      have := ihb (a ++ [x]) (insL x out) (by simpa using h) (by rw [(insL_perm x out).length_eq]; simp; omega)
      rw [e] at this ⊢
      simpa using this
    have inner : ∀ (d j : Nat), j + d = out.length → (∀ y ∈ out.take j, y ≤ x) → Tot (fun k => spec_l8Sorted.l1 k out x j L (L.length : Int) a.length) (b.foldl (fun o x => insL x o) (insL x out)) := by
      intro d
      induction d with
      | zero =>
        intro j hj hle
        have h1 := fin j (by omega) hle (fun y hy => by rw [List.drop_eq_nil_of_le (by omega)] at hy; cases hy)
        refine Tot.step (fun k => spec_l8Sorted.l1.eq_2 ..) (Tot.no (by omega) (Tot.some_bind (Tot.yes (by omega) (Tot.yes (by omega) (Tot.some_bind (Tot.yes (by simp; omega) (Tot.some_bind (Tot.yes (by simp; omega) (Tot.some_bind (Tot.some_bind (Tot.yes (by simp; omega) ?_)))))))))))
        rw [wrap_in (x := (a.length : Int) + 1) (by omega) (by omega)]
        simpa using h1
      | succ d ihd =>
        intro j hj hle
        have hg : out[j]? = some (out[j]'(by omega)) := List.getElem?_eq_getElem (by omega)
        have hrj : rd out (j : Int) = out[j]'(by omega) := by simp [rd, List.getD, hg]
        by_cases c : rd out (j : Int) ≤ x
        · have h1 := ihd (j + 1) (by omega) (fun y hy => by
            rw [List.take_succ_eq_append_getElem (by omega), List.mem_append, List.mem_singleton] at hy
            rcases hy with hy | rfl
            · exact hle y hy
            · rw [← hrj]; exact c)
          refine Tot.step (fun k => spec_l8Sorted.l1.eq_2 ..) (Tot.yes (by omega) (Tot.yes (by omega) (Tot.yes c ?_)))
          rw [wrap_in (x := (j : Int) + 1) (by omega) (by omega)]
          exact h1
        · have h1 := fin j (by omega) hle (fun y hy => by
            rw [List.head?_drop, hg] at hy
            have := Option.some.inj hy
            omega)
          refine Tot.step (fun k => spec_l8Sorted.l1.eq_2 ..) (Tot.yes (by omega) (Tot.yes (by omega) (Tot.no c (Tot.some_bind (Tot.yes (by omega) (Tot.some_bind (Tot.yes (by simp; omega) (Tot.some_bind (Tot.yes (by simp; omega) (Tot.some_bind (Tot.some_bind (Tot.yes (by simp; omega) ?_))))))))))))
          rw [wrap_in (x := (a.length : Int) + 1) (by omega) (by omega)]
          simpa using h1
    refine Tot.step (fun k => spec_l8Sorted.l0.eq_2 ..) (Tot.yes (by omega) (Tot.yes (by omega) (Tot.yes (by omega) ?_)))
    rw [hr]
    have := inner out.length 0 (by omega) (fun y hy => by simp at hy)
    simpa using this
theorem sorted_v (l : List Int) (hl : l.length ≤ 8) : Tot (fun k => spec_l8Sorted.f k l) (sortL l) := by
  have := sorted_l l hl l [] [] rfl rfl
  unfold spec_l8Sorted.f sortL
  simpa using this

theorem sortI_eq (l : List Int) : Go.Proofs.Ytdjekgeoaekplaa.Sort.sortI l = sortL l := by
  refine sorted_eq ?_ (sortL_sorted l) ((List.mergeSort_perm l _).trans (sortL_perm l).symm)
  refine (List.pairwise_mergeSort (fun a b c h1 h2 => ?_) (fun a b => ?_) l).imp (fun h => of_decide_eq_true h)
  · rw [decide_eq_true_eq] at *; omega
  · simp only [Bool.or_eq_true, decide_eq_true_eq]; omega
theorem mem_sortL (l : List Int) (x : Int) : x ∈ sortL l ↔ x ∈ l := (sortL_perm l).mem_iff

def lowS (s : Int) (up : Bool) (l : List Int) : List Int := l.filter fun x => decide (x < s ∨ (x = s ∧ up = false))
def highS (s : Int) (up : Bool) (l : List Int) : List Int := l.filter fun x => !decide (x < s ∨ (x = s ∧ up = false))
def sweepL (s : Int) (l : List Int) (up : Bool) : List Int := if up = true then highS s up (sortL l) ++ (lowS s up (sortL l)).reverse else (lowS s up (sortL l)).reverse ++ highS s up (sortL l)
theorem lowS_len (s : Int) (up : Bool) (l : List Int) : (lowS s up l).length ≤ l.length := List.length_filter_le _ l
theorem highS_len (s : Int) (up : Bool) (l : List Int) : (highS s up l).length ≤ l.length := List.length_filter_le _ l
theorem parts_perm (p : Int → Bool) : ∀ l : List Int, (l.filter p ++ l.filter fun x => !p x).Perm l
  | [] => List.Perm.refl _
  | x :: l => by
    have ih := parts_perm p l
    cases h : p x
    · simp only [List.filter_cons, h, Bool.not_false, Bool.false_eq_true, if_false, if_true]
      exact List.perm_middle.trans (ih.cons x)
    · simp only [List.filter_cons, h, Bool.not_true, Bool.false_eq_true, if_false, if_true]
      exact ih.cons x
theorem sweepL_perm (s : Int) (l : List Int) (up : Bool) : (sweepL s l up).Perm l := by
  unfold sweepL
  have h := parts_perm (fun x => decide (x < s ∨ (x = s ∧ up = false))) (sortL l)
  have h1 : (lowS s up (sortL l) ++ highS s up (sortL l)).Perm l := h.trans (sortL_perm l)
  split
  · exact ((List.Perm.append_left _ (List.reverse_perm _)).trans List.perm_append_comm).trans h1
  · exact (List.Perm.append_right _ (List.reverse_perm _)).trans h1
theorem sweepL_length (s : Int) (l : List Int) (up : Bool) : (sweepL s l up).length = l.length := (sweepL_perm s l up).length_eq
theorem turned_l (L : List Int) (hL : L.length ≤ 8) : ∀ (d : Nat) (i : Int) (out : List Int), i + 1 = d → d ≤ L.length → out = (L.drop d).reverse → Tot (fun k => spec_l8Turned.l0 k L out i) L.reverse
  | 0, i, out, h, _, ho => by
    refine Tot.step (fun k => spec_l8Turned.l0.eq_2 ..) (Tot.no (by omega) ?_)
    rw [ho, List.drop_zero]
    exact Tot.pure _
  | d + 1, i, out, h, hd, ho => by
    have hi : i = (d : Int) := by omega
    subst hi
    have hr : rd L (d : Int) = L[d]'(by omega) := by simp [rd, List.getD, List.getElem?_eq_getElem (show d < L.length by omega)]
    have hlen : out.length ≤ 8 := by rw [ho]; simp; omega
    refine Tot.step (fun k => spec_l8Turned.l0.eq_2 ..) (Tot.yes (by omega) (Tot.yes (by omega) (Tot.yes (by omega) (Tot.yes (by omega) ?_))))
    rw [wrap_in (x := (d : Int) - 1) (by omega) (by omega), hr]
    refine turned_l L hL d _ _ (by omega) (by omega) ?_
    rw [ho, List.drop_eq_getElem_cons (show d < L.length by omega), List.reverse_cons]
theorem turned_v (l : List Int) (hl : l.length ≤ 8) : Tot (fun k => spec_l8Turned.f k l) l.reverse := by
  unfold spec_l8Turned.f
  rw [wrap_in (x := (l.length : Int) - 1) (by omega) (by omega)]
  exact turned_l l hl l.length _ [] (by omega) (Nat.le_refl _) (by simp)
theorem specSweep_l (s : Int) (up : Bool) (L : List Int) (hL : L.length ≤ 8) : ∀ (b a : List Int), a ++ b = L → Tot (fun k => spec_l8Sweep.l0 k s up (lowS s up a) (highS s up a) L (L.length : Int) a.length) (if up = true then highS s up L ++ (lowS s up L).reverse else (lowS s up L).reverse ++ highS s up L)
  | [], a, h => by
    simp only [List.append_nil] at h
    subst h
    have h1 := lowS_len s up a
    have h2 := highS_len s up a
    refine Tot.step (fun k => spec_l8Sweep.l0.eq_2 ..) (Tot.no (by omega) ?_)
    by_cases hu : up = true
    · refine Tot.yes hu (Tot.some_bind (Tot.yes (by simp; omega) (Tot.some_bind (Tot.bind (turned_v _ (by omega)) (Tot.yes (by simp; omega) ?_)))))
      rw [if_pos hu]
      simpa using Tot.pure _
    · refine Tot.no hu (Tot.bind (turned_v _ (by omega)) (Tot.yes (by simp; omega) ?_))
      rw [if_neg hu]
      exact Tot.pure _
  | x :: b, a, h => by
    have hll : L.length = a.length + b.length + 1 := by rw [← h]; simp; omega
    have hr : rd L (a.length : Int) = x := by rw [← h]; simp [rd, List.getD]
    have ih := specSweep_l s up L hL b (a ++ [x]) (by simpa using h)
    have h1 := lowS_len s up a
    have h2 := highS_len s up a
    refine Tot.step (fun k => spec_l8Sweep.l0.eq_2 ..) (Tot.yes (by omega) (Tot.yes (by omega) (Tot.yes (by omega) ?_)))
    rw [hr, wrap_in (x := (a.length : Int) + 1) (by omega) (by omega)]
    by_cases c : x < s
    · refine Tot.yes c (Tot.yes (by omega) ?_)
      have e1 : lowS s up (a ++ [x]) = lowS s up a ++ [x] := by simp [lowS, c]
      have e2 : highS s up (a ++ [x]) = highS s up a := by simp [highS, c]
      rw [e1, e2] at ih
      simpa using ih
    · refine Tot.no c ?_
      by_cases c2 : x = s
      · refine Tot.yes c2 ?_
        by_cases hu : up = true
        · refine Tot.yes hu (Tot.yes (by omega) ?_)
          have e1 : lowS s up (a ++ [x]) = lowS s up a := by simp [lowS, c, hu]
          have e2 : highS s up (a ++ [x]) = highS s up a ++ [x] := by simp [highS, hu]; omega
          rw [e1, e2] at ih
          simpa using ih
        · refine Tot.no hu (Tot.yes (by omega) ?_)
          have hf : up = false := by simpa using hu
          have e1 : lowS s up (a ++ [x]) = lowS s up a ++ [x] := by simp [lowS, hf, c2]
          have e2 : highS s up (a ++ [x]) = highS s up a := by simp [highS, hf, c2]
          rw [e1, e2] at ih
          simpa using ih
      · refine Tot.no c2 (Tot.yes (by omega) ?_)
        have e1 : lowS s up (a ++ [x]) = lowS s up a := by simp [lowS, c, c2]
        have e2 : highS s up (a ++ [x]) = highS s up a ++ [x] := by simp [highS, c2]; omega
        rw [e1, e2] at ih
        simpa using ih
theorem specSweep_v (s : Int) (l : List Int) (up : Bool) (hl : l.length ≤ 8) : Tot (fun k => spec_l8Sweep.f k s l up) (sweepL s l up) := by
  unfold spec_l8Sweep.f sweepL
  refine Tot.bind (sorted_v l hl) ?_
  have := specSweep_l s up (sortL l) (by rw [sortL_length]; exact hl) (sortL l) [] rfl
  simpa [lowS, highS] using this
theorem implSweep_v (s : Int) (l : List Int) (up : Bool) (hl : l.length ≤ 8) : impl_sweep.f s l up = some (sweepL s l up) := by
  unfold impl_sweep.f sweepL Go.Proofs.Ytdjekgeoaekplaa.Ord.sweepI
  rw [if_pos (by omega), sortI_eq]
  cases up with
  | true =>
    rw [if_pos rfl, if_pos rfl]
    have e1 : (fun x : Int => decide (s ≤ x)) = fun x => !decide (x < s ∨ (x = s ∧ true = false)) := by
      funext x
      rw [← decide_not]
      congr 1
      simp only [Bool.true_eq_false, and_false, or_false]
      exact propext (by omega)
    have e2 : (fun x : Int => !decide (s ≤ x)) = fun x => decide (x < s ∨ (x = s ∧ true = false)) := by
      funext x
      rw [← decide_not]
      congr 1
      simp only [Bool.true_eq_false, and_false, or_false]
      exact propext (by omega)
    rw [e1, e2]
    rfl
  | false =>
    rw [if_neg (by decide), if_neg (by decide)]
    have e1 : (fun x : Int => decide (x ≤ s)) = fun x => decide (x < s ∨ (x = s ∧ false = false)) := by
      funext x
      congr 1
      simp only [and_true]
      exact propext (by omega)
    have e2 : (fun x : Int => !decide (x ≤ s)) = fun x => !decide (x < s ∨ (x = s ∧ false = false)) := by
      funext x
      rw [← decide_not, ← decide_not]
      congr 1
      simp only [and_true]
      exact propext (by omega)
    rw [e1, e2]
    rfl

theorem apart_v (a b : Int) (ha : 0 ≤ a ∧ a ≤ 200) (hb : 0 ≤ b ∧ b ≤ 200) : impl_apart.f a b = some (way a b) := by
  unfold impl_apart.f way
  rw [wrap_in (x := a - b) (by omega) (by omega), wrap_in (x := b - a) (by omega) (by omega)]
  congr 1
  unfold mx
  split <;> split <;> omega
theorem waits_l : ∀ (b a out : List Int) (s acc : Int), (0 ≤ s ∧ s ≤ 200) → (∀ x ∈ b, 0 ≤ x ∧ x ≤ 200) → 0 ≤ acc → acc + 200 * b.length ≤ 1000000 → ((a ++ b).length : Int) ≤ 1000 → out.length = a.length →
    Tot (fun k => impl_waits.l0 k s out acc (a ++ b) ((a ++ b).length : Int) a.length) (out ++ waitsL acc s b)
  | [], a, out, s, acc, hs, hb, h0, h1, hl, ho => by
    refine Tot.step (fun k => impl_waits.l0.eq_2 ..) ?_
    simp only [waitsL, List.append_nil]
    exact Tot.no (by omega) (Tot.pure _)
  | x :: b, a, out, s, acc, hs, hb, h0, h1, hl, ho => by
    have hll : ((a ++ x :: b).length : Int) = a.length + b.length + 1 := by simp; omega
    have hr : rd (a ++ x :: b) (a.length : Int) = x := by simp [rd, List.getD]
    have hx := hb x (by simp)
    have hw := way_le s x hs hx
    have hw0 := way_nonneg s x
    simp only [List.length_cons] at h1
    refine Tot.step (fun k => impl_waits.l0.eq_2 ..) (Tot.yes (by omega) (Tot.yes (by omega) (Tot.yes (by omega) ?_)))
    rw [hr, wrap_in (x := (a.length : Int) + 1) (by omega) (by omega)]
    simp only [apart_v s x hs hx, Option.bind_some]
    rw [wrap_in (x := acc + way s x) (by omega) (by omega)]
    refine Tot.yes (by omega) ?_
    have := waits_l b (a ++ [x]) (out ++ [acc + way s x]) x (acc + way s x) hx (fun y hy => hb y (by simp [hy])) (by omega) (by omega) (by simp at hll hl ⊢; omega) (by simp [ho])
    have e : out ++ waitsL acc s (x :: b) = (out ++ [acc + way s x]) ++ waitsL (acc + way s x) x b := by simp [waitsL]
    rw [e]
    simpa using this
theorem waits_v (s : Int) (l : List Int) (hs : 0 ≤ s ∧ s ≤ 200) (hl : (l.length : Int) ≤ 8) (hb : ∀ x ∈ l, 0 ≤ x ∧ x ≤ 200) : Tot (fun k => impl_waits.f k s l) (waitsL 0 s l) := by
  have := waits_l l [] [] s 0 hs hb (by omega) (by omega) (by simp; omega) rfl
  unfold impl_waits.f
  simpa using this

theorem way_v (a b : Int) (ha : 0 ≤ a ∧ a ≤ 200) (hb : 0 ≤ b ∧ b ≤ 200) : spec_l8Way.f a b = some (way a b) := by
  unfold spec_l8Way.f way
  rw [wrap_in (x := a - b) (by omega) (by omega), wrap_in (x := b - a) (by omega) (by omega)]
  split <;> rfl

theorem specTravel_l : ∀ (b a : List Int) (s acc : Int), (0 ≤ s ∧ s ≤ 200) → (∀ x ∈ b, 0 ≤ x ∧ x ≤ 200) → 0 ≤ acc → acc + 200 * b.length ≤ 1000000 → ((a ++ b).length : Int) ≤ 1000 →
    Tot (fun k => spec_l8Travel.l0 k s acc (a ++ b) ((a ++ b).length : Int) a.length) (acc + travelL s b)
  | [], a, s, acc, hs, hb, h0, h1, hl => by
    refine Tot.step (fun k => spec_l8Travel.l0.eq_2 ..) ?_
    simp only [travelL, Int.add_zero]
    exact Tot.no (by simp) (Tot.pure _)
  | x :: b, a, s, acc, hs, hb, h0, h1, hl => by
    have hll : ((a ++ x :: b).length : Int) = a.length + b.length + 1 := by simp; omega
    have hr : rd (a ++ x :: b) (a.length : Int) = x := by simp [rd, List.getD]
    have hx := hb x (by simp)
    have hw := way_le s x hs hx
    have hw0 := way_nonneg s x
    simp only [List.length_cons] at h1
    refine Tot.step (fun k => spec_l8Travel.l0.eq_2 ..) (Tot.yes (by omega) (Tot.yes (by omega) (Tot.yes (by omega) ?_)))
    rw [hr, wrap_in (x := (a.length : Int) + 1) (by omega) (by omega)]
    simp only [way_v s x hs hx, Option.bind_some]
    rw [wrap_in (x := acc + way s x) (by omega) (by omega)]
    have := specTravel_l b (a ++ [x]) x (acc + way s x) hx (fun y hy => hb y (by simp [hy])) (by omega) (by omega) (by simp at hll hl ⊢; omega)
    have e : acc + travelL s (x :: b) = acc + way s x + travelL x b := by simp [travelL]; omega
    rw [e]
    simpa using this
theorem specTravel_v (s : Int) (l : List Int) (hs : 0 ≤ s ∧ s ≤ 200) (hl : (l.length : Int) ≤ 8) (hb : ∀ x ∈ l, 0 ≤ x ∧ x ≤ 200) : Tot (fun k => spec_l8Travel.f k s l) (travelL s l) := by
  have := specTravel_l l [] s 0 hs hb (by omega) (by omega) (by simp; omega)
  unfold spec_l8Travel.f
  simpa using this

theorem waitsL_snoc : ∀ (l : List Int) (acc s t : Int), waitsL acc s (l ++ [t]) = waitsL acc s l ++ [acc + travelL s (l ++ [t])]
  | [], acc, s, t => by simp [waitsL, travelL]
  | x :: l, acc, s, t => by
    simp only [List.cons_append, waitsL, travelL, waitsL_snoc l]
    simp [Int.add_assoc]

theorem implTravel_v (s : Int) (l : List Int) (hs : 0 ≤ s ∧ s ≤ 200) (hl : (l.length : Int) ≤ 8) (hb : ∀ x ∈ l, 0 ≤ x ∧ x ≤ 200) : Tot (fun k => impl_travel.f k s l) (travelL s l) := by
  unfold impl_travel.f
  refine Tot.bind (waits_v s l hs hl hb) ?_
  rcases List.eq_nil_or_concat l with rfl | ⟨a, t, rfl⟩
  · exact Tot.yes rfl (Tot.pure _)
  · rw [List.concat_eq_append] at *
    have hw : ((waitsL 0 s (a ++ [t])).length : Int) = a.length + 1 := by rw [waitsL_length]; simp
    have hl2 : ((a ++ [t]).length : Int) = a.length + 1 := by simp
    rw [hw, wrap_in (by omega) (by omega)]
    refine Tot.no (by omega) (Tot.yes (by omega) (Tot.yes (by omega) ?_))
    have e : rd (waitsL 0 s (a ++ [t])) ((a.length : Int) + 1 - 1) = travelL s (a ++ [t]) := by
      rw [waitsL_snoc, show (a.length : Int) + 1 - 1 = ((waitsL 0 s a).length : Int) by rw [waitsL_length]; omega]
      simp [rd, List.getD]
    rw [e]
    exact Tot.pure _

def bestR (s : Int) (l : List Int) : List Int × Int × Bool := if areAsksB s l = true then (if travelL s (sweepL s l false) < travelL s (sweepL s l true) then (sweepL s l false, travelL s (sweepL s l false), true) else (sweepL s l true, travelL s (sweepL s l true), true)) else ([], 0, false)
theorem bestR_short (s : Int) (l : List Int) : ((bestR s l).1.length : Int) ≤ 1000 := by
  unfold bestR
  split
  · rename_i h
    have := (areAsksB_iff s l).1 h
    split
    · show ((sweepL s l false).length : Int) ≤ 1000
      rw [sweepL_length]
      omega
    · show ((sweepL s l true).length : Int) ≤ 1000
      rw [sweepL_length]
      omega
  · simp
theorem sweepL_in (s : Int) (l : List Int) (up : Bool) (h : ∀ x ∈ l, 0 ≤ x ∧ x ≤ 200) : ∀ x ∈ sweepL s l up, 0 ≤ x ∧ x ≤ 200 := fun x hx => h x ((sweepL_perm s l up).mem_iff.1 hx)
theorem specBest_v (s : Int) (l : List Int) (h : (l.length : Int) ≤ 1048576) : Tot (fun k => spec_BestSweep.f k s l) (bestR s l) := by
  unfold spec_BestSweep.f bestR
  refine Tot.bind (specGood_v s l (by omega)) ?_
  by_cases hg : areAsksB s l = true
  · obtain ⟨h1, h2, h3⟩ := (areAsksB_iff s l).1 hg
    have tr := fun up => specTravel_v s (sweepL s l up) h1 (by rw [sweepL_length]; omega) (sweepL_in s l up h3)
    rw [if_pos hg]
    refine Tot.yes hg (Tot.bind (specSweep_v s l true (by omega)) (Tot.bind (specSweep_v s l false (by omega)) (Tot.bind (tr false) (Tot.bind (tr true) ?_))))
    by_cases c : travelL s (sweepL s l false) < travelL s (sweepL s l true)
    · rw [if_pos c]
      exact Tot.yes c (Tot.bind (tr false) (Tot.pure _))
    · rw [if_neg c]
      exact Tot.no c (Tot.bind (tr true) (Tot.pure _))
  · rw [if_neg hg]
    exact Tot.no hg (Tot.pure _)
theorem implBest_v (s : Int) (l : List Int) : Tot (fun k => impl_BestSweep.f k s l) (bestR s l) := by
  unfold impl_BestSweep.f bestR
  simp only [implAre_v, Option.bind_some]
  by_cases hg : areAsksB s l = true
  · obtain ⟨h1, h2, h3⟩ := (areAsksB_iff s l).1 hg
    have tr := fun up => implTravel_v s (sweepL s l up) h1 (by rw [sweepL_length]; omega) (sweepL_in s l up h3)
    rw [if_pos hg]
    simp only [implSweep_v s l _ (show l.length ≤ 8 by omega), Option.bind_some]
    refine Tot.yes hg (Tot.bind (tr false) (Tot.bind (tr true) ?_))
    by_cases c : travelL s (sweepL s l false) < travelL s (sweepL s l true)
    · rw [if_pos c]
      exact Tot.yes c (Tot.bind (tr false) (Tot.pure _))
    · rw [if_neg c]
      exact Tot.no c (Tot.bind (tr true) (Tot.pure _))
  · rw [if_neg hg]
    exact Tot.no hg (Tot.pure _)

/-- The lowest and the highest of a list and one more. -/
def loL : Int → List Int → Int
  | s, [] => s
  | s, x :: l => min x (loL s l)
def hiL : Int → List Int → Int
  | s, [] => s
  | s, x :: l => max x (hiL s l)
theorem loL_le (s : Int) : ∀ l : List Int, loL s l ≤ s ∧ ∀ x ∈ l, loL s l ≤ x
  | [] => ⟨Int.le_refl _, fun x hx => by simp at hx⟩
  | y :: l => by
    have ih := loL_le s l
    refine ⟨by show min y (loL s l) ≤ s; omega, fun x hx => ?_⟩
    show min y (loL s l) ≤ x
    rcases List.mem_cons.1 hx with rfl | hx
    · omega
    · have := ih.2 x hx; omega
theorem loL_or (s : Int) : ∀ l : List Int, loL s l = s ∨ loL s l ∈ l
  | [] => .inl rfl
  | y :: l => by
    show min y (loL s l) = s ∨ min y (loL s l) ∈ y :: l
    rcases loL_or s l with h | h
    · by_cases hy : y ≤ loL s l
      · right; rw [show min y (loL s l) = y by omega]; simp
      · left; omega
    · by_cases hy : y ≤ loL s l
      · right; rw [show min y (loL s l) = y by omega]; simp
      · right; rw [show min y (loL s l) = loL s l by omega]; simp [h]
theorem hiL_ge (s : Int) : ∀ l : List Int, s ≤ hiL s l ∧ ∀ x ∈ l, x ≤ hiL s l
  | [] => ⟨Int.le_refl _, fun x hx => by simp at hx⟩
  | y :: l => by
    have ih := hiL_ge s l
    refine ⟨by show s ≤ max y (hiL s l); omega, fun x hx => ?_⟩
    show x ≤ max y (hiL s l)
    rcases List.mem_cons.1 hx with rfl | hx
    · omega
    · have := ih.2 x hx; omega
theorem hiL_or (s : Int) : ∀ l : List Int, hiL s l = s ∨ hiL s l ∈ l
  | [] => .inl rfl
  | y :: l => by
    show max y (hiL s l) = s ∨ max y (hiL s l) ∈ y :: l
    rcases hiL_or s l with h | h
    · by_cases hy : hiL s l ≤ y
      · right; rw [show max y (hiL s l) = y by omega]; simp
      · left; omega
    · by_cases hy : hiL s l ≤ y
      · right; rw [show max y (hiL s l) = y by omega]; simp
      · right; rw [show max y (hiL s l) = hiL s l by omega]; simp [h]
/-- The least travel from s over all of l. -/
def opt (s : Int) (l : List Int) : Int := (hiL s l - loL s l) + min (hiL s l - s) (s - loL s l)
theorem opt_nil (s : Int) : opt s [] = 0 := by simp [opt, hiL, loL]
theorem opt_nonneg (s : Int) (l : List Int) : 0 ≤ opt s l := by
  have h1 := (loL_le s l).1
  have h2 := (hiL_ge s l).1
  unfold opt
  omega
/-- More elements: no less travel. -/
theorem opt_mono (s : Int) (l m : List Int) (h : ∀ x ∈ l, x ∈ m) : opt s l ≤ opt s m := by
  have h1 := loL_le s l
  have h2 := hiL_ge s l
  have h3 := loL_le s m
  have h4 := hiL_ge s m
  have hlo : loL s m ≤ loL s l := by
    rcases loL_or s l with e | e
    · rw [e]; exact h3.1
    · exact h3.2 _ (h _ e)
  have hhi : hiL s l ≤ hiL s m := by
    rcases hiL_or s l with e | e
    · rw [e]; exact h4.1
    · exact h4.2 _ (h _ e)
  unfold opt
  have := h1.1
  have := h2.1
  omega
/-- One step: it cannot beat the least. -/
theorem opt_step (s x : Int) (l m : List Int) (hm : ∀ y ∈ m, y = x ∨ y ∈ l) : opt s m ≤ way s x + opt x l := by
  have h1 := loL_le x l
  have h2 := hiL_ge x l
  have h3 := loL_le s m
  have h4 := hiL_ge s m
  have hlo : min s (loL x l) ≤ loL s m := by
    rcases loL_or s m with e | e
    · omega
    · rcases hm _ e with e2 | e2
      · have := h1.1; omega
      · have := h1.2 _ e2; omega
  have hhi : hiL s m ≤ max s (hiL x l) := by
    rcases hiL_or s m with e | e
    · omega
    · rcases hm _ e with e2 | e2
      · have := h2.1; omega
      · have := h2.2 _ e2; omega
  have a1 := h1.1
  have a2 := h2.1
  have a3 := h3.1
  have a4 := h4.1
  unfold opt way
  split <;> omega
theorem travel_ge : ∀ (o : List Int) (s : Int), opt s o ≤ travelL s o
  | [], s => by rw [opt_nil]; exact Int.le_refl _
  | x :: o, s => by
    have := travel_ge o x
    have h := opt_step s x o (x :: o) (fun y hy => List.mem_cons.1 hy)
    show opt s (x :: o) ≤ way s x + travelL x o
    omega
/-- Some first step is one of a least travel. -/
theorem opt_hit (s : Int) (m : List Int) (hne : m ≠ []) : ∃ x ∈ m, ∀ l : List Int, (∀ y ∈ l, y ∈ m) → way s x + opt x l ≤ opt s m := by
  have h3 := loL_le s m
  have h4 := hiL_ge s m
  obtain ⟨z, hz⟩ : ∃ z, z ∈ m := List.exists_mem_of_ne_nil m hne
  -- an element that lies lowest, and one that lies highest
  obtain ⟨p, hp, hpl⟩ : ∃ p ∈ m, ∀ y ∈ m, p ≤ y := by
    rcases loL_or z m with e | e
    · exact ⟨z, hz, fun y hy => by rw [← e]; exact (loL_le z m).2 y hy⟩
    · exact ⟨_, e, (loL_le z m).2⟩
  obtain ⟨q, hq, hqh⟩ : ∃ q ∈ m, ∀ y ∈ m, y ≤ q := by
    rcases hiL_or z m with e | e
    · exact ⟨z, hz, fun y hy => by rw [← e]; exact (hiL_ge z m).2 y hy⟩
    · exact ⟨_, e, (hiL_ge z m).2⟩
  have hlo : loL s m = min s p := by
    have := h3.2 p hp
    have := h3.1
    rcases loL_or s m with e | e
    · omega
    · have := hpl _ e; omega
  have hhi : hiL s m = max s q := by
    have := h4.2 q hq
    have := h4.1
    rcases hiL_or s m with e | e
    · omega
    · have := hqh _ e; omega
  have hpq := hpl q hq
  have key : ∀ (x : Int) (l : List Int), (∀ y ∈ l, y ∈ m) → (x = p ∨ x = q) → min x p ≤ loL x l ∧ loL x l ≤ x ∧ x ≤ hiL x l ∧ hiL x l ≤ max x q := by
    intro x l hl _
    have g1 := loL_le x l
    have g2 := hiL_ge x l
    refine ⟨?_, g1.1, g2.1, ?_⟩
    · rcases loL_or x l with e | e
      · omega
      · have := hpl _ (hl _ e); omega
    · rcases hiL_or x l with e | e
      · omega
      · have := hqh _ (hl _ e); omega
  by_cases hc : q - s ≤ s - p
  · refine ⟨q, hq, fun l hl => ?_⟩
    obtain ⟨k1, k2, k3, k4⟩ := key q l hl (.inr rfl)
    unfold opt way
    rw [hlo, hhi]
    split <;> omega
  · refine ⟨p, hp, fun l hl => ?_⟩
    obtain ⟨k1, k2, k3, k4⟩ := key p l hl (.inl rfl)
    unfold opt way
    rw [hlo, hhi]
    split <;> omega

theorem opt_le (s : Int) (l : List Int) (hs : 0 ≤ s ∧ s ≤ 200) (hl : ∀ x ∈ l, 0 ≤ x ∧ x ≤ 200) : opt s l ≤ 400 := by
  have h1 : 0 ≤ loL s l := by
    rcases loL_or s l with e | e
    · omega
    · have := hl _ e; omega
  have h2 : hiL s l ≤ 200 := by
    rcases hiL_or s l with e | e
    · omega
    · have := hl _ e; omega
  have := (loL_le s l).1
  have := (hiL_ge s l).1
  unfold opt
  omega
def lf (s more : Int) : List Int → List Int → Int → Int
  | _, [], best => best
  | a, x :: b, best => lf s more (a ++ [x]) b (min best (more + way s x + opt x (a ++ b)))
theorem lf_le (s more : Int) : ∀ (b a : List Int) (best : Int), lf s more a b best ≤ best
  | [], _, _ => Int.le_refl _
  | x :: b, a, best => by
    have := lf_le s more b (a ++ [x]) (min best (more + way s x + opt x (a ++ b)))
    show lf s more (a ++ [x]) b _ ≤ best
    omega
theorem lf_ge (s more : Int) (L : List Int) : ∀ (b a : List Int) (best : Int), a ++ b = L → min best (more + opt s L) ≤ lf s more a b best
  | [], a, best, _ => by show min best (more + opt s L) ≤ best; omega
  | x :: b, a, best, h => by
    have ih := lf_ge s more L b (a ++ [x]) (min best (more + way s x + opt x (a ++ b))) (by simpa using h)
    have hst := opt_step s x (a ++ b) L (fun y hy => by
      rw [← h] at hy
      rcases List.mem_append.1 hy with hy | hy
      · exact .inr (List.mem_append_left _ hy)
      · rcases List.mem_cons.1 hy with rfl | hy
        · exact .inl rfl
        · exact .inr (List.mem_append_right _ hy))
    show _ ≤ lf s more (a ++ [x]) b _
    omega
theorem lf_hit (s more : Int) (L : List Int) (z : Int) (hz : ∀ l : List Int, (∀ y ∈ l, y ∈ L) → way s z + opt z l ≤ opt s L) : ∀ (b a : List Int) (best : Int), a ++ b = L → z ∈ b → lf s more a b best ≤ more + opt s L
  | [], _, _, _, h => by simp at h
  | x :: b, a, best, h, hm => by
    rcases List.mem_cons.1 hm with rfl | hm
    · have h1 := hz (a ++ b) (fun y hy => by
        rw [← h]
        rcases List.mem_append.1 hy with hy | hy
        · exact List.mem_append_left _ hy
        · exact List.mem_append_right _ (List.mem_cons_of_mem _ hy))
      have h2 := lf_le s more b (a ++ [z]) (min best (more + way s z + opt z (a ++ b)))
      show lf s more (a ++ [z]) b _ ≤ _
      omega
    · exact lf_hit s more L z hz b (a ++ [x]) _ (by simpa using h) hm
theorem least_v : ∀ (n : Nat) (l : List Int) (s more best : Int), l.length = n → n ≤ 8 → (0 ≤ s ∧ s ≤ 200) → (∀ x ∈ l, 0 ≤ x ∧ x ≤ 200) → 0 ≤ more → more + 200 * n ≤ 1000000 → Tot (fun k => spec_l8Least.f k s l more best) (min best (more + opt s l)) := by
  intro n
  induction n with
  | zero =>
    intro l s more best hl _ hs hb h0 h1
    obtain rfl := List.eq_nil_of_length_eq_zero hl
    rw [opt_nil, Int.add_zero]
    refine Tot.step (fun k => spec_l8Least.f.eq_2 ..) ?_
    by_cases c : more ≥ best
    · rw [show min best more = best by omega]; exact Tot.yes c (Tot.pure _)
    · rw [show min best more = more by omega]; exact Tot.no c (Tot.yes (by simp) (Tot.pure _))
  | succ n ih =>
    intro l s more best hl hn hs hb h0 h1
    have hopt := opt_nonneg s l
    have loop : ∀ (b a : List Int) (best : Int), a ++ b = l → Tot (fun k => spec_l8Least.l0 k s l more best l (l.length : Int) a.length) (lf s more a b best) := by
      intro b
      induction b with
      | nil =>
        intro a best h
        simp only [List.append_nil] at h
        subst h
        exact Tot.step (fun k => spec_l8Least.l0.eq_2 ..) (Tot.no (by omega) (Tot.pure _))
      | cons x b ihb =>
        intro a best h
        have hll : l.length = a.length + b.length + 1 := by rw [← h]; simp; omega
        have hr : rd l (a.length : Int) = x := by rw [← h]; simp [rd, List.getD]
        have hx := hb x (by rw [← h]; simp)
        have hw := way_le s x hs hx
        have hw0 := way_nonneg s x
        have e1 : l.take ((a.length : Int)).toNat = a := by rw [← h]; simp
        have e2 : l.drop ((a.length : Int) + 1).toNat = b := by
          rw [show ((a.length : Int) + 1).toNat = a.length + 1 by omega, ← h, List.drop_append]
          simp
        refine Tot.step (fun k => spec_l8Least.l0.eq_2 ..) (Tot.yes (by omega) (Tot.yes (by omega) (Tot.yes (by omega) (Tot.some_bind (Tot.yes (by omega) ?_)))))
        rw [e1, wrap_in (x := (a.length : Int) + 1) (by omega) (by omega), e2, hr]
        refine Tot.yes (by simp; omega) (Tot.some_bind (Tot.yes (by omega) (Tot.yes (by omega) (Tot.yes (by simp; omega) ?_))))
        simp only [way_v s x hs hx, Option.bind_some]
        rw [wrap_in (x := more + way s x) (by omega) (by omega)]
        have hrec := ih (a ++ b) x (more + way s x) best (by simp; omega) (by omega) hx (fun y hy => hb y (by
          rw [← h]
          rcases List.mem_append.1 hy with hy | hy
          · exact List.mem_append_left _ hy
          · exact List.mem_append_right _ (List.mem_cons_of_mem _ hy))) (by omega) (by omega)
        have hnext := ihb (a ++ [x]) (min best (more + way s x + opt x (a ++ b))) (by simpa using h)
        refine Tot.bind (a := min best (more + way s x + opt x (a ++ b))) (by simpa using hrec) ?_
        show Tot _ (lf s more (a ++ [x]) b (min best (more + way s x + opt x (a ++ b))))
        simpa using hnext
    refine Tot.step (fun k => spec_l8Least.f.eq_2 ..) ?_
    by_cases c : more ≥ best
    · rw [show min best (more + opt s l) = best by omega]; exact Tot.yes c (Tot.pure _)
    · refine Tot.no c (Tot.no (by omega) ?_)
      have h := loop l [] best rfl
      have e : lf s more [] l best = min best (more + opt s l) := by
        obtain ⟨z, hz, hz2⟩ := opt_hit s l (fun e => by rw [e] at hl; simp at hl)
        have g1 := lf_ge s more l l [] best rfl
        have g2 := lf_le s more l [] best
        have g3 := lf_hit s more l z hz2 l [] best rfl hz
        omega
      rw [← e]
      simpa using h
def leastR (s : Int) (l : List Int) : Int × Bool := if areAsksB s l = true then (opt s l, true) else (0, false)
theorem specLeastR_v (s : Int) (l : List Int) (h : (l.length : Int) ≤ 9223372036850000000) : Tot (fun k => spec_LeastTravel.f k s l) (leastR s l) := by
  unfold spec_LeastTravel.f leastR
  refine Tot.bind (specGood_v s l h) ?_
  by_cases c : areAsksB s l = true
  · rw [if_pos c]
    obtain ⟨hs, hl, hb⟩ := (areAsksB_iff s l).1 c
    obtain ⟨o, h1, h2, h3⟩ : ∃ o, Tot (fun k => spec_l8Sweep.f k s l true) o ∧ o.length = l.length ∧ ∀ y, y ∈ o ↔ y ∈ l := ⟨sweepL s l true, specSweep_v s l true (by omega), sweepL_length s l true, fun y => (sweepL_perm s l true).mem_iff⟩
    have hT := travel_ge o s
    have hM := opt_mono s l o (fun x hx => (h3 x).2 hx)
    have hob : ∀ x ∈ o, 0 ≤ x ∧ x ≤ 200 := fun x hx => hb x ((h3 x).1 hx)
    have hT2 : travelL s o ≤ 1000000 := by
      have : ∀ (o : List Int) (s : Int), (0 ≤ s ∧ s ≤ 200) → (∀ x ∈ o, 0 ≤ x ∧ x ≤ 200) → travelL s o ≤ 200 * o.length := by
        intro o
        induction o with
        | nil => intro s _ _; simp [travelL]
        | cons x o ih =>
          intro s hs hx
          have h1 := way_le s x hs (hx x (by simp))
          have h2 := ih x (hx x (by simp)) (fun y hy => hx y (by simp [hy]))
          simp only [travelL, List.length_cons]
          omega
      have := this o s hs hob
      omega
    have h0 := opt_nonneg s l
    refine Tot.yes c (Tot.bind h1 (Tot.bind (specTravel_v s o hs (by omega) hob) ?_))
    rw [wrap_in (x := travelL s o + 1) (by omega) (by omega)]
    have hle := least_v l.length l s 0 (travelL s o + 1) rfl (by omega) hs hb (by omega) (by omega)
    rw [show min (travelL s o + 1) (0 + opt s l) = opt s l by omega] at hle
    exact Tot.bind hle (Tot.pure _)
  · rw [if_neg c]
    exact Tot.no c (Tot.pure _)
theorem mnL_spec : ∀ (l : List Int) (m : Int), (mnL m l ≤ m ∧ ∀ x ∈ l, mnL m l ≤ x) ∧ (mnL m l = m ∨ mnL m l ∈ l)
  | [], m => ⟨⟨Int.le_refl _, fun x hx => by simp at hx⟩, .inl rfl⟩
  | x :: l, m => by
    have ih := mnL_spec l (mn m x)
    have h1 : mn m x ≤ m ∧ mn m x ≤ x ∧ (mn m x = m ∨ mn m x = x) := by unfold mn; split <;> omega
    show (mnL (mn m x) l ≤ m ∧ ∀ y ∈ x :: l, mnL (mn m x) l ≤ y) ∧ (mnL (mn m x) l = m ∨ mnL (mn m x) l ∈ x :: l)
    refine ⟨⟨by omega, fun y hy => ?_⟩, ?_⟩
    · rcases List.mem_cons.1 hy with rfl | hy
      · omega
      · exact ih.1.2 y hy
    · rcases ih.2 with e | e
      · rcases h1.2.2 with e2 | e2
        · left; omega
        · right; rw [e, e2]; simp
      · right; simp [e]
theorem mxL_spec : ∀ (l : List Int) (m : Int), (m ≤ mxL m l ∧ ∀ x ∈ l, x ≤ mxL m l) ∧ (mxL m l = m ∨ mxL m l ∈ l)
  | [], m => ⟨⟨Int.le_refl _, fun x hx => by simp at hx⟩, .inl rfl⟩
  | x :: l, m => by
    have ih := mxL_spec l (mx m x)
    have h1 : m ≤ mx m x ∧ x ≤ mx m x ∧ (mx m x = m ∨ mx m x = x) := by unfold mx; split <;> omega
    show (m ≤ mxL (mx m x) l ∧ ∀ y ∈ x :: l, y ≤ mxL (mx m x) l) ∧ (mxL (mx m x) l = m ∨ mxL (mx m x) l ∈ x :: l)
    refine ⟨⟨by omega, fun y hy => ?_⟩, ?_⟩
    · rcases List.mem_cons.1 hy with rfl | hy
      · omega
      · exact ih.1.2 y hy
    · rcases ih.2 with e | e
      · rcases h1.2.2 with e2 | e2
        · left; omega
        · right; rw [e, e2]; simp
      · right; simp [e]
theorem implLeastR_v (s : Int) (l : List Int) : impl_LeastTravel.f s l = some (leastR s l) := by
  unfold impl_LeastTravel.f leastR
  rw [implAre_v, Option.bind_some]
  by_cases c : areAsksB s l = true
  · rw [if_pos c, if_pos c]
    obtain ⟨hs, hl, hb⟩ := (areAsksB_iff s l).1 c
    cases l with
    | nil => rw [if_pos (by simp), opt_nil]
    | cons x l =>
      rw [if_neg (by simp; omega)]
      show ((some (mnL x l)).bind fun t112 => ((some (mxL x l)).bind fun t113 => _)) = _
      rw [Option.bind_some, Option.bind_some]
      have h1 := mnL_spec l x
      have h2 := mxL_spec l x
      have hm : mnL x l ∈ x :: l := by rcases h1.2 with e | e <;> simp [e]
      have hM : mxL x l ∈ x :: l := by rcases h2.2 with e | e <;> simp [e]
      have bm := hb _ hm
      have bM := hb _ hM
      have l1 := loL_le s (x :: l)
      have l2 := hiL_ge s (x :: l)
      have hlo : loL s (x :: l) = min s (mnL x l) := by
        have := l1.2 _ hm
        have := l1.1
        rcases loL_or s (x :: l) with e | e
        · omega
        · rcases List.mem_cons.1 e with e2 | e2
          · have := h1.1.1; omega
          · have := h1.1.2 _ e2; omega
      have hhi : hiL s (x :: l) = max s (mxL x l) := by
        have := l2.2 _ hM
        have := l2.1
        rcases hiL_or s (x :: l) with e | e
        · omega
        · rcases List.mem_cons.1 e with e2 | e2
          · have := h2.1.1; omega
          · have := h2.1.2 _ e2; omega
      rw [wrap_in (x := s - mnL x l) (by omega) (by omega), wrap_in (x := mxL x l - s) (by omega) (by omega)]
      have e1 : mx (s - mnL x l) 0 = s - loL s (x :: l) := by rw [hlo]; unfold mx; split <;> omega
      have e2 : mx (mxL x l - s) 0 = hiL s (x :: l) - s := by rw [hhi]; unfold mx; split <;> omega
      rw [e1, e2]
      have hb1 : 0 ≤ s - loL s (x :: l) ∧ s - loL s (x :: l) ≤ 200 := by rw [hlo]; omega
      have hb2 : 0 ≤ hiL s (x :: l) - s ∧ hiL s (x :: l) - s ≤ 200 := by rw [hhi]; omega
      have e3 : mn (s - loL s (x :: l)) (hiL s (x :: l) - s) = min (hiL s (x :: l) - s) (s - loL s (x :: l)) := by unfold mn; split <;> omega
      rw [e3, wrap_in (x := s - loL s (x :: l) + (hiL s (x :: l) - s)) (by omega) (by omega), wrap_in (by omega) (by omega)]
      unfold opt
      congr 2
      omega
  · rw [if_neg c, if_neg c]

def lexle (s a b : Int) : Prop := way s a < way s b ∨ (way s a = way s b ∧ a ≤ b)
theorem lexle_refl (s a : Int) : lexle s a a := .inr ⟨rfl, Int.le_refl _⟩
theorem lexle_trans {s a b c : Int} (h1 : lexle s a b) (h2 : lexle s b c) : lexle s a c := by
  unfold lexle at *
  omega
theorem lexle_anti {s a b : Int} (h1 : lexle s a b) (h2 : lexle s b a) : a = b := by
  unfold lexle at *
  omega
def bestS (s : Int) (L : List Int) : Nat → Nat
  | 0 => 0
  | i + 1 => if way s (L.getD i 0) < way s (L.getD (bestS s L i) 0) then i else if way s (L.getD i 0) = way s (L.getD (bestS s L i) 0) ∧ L.getD i 0 < L.getD (bestS s L i) 0 then i else bestS s L i
theorem bestS_ok (s : Int) (L : List Int) (h : 0 < L.length) : ∀ i, i ≤ L.length → bestS s L i < L.length ∧ ∀ j, j < i → lexle s (L.getD (bestS s L i) 0) (L.getD j 0)
  | 0, _ => ⟨h, fun j hj => by omega⟩
  | i + 1, hi => by
    obtain ⟨h1, h2⟩ := bestS_ok s L h i (by omega)
    unfold bestS
    split
    · rename_i c
      refine ⟨by omega, fun j hj => ?_⟩
      rcases Nat.lt_or_ge j i with hlt | hge
      · exact lexle_trans (.inl c) (h2 j hlt)
      · obtain rfl : j = i := by omega
        exact lexle_refl _ _
    · rename_i c
      split
      · rename_i c2
        refine ⟨by omega, fun j hj => ?_⟩
        rcases Nat.lt_or_ge j i with hlt | hge
        · exact lexle_trans (.inr ⟨c2.1, by omega⟩) (h2 j hlt)
        · obtain rfl : j = i := by omega
          exact lexle_refl _ _
      · rename_i c2
        refine ⟨h1, fun j hj => ?_⟩
        rcases Nat.lt_or_ge j i with hlt | hge
        · exact h2 j hlt
        · obtain rfl : j = i := by omega
          unfold lexle
          omega
theorem nearI_ok (s : Int) (L : List Int) (h : 0 < L.length) : ∀ i, i ≤ L.length → (Go.Proofs.Ytdjekgeoaekplaa.Near.nearI s L i < L.length ∧ Go.Proofs.Ytdjekgeoaekplaa.Near.nearI s L i ≤ i) ∧ ∀ j, j < i → way s (L.getD (Go.Proofs.Ytdjekgeoaekplaa.Near.nearI s L i) 0) < way s (L.getD j 0) ∨ (way s (L.getD (Go.Proofs.Ytdjekgeoaekplaa.Near.nearI s L i) 0) = way s (L.getD j 0) ∧ Go.Proofs.Ytdjekgeoaekplaa.Near.nearI s L i ≤ j)
  | 0, _ => ⟨⟨h, Nat.le_refl _⟩, fun j hj => by omega⟩
  | i + 1, hi => by
    obtain ⟨⟨h1, h0⟩, h2⟩ := nearI_ok s L h i (by omega)
    unfold Go.Proofs.Ytdjekgeoaekplaa.Near.nearI
    have e : ∀ a b, Go.Proofs.Ytdjekgeoaekplaa.Near.wayI a b = way a b := fun _ _ => rfl
    simp only [e]
    split
    · rename_i c
      refine ⟨⟨by omega, by omega⟩, fun j hj => ?_⟩
      rcases Nat.lt_or_ge j i with hlt | hge
      · have := h2 j hlt; omega
      · obtain rfl : j = i := by omega
        exact .inr ⟨rfl, Nat.le_refl _⟩
    · rename_i c
      refine ⟨⟨h1, by omega⟩, fun j hj => ?_⟩
      rcases Nat.lt_or_ge j i with hlt | hge
      · exact h2 j hlt
      · obtain rfl : j = i := by omega
        omega
theorem getD_mem {L : List Int} {i : Nat} (h : i < L.length) : L.getD i 0 ∈ L := by
  rw [List.getD_eq_getElem?_getD, List.getElem?_eq_getElem h]
  exact List.getElem_mem _
theorem mem_getD {L : List Int} {x : Int} (h : x ∈ L) : ∃ i, i < L.length ∧ L.getD i 0 = x := by
  obtain ⟨i, hi, rfl⟩ := List.mem_iff_getElem.1 h
  exact ⟨i, hi, by rw [List.getD_eq_getElem?_getD, List.getElem?_eq_getElem hi]; rfl⟩
theorem sorted_getD {L : List Int} (h : L.Pairwise (· ≤ ·)) {i j : Nat} (hij : i ≤ j) (hj : j < L.length) : L.getD i 0 ≤ L.getD j 0 := by
  rw [List.getD_eq_getElem?_getD, List.getElem?_eq_getElem (show i < L.length by omega), List.getD_eq_getElem?_getD, List.getElem?_eq_getElem hj]
  rcases Nat.lt_or_ge i j with hlt | hge
  · exact List.pairwise_iff_getElem.1 h i j _ hj hlt
  · obtain rfl : i = j := by omega
    exact Int.le_refl _
theorem erase_perm {L : List Int} {i : Nat} (h : i < L.length) : L.Perm (L.getD i 0 :: L.eraseIdx i) := by
  have e : L = L.take i ++ L.getD i 0 :: L.drop (i + 1) := by
    rw [List.getD_eq_getElem?_getD, List.getElem?_eq_getElem h]
    show L = L.take i ++ L[i] :: L.drop (i + 1)
    rw [← List.drop_eq_getElem_cons h, List.take_append_drop]
  have e2 : L.eraseIdx i = L.take i ++ L.drop (i + 1) := List.eraseIdx_eq_take_drop_succ L i
  rw [e2]
  exact (List.Perm.of_eq e).trans List.perm_middle
theorem sorted_erase {L : List Int} (h : L.Pairwise (· ≤ ·)) (i : Nat) : (L.eraseIdx i).Pairwise (· ≤ ·) := h.sublist (List.eraseIdx_sublist L i)
def greedyS : Nat → Int → List Int → List Int
  | 0, _, _ => []
  | n + 1, s, L => L.getD (bestS s L L.length) 0 :: greedyS n (L.getD (bestS s L L.length) 0) (L.eraseIdx (bestS s L L.length))
theorem greedy_eq : ∀ (n : Nat) (s : Int) (L M : List Int), L.length = n → L.Perm M → M.Pairwise (· ≤ ·) → greedyS n s L = Go.Proofs.Ytdjekgeoaekplaa.Near.greedyI n s M
  | 0, _, _, _, _, _, _ => rfl
  | n + 1, s, L, M, hl, hp, hs => by
    have hm : M.length = n + 1 := by rw [← hp.length_eq, hl]
    obtain ⟨b1, b2⟩ := bestS_ok s L (by omega) L.length (Nat.le_refl _)
    obtain ⟨⟨c1, c0⟩, c2⟩ := nearI_ok s M (by omega) M.length (Nat.le_refl _)
    have e : L.getD (bestS s L L.length) 0 = M.getD (Go.Proofs.Ytdjekgeoaekplaa.Near.nearI s M M.length) 0 := by
      refine lexle_anti (s := s) ?_ ?_
      · obtain ⟨j, hj, hje⟩ := mem_getD (hp.mem_iff.2 (getD_mem c1))
        rw [← hje]
        exact b2 j hj
      · obtain ⟨j, hj, hje⟩ := mem_getD (hp.mem_iff.1 (getD_mem b1))
        rw [← hje]
        have h1 := c2 j hj
        rcases h1 with h1 | ⟨h1, h2⟩
        · exact .inl h1
        · exact .inr ⟨h1, sorted_getD hs h2 hj⟩
    show L.getD (bestS s L L.length) 0 :: greedyS n (L.getD (bestS s L L.length) 0) (L.eraseIdx (bestS s L L.length)) = M.getD (Go.Proofs.Ytdjekgeoaekplaa.Near.nearI s M M.length) 0 :: Go.Proofs.Ytdjekgeoaekplaa.Near.greedyI n (M.getD (Go.Proofs.Ytdjekgeoaekplaa.Near.nearI s M M.length) 0) (M.eraseIdx (Go.Proofs.Ytdjekgeoaekplaa.Near.nearI s M M.length))
    have p1 := (erase_perm b1).symm.trans (hp.trans (erase_perm c1))
    rw [e] at p1 ⊢
    rw [greedy_eq n _ (L.eraseIdx (bestS s L L.length)) (M.eraseIdx (Go.Proofs.Ytdjekgeoaekplaa.Near.nearI s M M.length)) (by rw [List.length_eraseIdx_of_lt b1]; omega) p1.cons_inv (sorted_erase hs _)]
theorem greedyS_length : ∀ (n : Nat) (s : Int) (L : List Int), (greedyS n s L).length = n
  | 0, _, _ => rfl
  | n + 1, s, L => by simp [greedyS, greedyS_length n]
theorem rd_nat (L : List Int) (i : Nat) : rd L (i : Int) = L.getD i 0 := by
  show L.getD (i : Int).toNat 0 = _
  rw [Int.toNat_natCast]
theorem specNear_l : ∀ (n : Nat) (s : Int) (L out : List Int), L.length = n → n ≤ 8 → (0 ≤ s ∧ s ≤ 200) → (∀ x ∈ L, 0 ≤ x ∧ x ≤ 200) → out.length ≤ 8 - n → Tot (fun k => spec_NearestOrder.l0 k s L out) (out ++ greedyS n s L, true)
  | 0, s, L, out, hl, _, _, _, _ => by
    refine Tot.step (fun k => spec_NearestOrder.l0.eq_2 ..) (Tot.no (by omega) ?_)
    simpa [greedyS] using Tot.pure _
  | n + 1, s, L, out, hl, hn, hs, hb, ho => by
    have inner : ∀ (d i : Nat), i + d = L.length → Tot (fun k => spec_NearestOrder.l1 k s L out (bestS s L i) L (L.length : Int) i) (out ++ greedyS (n + 1) s L, true) := by
      intro d
      induction d with
      | zero =>
        intro i hi
        obtain rfl : i = L.length := by omega
        obtain ⟨b1, _⟩ := bestS_ok s L (by omega) L.length (Nat.le_refl _)
        have hx := hb _ (getD_mem b1)
        have ih := specNear_l n (L.getD (bestS s L L.length) 0) (L.eraseIdx (bestS s L L.length)) (out ++ [L.getD (bestS s L L.length) 0]) (by rw [List.length_eraseIdx_of_lt b1]; omega) (by omega) hx (fun y hy => hb y (List.mem_of_mem_eraseIdx hy)) (by simp; omega)
        have eg : greedyS (n + 1) s L = L.getD (bestS s L L.length) 0 :: greedyS n (L.getD (bestS s L L.length) 0) (L.eraseIdx (bestS s L L.length)) := rfl
        have ee : L.eraseIdx (bestS s L L.length) = L.take (bestS s L L.length) ++ L.drop (bestS s L L.length + 1) := List.eraseIdx_eq_take_drop_succ L _
        rw [eg]
        rw [ee] at ih ⊢
        generalize bestS s L L.length = b at *
        refine Tot.step (fun k => spec_NearestOrder.l1.eq_2 ..) (Tot.no (by omega) (Tot.yes (by omega) (Tot.yes (by omega) (Tot.yes (by omega) (Tot.some_bind (Tot.yes (by omega) (Tot.some_bind (Tot.yes (by simp; omega) (Tot.some_bind ?_)))))))))
        rw [wrap_in (x := (b : Int) + 1) (by omega) (by omega), rd_nat]
        refine Tot.yes (by omega) (Tot.yes (by omega) (Tot.some_bind (Tot.yes (by simp; omega) ?_)))
        rw [show ((b : Int) + 1).toNat = b + 1 by omega]
        simpa using ih
      | succ d ihd =>
        intro i hi
        obtain ⟨b1, _⟩ := bestS_ok s L (by omega) i (by omega)
        have hx := hb _ (getD_mem (show i < L.length by omega))
        have hy := hb _ (getD_mem b1)
        have ih := ihd (i + 1) (by omega)
        have es : bestS s L (i + 1) = if way s (L.getD i 0) < way s (L.getD (bestS s L i) 0) then i else if way s (L.getD i 0) = way s (L.getD (bestS s L i) 0) ∧ L.getD i 0 < L.getD (bestS s L i) 0 then i else bestS s L i := rfl
        rw [es] at ih
        generalize bestS s L i = b at *
        refine Tot.step (fun k => spec_NearestOrder.l1.eq_2 ..) (Tot.yes (by omega) (Tot.yes (by omega) (Tot.yes (by omega) ?_)))
        simp only [rd_nat, way_v s (L.getD i 0) hs hx, way_v s (L.getD b 0) hs hy, Option.bind_some]
        rw [wrap_in (x := (i : Int) + 1) (by omega) (by omega)]
        refine Tot.yes (by omega) (Tot.yes (by omega) ?_)
        by_cases c : way s (L.getD i 0) < way s (L.getD b 0)
        · rw [if_pos c] at ih
          exact Tot.yes c ih
        · rw [if_neg c] at ih
          refine Tot.no c ?_
          by_cases c2 : way s (L.getD i 0) = way s (L.getD b 0)
          · refine Tot.yes c2 ?_
            by_cases c3 : L.getD i 0 < L.getD b 0
            · rw [if_pos ⟨c2, c3⟩] at ih
              exact Tot.yes c3 ih
            · rw [if_neg (fun h => c3 h.2)] at ih
              exact Tot.no c3 ih
          · rw [if_neg (fun h => c2 h.1)] at ih
            exact Tot.no c2 ih
    exact Tot.step (fun k => spec_NearestOrder.l0.eq_2 ..) (Tot.yes (by omega) (inner L.length 0 (by omega)))
def nearR (s : Int) (l : List Int) : List Int × Bool := if areAsksB s l = true then (greedyS l.length s l, true) else ([], false)
theorem nearR_short (s : Int) (l : List Int) : ((nearR s l).1.length : Int) ≤ 1000 := by
  unfold nearR
  split
  · rename_i h
    have := (areAsksB_iff s l).1 h
    show ((greedyS l.length s l).length : Int) ≤ 1000
    rw [greedyS_length]
    omega
  · simp
theorem specNear_v (s : Int) (l : List Int) (h : (l.length : Int) ≤ 1048576) : Tot (fun k => spec_NearestOrder.f k s l) (nearR s l) := by
  unfold spec_NearestOrder.f nearR
  refine Tot.bind (specGood_v s l (by omega)) ?_
  by_cases hg : areAsksB s l = true
  · obtain ⟨h1, h2, h3⟩ := (areAsksB_iff s l).1 hg
    rw [if_pos hg]
    have := specNear_l l.length s l [] rfl (by omega) h1 h3 (by simp)
    exact Tot.yes hg (Tot.some_bind (Tot.yes (by simp; omega) (by simpa using this)))
  · rw [if_neg hg]
    exact Tot.no hg (Tot.pure _)
theorem implNear_v (s : Int) (l : List Int) : impl_NearestOrder.f s l = some (nearR s l) := by
  unfold impl_NearestOrder.f nearR
  rw [implAre_v, Option.bind_some]
  by_cases hg : areAsksB s l = true
  · obtain ⟨h1, h2, h3⟩ := (areAsksB_iff s l).1 hg
    rw [if_pos hg, if_pos hg, if_pos ⟨h1, by omega, h3⟩, sortI_eq, greedy_eq l.length s l (sortL l) rfl (sortL_perm l).symm (sortL_sorted l)]
  · rw [if_neg hg, if_neg hg]

def travelR (s : Int) (l : List Int) : Int × Bool := if areAsksB s l = true then (travelL s l, true) else (0, false)
theorem implTravelOf_v (s : Int) (l : List Int) : Tot (fun k => impl_TravelOf.f k s l) (travelR s l) := by
  unfold impl_TravelOf.f travelR
  simp only [implAre_v, Option.bind_some]
  by_cases hg : areAsksB s l = true
  · obtain ⟨h1, h2, h3⟩ := (areAsksB_iff s l).1 hg
    rw [if_pos hg]
    exact Tot.yes hg (Tot.bind (implTravel_v s l h1 h2 h3) (Tot.pure _))
  · rw [if_neg hg]
    exact Tot.no hg (Tot.pure _)

theorem specTravelOf_v (s : Int) (l : List Int) (h : (l.length : Int) ≤ 1048576) : Tot (fun k => spec_TravelOf.f k s l) (travelR s l) := by
  unfold spec_TravelOf.f travelR
  refine Tot.bind (specGood_v s l (by omega)) ?_
  by_cases hg : areAsksB s l = true
  · obtain ⟨h1, h2, h3⟩ := (areAsksB_iff s l).1 hg
    rw [if_pos hg]
    exact Tot.yes hg (Tot.bind (specTravel_v s l h1 h2 h3) (Tot.pure _))
  · rw [if_neg hg]
    exact Tot.no hg (Tot.pure _)

theorem u64_in (x : Int) : 0 ≤ IntKind.u64.wrap x ∧ IntKind.u64.wrap x < 18446744073709551616 := by
  have e : IntKind.u64.wrap x = x % 18446744073709551616 := rfl
  rw [e]
  exact ⟨Int.emod_nonneg _ (by decide), Int.emod_lt_of_pos _ (by decide)⟩
theorem low8 (x : Int) : 0 ≤ Go.bits .and .u64 (IntKind.u64.wrap x / 1099511627776) 255 ∧ Go.bits .and .u64 (IntKind.u64.wrap x / 1099511627776) 255 ≤ 255 := by
  obtain ⟨h0, h1⟩ := u64_in x
  have hq : 0 ≤ IntKind.u64.wrap x / 1099511627776 := Int.ediv_nonneg h0 (by decide)
  have hq2 : IntKind.u64.wrap x / 1099511627776 ≤ IntKind.u64.wrap x := Int.ediv_le_self _ h0
  obtain ⟨n, hn⟩ := Int.eq_ofNat_of_zero_le hq
  rw [hn] at hq2 ⊢
  have e := bits_and_u64_nat n 255 (by omega) (by omega)
  have e2 : Go.bits .and .u64 (n : Int) 255 = ((n &&& 255 : Nat) : Int) := e
  rw [e2]
  have := Nat.and_le_right (n := n) (m := 255)
  omega
theorem next_v (code : List Int) (at_ seed : Int) (h0 : 0 ≤ at_) (h1 : at_ ≤ 1000000000) (hb : ∀ x ∈ code, 0 ≤ x ∧ x ≤ 255) : ∃ r s, spec_l1Cur_next.f code at_ seed = some (r, at_ + 1, s) ∧ 0 ≤ r ∧ r ≤ 255 := by
  unfold spec_l1Cur_next.f
  rw [wrap_in (x := at_ + 1) (by omega) (by omega)]
  by_cases c : at_ < (code.length : Int)
  · rw [if_pos c, if_pos h0, if_pos (by omega)]
    have hr : 0 ≤ rd code at_ ∧ rd code at_ ≤ 255 := by
      refine hb _ ?_
      unfold rd
      rw [List.getD_eq_getElem?_getD, List.getElem?_eq_getElem (by omega : at_.toNat < code.length)]
      exact List.getElem_mem _
    rw [wrap_in (x := rd code at_) (by omega) (by omega)]
    exact ⟨_, _, rfl, hr⟩
  · rw [if_neg c, if_neg (by omega)]
    have hl := low8 (IntKind.u64.wrap (IntKind.u64.wrap (seed * 6364136223846793005) + 0) + 1442695040888963407)
    rw [wrap_in (x := Go.bits .and .u64 _ 255) (by omega) (by omega)]
    exact ⟨_, _, rfl, hl⟩
theorem pick_v (code : List Int) (at_ seed n : Int) (h0 : 0 ≤ at_) (h1 : at_ ≤ 1000000) (hb : ∀ x ∈ code, 0 ≤ x ∧ x ≤ 255) : ∃ r a s, spec_l1Cur_pick.f code at_ seed n = some (r, a, s) ∧ at_ ≤ a ∧ a ≤ at_ + 2 ∧ 0 ≤ r ∧ (1 ≤ n → r < n) := by
  unfold spec_l1Cur_pick.f
  by_cases c : n ≤ 1
  · exact ⟨_, _, _, by rw [if_pos c], by omega, by omega, by omega, fun h => by omega⟩
  · obtain ⟨x, s, e, x0, x1⟩ := next_v code at_ seed h0 (by omega) hb
    rw [if_neg c, e, Option.bind_some]
    dsimp only
    by_cases c2 : n > 200
    · obtain ⟨y, s2, e2, y0, y1⟩ := next_v code (at_ + 1) s (by omega) (by omega) hb
      rw [if_pos c2, e2, Option.bind_some, if_neg (by omega)]
      dsimp only
      rw [wrap_in (x := x * 256) (by omega) (by omega), wrap_in (x := x * 256 + y) (by omega) (by omega)]
      exact ⟨_, _, _, rfl, by omega, by omega, Int.tmod_nonneg _ (by omega), fun _ => Int.tmod_lt_of_pos _ (by omega)⟩
    · rw [if_neg c2, if_neg (by omega)]
      exact ⟨_, _, _, rfl, by omega, by omega, Int.tmod_nonneg _ (by omega), fun _ => Int.tmod_lt_of_pos _ (by omega)⟩
theorem among_v (code : List Int) (at_ seed : Int) (l : List Int) (hl : 1 ≤ l.length) (h0 : 0 ≤ at_) (h1 : at_ ≤ 1000000) (hb : ∀ x ∈ code, 0 ≤ x ∧ x ≤ 255) : ∃ r a s, spec_l1Cur_among.f code at_ seed l = some (r, a, s) ∧ at_ ≤ a ∧ a ≤ at_ + 2 := by
  obtain ⟨x, a, s, e, a0, a1, x0, x1⟩ := pick_v code at_ seed (l.length : Int) h0 h1 hb
  unfold spec_l1Cur_among.f
  rw [e, Option.bind_some]
  dsimp only
  rw [if_pos x0, if_pos (x1 (by omega))]
  exact ⟨_, _, _, rfl, a0, a1⟩
theorem one_v (code : List Int) (at_ seed n : Int) (h0 : 0 ≤ at_) (h1 : at_ ≤ 1000000) (hb : ∀ x ∈ code, 0 ≤ x ∧ x ≤ 255) : ∃ r a s, spec_l1Cur_one.f code at_ seed n = some (r, a, s) ∧ at_ ≤ a ∧ a ≤ at_ + 2 := by
  obtain ⟨x, a, s, e, a0, a1, x0, x1⟩ := pick_v code at_ seed n h0 h1 hb
  unfold spec_l1Cur_one.f
  rw [e, Option.bind_some]
  exact ⟨_, _, _, rfl, a0, a1⟩
theorem bytes_in {l : List Int} (h : ∀ x ∈ l, (Lit.int .u8 x).wf = true) : ∀ x ∈ l, 0 ≤ x ∧ x ≤ 255 := fun x hx => by
  have h := h x hx
  simp only [Lit.wf, IntKind.min, IntKind.max, IntKind.bits, IntKind.signed, Bool.and_eq_true, decide_eq_true_eq] at h
  exact ⟨by have := h.1; simpa using this, by have := h.2; simpa using this⟩

theorem start_v (code : List Int) (at_ seed : Int) (h0 : 0 ≤ at_) (h1 : at_ ≤ 1000000) (hb : ∀ x ∈ code, 0 ≤ x ∧ x ≤ 255) : ∃ r a s, spec_l1Cur_start.f code at_ seed = some (r, a, s) ∧ at_ ≤ a ∧ a ≤ at_ + 2 := by
  obtain ⟨x, a, s, e, a0, a1⟩ := among_v code at_ seed [(-1), 0, 10, 20, 20, 30, 200, 201] (by decide) h0 h1 hb
  unfold spec_l1Cur_start.f
  rw [e, Option.bind_some]
  exact ⟨_, _, _, rfl, a0, a1⟩
theorem asks_l (code : List Int) (hb : ∀ x ∈ code, 0 ≤ x ∧ x ≤ 255) : ∀ (d : Nat) (q : List Int) (at_ seed : Int), q.length + d ≤ 10 → 0 ≤ at_ → at_ + 2 * d ≤ 900 → ∃ q' a s, Tot (fun k => spec_l1Cur_asks.l0 k q d code at_ seed) (q', a, s) ∧ q'.length ≤ 10 ∧ 0 ≤ a ∧ a ≤ 1000
  | 0, q, at_, seed, hq, h0, h1 => by
    by_cases c : (q.length : Int) > 0
    · obtain ⟨t, a, s, e, a0, a1⟩ := one_v code at_ seed 30 h0 (by omega) hb
      cases t with
      | true =>
        obtain ⟨y, a2, s2, e2, b0, b1⟩ := among_v code a s [(-1), 200, 201] (by decide) (by omega) (by omega) hb
        refine ⟨q.set (0 : Int).toNat y, a2, s2, Tot.step (fun k => spec_l1Cur_asks.l0.eq_2 ..) (Tot.no (by omega) (Tot.yes c ?_)), by simp; omega, by omega, by omega⟩
        simp only [e, Option.bind_some]
        refine Tot.yes trivial ?_
        simp only [e2, Option.bind_some]
        exact Tot.yes (by omega) (Tot.pure _)
      | false =>
        refine ⟨q, a, s, Tot.step (fun k => spec_l1Cur_asks.l0.eq_2 ..) (Tot.no (by omega) (Tot.yes c ?_)), by omega, by omega, by omega⟩
        simp only [e, Option.bind_some]
        exact Tot.no (by decide) (Tot.pure _)
    · exact ⟨q, at_, seed, Tot.step (fun k => spec_l1Cur_asks.l0.eq_2 ..) (Tot.no (by omega) (Tot.no c (Tot.pure _))), by omega, by omega, by omega⟩
  | d + 1, q, at_, seed, hq, h0, h1 => by
    obtain ⟨y, a, s, e, a0, a1, _, _⟩ := pick_v code at_ seed 40 h0 (by omega) hb
    obtain ⟨q', a', s', ih, r1, r2, r3⟩ := asks_l code hb d (q ++ [y]) a s (by simp; omega) (by omega) (by omega)
    refine ⟨q', a', s', Tot.step (fun k => spec_l1Cur_asks.l0.eq_2 ..) (Tot.yes (by omega) ?_), r1, r2, r3⟩
    simp only [e, Option.bind_some]
    refine Tot.yes (by omega) ?_
    rw [wrap_in (by omega) (by omega), show ((d + 1 : Nat) : Int) - 1 = (d : Int) by omega]
    exact ih
theorem asks_v (code : List Int) (hb : ∀ x ∈ code, 0 ≤ x ∧ x ≤ 255) (at_ seed : Int) (h0 : 0 ≤ at_) (h1 : at_ ≤ 100) : ∃ q a s, Tot (fun k => spec_l1Cur_asks.f k code at_ seed) (q, a, s) ∧ q.length ≤ 10 ∧ 0 ≤ a ∧ a ≤ 1000 := by
  obtain ⟨x, a1, s1, e1, a10, a11, x0, x1⟩ := pick_v code at_ seed 6 h0 (by omega) hb
  obtain ⟨t, a2, s2, e2, a20, a21⟩ := one_v code a1 s1 20 (by omega) (by omega) hb
  have x2 := x1 (by omega)
  unfold spec_l1Cur_asks.f
  simp only [e1, e2, Option.bind_some]
  cases t with
  | true =>
    obtain ⟨y, a3, s3, e3, a30, a31, y0, y1⟩ := pick_v code a2 s2 2 (by omega) (by omega) hb
    have y2 := y1 (by omega)
    obtain ⟨q, a, s, h, r1, r2, r3⟩ := asks_l code hb (8 + y).toNat [] a3 s3 (by simp; omega) (by omega) (by omega)
    refine ⟨q, a, s, Tot.yes rfl ?_, r1, r2, r3⟩
    simp only [e3, Option.bind_some]
    refine Tot.step (fun k => spec_l1Cur_asks.j0.eq_2 ..) ?_
    rw [wrap_in (by omega) (by omega), show (8 + y : Int) = (((8 + y).toNat : Nat) : Int) by omega]
    exact h
  | false =>
    obtain ⟨q, a, s, h, r1, r2, r3⟩ := asks_l code hb x.toNat [] a2 s2 (by simp; omega) (by omega) (by omega)
    refine ⟨q, a, s, Tot.no (by decide) (Tot.step (fun k => spec_l1Cur_asks.j0.eq_2 ..) ?_), r1, r2, r3⟩
    rw [show (x : Int) = ((x.toNat : Nat) : Int) by omega]
    exact h
theorem drawTravel_v (code : List Int) (hb : ∀ x ∈ code, 0 ≤ x ∧ x ≤ 255) : ∃ s q, Tot (fun k => spec_DrawTravelOf.f k code) (s, q) ∧ q.length ≤ 10 := by
  obtain ⟨x, a, s, e, a0, a1⟩ := start_v code 0 0 (by omega) (by omega) hb
  obtain ⟨q, a2, s2, h, r1, _, _⟩ := asks_v code hb a s (by omega) (by omega)
  unfold spec_DrawTravelOf.f
  simp only [e, Option.bind_some]
  exact ⟨_, _, Tot.bind h (Tot.pure _), r1⟩
theorem same_l (a : List Int) (ha : (a.length : Int) ≤ 9223372036854775806) : ∀ (d : Nat) (i : Int), 0 ≤ i → i + d = a.length → Tot (fun k => laws_sameInts.l0 k a a (a.length : Int) i) true
  | 0, i, h0, h => by
    refine Tot.step (fun k => laws_sameInts.l0.eq_2 ..) ?_
    exact Tot.no (by omega) (Tot.pure _)
  | d + 1, i, h0, h => by
    refine Tot.step (fun k => laws_sameInts.l0.eq_2 ..) ?_
    refine Tot.yes (by omega) (Tot.yes h0 (Tot.yes (by omega) (Tot.yes (by omega) (Tot.yes rfl ?_))))
    rw [wrap_in (by omega) (by omega)]
    exact same_l a ha d (i + 1) (by omega) (by omega)
theorem same_v (a : List Int) (ha : (a.length : Int) ≤ 9223372036854775806) : Tot (fun k => laws_sameInts.f k a a) true := by
  unfold laws_sameInts.f
  exact Tot.yes rfl (same_l a ha a.length 0 (by omega) (by omega))


theorem tr_up (hi : Int) : ∀ (A B : List Int) (a : Int), A.Pairwise (· ≤ ·) → (∀ x ∈ A, a ≤ x ∧ x ≤ hi) → a ≤ hi → ∃ a', a ≤ a' ∧ a' ≤ hi ∧ travelL a (A ++ B) = (a' - a) + travelL a' B
  | [], B, a, _, _, h => ⟨a, Int.le_refl _, h, by simp⟩
  | x :: A, B, a, hp, ha, h => by
    obtain ⟨h1, h2⟩ := List.pairwise_cons.1 hp
    have hx := ha x (by simp)
    obtain ⟨a', i1, i2, i3⟩ := tr_up hi A B x h2 (fun y hy => ⟨h1 y hy, (ha y (by simp [hy])).2⟩) hx.2
    refine ⟨a', by omega, i2, ?_⟩
    show way a x + travelL x (A ++ B) = _
    rw [i3]
    unfold way
    split <;> omega
theorem tr_down (lo : Int) : ∀ (A B : List Int) (a : Int), A.Pairwise (· ≥ ·) → (∀ x ∈ A, x ≤ a ∧ lo ≤ x) → lo ≤ a → ∃ a', a' ≤ a ∧ lo ≤ a' ∧ travelL a (A ++ B) = (a - a') + travelL a' B
  | [], B, a, _, _, h => ⟨a, Int.le_refl _, h, by simp⟩
  | x :: A, B, a, hp, ha, h => by
    obtain ⟨h1, h2⟩ := List.pairwise_cons.1 hp
    have hx := ha x (by simp)
    obtain ⟨a', i1, i2, i3⟩ := tr_down lo A B x h2 (fun y hy => ⟨h1 y hy, (ha y (by simp [hy])).2⟩) hx.2
    refine ⟨a', by omega, i2, ?_⟩
    show way a x + travelL x (A ++ B) = _
    rw [i3]
    unfold way
    split <;> omega
theorem sweep_cost (s : Int) (l : List Int) : travelL s (sweepL s l true) ≤ (hiL s l - s) + (hiL s l - loL s l) ∧ travelL s (sweepL s l false) ≤ (s - loL s l) + (hiL s l - loL s l) := by
  have hs := sortL_sorted l
  have g1 := loL_le s l
  have g2 := hiL_ge s l
  have inl : ∀ (up : Bool) x, x ∈ highS s up (sortL l) → (s ≤ x ∧ x ≤ hiL s l) := fun up x hx => by
    have h2 := List.mem_filter.1 hx
    have h3 := h2.2
    simp at h3
    exact ⟨by omega, g2.2 x ((mem_sortL l x).1 h2.1)⟩
  have inh : ∀ (up : Bool) x, x ∈ (lowS s up (sortL l)).reverse → (x ≤ s ∧ loL s l ≤ x) := fun up x hx => by
    have h2 := List.mem_filter.1 (List.mem_reverse.1 hx)
    have h3 := h2.2
    simp at h3
    exact ⟨by omega, g1.2 x ((mem_sortL l x).1 h2.1)⟩
  have pH : ∀ up, (highS s up (sortL l)).Pairwise (· ≤ ·) := fun up => hs.filter _
  have pL : ∀ up, (lowS s up (sortL l)).reverse.Pairwise (· ≥ ·) := fun up => List.pairwise_reverse.2 (hs.filter _)
  constructor
  · unfold sweepL
    rw [if_pos rfl]
    obtain ⟨a', i1, i2, i3⟩ := tr_up (hiL s l) _ (lowS s true (sortL l)).reverse s (pH true) (inl true) g2.1
    obtain ⟨b', k1, k2, k3⟩ := tr_down (loL s l) (lowS s true (sortL l)).reverse [] a' (pL true) (fun x hx => ⟨by have := inh true x hx; omega, (inh true x hx).2⟩) (by omega)
    rw [List.append_nil] at k3
    rw [i3, k3]
    show (a' - s) + ((a' - b') + 0) ≤ _
    omega
  · unfold sweepL
    rw [if_neg (by decide)]
    obtain ⟨a', i1, i2, i3⟩ := tr_down (loL s l) _ (highS s false (sortL l)) s (pL false) (inh false) g1.1
    obtain ⟨b', k1, k2, k3⟩ := tr_up (hiL s l) (highS s false (sortL l)) [] a' (pH false) (fun x hx => ⟨by have := inl false x hx; omega, (inl false x hx).2⟩) (by omega)
    rw [List.append_nil] at k3
    rw [i3, k3]
    show (s - a') + ((b' - a') + 0) ≤ _
    omega
/-- The better sweep travels no more than the least. -/
theorem best_least (s : Int) (l : List Int) (hg : areAsksB s l = true) : ∃ o, bestR s l = (o, opt s l, true) ∧ o.Perm l ∧ travelL s o = opt s l := by
  have hc := sweep_cost s l
  have h1 := travel_ge (sweepL s l true) s
  have h2 := travel_ge (sweepL s l false) s
  have m1 := opt_mono s l (sweepL s l true) (fun x hx => (sweepL_perm s l true).mem_iff.2 hx)
  have m2 := opt_mono s l (sweepL s l false) (fun x hx => (sweepL_perm s l false).mem_iff.2 hx)
  have ho : opt s l = (hiL s l - loL s l) + min (hiL s l - s) (s - loL s l) := rfl
  unfold bestR
  rw [if_pos hg]
  by_cases c : travelL s (sweepL s l false) < travelL s (sweepL s l true)
  · rw [if_pos c]
    have e : travelL s (sweepL s l false) = opt s l := by omega
    exact ⟨_, by rw [e], sweepL_perm s l false, e⟩
  · rw [if_neg c]
    have e : travelL s (sweepL s l true) = opt s l := by omega
    exact ⟨_, by rw [e], sweepL_perm s l true, e⟩
theorem greedyS_perm : ∀ (n : Nat) (s : Int) (L : List Int), L.length = n → (greedyS n s L).Perm L
  | 0, s, L, h => by
    obtain rfl := List.eq_nil_of_length_eq_zero h
    exact List.Perm.refl _
  | n + 1, s, L, h => by
    have hb := (bestS_ok s L (by omega) L.length (Nat.le_refl _)).1
    have ih := greedyS_perm n (L.getD (bestS s L L.length) 0) (L.eraseIdx (bestS s L L.length)) (by rw [List.length_eraseIdx, if_pos hb]; omega)
    exact (ih.cons _).trans (erase_perm hb).symm
theorem j1_v (code : List Int) (hb : ∀ x ∈ code, 0 ≤ x ∧ x ≤ 255) : Tot (fun k => laws_FnSweeps.j1 k code) true := by
  obtain ⟨s, q, hd, hq⟩ := drawTravel_v code hb
  have hr : Tot (fun k => spec_DrawNearestOrder.f k code) (s, q) := by
    unfold spec_DrawNearestOrder.f
    exact Tot.bind hd (Tot.pure _)
  have h1 := nearR_short s q
  refine Tot.step (fun k => laws_FnSweeps.j1.eq_2 ..) (Tot.bind hr ?_)
  simp only [implNear_v, Option.bind_some]
  exact Tot.bind (specNear_v s q (by omega)) (Tot.yes (by simp) (Tot.bind (same_v _ (by omega)) (Tot.pure _)))
theorem FnSweeps : laws_FnSweeps.Pure := by
  intro c0 c1 hm0 hl0 hw0 hm1 hl1 hw1
  have hb0 := bytes_in hw0
  have hb1 := bytes_in hw1
  refine Tot.at_ ?_
  unfold laws_FnSweeps.f
  by_cases hz : wrap64 ((c0.length : Int) + (c1.length : Int)) > 1048576
  · exact Tot.yes hz (Tot.pure _)
  · refine Tot.no hz ?_
    obtain ⟨s, l, hd, hq⟩ := drawTravel_v c0 hb0
    have hr : Tot (fun k => spec_DrawBestSweep.f k c0) (s, l) := by
      unfold spec_DrawBestSweep.f
      exact Tot.bind hd (Tot.pure _)
    have hsh := bestR_short s l
    refine Tot.bind hr (Tot.bind (implBest_v s l) (Tot.bind (specBest_v s l (by omega)) ?_))
    simp only [implLeastR_v, Option.bind_some]
    refine Tot.bind (specLeastR_v s l (by omega)) (Tot.bind (implTravelOf_v s l) (Tot.bind (specTravelOf_v s l (by omega)) ?_))
    refine Tot.no (by simp) (Tot.yes (by trivial) (Tot.bind (same_v _ (by omega)) (Tot.yes (by trivial) (Tot.no (by simp) (Tot.yes (by trivial) (Tot.no (by simp) (Tot.yes (by trivial) ?_)))))))
    simp only [implAsks_v, Option.bind_some]
    refine Tot.bind (specAsks_v l (by omega)) (Tot.step (fun k => laws_FnSweeps.j0.eq_2 ..) (Tot.no (by simp) ?_))
    by_cases hg : areAsksB s l = true
    · obtain ⟨g1, g2, g3⟩ := (areAsksB_iff s l).1 hg
      obtain ⟨o, e1, p1, t1⟩ := best_least s l hg
      have hgo : areAsksB s o = true := (areAsksB_iff s o).2 ⟨g1, by rw [p1.length_eq]; exact g2, fun x hx => g3 x (p1.mem_iff.1 hx)⟩
      have p2 := greedyS_perm l.length s l rfl
      have hgn : areAsksB s (greedyS l.length s l) = true := (areAsksB_iff s _).2 ⟨g1, by rw [p2.length_eq]; exact g2, fun x hx => g3 x (p2.mem_iff.1 hx)⟩
      have eT := implTravelOf_v s o
      have eN := implTravelOf_v s (greedyS l.length s l)
      rw [show travelR s o = (opt s l, true) by unfold travelR; rw [if_pos hgo, t1]] at eT
      rw [show travelR s (greedyS l.length s l) = (travelL s (greedyS l.length s l), true) from if_pos hgn] at eN
      have eNear : nearR s l = (greedyS l.length s l, true) := if_pos hg
      have eL : leastR s l = (opt s l, true) := if_pos hg
      have eTl : travelR s l = (travelL s l, true) := if_pos hg
      have q1 := travel_ge l s
      have q2 := travel_ge (greedyS l.length s l) s
      have q3 := opt_mono s l (greedyS l.length s l) (fun x hx => p2.mem_iff.2 hx)
      rw [e1, eL, eTl]
      simp only [implNear_v, Option.bind_some, eNear]
      refine Tot.yes (by trivial) (Tot.bind eT (Tot.bind eN (Tot.yes (by trivial) (Tot.yes (by trivial) (Tot.yes (by trivial) (Tot.no (by first | omega | (dsimp only; omega)) (Tot.yes (by trivial) (Tot.yes (by trivial) (Tot.yes (by first | rw [p1.length_eq] | (dsimp only; rw [p1.length_eq])) (Tot.yes (by trivial) (Tot.yes (by trivial) (Tot.no (by first | omega | (dsimp only; omega)) (Tot.yes (by first | rw [p2.length_eq] | (dsimp only; rw [p2.length_eq])) (j1_v c1 hb1))))))))))))))
    · rw [show bestR s l = ([], 0, false) from if_neg hg]
      exact Tot.no (by decide) (j1_v c1 hb1)

end Go.Proofs.Ytdjekgeoaekplaa.Pure

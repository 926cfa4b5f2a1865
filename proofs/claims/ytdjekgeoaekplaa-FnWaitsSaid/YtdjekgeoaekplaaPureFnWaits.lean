/- The plain law behind FnWaits: what the two sides compute is the same, for every input. No condition. -/
import Derived.Test.YtdjekgeoaekplaaPFnWaitsx5
import Derived.Laws.Bits64b
set_option linter.unusedVariables false
set_option linter.unusedSimpArgs false
namespace Go.Proofs.Ytdjekgeoaekplaa.Pure
open Go.RowKit Go.Proofs.Ytdjekgeoaekplaa.PFnWaits Go.Proofs.YtdjekgeoaekplaaW.PrintWords Go.Proofs.YtdjekgeoaekplaaW.PrintLast Go.Proofs.YtdjekgeoaekplaaW.PrintMore

theorem wrap_in {x : Int} (h0 : -9223372036854775808 ≤ x) (h1 : x ≤ 9223372036854775807) : wrap64 x = x := by unfold wrap64; omega
theorem wf_in {x : Int} (h : (Lit.int .i64 x).wf = true) : -9223372036854775808 ≤ x ∧ x ≤ 9223372036854775807 := by
  simp only [Lit.wf, IntKind.min, IntKind.max, IntKind.bits, IntKind.signed, Bool.and_eq_true, decide_eq_true_eq] at h
  exact ⟨by have := h.1; simpa using this, by have := h.2; simpa using this⟩
theorem toList_nil (s : ByteArray) : (s.toList == ([] : List UInt8)) = decide (s.size = 0) := by
  rw [Bool.eq_iff_iff]
  simp only [beq_iff_eq, decide_eq_true_eq, ByteArray.toList_eq]
  constructor
  · intro h
    have h2 : s.data.toList.length = 0 := by rw [h]; rfl
    rw [Array.length_toList] at h2
    exact h2
  · intro h
    have h2 : s.data.toList.length = 0 := by rw [Array.length_toList]; exact h
    exact List.eq_nil_of_length_eq_zero h2

theorem in_v (a b c : Int) : spec_l1In.f a b c = some (decide (b ≤ a ∧ a ≤ c)) := by
  unfold spec_l1In.f
  by_cases h : a ≥ b
  · rw [if_pos h]; congr 1; rw [decide_eq_decide]; omega
  · rw [if_neg h]; congr 1; symm; rw [decide_eq_false_iff_not]; omega

theorem within_v (a b c : Int) : impl_within.f a b c = some (decide (b ≤ a ∧ a ≤ c)) := by
  unfold impl_within.f
  by_cases h : b ≤ a
  · rw [if_pos h]; congr 1; rw [decide_eq_decide]; omega
  · rw [if_neg h]; congr 1; symm; rw [decide_eq_false_iff_not]; omega


/-- From some number of rounds on the answer is r. -/
def Tot {α : Type} (g : Nat → Option α) (r : α) : Prop := ∃ K, ∀ k, K ≤ k → g k = some r
theorem Tot.at_ {α : Type} {g : Nat → Option α} {r : α} (h : Tot g r) : ∃ k, g k = some r := by
  obtain ⟨K, hK⟩ := h
  exact ⟨K, hK K (Nat.le_refl _)⟩
theorem Tot.pure {α : Type} (r : α) : Tot (fun _ => some r) r := ⟨0, fun _ _ => rfl⟩
theorem Tot.of_eq {α : Type} {g : Nat → Option α} {r : α} (h : ∀ k, g k = some r) : Tot g r := ⟨0, fun k _ => h k⟩
theorem Tot.congr {α : Type} {g g' : Nat → Option α} {r : α} (he : ∀ k, g k = g' k) (h : Tot g' r) : Tot g r := by
  obtain ⟨K, hK⟩ := h
  exact ⟨K, fun k hk => (he k).trans (hK k hk)⟩
theorem Tot.bind {α β : Type} {g : Nat → Option α} {h : Nat → α → Option β} {a : α} {r : β} (hg : Tot g a) (hh : Tot (fun k => h k a) r) : Tot (fun k => (g k).bind (h k)) r := by
  obtain ⟨K, hK⟩ := hg
  obtain ⟨L, hL⟩ := hh
  refine ⟨max K L, fun k hk => ?_⟩
  show (g k).bind (h k) = some r
  rw [hK k (by omega)]
  exact hL k (by omega)
theorem Tot.step {α : Type} {F G : Nat → Option α} {r : α} (hF : ∀ k, F (k + 1) = G k) (h : Tot G r) : Tot F r := by
  obtain ⟨K, hK⟩ := h
  refine ⟨K + 1, fun k hk => ?_⟩
  obtain ⟨m, rfl⟩ : ∃ m, k = m + 1 := ⟨k - 1, by omega⟩
  rw [hF]
  exact hK m (by omega)
theorem Tot.yes {α : Type} {p : Prop} [Decidable p] {g h : Nat → Option α} {r : α} (hp : p) (hg : Tot g r) : Tot (fun k => if p then g k else h k) r := by
  simpa only [if_pos hp] using hg
theorem Tot.no {α : Type} {p : Prop} [Decidable p] {g h : Nat → Option α} {r : α} (hp : ¬ p) (hg : Tot h r) : Tot (fun k => if p then g k else h k) r := by
  simpa only [if_neg hp] using hg
theorem Tot.some_bind {α β : Type} {h : Nat → α → Option β} {a : α} {r : β} (hh : Tot (fun k => h k a) r) : Tot (fun k => (some a).bind (h k)) r := hh

theorem all_l (lo hi : Int) : ∀ (b a : List Int), ((a ++ b).length : Int) ≤ 9223372036850000000 → Tot (fun k => spec_l1All.l0 k lo hi (a ++ b) ((a ++ b).length : Int) a.length) (b.all fun x => decide (lo ≤ x ∧ x ≤ hi))
  | [], a, h => by
    refine Tot.step (fun k => spec_l1All.l0.eq_2 ..) ?_
    exact Tot.no (by simp) (Tot.pure _)
  | x :: b, a, h => by
    have hl : ((a ++ x :: b).length : Int) = a.length + b.length + 1 := by simp; omega
    have hr : rd (a ++ x :: b) (a.length : Int) = x := by simp [rd, List.getD]
    refine Tot.step (fun k => spec_l1All.l0.eq_2 ..) (Tot.yes (by omega) (Tot.yes (by omega) (Tot.yes (by omega) ?_)))
    rw [hr, wrap_in (x := (a.length : Int) + 1) (by omega) (by omega)]
    simp only [in_v, Option.bind_some, List.all_cons]
    by_cases hx : lo ≤ x ∧ x ≤ hi
    · rw [decide_eq_true hx, Bool.true_and]
      refine Tot.yes rfl ?_
      have := all_l lo hi b (a ++ [x]) (by simp at hl h ⊢; omega)
      simpa using this
    · rw [decide_eq_false hx, Bool.false_and]
      exact Tot.no (by decide) (Tot.pure _)
theorem all_v (l : List Int) (lo hi : Int) (h : (l.length : Int) ≤ 9223372036850000000) : Tot (fun k => spec_l1All.f k l lo hi) (l.all fun x => decide (lo ≤ x ∧ x ≤ hi)) := by
  have := all_l lo hi l [] (by simpa using h)
  unfold spec_l1All.f
  simpa using this

def asksB (l : List Int) : Bool := decide ((l.length : Int) ≤ 8) && l.all isTrackB
theorem specAsks_v (l : List Int) (h : (l.length : Int) ≤ 9223372036850000000) : Tot (fun k => spec_GoodAsks.f k l) (asksB l) := by
  unfold spec_GoodAsks.f asksB
  by_cases hl : (l.length : Int) ≤ 8
  · rw [decide_eq_true hl, Bool.true_and]
    exact Tot.yes hl (Tot.bind (all_v l 0 200 h) (Tot.pure _))
  · rw [decide_eq_false hl, Bool.false_and]
    exact Tot.no hl (Tot.pure _)
theorem implAsks_v (l : List Int) : impl_GoodAsks.f l = some (asksB l) := rfl
theorem asksB_iff (l : List Int) : asksB l = true ↔ ((l.length : Int) ≤ 8 ∧ ∀ x ∈ l, 0 ≤ x ∧ x ≤ 200) := by
  simp [asksB, isTrackB]

def areAsksB (s : Int) (l : List Int) : Bool := isTrackB s && asksB l
theorem specGood_v (s : Int) (l : List Int) (h : (l.length : Int) ≤ 9223372036850000000) : Tot (fun k => spec_l8Good.f k s l) (areAsksB s l) := by
  unfold spec_l8Good.f spec_l8Track.f areAsksB
  simp only [in_v, Option.bind_some]
  by_cases hs : 0 ≤ s ∧ s ≤ 200
  · have e : isTrackB s = true := decide_eq_true hs
    rw [e, Bool.true_and]
    exact Tot.yes (decide_eq_true hs) (Tot.bind (specAsks_v l h) (Tot.pure _))
  · have e : isTrackB s = false := decide_eq_false hs
    rw [e, Bool.false_and]
    exact Tot.no (by simp [hs]) (Tot.pure _)
theorem implAre_v (s : Int) (l : List Int) : impl_areAsks.f s l = some (areAsksB s l) := by
  unfold impl_areAsks.f areAsksB
  rw [isTrackB_v, Option.bind_some]
  cases isTrackB s <;> simp [implAsks_v]
theorem areAsksB_iff (s : Int) (l : List Int) : areAsksB s l = true ↔ ((0 ≤ s ∧ s ≤ 200) ∧ (l.length : Int) ≤ 8 ∧ ∀ x ∈ l, 0 ≤ x ∧ x ≤ 200) := by
  rw [← asksB_iff]
  simp [areAsksB, isTrackB]
/-- From one track to another. -/
def way (a b : Int) : Int := if a < b then b - a else a - b
theorem way_nonneg (a b : Int) : 0 ≤ way a b := by unfold way; split <;> omega
theorem way_le (a b : Int) (ha : 0 ≤ a ∧ a ≤ 200) (hb : 0 ≤ b ∧ b ≤ 200) : way a b ≤ 200 := by unfold way; split <;> omega
def travelL : Int → List Int → Int
  | _, [] => 0
  | s, t :: l => way s t + travelL t l
def waitsL : Int → Int → List Int → List Int
  | _, _, [] => []
  | acc, s, t :: l => (acc + way s t) :: waitsL (acc + way s t) t l
theorem waitsL_length : ∀ (l : List Int) (acc s : Int), (waitsL acc s l).length = l.length
  | [], _, _ => rfl
  | t :: l, acc, s => by simp [waitsL, waitsL_length l]
theorem travelL_nonneg : ∀ (l : List Int) (s : Int), 0 ≤ travelL s l
  | [], _ => by simp [travelL]
  | t :: l, s => by have := travelL_nonneg l t; have := way_nonneg s t; simp [travelL]; omega

def insL (x : Int) : List Int → List Int
  | [] => [x]
  | y :: l => if y ≤ x then y :: insL x l else x :: y :: l
theorem insL_perm (x : Int) : ∀ l : List Int, (insL x l).Perm (x :: l)
  | [] => List.Perm.refl _
  | y :: l => by
    unfold insL
    split
    · exact ((insL_perm x l).cons y).trans (List.Perm.swap x y l)
    · exact List.Perm.refl _
theorem insL_sorted (x : Int) : ∀ l : List Int, l.Pairwise (· ≤ ·) → (insL x l).Pairwise (· ≤ ·)
  | [], _ => by simp [insL]
  | y :: l, h => by
    obtain ⟨h1, h2⟩ := List.pairwise_cons.1 h
    unfold insL
    split
    · rename_i hy
      refine List.pairwise_cons.2 ⟨fun z hz => ?_, insL_sorted x l h2⟩
      rcases List.mem_cons.1 ((insL_perm x l).mem_iff.1 hz) with rfl | hz
      · exact hy
      · exact h1 z hz
    · rename_i hy
      refine List.pairwise_cons.2 ⟨fun z hz => ?_, h⟩
      rcases List.mem_cons.1 hz with rfl | hz
      · omega
      · have := h1 z hz; omega
theorem insL_at (x : Int) : ∀ (a b : List Int), (∀ y ∈ a, y ≤ x) → (∀ y, b.head? = some y → x < y) → insL x (a ++ b) = a ++ x :: b
  | [], [], _, _ => rfl
  | [], y :: b, _, h => by
    have := h y rfl
    simp [insL, show ¬ y ≤ x by omega]
  | z :: a, b, ha, h => by
    have := ha z (by simp)
    have ih := insL_at x a b (fun y hy => ha y (by simp [hy])) h
    simp [insL, this, ih]
def sortL (l : List Int) : List Int := l.foldl (fun o x => insL x o) []
theorem foldIns_perm : ∀ (l o : List Int), (l.foldl (fun o x => insL x o) o).Perm (l ++ o)
  | [], o => List.Perm.refl _
  | x :: l, o => by
    refine (foldIns_perm l (insL x o)).trans ?_
    refine (List.Perm.append_left l (insL_perm x o)).trans ?_
    exact List.perm_middle
theorem foldIns_sorted : ∀ (l o : List Int), o.Pairwise (· ≤ ·) → (l.foldl (fun o x => insL x o) o).Pairwise (· ≤ ·)
  | [], _, h => h
  | x :: l, o, h => foldIns_sorted l (insL x o) (insL_sorted x o h)
theorem sortL_perm (l : List Int) : (sortL l).Perm l := by unfold sortL; simpa using foldIns_perm l []
theorem sortL_sorted (l : List Int) : (sortL l).Pairwise (· ≤ ·) := foldIns_sorted l [] List.Pairwise.nil
theorem sortL_length (l : List Int) : (sortL l).length = l.length := (sortL_perm l).length_eq
theorem sorted_eq {a b : List Int} (ha : a.Pairwise (· ≤ ·)) (hb : b.Pairwise (· ≤ ·)) (h : a.Perm b) : a = b :=
  List.Perm.eq_of_pairwise (le := (· ≤ ·)) (fun x y _ _ h1 h2 => by omega) ha hb h
theorem foldIns_length (l o : List Int) : (l.foldl (fun o x => insL x o) o).length = l.length + o.length := by simpa using (foldIns_perm l o).length_eq

theorem sorted_l (L : List Int) (hL : L.length ≤ 8) : ∀ (b a out : List Int), a ++ b = L → out.length = a.length → Tot (fun k => spec_l8Sorted.l0 k out L (L.length : Int) a.length) (b.foldl (fun o x => insL x o) out) := by
  intro b
  induction b with
  | nil =>
    intro a out h ho
    simp only [List.append_nil] at h
    subst h
    exact Tot.step (fun k => spec_l8Sorted.l0.eq_2 ..) (Tot.no (by omega) (Tot.pure _))
  | cons x b ihb =>
    intro a out h ho
    have hll : L.length = a.length + b.length + 1 := by rw [← h]; simp; omega
    have hr : rd L (a.length : Int) = x := by rw [← h]; simp [rd, List.getD]
    have fin : ∀ j : Nat, j ≤ out.length → (∀ y ∈ out.take j, y ≤ x) → (∀ y, (out.drop j).head? = some y → x < y) → Tot (fun k => spec_l8Sorted.l0 k ((out.take j ++ [x]) ++ out.drop j) L (L.length : Int) ((a.length : Int) + 1)) (b.foldl (fun o x => insL x o) (insL x out)) := by
      intro j hj h1 h2
      have e : insL x out = (out.take j ++ [x]) ++ out.drop j := by
        have := insL_at x (out.take j) (out.drop j) h1 h2
        rw [List.take_append_drop] at this
        simpa using this
      have := ihb (a ++ [x]) (insL x out) (by simpa using h) (by rw [(insL_perm x out).length_eq]; simp; omega)
      rw [e] at this ⊢
      simpa using this
    have inner : ∀ (d j : Nat), j + d = out.length → (∀ y ∈ out.take j, y ≤ x) → Tot (fun k => spec_l8Sorted.l1 k out x j L (L.length : Int) a.length) (b.foldl (fun o x => insL x o) (insL x out)) := by
      intro d
      induction d with
      | zero =>
        intro j hj hle
        have h1 := fin j (by omega) hle (fun y hy => by rw [List.drop_eq_nil_of_le (by omega)] at hy; cases hy)
        refine Tot.step (fun k => spec_l8Sorted.l1.eq_2 ..) (Tot.no (by omega) (Tot.some_bind (Tot.yes (by omega) (Tot.yes (by omega) (Tot.some_bind (Tot.yes (by simp; omega) (Tot.some_bind (Tot.yes (by simp; omega) (Tot.some_bind (Tot.some_bind (Tot.yes (by simp; omega) ?_)))))))))))
        rw [wrap_in (x := (a.length : Int) + 1) (by omega) (by omega)]
        simpa using h1
      | succ d ihd =>
        intro j hj hle
        have hg : out[j]? = some (out[j]'(by omega)) := List.getElem?_eq_getElem (by omega)
        have hrj : rd out (j : Int) = out[j]'(by omega) := by simp [rd, List.getD, hg]
        by_cases c : rd out (j : Int) ≤ x
        · have h1 := ihd (j + 1) (by omega) (fun y hy => by
            rw [List.take_succ_eq_append_getElem (by omega), List.mem_append, List.mem_singleton] at hy
            rcases hy with hy | rfl
            · exact hle y hy
            · rw [← hrj]; exact c)
          refine Tot.step (fun k => spec_l8Sorted.l1.eq_2 ..) (Tot.yes (by omega) (Tot.yes (by omega) (Tot.yes c ?_)))
          rw [wrap_in (x := (j : Int) + 1) (by omega) (by omega)]
          exact h1
        · have h1 := fin j (by omega) hle (fun y hy => by
            rw [List.head?_drop, hg] at hy
            have := Option.some.inj hy
            omega)
          refine Tot.step (fun k => spec_l8Sorted.l1.eq_2 ..) (Tot.yes (by omega) (Tot.yes (by omega) (Tot.no c (Tot.some_bind (Tot.yes (by omega) (Tot.some_bind (Tot.yes (by simp; omega) (Tot.some_bind (Tot.yes (by simp; omega) (Tot.some_bind (Tot.some_bind (Tot.yes (by simp; omega) ?_))))))))))))
          rw [wrap_in (x := (a.length : Int) + 1) (by omega) (by omega)]
          simpa using h1
    refine Tot.step (fun k => spec_l8Sorted.l0.eq_2 ..) (Tot.yes (by omega) (Tot.yes (by omega) (Tot.yes (by omega) ?_)))
    rw [hr]
    have := inner out.length 0 (by omega) (fun y hy => by simp at hy)
    simpa using this
theorem sorted_v (l : List Int) (hl : l.length ≤ 8) : Tot (fun k => spec_l8Sorted.f k l) (sortL l) := by
  have := sorted_l l hl l [] [] rfl rfl
  unfold spec_l8Sorted.f sortL
  simpa using this

theorem sortI_eq (l : List Int) : Go.Proofs.Ytdjekgeoaekplaa.Sort.sortI l = sortL l := by
  refine sorted_eq ?_ (sortL_sorted l) ((List.mergeSort_perm l _).trans (sortL_perm l).symm)
  refine (List.pairwise_mergeSort (fun a b c h1 h2 => ?_) (fun a b => ?_) l).imp (fun h => of_decide_eq_true h)
  · rw [decide_eq_true_eq] at *; omega
  · simp only [Bool.or_eq_true, decide_eq_true_eq]; omega
theorem mem_sortL (l : List Int) (x : Int) : x ∈ sortL l ↔ x ∈ l := (sortL_perm l).mem_iff

def lowS (s : Int) (up : Bool) (l : List Int) : List Int := l.filter fun x => decide (x < s ∨ (x = s ∧ up = false))
def highS (s : Int) (up : Bool) (l : List Int) : List Int := l.filter fun x => !decide (x < s ∨ (x = s ∧ up = false))
def sweepL (s : Int) (l : List Int) (up : Bool) : List Int := if up = true then highS s up (sortL l) ++ (lowS s up (sortL l)).reverse else (lowS s up (sortL l)).reverse ++ highS s up (sortL l)
theorem lowS_len (s : Int) (up : Bool) (l : List Int) : (lowS s up l).length ≤ l.length := List.length_filter_le _ l
theorem highS_len (s : Int) (up : Bool) (l : List Int) : (highS s up l).length ≤ l.length := List.length_filter_le _ l
theorem parts_perm (p : Int → Bool) : ∀ l : List Int, (l.filter p ++ l.filter fun x => !p x).Perm l
  | [] => List.Perm.refl _
  | x :: l => by
    have ih := parts_perm p l
    cases h : p x
    · simp only [List.filter_cons, h, Bool.not_false, Bool.false_eq_true, if_false, if_true]
      exact List.perm_middle.trans (ih.cons x)
    · simp only [List.filter_cons, h, Bool.not_true, Bool.false_eq_true, if_false, if_true]
      exact ih.cons x
theorem sweepL_perm (s : Int) (l : List Int) (up : Bool) : (sweepL s l up).Perm l := by
  unfold sweepL
  have h := parts_perm (fun x => decide (x < s ∨ (x = s ∧ up = false))) (sortL l)
  have h1 : (lowS s up (sortL l) ++ highS s up (sortL l)).Perm l := h.trans (sortL_perm l)
  split
  · exact ((List.Perm.append_left _ (List.reverse_perm _)).trans List.perm_append_comm).trans h1
  · exact (List.Perm.append_right _ (List.reverse_perm _)).trans h1
theorem sweepL_length (s : Int) (l : List Int) (up : Bool) : (sweepL s l up).length = l.length := (sweepL_perm s l up).length_eq
theorem turned_l (L : List Int) (hL : L.length ≤ 8) : ∀ (d : Nat) (i : Int) (out : List Int), i + 1 = d → d ≤ L.length → out = (L.drop d).reverse → Tot (fun k => spec_l8Turned.l0 k L out i) L.reverse
  | 0, i, out, h, _, ho => by
    refine Tot.step (fun k => spec_l8Turned.l0.eq_2 ..) (Tot.no (by omega) ?_)
    rw [ho, List.drop_zero]
    exact Tot.pure _
  | d + 1, i, out, h, hd, ho => by
    have hi : i = (d : Int) := by omega
    subst hi
    have hr : rd L (d : Int) = L[d]'(by omega) := by simp [rd, List.getD, List.getElem?_eq_getElem (show d < L.length by omega)]
    have hlen : out.length ≤ 8 := by rw [ho]; simp; omega
    refine Tot.step (fun k => spec_l8Turned.l0.eq_2 ..) (Tot.yes (by omega) (Tot.yes (by omega) (Tot.yes (by omega) (Tot.yes (by omega) ?_))))
    rw [wrap_in (x := (d : Int) - 1) (by omega) (by omega), hr]
    refine turned_l L hL d _ _ (by omega) (by omega) ?_
    rw [ho, List.drop_eq_getElem_cons (show d < L.length by omega), List.reverse_cons]
theorem turned_v (l : List Int) (hl : l.length ≤ 8) : Tot (fun k => spec_l8Turned.f k l) l.reverse := by
  unfold spec_l8Turned.f
  rw [wrap_in (x := (l.length : Int) - 1) (by omega) (by omega)]
  exact turned_l l hl l.length _ [] (by omega) (Nat.le_refl _) (by simp)
theorem specSweep_l (s : Int) (up : Bool) (L : List Int) (hL : L.length ≤ 8) : ∀ (b a : List Int), a ++ b = L → Tot (fun k => spec_l8Sweep.l0 k s up (lowS s up a) (highS s up a) L (L.length : Int) a.length) (if up = true then highS s up L ++ (lowS s up L).reverse else (lowS s up L).reverse ++ highS s up L)
  | [], a, h => by
    simp only [List.append_nil] at h
    subst h
    have h1 := lowS_len s up a
    have h2 := highS_len s up a
    refine Tot.step (fun k => spec_l8Sweep.l0.eq_2 ..) (Tot.no (by omega) ?_)
    by_cases hu : up = true
    · refine Tot.yes hu (Tot.some_bind (Tot.yes (by simp; omega) (Tot.some_bind (Tot.bind (turned_v _ (by omega)) (Tot.yes (by simp; omega) ?_)))))
      rw [if_pos hu]
      simpa using Tot.pure _
    · refine Tot.no hu (Tot.bind (turned_v _ (by omega)) (Tot.yes (by simp; omega) ?_))
      rw [if_neg hu]
      exact Tot.pure _
  | x :: b, a, h => by
    have hll : L.length = a.length + b.length + 1 := by rw [← h]; simp; omega
    have hr : rd L (a.length : Int) = x := by rw [← h]; simp [rd, List.getD]
    have ih := specSweep_l s up L hL b (a ++ [x]) (by simpa using h)
    have h1 := lowS_len s up a
    have h2 := highS_len s up a
    refine Tot.step (fun k => spec_l8Sweep.l0.eq_2 ..) (Tot.yes (by omega) (Tot.yes (by omega) (Tot.yes (by omega) ?_)))
    rw [hr, wrap_in (x := (a.length : Int) + 1) (by omega) (by omega)]
    by_cases c : x < s
    · refine Tot.yes c (Tot.yes (by omega) ?_)
      have e1 : lowS s up (a ++ [x]) = lowS s up a ++ [x] := by simp [lowS, c]
      have e2 : highS s up (a ++ [x]) = highS s up a := by simp [highS, c]
      rw [e1, e2] at ih
      simpa using ih
    · refine Tot.no c ?_
      by_cases c2 : x = s
      · refine Tot.yes c2 ?_
        by_cases hu : up = true
        · refine Tot.yes hu (Tot.yes (by omega) ?_)
          have e1 : lowS s up (a ++ [x]) = lowS s up a := by simp [lowS, c, hu]
          have e2 : highS s up (a ++ [x]) = highS s up a ++ [x] := by simp [highS, hu]; omega
          rw [e1, e2] at ih
          simpa using ih
        · refine Tot.no hu (Tot.yes (by omega) ?_)
          have hf : up = false := by simpa using hu
          have e1 : lowS s up (a ++ [x]) = lowS s up a ++ [x] := by simp [lowS, hf, c2]
          have e2 : highS s up (a ++ [x]) = highS s up a := by simp [highS, hf, c2]
          rw [e1, e2] at ih
          simpa using ih
      · refine Tot.no c2 (Tot.yes (by omega) ?_)
        have e1 : lowS s up (a ++ [x]) = lowS s up a := by simp [lowS, c, c2]
        have e2 : highS s up (a ++ [x]) = highS s up a ++ [x] := by simp [highS, c2]; omega
        rw [e1, e2] at ih
        simpa using ih
theorem specSweep_v (s : Int) (l : List Int) (up : Bool) (hl : l.length ≤ 8) : Tot (fun k => spec_l8Sweep.f k s l up) (sweepL s l up) := by
  unfold spec_l8Sweep.f sweepL
  refine Tot.bind (sorted_v l hl) ?_
  have := specSweep_l s up (sortL l) (by rw [sortL_length]; exact hl) (sortL l) [] rfl
  simpa [lowS, highS] using this
theorem implSweep_v (s : Int) (l : List Int) (up : Bool) (hl : l.length ≤ 8) : impl_sweep.f s l up = some (sweepL s l up) := by
  unfold impl_sweep.f sweepL Go.Proofs.Ytdjekgeoaekplaa.Ord.sweepI
  rw [if_pos (by omega), sortI_eq]
  cases up with
  | true =>
    rw [if_pos rfl, if_pos rfl]
    have e1 : (fun x : Int => decide (s ≤ x)) = fun x => !decide (x < s ∨ (x = s ∧ true = false)) := by
      funext x
      rw [← decide_not]
      congr 1
      simp only [Bool.true_eq_false, and_false, or_false]
      exact propext (by omega)
    have e2 : (fun x : Int => !decide (s ≤ x)) = fun x => decide (x < s ∨ (x = s ∧ true = false)) := by
      funext x
      rw [← decide_not]
      congr 1
      simp only [Bool.true_eq_false, and_false, or_false]
      exact propext (by omega)
    rw [e1, e2]
    rfl
  | false =>
    rw [if_neg (by decide), if_neg (by decide)]
    have e1 : (fun x : Int => decide (x ≤ s)) = fun x => decide (x < s ∨ (x = s ∧ false = false)) := by
      funext x
      congr 1
      simp only [and_true]
      exact propext (by omega)
    have e2 : (fun x : Int => !decide (x ≤ s)) = fun x => !decide (x < s ∨ (x = s ∧ false = false)) := by
      funext x
      rw [← decide_not, ← decide_not]
      congr 1
      simp only [and_true]
      exact propext (by omega)
    rw [e1, e2]
    rfl

def sweepR (s : Int) (l : List Int) (up : Bool) : List Int × Bool := if areAsksB s l = true then (sweepL s l up, true) else ([], false)
theorem sweepR_short (s : Int) (l : List Int) (up : Bool) : ((sweepR s l up).1.length : Int) ≤ 1000 := by
  unfold sweepR
  split
  · rename_i h
    have := (areAsksB_iff s l).1 h
    show ((sweepL s l up).length : Int) ≤ 1000
    rw [sweepL_length]
    omega
  · simp
theorem specSweepO_v (s : Int) (l : List Int) (up : Bool) (h : (l.length : Int) ≤ 1048576) : Tot (fun k => spec_SweepOrder.f k s l up) (sweepR s l up) := by
  unfold spec_SweepOrder.f sweepR
  refine Tot.bind (specGood_v s l (by omega)) ?_
  by_cases hg : areAsksB s l = true
  · obtain ⟨h1, h2, h3⟩ := (areAsksB_iff s l).1 hg
    rw [if_pos hg]
    exact Tot.yes hg (Tot.bind (specSweep_v s l up (by omega)) (Tot.pure _))
  · rw [if_neg hg]
    exact Tot.no hg (Tot.pure _)
theorem implSweepO_v (s : Int) (l : List Int) (up : Bool) : impl_SweepOrder.f s l up = some (sweepR s l up) := by
  unfold impl_SweepOrder.f sweepR
  rw [implAre_v, Option.bind_some]
  by_cases hg : areAsksB s l = true
  · obtain ⟨h1, h2, h3⟩ := (areAsksB_iff s l).1 hg
    rw [if_pos hg, if_pos hg, implSweep_v s l up (by omega), Option.bind_some]
  · rw [if_neg hg, if_neg hg]

def lowL (s : Int) (l : List Int) : List Int := l.filter fun x => decide (x < s)
def highL (s : Int) (l : List Int) : List Int := l.filter fun x => decide (s ≤ x)
def roundR (s : Int) (l : List Int) : List Int × Bool := if areAsksB s l = true then (highL s (sortL l) ++ lowL s (sortL l), true) else ([], false)
theorem filt_len (p : Int → Bool) (l : List Int) : (l.filter p).length ≤ l.length := List.length_filter_le p l
theorem roundR_short (s : Int) (l : List Int) : ((roundR s l).1.length : Int) ≤ 1000 := by
  unfold roundR
  split
  · rename_i h
    have := (areAsksB_iff s l).1 h
    have h1 := filt_len (fun x => decide (s ≤ x)) (sortL l)
    have h2 := filt_len (fun x => decide (x < s)) (sortL l)
    rw [sortL_length] at h1 h2
    simp only [highL, lowL, List.length_append]
    omega
  · simp
theorem specRound_l (s : Int) (L : List Int) (hL : L.length ≤ 8) : ∀ (b a : List Int), a ++ b = L → Tot (fun k => spec_RoundOrder.l0 k s (lowL s a) (highL s a) L (L.length : Int) a.length) (highL s L ++ lowL s L, true)
  | [], a, h => by
    simp only [List.append_nil] at h
    subst h
    have h1 := filt_len (fun x => decide (s ≤ x)) a
    have h2 := filt_len (fun x => decide (x < s)) a
    refine Tot.step (fun k => spec_RoundOrder.l0.eq_2 ..) (Tot.no (by omega) (Tot.some_bind (Tot.yes (by simp [highL]; omega) (Tot.some_bind (Tot.yes (by simp [highL, lowL]; omega) ?_)))))
    simpa using Tot.pure _
  | x :: b, a, h => by
    have hll : L.length = a.length + b.length + 1 := by rw [← h]; simp; omega
    have hr : rd L (a.length : Int) = x := by rw [← h]; simp [rd, List.getD]
    have ih := specRound_l s L hL b (a ++ [x]) (by simpa using h)
    have h1 := filt_len (fun x => decide (s ≤ x)) a
    have h2 := filt_len (fun x => decide (x < s)) a
    refine Tot.step (fun k => spec_RoundOrder.l0.eq_2 ..) (Tot.yes (by omega) (Tot.yes (by omega) (Tot.yes (by omega) ?_)))
    rw [hr, wrap_in (x := (a.length : Int) + 1) (by omega) (by omega)]
    by_cases c : x < s
    · refine Tot.yes c (Tot.yes (by simp [lowL]; omega) ?_)
      have e1 : lowL s (a ++ [x]) = lowL s a ++ [x] := by simp [lowL, c]
      have e2 : highL s (a ++ [x]) = highL s a := by simp [highL, show ¬ s ≤ x by omega]
      rw [e1, e2] at ih
      simpa using ih
    · refine Tot.no c (Tot.yes (by simp [highL]; omega) ?_)
      have e1 : lowL s (a ++ [x]) = lowL s a := by simp [lowL, c]
      have e2 : highL s (a ++ [x]) = highL s a ++ [x] := by simp [highL, show s ≤ x by omega]
      rw [e1, e2] at ih
      simpa using ih
theorem specRound_v (s : Int) (l : List Int) (h : (l.length : Int) ≤ 1048576) : Tot (fun k => spec_RoundOrder.f k s l) (roundR s l) := by
  unfold spec_RoundOrder.f roundR
  refine Tot.bind (specGood_v s l (by omega)) ?_
  by_cases hg : areAsksB s l = true
  · obtain ⟨h1, h2, h3⟩ := (areAsksB_iff s l).1 hg
    rw [if_pos hg]
    exact Tot.yes hg (Tot.bind (sorted_v l (by omega)) (by
      have := specRound_l s (sortL l) (by rw [sortL_length]; omega) (sortL l) [] rfl
      simpa [lowL, highL] using this))
  · rw [if_neg hg]
    exact Tot.no hg (Tot.pure _)
theorem implRound_v (s : Int) (l : List Int) : impl_RoundOrder.f s l = some (roundR s l) := by
  unfold impl_RoundOrder.f roundR
  rw [implAre_v, Option.bind_some]
  by_cases hg : areAsksB s l = true
  · obtain ⟨h1, h2, h3⟩ := (areAsksB_iff s l).1 hg
    rw [if_pos hg, if_pos hg, if_pos (by omega)]
    unfold Go.Proofs.Ytdjekgeoaekplaa.Ord.roundI highL lowL
    rw [sortI_eq]
    congr 3
    apply List.filter_congr
    intro x _
    rw [← decide_not]
    congr 1
    exact propext (by omega)
  · rw [if_neg hg, if_neg hg]

theorem apart_v (a b : Int) (ha : 0 ≤ a ∧ a ≤ 200) (hb : 0 ≤ b ∧ b ≤ 200) : impl_apart.f a b = some (way a b) := by
  unfold impl_apart.f way
  rw [wrap_in (x := a - b) (by omega) (by omega), wrap_in (x := b - a) (by omega) (by omega)]
  congr 1
  unfold mx
  split <;> split <;> omega
theorem waits_l : ∀ (b a out : List Int) (s acc : Int), (0 ≤ s ∧ s ≤ 200) → (∀ x ∈ b, 0 ≤ x ∧ x ≤ 200) → 0 ≤ acc → acc + 200 * b.length ≤ 1000000 → ((a ++ b).length : Int) ≤ 1000 → out.length = a.length →
    Tot (fun k => impl_waits.l0 k s out acc (a ++ b) ((a ++ b).length : Int) a.length) (out ++ waitsL acc s b)
  | [], a, out, s, acc, hs, hb, h0, h1, hl, ho => by
    refine Tot.step (fun k => impl_waits.l0.eq_2 ..) ?_
    simp only [waitsL, List.append_nil]
    exact Tot.no (by omega) (Tot.pure _)
  | x :: b, a, out, s, acc, hs, hb, h0, h1, hl, ho => by
    have hll : ((a ++ x :: b).length : Int) = a.length + b.length + 1 := by simp; omega
    have hr : rd (a ++ x :: b) (a.length : Int) = x := by simp [rd, List.getD]
    have hx := hb x (by simp)
    have hw := way_le s x hs hx
    have hw0 := way_nonneg s x
    simp only [List.length_cons] at h1
    refine Tot.step (fun k => impl_waits.l0.eq_2 ..) (Tot.yes (by omega) (Tot.yes (by omega) (Tot.yes (by omega) ?_)))
    rw [hr, wrap_in (x := (a.length : Int) + 1) (by omega) (by omega)]
    simp only [apart_v s x hs hx, Option.bind_some]
    rw [wrap_in (x := acc + way s x) (by omega) (by omega)]
    refine Tot.yes (by omega) ?_
    have := waits_l b (a ++ [x]) (out ++ [acc + way s x]) x (acc + way s x) hx (fun y hy => hb y (by simp [hy])) (by omega) (by omega) (by simp at hll hl ⊢; omega) (by simp [ho])
    have e : out ++ waitsL acc s (x :: b) = (out ++ [acc + way s x]) ++ waitsL (acc + way s x) x b := by simp [waitsL]
    rw [e]
    simpa using this
theorem waits_v (s : Int) (l : List Int) (hs : 0 ≤ s ∧ s ≤ 200) (hl : (l.length : Int) ≤ 8) (hb : ∀ x ∈ l, 0 ≤ x ∧ x ≤ 200) : Tot (fun k => impl_waits.f k s l) (waitsL 0 s l) := by
  have := waits_l l [] [] s 0 hs hb (by omega) (by omega) (by simp; omega) rfl
  unfold impl_waits.f
  simpa using this

theorem way_v (a b : Int) (ha : 0 ≤ a ∧ a ≤ 200) (hb : 0 ≤ b ∧ b ≤ 200) : spec_l8Way.f a b = some (way a b) := by
  unfold spec_l8Way.f way
  rw [wrap_in (x := a - b) (by omega) (by omega), wrap_in (x := b - a) (by omega) (by omega)]
  split <;> rfl

theorem specTravel_l : ∀ (b a : List Int) (s acc : Int), (0 ≤ s ∧ s ≤ 200) → (∀ x ∈ b, 0 ≤ x ∧ x ≤ 200) → 0 ≤ acc → acc + 200 * b.length ≤ 1000000 → ((a ++ b).length : Int) ≤ 1000 →
    Tot (fun k => spec_l8Travel.l0 k s acc (a ++ b) ((a ++ b).length : Int) a.length) (acc + travelL s b)
  | [], a, s, acc, hs, hb, h0, h1, hl => by
    refine Tot.step (fun k => spec_l8Travel.l0.eq_2 ..) ?_
    simp only [travelL, Int.add_zero]
    exact Tot.no (by simp) (Tot.pure _)
  | x :: b, a, s, acc, hs, hb, h0, h1, hl => by
    have hll : ((a ++ x :: b).length : Int) = a.length + b.length + 1 := by simp; omega
    have hr : rd (a ++ x :: b) (a.length : Int) = x := by simp [rd, List.getD]
    have hx := hb x (by simp)
    have hw := way_le s x hs hx
    have hw0 := way_nonneg s x
    simp only [List.length_cons] at h1
    refine Tot.step (fun k => spec_l8Travel.l0.eq_2 ..) (Tot.yes (by omega) (Tot.yes (by omega) (Tot.yes (by omega) ?_)))
    rw [hr, wrap_in (x := (a.length : Int) + 1) (by omega) (by omega)]
    simp only [way_v s x hs hx, Option.bind_some]
    rw [wrap_in (x := acc + way s x) (by omega) (by omega)]
    have := specTravel_l b (a ++ [x]) x (acc + way s x) hx (fun y hy => hb y (by simp [hy])) (by omega) (by omega) (by simp at hll hl ⊢; omega)
    have e : acc + travelL s (x :: b) = acc + way s x + travelL x b := by simp [travelL]; omega
    rw [e]
    simpa using this
theorem specTravel_v (s : Int) (l : List Int) (hs : 0 ≤ s ∧ s ≤ 200) (hl : (l.length : Int) ≤ 8) (hb : ∀ x ∈ l, 0 ≤ x ∧ x ≤ 200) : Tot (fun k => spec_l8Travel.f k s l) (travelL s l) := by
  have := specTravel_l l [] s 0 hs hb (by omega) (by omega) (by simp; omega)
  unfold spec_l8Travel.f
  simpa using this

theorem waitsL_snoc : ∀ (l : List Int) (acc s t : Int), waitsL acc s (l ++ [t]) = waitsL acc s l ++ [acc + travelL s (l ++ [t])]
  | [], acc, s, t => by simp [waitsL, travelL]
  | x :: l, acc, s, t => by
    simp only [List.cons_append, waitsL, travelL, waitsL_snoc l]
    simp [Int.add_assoc]

def waitsR (s : Int) (l : List Int) : List Int × Bool := if areAsksB s l = true then (waitsL 0 s l, true) else ([], false)
theorem waitsR_short (s : Int) (l : List Int) : ((waitsR s l).1.length : Int) ≤ 1000 := by
  unfold waitsR
  split
  · rename_i h
    have := (areAsksB_iff s l).1 h
    simp only [waitsL_length]
    omega
  · simp
theorem specWaits_l (s : Int) (hs : 0 ≤ s ∧ s ≤ 200) : ∀ (b a : List Int), ((a ++ b).length : Int) ≤ 8 → (∀ x ∈ a ++ b, 0 ≤ x ∧ x ≤ 200) → Tot (fun k => spec_WaitsOf.l0 k s (a ++ b) (waitsL 0 s a) ((a ++ b).length : Int) a.length) (waitsL 0 s (a ++ b), true)
  | [], a, hl, hb => by
    refine Tot.step (fun k => spec_WaitsOf.l0.eq_2 ..) ?_
    simp only [List.append_nil]
    exact Tot.no (by omega) (Tot.pure _)
  | x :: b, a, hl, hb => by
    have hll : ((a ++ x :: b).length : Int) = a.length + b.length + 1 := by simp; omega
    refine Tot.step (fun k => spec_WaitsOf.l0.eq_2 ..) (Tot.yes (by omega) ?_)
    rw [wrap_in (x := (a.length : Int) + 1) (by omega) (by omega)]
    refine Tot.yes (by omega) (Tot.yes (by omega) ?_)
    have e : (a ++ x :: b).take ((a.length : Int) + 1).toNat = a ++ [x] := by
      rw [show ((a.length : Int) + 1).toNat = (a ++ [x]).length by simp, show a ++ x :: b = (a ++ [x]) ++ b by simp, List.take_left']
      rfl
    rw [e]
    have hl1 : ((a ++ [x]).length : Int) = a.length + 1 := by simp
    refine Tot.bind (specTravel_v s (a ++ [x]) hs (by omega) (fun y hy => hb y (by rcases List.mem_append.1 hy with h | h; simp [h]; simp at h; simp [h]))) ?_
    refine Tot.yes (by rw [waitsL_length]; omega) ?_
    have := specWaits_l s hs b (a ++ [x]) (by simpa using hl) (by simpa using hb)
    rw [waitsL_snoc] at this
    simpa using this
theorem specWaitsOf_v (s : Int) (l : List Int) (h : (l.length : Int) ≤ 1048576) : Tot (fun k => spec_WaitsOf.f k s l) (waitsR s l) := by
  unfold spec_WaitsOf.f waitsR
  refine Tot.bind (specGood_v s l (by omega)) ?_
  by_cases hg : areAsksB s l = true
  · obtain ⟨h1, h2, h3⟩ := (areAsksB_iff s l).1 hg
    rw [if_pos hg]
    exact Tot.yes hg (specWaits_l s h1 l [] (by simpa using h2) (by simpa using h3))
  · rw [if_neg hg]
    exact Tot.no hg (Tot.pure _)
theorem implWaitsOf_v (s : Int) (l : List Int) : Tot (fun k => impl_WaitsOf.f k s l) (waitsR s l) := by
  unfold impl_WaitsOf.f waitsR
  simp only [implAre_v, Option.bind_some]
  by_cases hg : areAsksB s l = true
  · obtain ⟨h1, h2, h3⟩ := (areAsksB_iff s l).1 hg
    rw [if_pos hg]
    exact Tot.yes hg (Tot.bind (waits_v s l h1 h2 h3) (Tot.pure _))
  · rw [if_neg hg]
    exact Tot.no hg (Tot.pure _)

theorem implTravel_v (s : Int) (l : List Int) (hs : 0 ≤ s ∧ s ≤ 200) (hl : (l.length : Int) ≤ 8) (hb : ∀ x ∈ l, 0 ≤ x ∧ x ≤ 200) : Tot (fun k => impl_travel.f k s l) (travelL s l) := by
  unfold impl_travel.f
  refine Tot.bind (waits_v s l hs hl hb) ?_
  rcases List.eq_nil_or_concat l with rfl | ⟨a, t, rfl⟩
  · exact Tot.yes rfl (Tot.pure _)
  · rw [List.concat_eq_append] at *
    have hw : ((waitsL 0 s (a ++ [t])).length : Int) = a.length + 1 := by rw [waitsL_length]; simp
    have hl2 : ((a ++ [t]).length : Int) = a.length + 1 := by simp
    rw [hw, wrap_in (by omega) (by omega)]
    refine Tot.no (by omega) (Tot.yes (by omega) (Tot.yes (by omega) ?_))
    have e : rd (waitsL 0 s (a ++ [t])) ((a.length : Int) + 1 - 1) = travelL s (a ++ [t]) := by
      rw [waitsL_snoc, show (a.length : Int) + 1 - 1 = ((waitsL 0 s a).length : Int) by rw [waitsL_length]; omega]
      simp [rd, List.getD]
    rw [e]
    exact Tot.pure _

def travelR (s : Int) (l : List Int) : Int × Bool := if areAsksB s l = true then (travelL s l, true) else (0, false)
theorem implTravelOf_v (s : Int) (l : List Int) : Tot (fun k => impl_TravelOf.f k s l) (travelR s l) := by
  unfold impl_TravelOf.f travelR
  simp only [implAre_v, Option.bind_some]
  by_cases hg : areAsksB s l = true
  · obtain ⟨h1, h2, h3⟩ := (areAsksB_iff s l).1 hg
    rw [if_pos hg]
    exact Tot.yes hg (Tot.bind (implTravel_v s l h1 h2 h3) (Tot.pure _))
  · rw [if_neg hg]
    exact Tot.no hg (Tot.pure _)

theorem u64_in (x : Int) : 0 ≤ IntKind.u64.wrap x ∧ IntKind.u64.wrap x < 18446744073709551616 := by
  have e : IntKind.u64.wrap x = x % 18446744073709551616 := rfl
  rw [e]
  exact ⟨Int.emod_nonneg _ (by decide), Int.emod_lt_of_pos _ (by decide)⟩
theorem low8 (x : Int) : 0 ≤ Go.bits .and .u64 (IntKind.u64.wrap x / 1099511627776) 255 ∧ Go.bits .and .u64 (IntKind.u64.wrap x / 1099511627776) 255 ≤ 255 := by
  obtain ⟨h0, h1⟩ := u64_in x
  have hq : 0 ≤ IntKind.u64.wrap x / 1099511627776 := Int.ediv_nonneg h0 (by decide)
  have hq2 : IntKind.u64.wrap x / 1099511627776 ≤ IntKind.u64.wrap x := Int.ediv_le_self _ h0
  obtain ⟨n, hn⟩ := Int.eq_ofNat_of_zero_le hq
  rw [hn] at hq2 ⊢
  have e := bits_and_u64_nat n 255 (by omega) (by omega)
  have e2 : Go.bits .and .u64 (n : Int) 255 = ((n &&& 255 : Nat) : Int) := e
  rw [e2]
  have := Nat.and_le_right (n := n) (m := 255)
  omega
theorem next_v (code : List Int) (at_ seed : Int) (h0 : 0 ≤ at_) (h1 : at_ ≤ 1000000000) (hb : ∀ x ∈ code, 0 ≤ x ∧ x ≤ 255) : ∃ r s, spec_l1Cur_next.f code at_ seed = some (r, at_ + 1, s) ∧ 0 ≤ r ∧ r ≤ 255 := by
  unfold spec_l1Cur_next.f
  rw [wrap_in (x := at_ + 1) (by omega) (by omega)]
  by_cases c : at_ < (code.length : Int)
  · rw [if_pos c, if_pos h0, if_pos (by omega)]
    have hr : 0 ≤ rd code at_ ∧ rd code at_ ≤ 255 := by
      refine hb _ ?_
      unfold rd
      rw [List.getD_eq_getElem?_getD, List.getElem?_eq_getElem (by omega : at_.toNat < code.length)]
      exact List.getElem_mem _
    rw [wrap_in (x := rd code at_) (by omega) (by omega)]
    exact ⟨_, _, rfl, hr⟩
  · rw [if_neg c, if_neg (by omega)]
    have hl := low8 (IntKind.u64.wrap (IntKind.u64.wrap (seed * 6364136223846793005) + 0) + 1442695040888963407)
    rw [wrap_in (x := Go.bits .and .u64 _ 255) (by omega) (by omega)]
    exact ⟨_, _, rfl, hl⟩
theorem pick_v (code : List Int) (at_ seed n : Int) (h0 : 0 ≤ at_) (h1 : at_ ≤ 1000000) (hb : ∀ x ∈ code, 0 ≤ x ∧ x ≤ 255) : ∃ r a s, spec_l1Cur_pick.f code at_ seed n = some (r, a, s) ∧ at_ ≤ a ∧ a ≤ at_ + 2 ∧ 0 ≤ r ∧ (1 ≤ n → r < n) := by
  unfold spec_l1Cur_pick.f
  by_cases c : n ≤ 1
  · exact ⟨_, _, _, by rw [if_pos c], by omega, by omega, by omega, fun h => by omega⟩
  · obtain ⟨x, s, e, x0, x1⟩ := next_v code at_ seed h0 (by omega) hb
    rw [if_neg c, e, Option.bind_some]
    dsimp only
    by_cases c2 : n > 200
    · obtain ⟨y, s2, e2, y0, y1⟩ := next_v code (at_ + 1) s (by omega) (by omega) hb
      rw [if_pos c2, e2, Option.bind_some, if_neg (by omega)]
      dsimp only
      rw [wrap_in (x := x * 256) (by omega) (by omega), wrap_in (x := x * 256 + y) (by omega) (by omega)]
      exact ⟨_, _, _, rfl, by omega, by omega, Int.tmod_nonneg _ (by omega), fun _ => Int.tmod_lt_of_pos _ (by omega)⟩
    · rw [if_neg c2, if_neg (by omega)]
      exact ⟨_, _, _, rfl, by omega, by omega, Int.tmod_nonneg _ (by omega), fun _ => Int.tmod_lt_of_pos _ (by omega)⟩
theorem among_v (code : List Int) (at_ seed : Int) (l : List Int) (hl : 1 ≤ l.length) (h0 : 0 ≤ at_) (h1 : at_ ≤ 1000000) (hb : ∀ x ∈ code, 0 ≤ x ∧ x ≤ 255) : ∃ r a s, spec_l1Cur_among.f code at_ seed l = some (r, a, s) ∧ at_ ≤ a ∧ a ≤ at_ + 2 := by
  obtain ⟨x, a, s, e, a0, a1, x0, x1⟩ := pick_v code at_ seed (l.length : Int) h0 h1 hb
  unfold spec_l1Cur_among.f
  rw [e, Option.bind_some]
  dsimp only
  rw [if_pos x0, if_pos (x1 (by omega))]
  exact ⟨_, _, _, rfl, a0, a1⟩
theorem one_v (code : List Int) (at_ seed n : Int) (h0 : 0 ≤ at_) (h1 : at_ ≤ 1000000) (hb : ∀ x ∈ code, 0 ≤ x ∧ x ≤ 255) : ∃ r a s, spec_l1Cur_one.f code at_ seed n = some (r, a, s) ∧ at_ ≤ a ∧ a ≤ at_ + 2 := by
  obtain ⟨x, a, s, e, a0, a1, x0, x1⟩ := pick_v code at_ seed n h0 h1 hb
  unfold spec_l1Cur_one.f
  rw [e, Option.bind_some]
  exact ⟨_, _, _, rfl, a0, a1⟩
theorem bytes_in {l : List Int} (h : ∀ x ∈ l, (Lit.int .u8 x).wf = true) : ∀ x ∈ l, 0 ≤ x ∧ x ≤ 255 := fun x hx => by
  have h := h x hx
  simp only [Lit.wf, IntKind.min, IntKind.max, IntKind.bits, IntKind.signed, Bool.and_eq_true, decide_eq_true_eq] at h
  exact ⟨by have := h.1; simpa using this, by have := h.2; simpa using this⟩

theorem start_v (code : List Int) (at_ seed : Int) (h0 : 0 ≤ at_) (h1 : at_ ≤ 1000000) (hb : ∀ x ∈ code, 0 ≤ x ∧ x ≤ 255) : ∃ r a s, spec_l1Cur_start.f code at_ seed = some (r, a, s) ∧ at_ ≤ a ∧ a ≤ at_ + 2 := by
  obtain ⟨x, a, s, e, a0, a1⟩ := among_v code at_ seed [(-1), 0, 10, 20, 20, 30, 200, 201] (by decide) h0 h1 hb
  unfold spec_l1Cur_start.f
  rw [e, Option.bind_some]
  exact ⟨_, _, _, rfl, a0, a1⟩
theorem asks_l (code : List Int) (hb : ∀ x ∈ code, 0 ≤ x ∧ x ≤ 255) : ∀ (d : Nat) (q : List Int) (at_ seed : Int), q.length + d ≤ 10 → 0 ≤ at_ → at_ + 2 * d ≤ 900 → ∃ q' a s, Tot (fun k => spec_l1Cur_asks.l0 k q d code at_ seed) (q', a, s) ∧ q'.length ≤ 10 ∧ 0 ≤ a ∧ a ≤ 1000
  | 0, q, at_, seed, hq, h0, h1 => by
    by_cases c : (q.length : Int) > 0
    · obtain ⟨t, a, s, e, a0, a1⟩ := one_v code at_ seed 30 h0 (by omega) hb
      cases t with
      | true =>
        obtain ⟨y, a2, s2, e2, b0, b1⟩ := among_v code a s [(-1), 200, 201] (by decide) (by omega) (by omega) hb
        refine ⟨q.set (0 : Int).toNat y, a2, s2, Tot.step (fun k => spec_l1Cur_asks.l0.eq_2 ..) (Tot.no (by omega) (Tot.yes c ?_)), by simp; omega, by omega, by omega⟩
        simp only [e, Option.bind_some]
        refine Tot.yes trivial ?_
        simp only [e2, Option.bind_some]
        exact Tot.yes (by omega) (Tot.pure _)
      | false =>
        refine ⟨q, a, s, Tot.step (fun k => spec_l1Cur_asks.l0.eq_2 ..) (Tot.no (by omega) (Tot.yes c ?_)), by omega, by omega, by omega⟩
        simp only [e, Option.bind_some]
        exact Tot.no (by decide) (Tot.pure _)
    · exact ⟨q, at_, seed, Tot.step (fun k => spec_l1Cur_asks.l0.eq_2 ..) (Tot.no (by omega) (Tot.no c (Tot.pure _))), by omega, by omega, by omega⟩
  | d + 1, q, at_, seed, hq, h0, h1 => by
    obtain ⟨y, a, s, e, a0, a1, _, _⟩ := pick_v code at_ seed 40 h0 (by omega) hb
    obtain ⟨q', a', s', ih, r1, r2, r3⟩ := asks_l code hb d (q ++ [y]) a s (by simp; omega) (by omega) (by omega)
    refine ⟨q', a', s', Tot.step (fun k => spec_l1Cur_asks.l0.eq_2 ..) (Tot.yes (by omega) ?_), r1, r2, r3⟩
    simp only [e, Option.bind_some]
    refine Tot.yes (by omega) ?_
    rw [wrap_in (by omega) (by omega), show ((d + 1 : Nat) : Int) - 1 = (d : Int) by omega]
    exact ih
theorem asks_v (code : List Int) (hb : ∀ x ∈ code, 0 ≤ x ∧ x ≤ 255) (at_ seed : Int) (h0 : 0 ≤ at_) (h1 : at_ ≤ 100) : ∃ q a s, Tot (fun k => spec_l1Cur_asks.f k code at_ seed) (q, a, s) ∧ q.length ≤ 10 ∧ 0 ≤ a ∧ a ≤ 1000 := by
  obtain ⟨x, a1, s1, e1, a10, a11, x0, x1⟩ := pick_v code at_ seed 6 h0 (by omega) hb
  obtain ⟨t, a2, s2, e2, a20, a21⟩ := one_v code a1 s1 20 (by omega) (by omega) hb
  have x2 := x1 (by omega)
  unfold spec_l1Cur_asks.f
  simp only [e1, e2, Option.bind_some]
  cases t with
  | true =>
    obtain ⟨y, a3, s3, e3, a30, a31, y0, y1⟩ := pick_v code a2 s2 2 (by omega) (by omega) hb
    have y2 := y1 (by omega)
    obtain ⟨q, a, s, h, r1, r2, r3⟩ := asks_l code hb (8 + y).toNat [] a3 s3 (by simp; omega) (by omega) (by omega)
    refine ⟨q, a, s, Tot.yes rfl ?_, r1, r2, r3⟩
    simp only [e3, Option.bind_some]
    refine Tot.step (fun k => spec_l1Cur_asks.j0.eq_2 ..) ?_
    rw [wrap_in (by omega) (by omega), show (8 + y : Int) = (((8 + y).toNat : Nat) : Int) by omega]
    exact h
  | false =>
    obtain ⟨q, a, s, h, r1, r2, r3⟩ := asks_l code hb x.toNat [] a2 s2 (by simp; omega) (by omega) (by omega)
    refine ⟨q, a, s, Tot.no (by decide) (Tot.step (fun k => spec_l1Cur_asks.j0.eq_2 ..) ?_), r1, r2, r3⟩
    rw [show (x : Int) = ((x.toNat : Nat) : Int) by omega]
    exact h
theorem drawTravel_v (code : List Int) (hb : ∀ x ∈ code, 0 ≤ x ∧ x ≤ 255) : ∃ s q, Tot (fun k => spec_DrawTravelOf.f k code) (s, q) ∧ q.length ≤ 10 := by
  obtain ⟨x, a, s, e, a0, a1⟩ := start_v code 0 0 (by omega) (by omega) hb
  obtain ⟨q, a2, s2, h, r1, _, _⟩ := asks_v code hb a s (by omega) (by omega)
  unfold spec_DrawTravelOf.f
  simp only [e, Option.bind_some]
  exact ⟨_, _, Tot.bind h (Tot.pure _), r1⟩
theorem same_l (a : List Int) (ha : (a.length : Int) ≤ 9223372036854775806) : ∀ (d : Nat) (i : Int), 0 ≤ i → i + d = a.length → Tot (fun k => laws_sameInts.l0 k a a (a.length : Int) i) true
  | 0, i, h0, h => by
    refine Tot.step (fun k => laws_sameInts.l0.eq_2 ..) ?_
    exact Tot.no (by omega) (Tot.pure _)
  | d + 1, i, h0, h => by
    refine Tot.step (fun k => laws_sameInts.l0.eq_2 ..) ?_
    refine Tot.yes (by omega) (Tot.yes h0 (Tot.yes (by omega) (Tot.yes (by omega) (Tot.yes rfl ?_))))
    rw [wrap_in (by omega) (by omega)]
    exact same_l a ha d (i + 1) (by omega) (by omega)
theorem same_v (a : List Int) (ha : (a.length : Int) ≤ 9223372036854775806) : Tot (fun k => laws_sameInts.f k a a) true := by
  unfold laws_sameInts.f
  exact Tot.yes rfl (same_l a ha a.length 0 (by omega) (by omega))


/-- How often the way turns. -/
def tn : Int → Int → Bool → List Int → Int
  | t, _, _, [] => t
  | t, a, u, x :: r => if x = a then tn t x u r else if (decide (x > a) != u) = true then tn (t + 1) x (!u) r else tn t x u r
theorem tn_up : ∀ (A B : List Int) (t a : Int), A.Pairwise (· ≤ ·) → (∀ x ∈ A, a ≤ x) → ∃ a', a ≤ a' ∧ tn t a true (A ++ B) = tn t a' true B
  | [], B, t, a, _, _ => ⟨a, Int.le_refl _, rfl⟩
  | x :: A, B, t, a, hp, ha => by
    obtain ⟨h1, h2⟩ := List.pairwise_cons.1 hp
    have hx := ha x (by simp)
    obtain ⟨a', i1, i2⟩ := tn_up A B t x h2 h1
    refine ⟨a', by omega, ?_⟩
    show (if x = a then tn t x true (A ++ B) else if (decide (x > a) != true) = true then tn (t + 1) x (!true) (A ++ B) else tn t x true (A ++ B)) = _
    by_cases c : x = a
    · rw [if_pos c, i2]
    · rw [if_neg c, if_neg (by rw [decide_eq_true (by omega : x > a)]; decide), i2]
theorem tn_down : ∀ (A B : List Int) (t a : Int), A.Pairwise (· ≥ ·) → (∀ x ∈ A, x ≤ a) → ∃ a', a' ≤ a ∧ tn t a false (A ++ B) = tn t a' false B
  | [], B, t, a, _, _ => ⟨a, Int.le_refl _, rfl⟩
  | x :: A, B, t, a, hp, ha => by
    obtain ⟨h1, h2⟩ := List.pairwise_cons.1 hp
    have hx := ha x (by simp)
    obtain ⟨a', i1, i2⟩ := tn_down A B t x h2 (fun y hy => h1 y hy)
    refine ⟨a', by omega, ?_⟩
    show (if x = a then tn t x false (A ++ B) else if (decide (x > a) != false) = true then tn (t + 1) x (!false) (A ++ B) else tn t x false (A ++ B)) = _
    by_cases c : x = a
    · rw [if_pos c, i2]
    · rw [if_neg c, if_neg (by rw [decide_eq_false (by omega : ¬ x > a)]; decide), i2]
theorem tn_turn_down : ∀ (B : List Int) (t a : Int), B.Pairwise (· ≥ ·) → (∀ x ∈ B, x ≤ a) → tn t a true B ≤ t + 1
  | [], t, a, _, _ => by show t ≤ t + 1; omega
  | x :: B, t, a, hp, ha => by
    obtain ⟨h1, h2⟩ := List.pairwise_cons.1 hp
    have hx := ha x (by simp)
    show (if x = a then tn t x true B else if (decide (x > a) != true) = true then tn (t + 1) x (!true) B else tn t x true B) ≤ t + 1
    by_cases c : x = a
    · rw [if_pos c]
      exact tn_turn_down B t x h2 (fun y hy => h1 y hy)
    · rw [if_neg c, if_pos (by rw [decide_eq_false (by omega : ¬ x > a)]; rfl)]
      obtain ⟨a', _, e⟩ := tn_down B [] (t + 1) x h2 (fun y hy => h1 y hy)
      rw [List.append_nil] at e
      show tn (t + 1) x false B ≤ t + 1
      rw [e]
      show t + 1 ≤ t + 1
      omega
theorem tn_turn_up : ∀ (B : List Int) (t a : Int), B.Pairwise (· ≤ ·) → (∀ x ∈ B, a ≤ x) → tn t a false B ≤ t + 1
  | [], t, a, _, _ => by show t ≤ t + 1; omega
  | x :: B, t, a, hp, ha => by
    obtain ⟨h1, h2⟩ := List.pairwise_cons.1 hp
    have hx := ha x (by simp)
    show (if x = a then tn t x false B else if (decide (x > a) != false) = true then tn (t + 1) x (!false) B else tn t x false B) ≤ t + 1
    by_cases c : x = a
    · rw [if_pos c]
      exact tn_turn_up B t x h2 (fun y hy => h1 y hy)
    · rw [if_neg c, if_pos (by rw [decide_eq_true (by omega : x > a)]; rfl)]
      obtain ⟨a', _, e⟩ := tn_up B [] (t + 1) x h2 (fun y hy => h1 y hy)
      rw [List.append_nil] at e
      show tn (t + 1) x true B ≤ t + 1
      rw [e]
      show t + 1 ≤ t + 1
      omega
theorem sweep_turns (s : Int) (l : List Int) (up : Bool) : tn 0 s up (sweepL s l up) ≤ 1 := by
  have hs := sortL_sorted l
  have hH : (highS s up (sortL l)).Pairwise (· ≤ ·) := hs.filter _
  have hL : (lowS s up (sortL l)).reverse.Pairwise (· ≥ ·) := List.pairwise_reverse.2 (hs.filter _)
  have mH : ∀ x ∈ highS s up (sortL l), s ≤ x := fun x hx => by
    have := (List.mem_filter.1 hx).2
    simp at this
    omega
  have mL : ∀ x ∈ (lowS s up (sortL l)).reverse, x ≤ s := fun x hx => by
    have := (List.mem_filter.1 (List.mem_reverse.1 hx)).2
    simp at this
    omega
  unfold sweepL
  cases up with
  | true =>
    rw [if_pos rfl]
    obtain ⟨a', h1, e⟩ := tn_up _ (lowS s true (sortL l)).reverse 0 s hH mH
    rw [e]
    exact tn_turn_down _ 0 a' hL (fun x hx => by have := mL x hx; omega)
  | false =>
    rw [if_neg (by decide)]
    obtain ⟨a', h1, e⟩ := tn_down _ (highS s false (sortL l)) 0 s hL mL
    rw [e]
    exact tn_turn_up _ 0 a' hH (fun x hx => by have := mH x hx; omega)
theorem waits_rise : ∀ (l : List Int) (c s : Int), (∀ x ∈ waitsL c s l, c ≤ x) ∧ (waitsL c s l).Pairwise (· ≤ ·)
  | [], c, s => ⟨(fun x hx => by cases hx), List.Pairwise.nil⟩
  | y :: l, c, s => by
    obtain ⟨h1, h2⟩ := waits_rise l (c + way s y) y
    have hw := way_nonneg s y
    refine ⟨fun x hx => ?_, List.pairwise_cons.2 ⟨h1, h2⟩⟩
    rcases List.mem_cons.1 hx with rfl | hx
    · omega
    · have := h1 x hx; omega
theorem j4_v (code : List Int) (hb : ∀ x ∈ code, 0 ≤ x ∧ x ≤ 255) : Tot (fun k => laws_FnWaits.j4 k code) true := by
  obtain ⟨s, q, hd, hq⟩ := drawTravel_v code hb
  have hr : Tot (fun k => spec_DrawRoundOrder.f k code) (s, q) := by
    unfold spec_DrawRoundOrder.f
    exact Tot.bind hd (Tot.pure _)
  have hw : Tot (fun k => spec_DrawWaitsOf.f k code) (s, q) := by
    unfold spec_DrawWaitsOf.f
    exact Tot.bind hd (Tot.pure _)
  have h1 := roundR_short s q
  have h2 := waitsR_short s q
  refine Tot.step (fun k => laws_FnWaits.j4.eq_2 ..) (Tot.bind hr ?_)
  simp only [implRound_v, Option.bind_some]
  refine Tot.bind (specRound_v s q (by omega)) (Tot.bind hw (Tot.bind (implWaitsOf_v s q) (Tot.bind (specWaitsOf_v s q (by omega)) ?_)))
  refine Tot.yes (by simp) (Tot.bind (same_v _ (by omega)) (Tot.yes rfl (Tot.yes (by simp) (Tot.bind (same_v _ (by omega)) (Tot.pure _)))))
theorem l1_v (code w : List Int) (hb : ∀ x ∈ code, 0 ≤ x ∧ x ≤ 255) (hw : w.Pairwise (· ≤ ·)) (hl : w.length ≤ 1000) : ∀ (d i : Nat), i + d = w.length → 1 ≤ i → Tot (fun k => laws_FnWaits.l1 k code w i) true
  | 0, i, hi, h1 => Tot.step (fun k => laws_FnWaits.l1.eq_2 ..) (Tot.no (by omega) (j4_v code hb))
  | d + 1, i, hi, h1 => by
    have ih := l1_v code w hb hw hl d (i + 1) (by omega) (by omega)
    refine Tot.step (fun k => laws_FnWaits.l1.eq_2 ..) ?_
    rw [wrap_in (x := (i : Int) - 1) (by omega) (by omega), wrap_in (x := (i : Int) + 1) (by omega) (by omega)]
    refine Tot.yes (by omega) (Tot.yes (by omega) (Tot.yes (by omega) (Tot.yes (by omega) (Tot.no ?_ ?_))))
    · have e1 : rd w (i : Int) = w[i]'(by omega) := by simp [rd, List.getD, List.getElem?_eq_getElem (show i < w.length by omega)]
      have e2 : rd w ((i : Int) - 1) = w[i - 1]'(by omega) := by
        rw [show (i : Int) - 1 = ((i - 1 : Nat) : Int) by omega]
        simp [rd, List.getD, List.getElem?_eq_getElem (show i - 1 < w.length by omega)]
      rw [e1, e2]
      have := List.pairwise_iff_getElem.1 hw (i - 1) i (by omega) (by omega) (by omega)
      omega
    · simpa using ih
theorem l0_v (code l o : List Int) (s : Int) (hb : ∀ x ∈ code, 0 ≤ x ∧ x ≤ 255) (hg : areAsksB s o = true) (hlo : l.length = o.length) : ∀ (b a : List Int) (t at_ : Int) (u : Bool), a ++ b = o → 0 ≤ t → t + b.length ≤ 1000 → tn t at_ u b ≤ 1 → Tot (fun k => laws_FnWaits.l0 k code s l o t at_ u o (o.length : Int) a.length) true
  | [], a, t, at_, u, h, h0, h1, ht => by
    obtain ⟨g1, g2, g3⟩ := (areAsksB_iff s o).1 hg
    have ew : waitsR s o = (waitsL 0 s o, true) := if_pos hg
    have et : travelR s o = (travelL s o, true) := if_pos hg
    have hw := implWaitsOf_v s o
    have htr := implTravelOf_v s o
    rw [ew] at hw
    rw [et] at htr
    have hwl := waitsL_length o 0 s
    have hal : a.length = o.length := by rw [← h]; simp
    have ht1 : t ≤ 1 := ht
    refine Tot.step (fun k => laws_FnWaits.l0.eq_2 ..) (Tot.no (by omega) (Tot.bind hw (Tot.bind htr (Tot.no (by omega) (Tot.yes (by omega) (Tot.yes rfl (Tot.yes rfl (Tot.yes (by dsimp only; omega) ?_))))))))
    have fin : Tot (fun k => laws_FnWaits.j2 k code (waitsL 0 s o) false) true :=
      Tot.step (fun k => laws_FnWaits.j2.eq_2 ..) (Tot.no (by decide) (by
        by_cases c : (waitsL 0 s o).length = 0
        · exact Tot.step (fun k => laws_FnWaits.l1.eq_2 ..) (Tot.no (by omega) (j4_v code hb))
        · exact l1_v code _ hb (waits_rise o 0 s).2 (by omega) ((waitsL 0 s o).length - 1) 1 (by omega) (by omega)))
    dsimp only
    by_cases c : ((waitsL 0 s o).length : Int) > 0
    · rw [wrap_in (x := ((waitsL 0 s o).length : Int) - 1) (by omega) (by omega)]
      refine Tot.yes c (Tot.yes (by omega) (Tot.yes (by omega) ?_))
      have e : rd (waitsL 0 s o) (((waitsL 0 s o).length : Int) - 1) = travelL s o := by
        obtain ⟨o2, y, rfl⟩ : ∃ o2 y, o = o2 ++ [y] := ⟨_, _, (List.dropLast_concat_getLast (l := o) (by intro h2; subst h2; simp [waitsL] at c)).symm⟩
        rw [waitsL_snoc, Int.zero_add]
        simp [rd, List.getD]
      rw [e, show (travelL s o != travelL s o) = false by simp]
      exact fin
    · exact Tot.no c fin
  | x :: b, a, t, at_, u, h, h0, h1, ht => by
    obtain ⟨g1, g2, g3⟩ := (areAsksB_iff s o).1 hg
    have hll : o.length = a.length + b.length + 1 := by rw [← h]; simp; omega
    have hr : rd o (a.length : Int) = x := by rw [← h]; simp [rd, List.getD]
    simp only [List.length_cons] at h1
    have ht' : (if x = at_ then tn t x u b else if (decide (x > at_) != u) = true then tn (t + 1) x (!u) b else tn t x u b) ≤ 1 := ht
    refine Tot.step (fun k => laws_FnWaits.l0.eq_2 ..) (Tot.yes (by omega) (Tot.yes (by omega) (Tot.yes (by omega) ?_)))
    rw [hr, wrap_in (x := (a.length : Int) + 1) (by omega) (by omega), wrap_in (x := t + 1) (by omega) (by omega)]
    by_cases c1 : x = at_
    · rw [if_pos c1] at ht'
      have ih := l0_v code l o s hb hg hlo b (a ++ [x]) t x u (by simpa using h) h0 (by omega) ht'
      refine Tot.yes c1 ?_
      simpa using ih
    · rw [if_neg c1] at ht'
      refine Tot.no c1 ?_
      by_cases c2 : (decide (x > at_) != u) = true
      · rw [if_pos c2] at ht'
        have ih := l0_v code l o s hb hg hlo b (a ++ [x]) (t + 1) x (!u) (by simpa using h) (by omega) (by omega) ht'
        refine Tot.yes c2 ?_
        simpa using ih
      · rw [if_neg c2] at ht'
        have ih := l0_v code l o s hb hg hlo b (a ++ [x]) t x u (by simpa using h) h0 (by omega) ht'
        refine Tot.no c2 ?_
        simpa using ih
theorem FnWaits : laws_FnWaits.Pure := by
  intro c0 c1 hm0 hl0 hw0 hm1 hl1 hw1
  have hb0 := bytes_in hw0
  have hb1 := bytes_in hw1
  refine Tot.at_ ?_
  unfold laws_FnWaits.f
  by_cases hz : wrap64 ((c0.length : Int) + (c1.length : Int)) > 1048576
  · exact Tot.yes hz (Tot.pure _)
  · refine Tot.no hz ?_
    obtain ⟨s, a, d, e1, a0, a1⟩ := start_v c0 0 0 (by omega) (by omega) hb0
    obtain ⟨l, a2, d2, h2, l10, b0, b1⟩ := asks_v c0 hb0 a d (by omega) (by omega)
    obtain ⟨up, a3, d3, e3, _, _⟩ := one_v c0 a2 d2 2 b0 (by omega) hb0
    have hd : Tot (fun k => spec_DrawSweepOrder.f k c0) (s, l, up) := by
      unfold spec_DrawSweepOrder.f
      simp only [e1, Option.bind_some]
      refine Tot.bind h2 ?_
      simp only [e3, Option.bind_some]
      exact Tot.pure _
    have hsh := sweepR_short s l up
    refine Tot.bind hd ?_
    simp only [implSweepO_v, Option.bind_some]
    refine Tot.bind (specSweepO_v s l up (by omega)) (Tot.no (by simp) (Tot.bind (same_v _ (by omega)) ?_))
    refine Tot.step (fun k => laws_FnWaits.j0.eq_2 ..) (Tot.no (by decide) ?_)
    unfold sweepR
    by_cases hg : areAsksB s l = true
    · rw [if_pos hg]
      obtain ⟨g1, g2, g3⟩ := (areAsksB_iff s l).1 hg
      have hp := sweepL_perm s l up
      have hg2 : areAsksB s (sweepL s l up) = true := (areAsksB_iff s _).2 ⟨g1, by rw [sweepL_length]; exact g2, fun x hx => g3 x (hp.mem_iff.1 hx)⟩
      refine Tot.yes rfl ?_
      have := l0_v c1 l (sweepL s l up) s hb1 hg2 (sweepL_length s l up).symm (sweepL s l up) [] 0 s up rfl (by omega) (by rw [sweepL_length]; omega) (sweep_turns s l up)
      simpa using this
    · rw [if_neg hg]
      exact Tot.no (by decide) (j4_v c1 hb1)

end Go.Proofs.Ytdjekgeoaekplaa.Pure

/- The plain law behind FnExactChangedIn: what the two sides compute is the same, for every input. No condition. -/
import Derived.Test.YtleklbmodelehaaPFnExactChangedInx11
set_option linter.unusedVariables false
set_option linter.unusedSimpArgs false
namespace Go.Proofs.Ytleklbmodelehaa.Pure
open Go.RowKit Go.Proofs.Ytleklbmodelehaa.PFnExactChangedIn Go.Proofs.YtleklbmodelehaaW.PrintWords Go.Proofs.YtleklbmodelehaaW.PrintLast Go.Proofs.YtleklbmodelehaaW.PrintMore

theorem wrap_in {x : Int} (h0 : -9223372036854775808 ≤ x) (h1 : x ≤ 9223372036854775807) : wrap64 x = x := by unfold wrap64; omega
theorem wf_in {x : Int} (h : (Lit.int .i64 x).wf = true) : -9223372036854775808 ≤ x ∧ x ≤ 9223372036854775807 := by
  simp only [Lit.wf, IntKind.min, IntKind.max, IntKind.bits, IntKind.signed, Bool.and_eq_true, decide_eq_true_eq] at h
  exact ⟨by have := h.1; simpa using this, by have := h.2; simpa using this⟩
theorem toList_nil (s : ByteArray) : (s.toList == ([] : List UInt8)) = decide (s.size = 0) := by
  rw [Bool.eq_iff_iff]
  simp only [beq_iff_eq, decide_eq_true_eq, ByteArray.toList_eq]
  constructor
  · intro h
    have h2 : s.data.toList.length = 0 := by rw [h]; rfl
    rw [Array.length_toList] at h2
    exact h2
  · intro h
    have h2 : s.data.toList.length = 0 := by rw [Array.length_toList]; exact h
    exact List.eq_nil_of_length_eq_zero h2

/-- From some number of rounds on the answer is r. -/
def Tot {α : Type} (g : Nat → Option α) (r : α) : Prop := ∃ K, ∀ k, K ≤ k → g k = some r
theorem Tot.at_ {α : Type} {g : Nat → Option α} {r : α} (h : Tot g r) : ∃ k, g k = some r := by
  obtain ⟨K, hK⟩ := h
  exact ⟨K, hK K (Nat.le_refl _)⟩
theorem Tot.pure {α : Type} (r : α) : Tot (fun _ => some r) r := ⟨0, fun _ _ => rfl⟩
theorem Tot.of_eq {α : Type} {g : Nat → Option α} {r : α} (h : ∀ k, g k = some r) : Tot g r := ⟨0, fun k _ => h k⟩
theorem Tot.congr {α : Type} {g g' : Nat → Option α} {r : α} (he : ∀ k, g k = g' k) (h : Tot g' r) : Tot g r := by
  obtain ⟨K, hK⟩ := h
  exact ⟨K, fun k hk => (he k).trans (hK k hk)⟩
theorem Tot.bind {α β : Type} {g : Nat → Option α} {h : Nat → α → Option β} {a : α} {r : β} (hg : Tot g a) (hh : Tot (fun k => h k a) r) : Tot (fun k => (g k).bind (h k)) r := by
  obtain ⟨K, hK⟩ := hg
  obtain ⟨L, hL⟩ := hh
  refine ⟨max K L, fun k hk => ?_⟩
  show (g k).bind (h k) = some r
  rw [hK k (by omega)]
  exact hL k (by omega)
theorem Tot.step {α : Type} {F G : Nat → Option α} {r : α} (hF : ∀ k, F (k + 1) = G k) (h : Tot G r) : Tot F r := by
  obtain ⟨K, hK⟩ := h
  refine ⟨K + 1, fun k hk => ?_⟩
  obtain ⟨m, rfl⟩ : ∃ m, k = m + 1 := ⟨k - 1, by omega⟩
  rw [hF]
  exact hK m (by omega)
theorem Tot.yes {α : Type} {p : Prop} [Decidable p] {g h : Nat → Option α} {r : α} (hp : p) (hg : Tot g r) : Tot (fun k => if p then g k else h k) r := by
  simpa only [if_pos hp] using hg
theorem Tot.no {α : Type} {p : Prop} [Decidable p] {g h : Nat → Option α} {r : α} (hp : ¬ p) (hg : Tot h r) : Tot (fun k => if p then g k else h k) r := by
  simpa only [if_neg hp] using hg
theorem Tot.some_bind {α β : Type} {h : Nat → α → Option β} {a : α} {r : β} (hh : Tot (fun k => h k a) r) : Tot (fun k => (some a).bind (h k)) r := hh

theorem in_v (a b c : Int) : spec_l1In.f a b c = some (decide (b ≤ a ∧ a ≤ c)) := by
  unfold spec_l1In.f
  by_cases h : a ≥ b
  · rw [if_pos h]; congr 1; rw [decide_eq_decide]; omega
  · rw [if_neg h]; congr 1; symm; rw [decide_eq_false_iff_not]; omega

theorem within_v (a b c : Int) : impl_within.f a b c = some (decide (b ≤ a ∧ a ≤ c)) := by
  unfold impl_within.f
  by_cases h : b ≤ a
  · rw [if_pos h]; congr 1; rw [decide_eq_decide]; omega
  · rw [if_neg h]; congr 1; symm; rw [decide_eq_false_iff_not]; omega


/-- Each is greater than the one ahead of it. -/
def rising : Option Int → List Int → Bool
  | _, [] => true
  | none, x :: r => rising (some x) r
  | some p, x :: r => decide (p < x) && rising (some x) r
theorem rd_ahead (a b : List Int) (x : Int) : rd (a ++ x :: b) (a.length : Int) = x := by simp [rd, List.getD]
theorem rd_prev1 (a b : List Int) (y : Int) : rd ((a ++ [y]) ++ b) (a.length : Int) = y := by simp [rd, List.getD]
theorem specRising_l (lo hi : Int) : ∀ (b a : List Int), ((a ++ b).length : Int) ≤ 9223372036850000000 → Tot (fun k => spec_l1Rising.l0 k (a ++ b) lo hi (a ++ b) ((a ++ b).length : Int) a.length) ((b.all fun x => decide (lo ≤ x ∧ x ≤ hi)) && rising a.getLast? b)
  | [], a, h => by
    refine Tot.step (fun k => spec_l1Rising.l0.eq_2 ..) (Tot.no (by simp) ?_)
    have e : rising a.getLast? [] = true := by cases a.getLast? <;> rfl
    rw [e]; exact Tot.pure _
  | x :: b, a, h => by
    have hl : ((a ++ x :: b).length : Int) = a.length + b.length + 1 := by simp; omega
    have next : Tot (fun k => spec_l1Rising.l0 k (a ++ x :: b) lo hi (a ++ x :: b) ((a ++ x :: b).length : Int) ((a.length : Int) + 1)) ((b.all fun x => decide (lo ≤ x ∧ x ≤ hi)) && rising (some x) b) := by
      have := specRising_l lo hi b (a ++ [x]) (by simpa using h)
      rw [List.getLast?_concat] at this
      simpa using this
    refine Tot.step (fun k => spec_l1Rising.l0.eq_2 ..) (Tot.yes (by omega) (Tot.yes (by omega) (Tot.yes (by omega) ?_)))
    rw [rd_ahead, wrap_in (x := (a.length : Int) + 1) (by omega) (by omega), List.all_cons]
    simp only [in_v, Option.bind_some]
    by_cases hx : lo ≤ x ∧ x ≤ hi
    · rw [decide_eq_true hx, Bool.true_and]
      refine Tot.yes rfl ?_
      rcases List.eq_nil_or_concat a with rfl | ⟨a', y, rfl⟩
      · have e : rising (List.getLast? []) (x :: b) = rising (some x) b := rfl
        rw [e]
        exact Tot.no (by simp) next
      · rw [List.concat_eq_append] at *
        have hL : ((a' ++ [y]).length : Int) = a'.length + 1 := by simp
        have hw : wrap64 (((a' ++ [y]).length : Int) - 1) = (a'.length : Int) := (wrap_in (by omega) (by omega)).trans (by omega)
        have e : rising (List.getLast? (a' ++ [y])) (x :: b) = (decide (y < x) && rising (some x) b) := by rw [List.getLast?_concat]; rfl
        rw [e, hw]
        refine Tot.yes (by omega) (Tot.yes (by omega) (Tot.yes (by omega) ?_))
        rw [rd_prev1]
        by_cases hy : y < x
        · rw [decide_eq_true hy, Bool.true_and]
          exact Tot.no (by omega) next
        · rw [decide_eq_false hy, Bool.false_and, Bool.and_false]
          exact Tot.yes (by omega) (Tot.pure _)
    · rw [decide_eq_false hx]
      exact Tot.no (by decide) (Tot.pure _)
theorem specRising_v (l : List Int) (lo hi : Int) (h : (l.length : Int) ≤ 9223372036850000000) : Tot (fun k => spec_l1Rising.f k l lo hi) ((l.all fun x => decide (lo ≤ x ∧ x ≤ hi)) && rising none l) := by
  have := specRising_l lo hi l [] (by simpa using h)
  unfold spec_l1Rising.f
  simpa using this
theorem implRising_l : ∀ (b a : List Int) (y : Int), ((a ++ y :: b).length : Int) ≤ 9223372036850000000 → Tot (fun k => impl_areRising.l0 k (a ++ y :: b) ((a.length : Int) + 1)) (rising (some y) b)
  | [], a, y, h => Tot.step (fun k => impl_areRising.l0.eq_2 ..) (Tot.no (by simp) (Tot.pure _))
  | x :: b, a, y, h => by
    have hl : ((a ++ y :: x :: b).length : Int) = a.length + b.length + 2 := by simp; omega
    have next := implRising_l b (a ++ [y]) x (by simpa using h)
    have hL : ((a ++ [y]).length : Int) = a.length + 1 := by simp
    have e1 : rd (a ++ y :: x :: b) ((a.length : Int) + 1) = x := by
      rw [← hL, show a ++ y :: x :: b = (a ++ [y]) ++ x :: b by simp]; exact rd_ahead ..
    have e2 : rd (a ++ y :: x :: b) (wrap64 ((a.length : Int) + 1 - 1)) = y := by
      rw [wrap_in (by omega) (by omega), show (a.length : Int) + 1 - 1 = a.length by omega]; exact rd_ahead ..
    refine Tot.step (fun k => impl_areRising.l0.eq_2 ..) (Tot.yes (by omega) (Tot.yes (by omega) ?_))
    rw [e1, e2]
    have hw : wrap64 ((a.length : Int) + 1 - 1) = a.length := (wrap_in (by omega) (by omega)).trans (by omega)
    have hw2 : wrap64 ((a.length : Int) + 1 + 1) = ((a ++ [y]).length : Int) + 1 := (wrap_in (by omega) (by omega)).trans (by omega)
    rw [hw, hw2]
    refine Tot.yes (by omega) (Tot.yes (by omega) ?_)
    have e : rising (some y) (x :: b) = (decide (y < x) && rising (some x) b) := rfl
    rw [e]
    by_cases hy : y < x
    · rw [decide_eq_true hy, Bool.true_and]
      exact Tot.no (by omega) (by simpa using next)
    · rw [decide_eq_false hy]
      exact Tot.yes (by omega) (Tot.pure _)
theorem implRising_v (l : List Int) (h : (l.length : Int) ≤ 9223372036850000000) : Tot (fun k => impl_areRising.f k l) (rising none l) := by
  unfold impl_areRising.f
  cases l with
  | nil => exact Tot.step (fun k => impl_areRising.l0.eq_2 ..) (Tot.no (by decide) (Tot.pure _))
  | cons y b =>
    have := implRising_l b [] y (by simpa using h)
    simpa [rising] using this

theorem allO_tot {α : Type} {f : Nat → α → Option Bool} {p : α → Bool} : ∀ {l : List α}, (∀ x ∈ l, Tot (fun k => f k x) (p x)) → Tot (fun k => Open.allO (f k) l) (l.all p)
  | [], _ => Tot.pure _
  | x :: l, h => by
    show Tot (fun k => (f k x).bind fun b => (Open.allO (f k) l).bind fun c => some (b && c)) ((x :: l).all p)
    rw [List.all_cons]
    exact Tot.bind (h x (by simp)) (Tot.bind (allO_tot fun y hy => h y (by simp [hy])) (Tot.pure _))

theorem rd_at {l : List Int} {i : Int} (h0 : 0 ≤ i) (h1 : i < (l.length : Int)) : rd l i = l[i.toNat]'(by omega) := by
  unfold rd
  rw [List.getD_eq_getElem?_getD, List.getElem?_eq_getElem (by omega : i.toNat < l.length)]
  rfl
theorem eqInt_l (a : List Int) (ha : (a.length : Int) ≤ 9223372036854775806) : ∀ (d : Nat) (i : Int), 0 ≤ i → i + d = a.length → Tot (fun k => laws_eqIntS.l0 k a a i) true
  | 0, i, h0, h => by
    refine Tot.step (fun k => laws_eqIntS.l0.eq_2 ..) ?_
    exact Tot.no (by omega) (Tot.pure _)
  | d + 1, i, h0, h => by
    refine Tot.step (fun k => laws_eqIntS.l0.eq_2 ..) ?_
    refine Tot.yes (by omega) (Tot.yes h0 (Tot.yes (by omega) (Tot.yes rfl ?_)))
    rw [wrap_in (by omega) (by omega)]
    exact eqInt_l a ha d (i + 1) (by omega) (by omega)
theorem eqInt_v (a : List Int) (ha : (a.length : Int) ≤ 9223372036854775806) : Tot (fun k => laws_eqIntS.f k a a) true := by
  unfold laws_eqIntS.f
  exact Tot.yes rfl (eqInt_l a ha a.length 0 (by omega) (by omega))

/-- m, m + 1, .. in the place of what stands from i on. -/
def marked : List Int → Int → List Int
  | [], _ => []
  | _ :: l, m => m :: marked l (wrap64 (m + 1))
def markEnd : List Int → Int → Int
  | [], m => m
  | _ :: l, m => markEnd l (wrap64 (m + 1))
theorem marked_length : ∀ (l : List Int) (m : Int), (marked l m).length = l.length
  | [], _ => rfl
  | _ :: l, m => by simp [marked, marked_length l]
theorem markEnd_marked : ∀ (l : List Int) (m : Int), markEnd (marked l m) m = markEnd l m
  | [], _ => rfl
  | _ :: l, m => markEnd_marked l _
theorem markInt_l : ∀ (b a : List Int) (m : Int), ((a ++ b).length : Int) ≤ 9223372036854775806 → Tot (fun k => laws_markIntS.l0 k (a ++ b) m a.length) (markEnd b m, a ++ marked b m)
  | [], a, m, h => by
    refine Tot.step (fun k => laws_markIntS.l0.eq_2 ..) ?_
    simp only [List.append_nil, marked, markEnd]
    exact Tot.no (by omega) (Tot.pure _)
  | x :: b, a, m, h => by
    refine Tot.step (fun k => laws_markIntS.l0.eq_2 ..) ?_
    have hl : ((a ++ x :: b).length : Int) = a.length + b.length + 1 := by simp; omega
    refine Tot.yes (by omega) (Tot.yes (by omega) ?_)
    have e : (a ++ x :: b).set ((a.length : Int)).toNat m = (a ++ [m]) ++ b := by simp
    rw [e, wrap_in (x := (a.length : Int) + 1) (by omega) (by omega)]
    have := markInt_l b (a ++ [m]) (wrap64 (m + 1)) (by simp at hl h ⊢; omega)
    simpa [marked, markEnd] using this
theorem markInt_v (a : List Int) (m : Int) (ha : (a.length : Int) ≤ 9223372036854775806) : Tot (fun k => laws_markIntS.f k a m) (markEnd a m, marked a m) := by
  have := markInt_l a [] m (by simpa using ha)
  unfold laws_markIntS.f
  simpa using this
theorem markEnd_nonneg : ∀ (l : List Int) (m : Int), 0 ≤ m → m + l.length ≤ 9223372036854775806 → 0 ≤ markEnd l m
  | [], m, h, _ => h
  | _ :: l, m, h, h2 => by
    simp at h2
    unfold markEnd
    rw [wrap_in (by omega) (by omega)]
    exact markEnd_nonneg l _ (by omega) (by omega)

theorem heldInt_l : ∀ (b a : List Int) (m : Int), ((a ++ b).length : Int) ≤ 9223372036854775806 → Tot (fun k => laws_heldIntS.l0 k (a ++ marked b m) m a.length) (markEnd b m)
  | [], a, m, h => by
    refine Tot.step (fun k => laws_heldIntS.l0.eq_2 ..) ?_
    simp only [List.append_nil, marked, markEnd]
    exact Tot.no (by omega) (Tot.pure _)
  | x :: b, a, m, h => by
    refine Tot.step (fun k => laws_heldIntS.l0.eq_2 ..) ?_
    have hl : ((a ++ marked (x :: b) m).length : Int) = a.length + b.length + 1 := by simp [marked, marked_length]; omega
    have h2 : ((a ++ x :: b).length : Int) = a.length + b.length + 1 := by simp; omega
    refine Tot.yes (by omega) (Tot.yes (by omega) (Tot.yes ?_ ?_))
    · rw [rd_at (by omega) (by omega)]
      simp [marked]
    · rw [wrap_in (x := (a.length : Int) + 1) (by omega) (by omega)]
      have := heldInt_l b (a ++ [m]) (wrap64 (m + 1)) (by simp at h2 h ⊢; omega)
      simpa [marked, markEnd] using this
theorem heldInt_v (a : List Int) (m : Int) (ha : (a.length : Int) ≤ 9223372036854775806) : Tot (fun k => laws_heldIntS.f k (marked a m) m) (markEnd a m) := by
  have := heldInt_l a [] m (by simpa using ha)
  unfold laws_heldIntS.f
  simpa using this

theorem strOf_one (a : Int) : (strOfNums [a]).size = 1 := by simp [strOfNums]; rfl
theorem size_app (a b : ByteArray) : (a ++ b).size = a.size + b.size := by simp
theorem markText_l : ∀ (n : Nat) (m : Int) (t : ByteArray), 0 ≤ m → m.toNat ≤ n → n + t.size ≤ 4611686018427387904 → ∃ r, Tot (fun k => laws_markText.l0 k m t) r
  | 0, m, t, h0, hn, hb => ⟨_, Tot.step (fun k => laws_markText.l0.eq_2 ..) (Tot.no (by omega) (Tot.yes (by omega) (Tot.pure _)))⟩
  | n + 1, m, t, h0, hn, hb => by
    by_cases hp : m > 0
    · have e1 : Int.tdiv m 10 = m / 10 := Int.tdiv_eq_ediv_of_nonneg h0
      have e2 : wrap64 (Int.tdiv m 10) = m / 10 := by rw [e1]; exact wrap_in (by omega) (by omega)
      obtain ⟨r, hr⟩ := markText_l n (m / 10) (strOfNums [(wrap64 (48 + (Int.tmod m 10))) % 256] ++ t) (by omega) (by omega) (by rw [size_app, strOf_one]; omega)
      refine ⟨r, Tot.step (fun k => laws_markText.l0.eq_2 ..) (Tot.yes hp (Tot.some_bind (Tot.yes (by rw [strOf_one]; omega) ?_)))⟩
      rw [e2]; exact hr
    · exact ⟨_, Tot.step (fun k => laws_markText.l0.eq_2 ..) (Tot.no hp (Tot.yes (by omega) (Tot.pure _)))⟩
theorem markText_e (m : Int) (h0 : 0 ≤ m) (h1 : m ≤ 1125899906842624) : ∃ r, Tot (fun k => laws_markText.f k m) r := by
  unfold laws_markText.f
  by_cases h : m ≤ 0
  · exact ⟨_, Tot.yes h (Tot.pure _)⟩
  · have h00 : (⟨#[]⟩ : ByteArray).size = 0 := rfl
    obtain ⟨r, hr⟩ := markText_l m.toNat m ⟨#[]⟩ h0 (Nat.le_refl _) (by rw [h00]; omega)
    exact ⟨r, Tot.no h hr⟩
open Classical in
/-- The text of a mark. -/
noncomputable def mtxt (m : Int) : ByteArray := if h : ∃ r, Tot (fun k => laws_markText.f k m) r then Classical.choose h else ⟨#[]⟩
theorem markText_v (m : Int) (h0 : 0 ≤ m) (h1 : m ≤ 1125899906842624) : Tot (fun k => laws_markText.f k m) (mtxt m) := by
  unfold mtxt
  rw [dif_pos (markText_e m h0 h1)]
  exact Classical.choose_spec (markText_e m h0 h1)

theorem set_app {α : Type} (a b : List α) (x y : α) : (a ++ x :: b).set ((a.length : Int)).toNat y = a ++ y :: b := by simp

theorem szInt_v (l : List Int) (m : Int) (h0 : 0 ≤ m) (h1 : m ≤ 1048576) (hl : (l.length : Int) ≤ 9223372036850000000) : ∃ v, laws_szIntS.f l m = some v ∧ v ≤ 1048576 ∧ (0 ≤ v → (l.length : Int) ≤ 1048576) := by
  unfold laws_szIntS.f
  rw [wrap_in (by omega) (by omega)]
  by_cases h : m - (l.length : Int) < 0
  · exact ⟨-1, by rw [if_pos h], by omega, fun h => by omega⟩
  · exact ⟨_, by rw [if_neg h], by omega, fun _ => by omega⟩
theorem rdStr_at (a b : List ByteArray) (x : ByteArray) : (rdOf ByteArray.empty (a ++ x :: b) (a.length : Int)) = x := by simp [rdOf, List.getD]
theorem szStr_l : ∀ (b a : List ByteArray) (m : Int), 0 ≤ m → m ≤ 1048576 → ((a ++ b).length : Int) ≤ 1048576 → (∀ y ∈ b, y.size ≤ 140737488351232) → ∃ v, Tot (fun k => laws_szStringS.l0 k (a ++ b) m a.length) v ∧ v ≤ 1048576
  | [], a, m, h0, h1, hl, hs => ⟨m, by
    refine Tot.step (fun k => laws_szStringS.l0.eq_2 ..) ?_
    simp only [List.append_nil]
    exact Tot.no (by omega) (Tot.pure _), h1⟩
  | x :: b, a, m, h0, h1, hl, hs => by
    have hx := hs x (by simp)
    have hll : ((a ++ x :: b).length : Int) = a.length + b.length + 1 := by simp; omega
    by_cases hc : m - (x.size : Int) < 0
    · refine ⟨-1, Tot.step (fun k => laws_szStringS.l0.eq_2 ..) (Tot.yes (by omega) (Tot.yes (by omega) (Tot.yes ?_ (Tot.pure _)))), by omega⟩
      rw [rdStr_at, wrap_in (by omega) (by omega)]; exact hc
    · obtain ⟨v, hv, hv2⟩ := szStr_l b (a ++ [x]) (m - (x.size : Int)) (by omega) (by omega) (by simp at hll hl ⊢; omega) (fun y hy => hs y (by simp [hy]))
      refine ⟨v, Tot.step (fun k => laws_szStringS.l0.eq_2 ..) (Tot.yes (by omega) (Tot.yes (by omega) (Tot.no ?_ ?_))), hv2⟩
      · rw [rdStr_at, wrap_in (by omega) (by omega)]; exact hc
      · rw [rdStr_at, wrap_in (x := m - (x.size : Int)) (by omega) (by omega), wrap_in (x := (a.length : Int) + 1) (by omega) (by omega)]
        simpa using hv
theorem szStr_v (l : List ByteArray) (m : Int) (h0 : 0 ≤ m) (h1 : m ≤ 1048576) (hl : (l.length : Int) ≤ 9223372036850000000) (hs : ∀ y ∈ l, y.size ≤ 140737488351232) : ∃ v, Tot (fun k => laws_szStringS.f k l m) v ∧ v ≤ 1048576 ∧ (0 ≤ v → (l.length : Int) ≤ 1048576) := by
  unfold laws_szStringS.f
  rw [wrap_in (by omega) (by omega)]
  by_cases h : m - (l.length : Int) < 0
  · exact ⟨-1, Tot.yes h (Tot.pure _), by omega, fun h => by omega⟩
  · obtain ⟨v, hv, hv2⟩ := szStr_l l [] (m - (l.length : Int)) (by omega) (by omega) (by simp; omega) hs
    exact ⟨v, Tot.no h (by simpa using hv), hv2, fun _ => by omega⟩
theorem rdLLayer_at (a b : List S128) (x : S128) : rd_T128 (a ++ x :: b) (a.length : Int) = x := by simp [rd_T128, List.getD]
theorem szLayer_v (x : S128) (m : Int) (h0 : 0 ≤ m) (h1 : m ≤ 1048576) (hx : (x.f1.length : Int) ≤ 9223372036850000000 ∧ (x.f2.length : Int) ≤ 9223372036850000000 ∧ (∀ y ∈ x.f2, y.size ≤ 140737488351232)) : ∃ v, Tot (fun k => laws_szLayer.f k x.f0 x.f1 x.f2 m) v ∧ v ≤ 1048576 ∧ (0 ≤ v → (x.f1.length : Int) ≤ 1048576 ∧ (x.f2.length : Int) ≤ 1048576) := by
  unfold laws_szLayer.f
  obtain ⟨v, hv, hv1, hv2⟩ := szInt_v x.f1 m h0 h1 hx.1
  rw [hv]
  by_cases h : v < 0
  · exact ⟨-1, Tot.some_bind (Tot.yes h (Tot.pure _)), by omega, fun h => by omega⟩
  · obtain ⟨u, hu, hu1, hu2⟩ := szStr_v x.f2 v (by omega) hv1 hx.2.1 hx.2.2
    by_cases h2 : u < 0
    · exact ⟨-1, Tot.some_bind (Tot.no h (Tot.bind hu (Tot.yes h2 (Tot.pure _)))), by omega, fun h => by omega⟩
    · exact ⟨u, Tot.some_bind (Tot.no h (Tot.bind hu (Tot.no h2 (Tot.pure _)))), hu1, fun h3 => ⟨hv2 (by omega), hu2 h3⟩⟩
theorem szLayerS_l : ∀ (b a : List S128) (m : Int), 0 ≤ m → m ≤ 1048576 → ((a ++ b).length : Int) ≤ 1048576 → (∀ x ∈ b, (x.f1.length : Int) ≤ 9223372036850000000 ∧ (x.f2.length : Int) ≤ 9223372036850000000 ∧ (∀ y ∈ x.f2, y.size ≤ 140737488351232)) → ∃ v, Tot (fun k => laws_szLayerS.l0 k (a ++ b) m a.length) v ∧ v ≤ 1048576 ∧ (0 ≤ v → ∀ y ∈ b, (y.f1.length : Int) ≤ 1048576 ∧ (y.f2.length : Int) ≤ 1048576)
  | [], a, m, h0, h1, hl, hs => ⟨m, by
    refine Tot.step (fun k => laws_szLayerS.l0.eq_2 ..) ?_
    simp only [List.append_nil]
    exact Tot.no (by omega) (Tot.pure _), h1, fun _ y hy => by simp at hy⟩
  | x :: b, a, m, h0, h1, hl, hs => by
    have hll : ((a ++ x :: b).length : Int) = a.length + b.length + 1 := by simp; omega
    obtain ⟨u, hu, hu1, hu2⟩ := szLayer_v x m h0 h1 (hs x (by simp))
    by_cases hc : u < 0
    · refine ⟨-1, Tot.step (fun k => laws_szLayerS.l0.eq_2 ..) (Tot.yes (by omega) (Tot.yes (by omega) ?_)), by omega, fun h => by omega⟩
      rw [rdLLayer_at]
      exact Tot.bind hu (Tot.yes hc (Tot.pure _))
    · obtain ⟨v, hv, hv1, hv2⟩ := szLayerS_l b (a ++ [x]) u (by omega) hu1 (by simp at hll hl ⊢; omega) (fun y hy => hs y (by simp [hy]))
      refine ⟨v, Tot.step (fun k => laws_szLayerS.l0.eq_2 ..) (Tot.yes (by omega) (Tot.yes (by omega) ?_)), hv1, fun h y hy => ?_⟩
      · rw [rdLLayer_at, wrap_in (x := (a.length : Int) + 1) (by omega) (by omega)]
        exact Tot.bind hu (Tot.no hc (by simpa using hv))
      · rcases List.mem_cons.1 hy with rfl | hy
        · exact hu2 (by omega)
        · exact hv2 h y hy
theorem szLayerS_v (l : List S128) (m : Int) (h0 : 0 ≤ m) (h1 : m ≤ 1048576) (hl : (l.length : Int) ≤ 9223372036850000000) (hs : ∀ x ∈ l, (x.f1.length : Int) ≤ 9223372036850000000 ∧ (x.f2.length : Int) ≤ 9223372036850000000 ∧ (∀ y ∈ x.f2, y.size ≤ 140737488351232)) : ∃ v, Tot (fun k => laws_szLayerS.f k l m) v ∧ v ≤ 1048576 ∧ (0 ≤ v → (l.length : Int) ≤ 1048576 ∧ ∀ y ∈ l, (y.f1.length : Int) ≤ 1048576 ∧ (y.f2.length : Int) ≤ 1048576) := by
  unfold laws_szLayerS.f
  rw [wrap_in (by omega) (by omega)]
  by_cases h : m - (l.length : Int) < 0
  · exact ⟨-1, Tot.yes h (Tot.pure _), by omega, fun h => by omega⟩
  · obtain ⟨v, hv, hv1, hv2⟩ := szLayerS_l l [] (m - (l.length : Int)) (by omega) (by omega) (by simp; omega) hs
    exact ⟨v, Tot.no h (by simpa using hv), hv1, fun h3 => ⟨by omega, hv2 h3⟩⟩
theorem rdInt_at (a b : List Int) (x : Int) : (rd (a ++ x :: b) (a.length : Int)) = x := by simp [rd, List.getD]
theorem toInt_l : ∀ (b a : List Int), ((a ++ b).length : Int) ≤ 9223372036854775806 → Tot (fun k => laws_toIntS.l0 k (a ++ b) (a ++ List.replicate b.length 0) a.length) (a ++ b)
  | [], a, h => by
    refine Tot.step (fun k => laws_toIntS.l0.eq_2 ..) ?_
    simp only [List.append_nil, List.length_nil, List.replicate_zero]
    exact Tot.no (by omega) (Tot.pure _)
  | x :: b, a, h => by
    refine Tot.step (fun k => laws_toIntS.l0.eq_2 ..) ?_
    have hl : ((a ++ x :: b).length : Int) = a.length + b.length + 1 := by simp; omega
    have hl2 : ((a ++ List.replicate (x :: b).length 0).length : Int) = a.length + b.length + 1 := by simp; omega
    refine Tot.yes (by omega) (Tot.yes (by omega) (Tot.yes (by omega) ?_))
    rw [rdInt_at, wrap_in (x := (a.length : Int) + 1) (by omega) (by omega)]
    have e : (a ++ List.replicate (x :: b).length 0).set ((a.length : Int)).toNat x = (a ++ [x]) ++ List.replicate b.length 0 := by simp [List.replicate_succ]
    rw [e]
    have := toInt_l b (a ++ [x]) (by simp at hl h ⊢; omega)
    simpa using this
theorem toInt_v (l : List Int) (h : (l.length : Int) ≤ 1048576) : Tot (fun k => laws_toIntS.f k l) l := by
  unfold laws_toIntS.f
  refine Tot.yes (by omega) (Tot.yes (by omega) ?_)
  have := toInt_l l [] (by simp; omega)
  simpa using this
theorem toStr_l : ∀ (b a : List ByteArray), ((a ++ b).length : Int) ≤ 9223372036854775806 → Tot (fun k => laws_toStringS.l0 k (a ++ b) (a ++ List.replicate b.length (⟨#[]⟩ : ByteArray)) a.length) (a ++ b)
  | [], a, h => by
    refine Tot.step (fun k => laws_toStringS.l0.eq_2 ..) ?_
    simp only [List.append_nil, List.length_nil, List.replicate_zero]
    exact Tot.no (by omega) (Tot.pure _)
  | x :: b, a, h => by
    refine Tot.step (fun k => laws_toStringS.l0.eq_2 ..) ?_
    have hl : ((a ++ x :: b).length : Int) = a.length + b.length + 1 := by simp; omega
    have hl2 : ((a ++ List.replicate (x :: b).length (⟨#[]⟩ : ByteArray)).length : Int) = a.length + b.length + 1 := by simp; omega
    refine Tot.yes (by omega) (Tot.yes (by omega) (Tot.yes (by omega) ?_))
    rw [rdStr_at, wrap_in (x := (a.length : Int) + 1) (by omega) (by omega)]
    have e : (a ++ List.replicate (x :: b).length (⟨#[]⟩ : ByteArray)).set ((a.length : Int)).toNat x = (a ++ [x]) ++ List.replicate b.length (⟨#[]⟩ : ByteArray) := by simp [List.replicate_succ]
    rw [e]
    have := toStr_l b (a ++ [x]) (by simp at hl h ⊢; omega)
    simpa using this
theorem toStr_v (l : List ByteArray) (h : (l.length : Int) ≤ 1048576) : Tot (fun k => laws_toStringS.f k l) l := by
  unfold laws_toStringS.f
  refine Tot.yes (by omega) (Tot.yes (by omega) ?_)
  have := toStr_l l [] (by simp; omega)
  simpa using this
def cvLayer (x : S128) : S94 := ⟨x.f0, x.f1, x.f2⟩
theorem toLayer_v (x : S128) (hs : (x.f1.length : Int) ≤ 1048576 ∧ (x.f2.length : Int) ≤ 1048576) : Tot (fun k => laws_toLayer.f k x.f0 x.f1 x.f2) (x.f0, x.f1, x.f2) := by
  unfold laws_toLayer.f
  exact (Tot.bind (toInt_v x.f1 (by omega)) (Tot.bind (toStr_v x.f2 (by omega)) (Tot.pure _)))
theorem toLayerS_l : ∀ (b a : List S128), ((a ++ b).length : Int) ≤ 9223372036854775806 → (∀ y ∈ b, (y.f1.length : Int) ≤ 1048576 ∧ (y.f2.length : Int) ≤ 1048576) → Tot (fun k => laws_toLayerS.l0 k (a ++ b) (a.map cvLayer ++ List.replicate b.length z94) a.length) ((a ++ b).map cvLayer)
  | [], a, h, hs => by
    refine Tot.step (fun k => laws_toLayerS.l0.eq_2 ..) ?_
    simp only [List.append_nil, List.length_nil, List.replicate_zero]
    exact Tot.no (by omega) (Tot.pure _)
  | x :: b, a, h, hs => by
    refine Tot.step (fun k => laws_toLayerS.l0.eq_2 ..) ?_
    have hl : ((a ++ x :: b).length : Int) = a.length + b.length + 1 := by simp; omega
    have hl2 : ((a.map cvLayer ++ List.replicate (x :: b).length z94).length : Int) = a.length + b.length + 1 := by simp; omega
    refine Tot.yes (by omega) (Tot.yes (by omega) ?_)
    rw [rdLLayer_at, wrap_in (x := (a.length : Int) + 1) (by omega) (by omega)]
    refine Tot.bind (toLayer_v x (hs x (by simp))) (Tot.yes (by omega) ?_)
    have e : (a.map cvLayer ++ List.replicate (x :: b).length z94).set ((a.length : Int)).toNat (cvLayer x) = (a ++ [x]).map cvLayer ++ List.replicate b.length z94 := by
      rw [List.length_cons, List.replicate_succ, List.set_append_right _ _ (by simp)]
      simp
    have e2 : (⟨x.f0, x.f1, x.f2⟩ : S94) = cvLayer x := rfl
    dsimp only
    rw [e2, e]
    have := toLayerS_l b (a ++ [x]) (by simp at hl h ⊢; omega) (fun y hy => hs y (by simp [hy]))
    simpa using this
theorem toLayerS_v (l : List S128) (h : (l.length : Int) ≤ 1048576) (hs : ∀ y ∈ l, (y.f1.length : Int) ≤ 1048576 ∧ (y.f2.length : Int) ≤ 1048576) : Tot (fun k => laws_toLayerS.f k l) (l.map cvLayer) := by
  unfold laws_toLayerS.f
  refine Tot.yes (by omega) (Tot.yes (by omega) ?_)
  have := toLayerS_l l [] (by simp; omega) hs
  simpa using this
theorem eqStr_l (a : List ByteArray) (ha : (a.length : Int) ≤ 9223372036854775806) : ∀ (d : Nat) (i : Int), 0 ≤ i → i + d = a.length → Tot (fun k => laws_eqStringS.l0 k a a i) true
  | 0, i, h0, h => by
    refine Tot.step (fun k => laws_eqStringS.l0.eq_2 ..) ?_
    exact Tot.no (by omega) (Tot.pure _)
  | d + 1, i, h0, h => by
    refine Tot.step (fun k => laws_eqStringS.l0.eq_2 ..) ?_
    refine Tot.yes (by omega) (Tot.yes h0 (Tot.yes (by omega) (Tot.yes rfl ?_)))
    rw [wrap_in (by omega) (by omega)]
    exact eqStr_l a ha d (i + 1) (by omega) (by omega)
theorem eqStr_v (a : List ByteArray) (ha : (a.length : Int) ≤ 9223372036854775806) : Tot (fun k => laws_eqStringS.f k a a) true := by
  unfold laws_eqStringS.f
  exact Tot.yes rfl (eqStr_l a ha a.length 0 (by omega) (by omega))
theorem rdILayer_at (a b : List S94) (x : S94) : rd_T94 (a ++ x :: b) (a.length : Int) = x := by simp [rd_T94, List.getD]
theorem eqLayer_v (x : S94) (hs : (x.f1.length : Int) ≤ 1048576 ∧ (x.f2.length : Int) ≤ 1048576) : Tot (fun k => laws_eqLayer.f k x.f0 x.f1 x.f2 x.f0 x.f1 x.f2) true := by
  unfold laws_eqLayer.f
  exact (Tot.yes rfl (Tot.bind (eqInt_v x.f1 (by omega)) (Tot.yes rfl (Tot.bind (eqStr_v x.f2 (by omega)) (Tot.yes rfl (Tot.pure _))))))
theorem eqLayerS_l : ∀ (b a : List S94), ((a ++ b).length : Int) ≤ 9223372036854775806 → (∀ y ∈ b, (y.f1.length : Int) ≤ 1048576 ∧ (y.f2.length : Int) ≤ 1048576) → Tot (fun k => laws_eqLayerS.l0 k (a ++ b) (a ++ b) a.length) true
  | [], a, h, hs => by
    refine Tot.step (fun k => laws_eqLayerS.l0.eq_2 ..) ?_
    simp only [List.append_nil]
    exact Tot.no (by omega) (Tot.pure _)
  | x :: b, a, h, hs => by
    refine Tot.step (fun k => laws_eqLayerS.l0.eq_2 ..) ?_
    have hl : ((a ++ x :: b).length : Int) = a.length + b.length + 1 := by simp; omega
    refine Tot.yes (by omega) (Tot.yes (by omega) (Tot.yes (by omega) ?_))
    rw [rdILayer_at, wrap_in (x := (a.length : Int) + 1) (by omega) (by omega)]
    refine Tot.bind (eqLayer_v x (hs x (by simp))) (Tot.yes rfl ?_)
    have := eqLayerS_l b (a ++ [x]) (by simp at hl h ⊢; omega) (fun y hy => hs y (by simp [hy]))
    simpa using this
theorem eqLayerS_v (l : List S94) (h : (l.length : Int) ≤ 9223372036854775806) (hs : ∀ y ∈ l, (y.f1.length : Int) ≤ 1048576 ∧ (y.f2.length : Int) ≤ 1048576) : Tot (fun k => laws_eqLayerS.f k l l) true := by
  unfold laws_eqLayerS.f
  refine Tot.yes rfl ?_
  have := eqLayerS_l l [] (by simpa using h) hs
  simpa using this
noncomputable def mkStr : List ByteArray → Int → List ByteArray
  | [], _ => []
  | _ :: l, m => mtxt m :: mkStr l (m + 1)
theorem mkStr_length : ∀ (l : List ByteArray) (m : Int), (mkStr l m).length = l.length
  | [], _ => rfl
  | _ :: l, m => by simp [mkStr, mkStr_length l]
theorem markStr_l : ∀ (b a : List ByteArray) (m : Int), 0 ≤ m → m + b.length ≤ 1125899906842624 → ((a ++ b).length : Int) ≤ 9223372036854775806 → Tot (fun k => laws_markStringS.l0 k (a ++ b) m a.length) (m + b.length, a ++ mkStr b m)
  | [], a, m, h0, h1, h => by
    refine Tot.step (fun k => laws_markStringS.l0.eq_2 ..) ?_
    simp only [List.append_nil, mkStr, List.length_nil, Int.natCast_zero, Int.add_zero]
    exact Tot.no (by omega) (Tot.pure _)
  | x :: b, a, m, h0, h1, h => by
    have hl : ((a ++ x :: b).length : Int) = a.length + b.length + 1 := by simp; omega
    simp only [List.length_cons] at h1
    refine Tot.step (fun k => laws_markStringS.l0.eq_2 ..) (Tot.yes (by omega) ?_)
    rw [wrap_in (x := (a.length : Int) + 1) (by omega) (by omega), wrap_in (x := m + 1) (by omega) (by omega)]
    repeat (first | refine Tot.yes (by omega) ?_ | refine Tot.bind (markText_v m h0 (by omega)) ?_)
    rw [set_app]
    have := markStr_l b (a ++ [mtxt m]) (m + 1) (by omega) (by omega) (by simp at hl h ⊢; omega)
    have e : m + ((x :: b).length : Int) = m + 1 + b.length := by simp; omega
    rw [e]
    simpa [mkStr] using this
theorem markStr_v (l : List ByteArray) (m : Int) (h0 : 0 ≤ m) (h1 : m + l.length ≤ 1125899906842624) : Tot (fun k => laws_markStringS.f k l m) (m + l.length, mkStr l m) := by
  have := markStr_l l [] m h0 h1 (by simp; omega)
  unfold laws_markStringS.f
  simpa using this
def blockB (x : Int) : Bool := decide (0 ≤ x ∧ x ≤ 15)
def dataB (s : ByteArray) : Bool := decide ((s.size : Int) = 2)
def layB (x : S94) : Bool := decide (0 ≤ x.f0 ∧ x.f0 ≤ 200) && ((x.f1.all blockB && rising none x.f1) && (decide ((x.f2.length : Int) = x.f1.length) && x.f2.all dataB))
def marksB (l : List S94) : Bool := (l.all layB && rising none (l.map (·.f0))) && decide (1 ≤ (l.length : Int) ∧ (l.length : Int) ≤ 8)
def smallL (l : List S94) : Prop := (l.length : Int) ≤ 1048576 ∧ ∀ x ∈ l, (x.f1.length : Int) ≤ 1048576 ∧ (x.f2.length : Int) ≤ 1048576
theorem specData_l (L : List S94) (n i : Int) (R : Bool) (hR : Tot (fun k => spec_GoodMarks.l0 k L n (wrap64 (i + 1)) L) R) : ∀ (b a : List ByteArray), ((a ++ b).length : Int) ≤ 9223372036850000000 → Tot (fun k => spec_GoodMarks.l1 k L n i (a ++ b) ((a ++ b).length : Int) a.length L) (b.all dataB && R)
  | [], a, h => by
    refine Tot.step (fun k => spec_GoodMarks.l1.eq_2 ..) (Tot.no (by simp) ?_)
    rw [List.all_nil, Bool.true_and]
    exact hR
  | x :: b, a, h => by
    have hl : ((a ++ x :: b).length : Int) = a.length + b.length + 1 := by simp; omega
    refine Tot.step (fun k => spec_GoodMarks.l1.eq_2 ..) (Tot.yes (by omega) (Tot.yes (by omega) (Tot.yes (by omega) ?_)))
    rw [rdStr_at, wrap_in (x := (a.length : Int) + 1) (by omega) (by omega), List.all_cons]
    have e : spec_l7Data.f x = some (dataB x) := by unfold spec_l7Data.f dataB; congr 1
    simp only [e, Option.bind_some]
    by_cases hx : dataB x = true
    · rw [hx, Bool.true_and]
      refine Tot.yes rfl ?_
      have := specData_l L n i R hR b (a ++ [x]) (by simpa using h)
      simpa using this
    · rw [Bool.eq_false_iff.2 hx, Bool.false_and, Bool.false_and]
      exact Tot.no (by decide) (Tot.pure _)
theorem rdLay_prev (a b : List S94) (y : S94) : rd_T94 ((a ++ [y]) ++ b) (a.length : Int) = y := by simp [rd_T94, List.getD]
theorem specLay_l : ∀ (b a : List S94), ((a ++ b).length : Int) ≤ 9223372036850000000 → (∀ x ∈ b, (x.f1.length : Int) ≤ 1048576 ∧ (x.f2.length : Int) ≤ 1048576) → Tot (fun k => spec_GoodMarks.l0 k (a ++ b) ((a ++ b).length : Int) a.length (a ++ b)) ((b.all layB && rising (a.getLast?.map (·.f0)) (b.map (·.f0))) && decide (1 ≤ ((a ++ b).length : Int) ∧ ((a ++ b).length : Int) ≤ 8))
  | [], a, h, hs => by
    refine Tot.step (fun k => spec_GoodMarks.l0.eq_2 ..) (Tot.no (by simp) ?_)
    simp only [in_v, Option.bind_some]
    have e : rising (a.getLast?.map (·.f0)) (([] : List S94).map (·.f0)) = true := by cases a.getLast? <;> rfl
    rw [e]
    exact Tot.pure _
  | x :: b, a, h, hs => by
    have hl : ((a ++ x :: b).length : Int) = a.length + b.length + 1 := by simp; omega
    have hx := hs x (by simp)
    have ih := specLay_l b (a ++ [x]) (by simpa using h) (fun y hy => hs y (by simp [hy]))
    rw [List.getLast?_concat] at ih
    have next0 : ∀ bad : Bool, Tot (fun k => spec_GoodMarks.j1 k (a ++ x :: b) ((a ++ x :: b).length : Int) a.length bad (a ++ x :: b) x.f0 x.f1 x.f2) ((!bad && x.f2.all dataB) && ((b.all layB && rising (some x.f0) (b.map (·.f0))) && decide (1 ≤ ((a ++ x :: b).length : Int) ∧ ((a ++ x :: b).length : Int) ≤ 8))) := by
      intro bad
      refine Tot.step (fun k => spec_GoodMarks.j1.eq_2 ..) ?_
      cases bad with
      | true => exact Tot.yes rfl (Tot.pure _)
      | false =>
        refine Tot.no (by decide) ?_
        rw [Bool.not_false, Bool.true_and]
        have := specData_l (a ++ x :: b) ((a ++ x :: b).length : Int) a.length ((b.all layB && rising (some x.f0) (b.map (·.f0))) && decide (1 ≤ ((a ++ x :: b).length : Int) ∧ ((a ++ x :: b).length : Int) ≤ 8)) (by
          rw [wrap_in (x := (a.length : Int) + 1) (by omega) (by omega)]
          simpa using ih) x.f2 [] (by simp; omega)
        simpa using this
    have rest : Tot (fun k => (spec_l1Rising.f k x.f1 0 15).bind fun t133 => (if t133 = true then (spec_GoodMarks.j1 k (a ++ x :: b) ((a ++ x :: b).length : Int) a.length ((x.f2.length : Int) != (x.f1.length : Int)) (a ++ x :: b) x.f0 x.f1 x.f2) else (spec_GoodMarks.j1 k (a ++ x :: b) ((a ++ x :: b).length : Int) a.length true (a ++ x :: b) x.f0 x.f1 x.f2)))
        (((x.f1.all blockB && rising none x.f1) && (decide ((x.f2.length : Int) = x.f1.length) && x.f2.all dataB)) && ((b.all layB && rising (some x.f0) (b.map (·.f0))) && decide (1 ≤ ((a ++ x :: b).length : Int) ∧ ((a ++ x :: b).length : Int) ≤ 8))) := by
      refine Tot.bind (specRising_v x.f1 0 15 (by omega)) ?_
      show Tot _ (((x.f1.all blockB && rising none x.f1) && _) && _)
      cases hq : (x.f1.all blockB && rising none x.f1) with
      | false =>
        have := next0 true
        exact Tot.no (by rw [show (x.f1.all fun x => decide (0 ≤ x ∧ x ≤ 15)) = x.f1.all blockB from rfl, hq]; decide) (by simpa using this)
      | true =>
        have := next0 ((x.f2.length : Int) != (x.f1.length : Int))
        refine Tot.yes (by rw [show (x.f1.all fun x => decide (0 ≤ x ∧ x ≤ 15)) = x.f1.all blockB from rfl, hq]) ?_
        have e : (!((x.f2.length : Int) != (x.f1.length : Int))) = decide ((x.f2.length : Int) = x.f1.length) := by
          by_cases c : (x.f2.length : Int) = x.f1.length
          · rw [decide_eq_true c, c]; simp
          · rw [decide_eq_false c]; simpa using c
        rw [e] at this
        rw [Bool.true_and]
        exact this
    refine Tot.step (fun k => spec_GoodMarks.l0.eq_2 ..) (Tot.yes (by omega) (Tot.yes (by omega) (Tot.yes (by omega) ?_)))
    rw [rdILayer_at]
    simp only [in_v, Option.bind_some]
    have e0 : (x :: b).all layB = (decide (0 ≤ x.f0 ∧ x.f0 ≤ 200) && (((x.f1.all blockB && rising none x.f1) && (decide ((x.f2.length : Int) = x.f1.length) && x.f2.all dataB)) && b.all layB)) := by rw [List.all_cons]; unfold layB; rw [Bool.and_assoc]
    rw [e0, List.map_cons]
    by_cases c1 : 0 ≤ x.f0 ∧ x.f0 ≤ 200
    · rw [decide_eq_true c1, Bool.true_and]
      refine Tot.yes rfl ?_
      rcases List.eq_nil_or_concat a with rfl | ⟨a', y, rfl⟩
      · have e : rising (Option.map (·.f0) (List.getLast? ([] : List S94))) (x.f0 :: b.map (·.f0)) = rising (some x.f0) (b.map (·.f0)) := rfl
        rw [e, Bool.and_assoc, Bool.and_assoc, ← Bool.and_assoc (b.all layB)]
        exact Tot.no (by simp) (by simpa [Bool.and_assoc] using rest)
      · rw [List.concat_eq_append] at *
        have hL : ((a' ++ [y]).length : Int) = a'.length + 1 := by simp
        have hw : wrap64 (((a' ++ [y]).length : Int) - 1) = (a'.length : Int) := (wrap_in (by omega) (by omega)).trans (by omega)
        have e : rising (Option.map (·.f0) (List.getLast? (a' ++ [y]))) (x.f0 :: b.map (·.f0)) = (decide (y.f0 < x.f0) && rising (some x.f0) (b.map (·.f0))) := by rw [List.getLast?_concat]; rfl
        rw [e, hw]
        refine Tot.yes (by omega) (Tot.yes (by omega) (Tot.yes (by omega) ?_))
        rw [rdLay_prev]
        by_cases hy : y.f0 < x.f0
        · rw [decide_eq_true hy, Bool.true_and, Bool.and_assoc, Bool.and_assoc, ← Bool.and_assoc (b.all layB)]
          exact Tot.no (by omega) (by simpa [Bool.and_assoc] using rest)
        · rw [decide_eq_false hy]
          have := next0 true
          exact Tot.yes (by omega) (by simpa using this)
    · rw [decide_eq_false c1]
      have := next0 true
      exact Tot.no (by decide) (by simpa using this)
theorem specMarks_v (l : List S94) (h : smallL l) : Tot (fun k => spec_GoodMarks.f k l) (marksB l) := by
  have h1 := h.1
  have := specLay_l l [] (by simp; omega) h.2
  unfold spec_GoodMarks.f
  simpa [marksB] using this
theorem implLay_v (x : S94) (hx : (x.f1.length : Int) ≤ 1048576 ∧ (x.f2.length : Int) ≤ 1048576) : Tot (fun k => impl_Layer_isGood.f k x.f0 x.f1 x.f2) (layB x) := by
  have e1 : impl_isMark.f x.f0 = some (decide (0 ≤ x.f0 ∧ x.f0 ≤ 200)) := by unfold impl_isMark.f; rw [within_v]; rfl
  have e2 : impl_areAll_int_at_impl_isBlock.f x.f1 = some (x.f1.all blockB) := Open.allO_v fun y _ => by unfold impl_isBlock.f; rw [within_v]; rfl
  have e3 : impl_areAll_string_at_impl_isData.f x.f2 = some (x.f2.all dataB) := Open.allO_v fun y _ => by unfold impl_isData.f dataB; congr 1
  unfold impl_Layer_isGood.f layB
  simp only [e1, e2, e3, Option.bind_some]
  by_cases c1 : 0 ≤ x.f0 ∧ x.f0 ≤ 200
  · rw [decide_eq_true c1, Bool.true_and]
    refine Tot.yes rfl ?_
    cases x.f1.all blockB with
    | false => exact Tot.no (by decide) (Tot.pure _)
    | true =>
      rw [Bool.true_and]
      refine Tot.yes rfl (Tot.bind (implRising_v x.f1 (by omega)) ?_)
      cases rising none x.f1 with
      | false => exact Tot.no (by decide) (Tot.pure _)
      | true =>
        rw [Bool.true_and]
        refine Tot.yes rfl ?_
        by_cases c2 : (x.f2.length : Int) = x.f1.length
        · rw [decide_eq_true c2]; exact Tot.yes c2 (Tot.pure _)
        · rw [decide_eq_false c2]; exact Tot.no c2 (Tot.pure _)
  · rw [decide_eq_false c1]; exact Tot.no (by decide) (Tot.pure _)
theorem implMarks_l (L : List S94) (hL : smallL L) : ∀ (b a : List S94), a ++ b = L → Tot (fun k => impl_GoodMarks.l0 k (a.map (·.f0)) L (L.length : Int) a.length L) (marksB L)
  | [], a, h => by
    have hq := hL.1
    simp only [List.append_nil] at h
    subst h
    refine Tot.step (fun k => impl_GoodMarks.l0.eq_2 ..) (Tot.no (by simp) ?_)
    simp only [within_v, Option.bind_some]
    unfold marksB
    by_cases c : 1 ≤ (a.length : Int) ∧ (a.length : Int) ≤ 8
    · rw [decide_eq_true c, Bool.and_true]
      refine Tot.yes rfl (Tot.bind (allO_tot fun x hx => implLay_v x (hL.2 x hx)) ?_)
      cases a.all layB with
      | false => exact Tot.no (by decide) (Tot.pure _)
      | true => exact Tot.yes rfl (Tot.bind (implRising_v _ (by simp; omega)) (Tot.pure _))
    · rw [decide_eq_false c, Bool.and_false]; exact Tot.no (by decide) (Tot.pure _)
  | x :: b, a, h => by
    have hq := hL.1
    have hl : (L.length : Int) = a.length + b.length + 1 := by rw [← h]; simp; omega
    refine Tot.step (fun k => impl_GoodMarks.l0.eq_2 ..) (Tot.yes (by omega) (Tot.yes (by omega) (Tot.yes (by omega) (Tot.yes (by simp; omega) ?_))))
    have e : rd_T94 L (a.length : Int) = x := by rw [← h]; exact rdILayer_at ..
    rw [e, wrap_in (x := (a.length : Int) + 1) (by omega) (by omega)]
    have := implMarks_l L hL b (a ++ [x]) (by simpa using h)
    simpa using this
theorem implMarks_v (l : List S94) (h : smallL l) : Tot (fun k => impl_GoodMarks.f k l) (marksB l) := by
  have := implMarks_l l h l [] rfl
  unfold impl_GoodMarks.f
  simpa using this
theorem toMarks_v (l : List S128) (h : (l.length : Int) ≤ 1048576) (hs : ∀ y ∈ l, (y.f1.length : Int) ≤ 1048576 ∧ (y.f2.length : Int) ≤ 1048576) : Tot (fun k => laws_toMarks.f k l) (l.map cvLayer) := by
  unfold laws_toMarks.f
  exact Tot.bind (toLayerS_v l h hs) (Tot.pure _)
theorem eqMarks_v (l : List S94) (h : smallL l) : Tot (fun k => laws_eqMarks.f k l l) true := by
  have h1 := h.1
  unfold laws_eqMarks.f
  exact Tot.bind (eqLayerS_v l (by omega) h.2) (Tot.yes rfl (Tot.pure _))
theorem szMarks_v (l : List S128) (hl : (l.length : Int) ≤ 9223372036850000000) (hs : ∀ x ∈ l, (x.f1.length : Int) ≤ 9223372036850000000 ∧ (x.f2.length : Int) ≤ 9223372036850000000 ∧ ∀ y ∈ x.f2, y.size ≤ 140737488351232) : ∃ v, Tot (fun k => laws_szMarks.f k l 1048576) v ∧ (0 ≤ v → (l.length : Int) ≤ 1048576 ∧ ∀ y ∈ l, (y.f1.length : Int) ≤ 1048576 ∧ (y.f2.length : Int) ≤ 1048576) := by
  obtain ⟨v, hv, hv1, hv2⟩ := szLayerS_v l 1048576 (by omega) (by omega) hl hs
  unfold laws_szMarks.f
  by_cases h : v < 0
  · exact ⟨-1, Tot.bind hv (Tot.yes h (Tot.pure _)), fun h => by omega⟩
  · exact ⟨v, Tot.bind hv (Tot.no h (Tot.pure _)), fun h => hv2 h⟩
theorem smallL_cv {l : List S128} (h : (l.length : Int) ≤ 1048576) (hs : ∀ y ∈ l, (y.f1.length : Int) ≤ 1048576 ∧ (y.f2.length : Int) ≤ 1048576) : smallL (l.map cvLayer) :=
  ⟨by simpa using h, fun y hy => by
    obtain ⟨x, hx, rfl⟩ := List.mem_map.1 hy
    exact hs x hx⟩

def blank : ByteArray := ⟨#[0, 0]⟩
def onL (b : Int) : List Int → List ByteArray → ByteArray → ByteArray
  | q :: r, s :: t, d => onL b r t (if q = b then s else d)
  | _, _, d => d
def onLs (b : Int) : List S94 → ByteArray → ByteArray
  | [], d => d
  | x :: c, d => onLs b c (onL b x.f1 x.f2 d)
def setL : List Int → List ByteArray → List ByteArray → List ByteArray
  | q :: r, s :: t, o => setL r t (o.set q.toNat s)
  | _, _, o => o
def setLs : List S94 → List ByteArray → List ByteArray
  | [], o => o
  | x :: c, o => setLs c (setL x.f1 x.f2 o)
theorem setL_length : ∀ (r : List Int) (t : List ByteArray) (o : List ByteArray), (setL r t o).length = o.length
  | [], _, _ => rfl
  | _ :: _, [], _ => rfl
  | q :: r, s :: t, o => by simp [setL, setL_length r t]
theorem setL_at (b : Int) (hb : 0 ≤ b ∧ b ≤ 15) : ∀ (r : List Int) (t : List ByteArray) (o : List ByteArray), (∀ q ∈ r, 0 ≤ q ∧ q ≤ 15) → o.length = 16 → rdOf ByteArray.empty (setL r t o) b = onL b r t (rdOf ByteArray.empty o b)
  | [], _, _, _, _ => rfl
  | _ :: _, [], _, _, _ => rfl
  | q :: r, s :: t, o, hq, ho => by
    have hq0 := hq q (by simp)
    have ih := setL_at b hb r t (o.set q.toNat s) (fun y hy => hq y (by simp [hy])) (by simpa using ho)
    show rdOf ByteArray.empty (setL r t (o.set q.toNat s)) b = onL b r t (if q = b then s else rdOf ByteArray.empty o b)
    rw [ih]
    congr 1
    unfold rdOf
    by_cases h : q = b
    · subst h
      rw [if_pos rfl, List.getD_eq_getElem?_getD, List.getElem?_set_self (by omega)]
      rfl
    · rw [if_neg h, List.getD_eq_getElem?_getD, List.getElem?_set_ne (by omega), ← List.getD_eq_getElem?_getD]
theorem setLs_at (b : Int) (hb : 0 ≤ b ∧ b ≤ 15) : ∀ (c : List S94) (o : List ByteArray), (∀ x ∈ c, ∀ q ∈ x.f1, 0 ≤ q ∧ q ≤ 15) → o.length = 16 → rdOf ByteArray.empty (setLs c o) b = onLs b c (rdOf ByteArray.empty o b)
  | [], _, _, _ => rfl
  | x :: c, o, hq, ho => by
    show rdOf ByteArray.empty (setLs c (setL x.f1 x.f2 o)) b = onLs b c (onL b x.f1 x.f2 (rdOf ByteArray.empty o b))
    rw [setLs_at b hb c (setL x.f1 x.f2 o) (fun y hy => hq y (by simp [hy])) (by rw [setL_length]; exact ho), setL_at b hb x.f1 x.f2 o (hq x (by simp)) ho]
theorem setLs_length : ∀ (c : List S94) (o : List ByteArray), (setLs c o).length = o.length
  | [], _ => rfl
  | x :: c, o => by
    show (setLs c (setL x.f1 x.f2 o)).length = o.length
    rw [setLs_length c, setL_length]
theorem layB_iff {x : S94} (h : layB x = true) : (∀ q ∈ x.f1, 0 ≤ q ∧ q ≤ 15) ∧ x.f2.length = x.f1.length := by
  unfold layB at h
  simp only [Bool.and_eq_true, decide_eq_true_eq, List.all_eq_true] at h
  exact ⟨fun q hq => of_decide_eq_true (h.2.1.1 q hq), by have := h.2.2.1; omega⟩
theorem specAt1 (b n i : Int) (L : List S94) (z : Int) (R : ByteArray) : ∀ (r : List Int) (t : List ByteArray) (p : List Int) (pt : List ByteArray) (d : ByteArray), p.length = pt.length → t.length = r.length → ((p ++ r).length : Int) ≤ 1048576 → Tot (fun k => spec_l7At.l0 k b (onL b r t d) L n (wrap64 (i + 1))) R → Tot (fun k => spec_l7At.l1 k b d L n i (p ++ r) ((p ++ r).length : Int) p.length z (p ++ r) (pt ++ t)) R
  | [], t, p, pt, d, hp, ht, h, hR => by
    refine Tot.step (fun k => spec_l7At.l1.eq_2 ..) (Tot.no (by simp) ?_)
    exact hR
  | q :: r, [], p, pt, d, hp, ht, h, hR => by simp at ht
  | q :: r, s :: t, p, pt, d, hp, ht, h, hR => by
    have hl : ((p ++ q :: r).length : Int) = p.length + r.length + 1 := by simp; omega
    have hl2 : ((pt ++ s :: t).length : Int) = pt.length + t.length + 1 := by simp; omega
    have e2 : rdOf ByteArray.empty (pt ++ s :: t) (p.length : Int) = s := by rw [hp]; exact rdStr_at ..
    refine Tot.step (fun k => spec_l7At.l1.eq_2 ..) (Tot.yes (by omega) (Tot.yes (by omega) (Tot.yes (by omega) ?_)))
    rw [rdInt_at, e2, wrap_in (x := (p.length : Int) + 1) (by omega) (by omega)]
    have ih := specAt1 b n i L z R r t (p ++ [q]) (pt ++ [s]) (if q = b then s else d) (by simp [hp]) (by simpa using ht) (by simpa using h) hR
    by_cases hq : q = b
    · rw [if_pos hq] at ih
      exact Tot.yes hq (Tot.yes (by simp at ht; omega) (by simpa using ih))
    · rw [if_neg hq] at ih
      exact Tot.no hq (by simpa using ih)
theorem specAt0 (b : Int) : ∀ (c a : List S94) (d : ByteArray), ((a ++ c).length : Int) ≤ 1048576 → (∀ x ∈ c, x.f2.length = x.f1.length ∧ (x.f1.length : Int) ≤ 1048576) → Tot (fun k => spec_l7At.l0 k b d (a ++ c) ((a ++ c).length : Int) a.length) (onLs b c d)
  | [], a, d, h, hs => Tot.step (fun k => spec_l7At.l0.eq_2 ..) (Tot.no (by simp) (Tot.pure _))
  | x :: c, a, d, h, hs => by
    have hl : ((a ++ x :: c).length : Int) = a.length + c.length + 1 := by simp; omega
    have hx := hs x (by simp)
    refine Tot.step (fun k => spec_l7At.l0.eq_2 ..) (Tot.yes (by omega) (Tot.yes (by omega) (Tot.yes (by omega) ?_)))
    simp only [rdILayer_at]
    have ih := specAt0 b c (a ++ [x]) (onL b x.f1 x.f2 d) (by simpa using h) (fun y hy => hs y (by simp [hy]))
    have := specAt1 b ((a ++ x :: c).length : Int) a.length (a ++ x :: c) x.f0 (onLs b (x :: c) d) x.f1 x.f2 [] [] d rfl hx.1 (by simpa using hx.2) (by
      rw [wrap_in (x := (a.length : Int) + 1) (by omega) (by omega)]
      simpa [onLs] using ih)
    simpa using this
theorem implAt1 (n i : Int) (L : List S94) (z : Int) (R : List ByteArray) : ∀ (r : List Int) (t : List ByteArray) (p : List Int) (pt : List ByteArray) (o : List ByteArray), p.length = pt.length → t.length = r.length → ((p ++ r).length : Int) ≤ 1048576 → o.length = 16 → (∀ q ∈ r, 0 ≤ q ∧ q ≤ 15) → Tot (fun k => impl_Marks_at.l0 k (setL r t o) L n (wrap64 (i + 1))) R → Tot (fun k => impl_Marks_at.l1 k o L n i (p ++ r) ((p ++ r).length : Int) p.length z (p ++ r) (pt ++ t)) R
  | [], t, p, pt, o, hp, ht, h, ho, hq, hR => by
    refine Tot.step (fun k => impl_Marks_at.l1.eq_2 ..) (Tot.no (by simp) ?_)
    exact hR
  | q :: r, [], p, pt, o, hp, ht, h, ho, hq, hR => by simp at ht
  | q :: r, s :: t, p, pt, o, hp, ht, h, ho, hq, hR => by
    have hl : ((p ++ q :: r).length : Int) = p.length + r.length + 1 := by simp; omega
    have hl2 : ((pt ++ s :: t).length : Int) = pt.length + t.length + 1 := by simp; omega
    have e2 : rdOf ByteArray.empty (pt ++ s :: t) (p.length : Int) = s := by rw [hp]; exact rdStr_at ..
    have hq0 := hq q (by simp)
    refine Tot.step (fun k => impl_Marks_at.l1.eq_2 ..) (Tot.yes (by omega) (Tot.yes (by omega) (Tot.yes (by omega) (Tot.yes (by simp at ht; omega) ?_))))
    rw [rdInt_at, e2, wrap_in (x := (p.length : Int) + 1) (by omega) (by omega)]
    have ih := implAt1 n i L z R r t (p ++ [q]) (pt ++ [s]) (o.set q.toNat s) (by simp [hp]) (by simpa using ht) (by simpa using h) (by simpa using ho) (fun y hy => hq y (by simp [hy])) hR
    exact Tot.yes (by omega) (Tot.yes (by omega) (by simpa using ih))
theorem implAt0 : ∀ (c a : List S94) (o : List ByteArray), ((a ++ c).length : Int) ≤ 1048576 → o.length = 16 → (∀ x ∈ c, (x.f2.length = x.f1.length ∧ (x.f1.length : Int) ≤ 1048576) ∧ ∀ q ∈ x.f1, 0 ≤ q ∧ q ≤ 15) → Tot (fun k => impl_Marks_at.l0 k o (a ++ c) ((a ++ c).length : Int) a.length) (setLs c o)
  | [], a, o, h, ho, hs => Tot.step (fun k => impl_Marks_at.l0.eq_2 ..) (Tot.no (by simp) (Tot.pure _))
  | x :: c, a, o, h, ho, hs => by
    have hl : ((a ++ x :: c).length : Int) = a.length + c.length + 1 := by simp; omega
    have hx := hs x (by simp)
    refine Tot.step (fun k => impl_Marks_at.l0.eq_2 ..) (Tot.yes (by omega) (Tot.yes (by omega) (Tot.yes (by omega) ?_)))
    simp only [rdILayer_at]
    have ih := implAt0 c (a ++ [x]) (setL x.f1 x.f2 o) (by simpa using h) (by rw [setL_length]; exact ho) (fun y hy => hs y (by simp [hy]))
    have := implAt1 ((a ++ x :: c).length : Int) a.length (a ++ x :: c) x.f0 (setLs (x :: c) o) x.f1 x.f2 [] [] o rfl hx.1.1 (by simpa using hx.1.2) ho hx.2 (by
      rw [wrap_in (x := (a.length : Int) + 1) (by omega) (by omega)]
      simpa [setLs] using ih)
    simpa using this
def fnd (L : List S94) (m : Int) : Int := idxOf_Layer (fun x => decide (x.f0 = m)) L
theorem fnd_lt (m : Int) : ∀ L : List S94, -1 ≤ fnd L m ∧ (fnd L m < L.length ∨ fnd L m = -1)
  | [] => ⟨by simp [fnd, idxOf_Layer], .inr rfl⟩
  | x :: l => by
    have ih := fnd_lt m l
    unfold fnd at ih ⊢
    unfold idxOf_Layer
    split
    · exact ⟨by omega, .inl (by rw [List.length_cons]; omega)⟩
    · split
      · exact ⟨by omega, .inr rfl⟩
      · exact ⟨by omega, .inl (by simp; omega)⟩
theorem specFind_l (m : Int) : ∀ (b a : List S94), ((a ++ b).length : Int) ≤ 1048576 → Tot (fun k => spec_l7Find.l0 k m (a ++ b) ((a ++ b).length : Int) a.length) (if fnd b m = -1 then -1 else fnd b m + a.length)
  | [], a, h => by
    refine Tot.step (fun k => spec_l7Find.l0.eq_2 ..) (Tot.no (by simp) ?_)
    rw [show fnd ([] : List S94) m = -1 from rfl, if_pos rfl]
    exact Tot.pure _
  | x :: b, a, h => by
    have hl : ((a ++ x :: b).length : Int) = a.length + b.length + 1 := by simp; omega
    refine Tot.step (fun k => spec_l7Find.l0.eq_2 ..) (Tot.yes (by omega) (Tot.yes (by omega) (Tot.yes (by omega) ?_)))
    rw [rdILayer_at, wrap_in (x := (a.length : Int) + 1) (by omega) (by omega)]
    have hge := (fnd_lt m b).1
    have e : fnd (x :: b) m = if x.f0 = m then 0 else if fnd b m = -1 then -1 else fnd b m + 1 := by unfold fnd; rw [idxOf_Layer]; simp
    by_cases hx : x.f0 = m
    · rw [e, if_pos hx, if_neg (by decide), Int.zero_add]
      exact Tot.yes hx (Tot.pure _)
    · rw [e, if_neg hx]
      refine Tot.no hx ?_
      have ih := specFind_l m b (a ++ [x]) (by simpa using h)
      by_cases h1 : fnd b m = -1
      · rw [if_pos h1] at ih ⊢
        rw [if_pos rfl]
        simpa using ih
      · rw [if_neg h1] at ih ⊢
        rw [if_neg (by omega), show fnd b m + 1 + (a.length : Int) = fnd b m + ((a ++ [x]).length : Int) by simp; omega]
        simpa using ih
theorem specFind_v (L : List S94) (m : Int) (h : (L.length : Int) ≤ 1048576) : Tot (fun k => spec_l7Find.f k L m) (fnd L m) := by
  have := specFind_l m L [] (by simpa using h)
  unfold spec_l7Find.f
  by_cases h1 : fnd L m = -1
  · rw [if_pos h1] at this; rw [h1]; simpa using this
  · rw [if_neg h1] at this; simpa using this
theorem implFind_v (L : List S94) (m : Int) (h : smallL L) : Tot (fun k => impl_Marks_find.f k L m) (fnd L m, decide (0 ≤ fnd L m) && marksB L) := by
  unfold impl_Marks_find.f
  show Tot (fun k => if 0 ≤ fnd L m then ((impl_GoodMarks.f k L).bind fun t => some (fnd L m, t)) else some (fnd L m, false)) _
  by_cases h1 : 0 ≤ fnd L m
  · rw [decide_eq_true h1, Bool.true_and]
    exact Tot.yes h1 (Tot.bind (implMarks_v L h) (Tot.pure _))
  · rw [decide_eq_false h1]
    exact Tot.no h1 (Tot.pure _)
theorem marks_lay {L : List S94} (h : marksB L = true) : ∀ x ∈ L, layB x = true := by
  unfold marksB at h
  simp only [Bool.and_eq_true, List.all_eq_true] at h
  exact h.1.1

theorem markEnd_eq : ∀ (l : List Int) (m : Int), 0 ≤ m → m + l.length ≤ 9223372036854775806 → markEnd l m = m + l.length
  | [], m, _, _ => by simp [markEnd]
  | x :: l, m, h0, h1 => by
    simp only [List.length_cons] at h1
    have e : markEnd (x :: l) m = markEnd l (wrap64 (m + 1)) := rfl
    rw [e, wrap_in (by omega) (by omega), markEnd_eq l (m + 1) (by omega) (by omega)]
    simp
    omega
theorem markLayer_v (n : Nat) (hn : n ≤ 1048576) : ∀ (d i : Nat) (x0 : List S94) (m : Int), i + d = n → x0.length = n → (∀ y ∈ x0, (y.f1.length : Int) ≤ 1048576 ∧ (y.f2.length : Int) ≤ 1048576) → 0 ≤ m → m + 2097153 * d ≤ 1125899906842624 → ∃ r, Tot (fun k => laws_markLayerS.l0 k x0 m i) r ∧ m ≤ r.1
  | 0, i, x0, m, hi, hl, hy, h0, h1 => ⟨(m, x0), Tot.step (fun k => laws_markLayerS.l0.eq_2 ..) (Tot.no (by omega) (Tot.pure _)), by omega⟩
  | d + 1, i, x0, m, hi, hl, hy, h0, h1 => by
    have hm : rd_T94 x0 (i : Int) ∈ x0 := by
      unfold rd_T94
      rw [Int.toNat_natCast, List.getD_eq_getElem?_getD, List.getElem?_eq_getElem (by omega : i < x0.length)]
      exact List.getElem_mem _
    generalize hx : rd_T94 x0 (i : Int) = x at *
    obtain ⟨hb1, hb2⟩ := hy _ hm
    have he := markEnd_eq x.f1 (m + 1) (by omega) (by omega)
    have hi1 := markInt_v x.f1 (m + 1) (by omega)
    rw [he] at hi1
    have hi2 := markStr_v x.f2 (m + 1 + x.f1.length) (by omega) (by omega)
    obtain ⟨r, hr, r1⟩ := markLayer_v n hn d (i + 1) (x0.set i ⟨m, marked x.f1 (m + 1), mkStr x.f2 (m + 1 + x.f1.length)⟩) (m + 1 + x.f1.length + x.f2.length) (by omega) (by simpa using hl) (fun y hy' => by
      rcases List.mem_or_eq_of_mem_set hy' with h | rfl
      · exact hy y h
      · refine ⟨?_, ?_⟩
        · show ((marked _ _).length : Int) ≤ _
          rw [marked_length]; exact hb1
        · show ((mkStr _ _).length : Int) ≤ _
          rw [mkStr_length]; exact hb2) (by omega) (by omega)
    refine ⟨r, Tot.step (fun k => laws_markLayerS.l0.eq_2 ..) (Tot.yes (by omega) (Tot.yes (by omega) ?_)), by omega⟩
    rw [hx, wrap_in (x := m + 1) (by omega) (by omega), wrap_in (x := (i : Int) + 1) (by omega) (by omega)]
    exact Tot.bind hi1 (Tot.bind hi2 (by simpa using hr))
theorem markMarks_v (L : List S94) (h : smallL L) : ∃ r, Tot (fun k => laws_markMarks.f k L 1) r ∧ 0 ≤ r := by
  have h1 := h.1
  obtain ⟨r, hr, r1⟩ := markLayer_v L.length (by omega) L.length 0 L 1 (by omega) rfl h.2 (by omega) (by omega)
  exact ⟨r.1, Tot.bind (g := fun k => laws_markLayerS.f k L 1) hr (Tot.pure _), by omega⟩

theorem specAtF_v (L : List S94) (f b : Int) (h : smallL L) (c : marksB L = true) (h0 : 0 ≤ f) (h1 : f < L.length) : Tot (fun k => spec_l7At.f k L f b) (onLs b (L.take (f + 1).toNat) blank) := by
  have hl := h.1
  unfold spec_l7At.f
  rw [wrap_in (x := f + 1) (by omega) (by omega)]
  refine Tot.yes (by omega) (Tot.yes (by omega) (Tot.some_bind ?_))
  have := specAt0 b (L.take (f + 1).toNat) [] blank (by simp; omega) (fun x hx => by
    have hxL := List.mem_of_mem_take hx
    exact ⟨(layB_iff (marks_lay c x hxL)).2, (h.2 x hxL).1⟩)
  simpa [blank] using this
theorem takeL_in {L : List S94} {f : Int} (h : smallL L) (c : marksB L = true) : ∀ x ∈ L.take (f + 1).toNat, (x.f2.length = x.f1.length ∧ (x.f1.length : Int) ≤ 1048576) ∧ ∀ q ∈ x.f1, 0 ≤ q ∧ q ≤ 15 := fun x hx => by
  have hxL := List.mem_of_mem_take hx
  have hq := layB_iff (marks_lay c x hxL)
  exact ⟨⟨hq.2, (h.2 x hxL).1⟩, hq.1⟩
theorem implAtF_v (L : List S94) (f : Int) (h : smallL L) (c : marksB L = true) (h0 : 0 ≤ f) (h1 : f < L.length) : Tot (fun k => impl_Marks_at.f k L f) (setLs (L.take (f + 1).toNat) (List.replicate 16 blank)) := by
  have hl := h.1
  unfold impl_Marks_at.f
  refine Tot.bind (a := List.replicate 16 blank) (Tot.of_eq fun _ => rfl) ?_
  rw [wrap_in (x := f + 1) (by omega) (by omega)]
  refine Tot.yes (by omega) (Tot.yes (by omega) (Tot.some_bind ?_))
  have := implAt0 (L.take (f + 1).toNat) [] (List.replicate 16 blank) (by simp; omega) (by simp) (takeL_in h c)
  simpa using this
theorem at_same (L : List S94) (f b : Int) (h : smallL L) (c : marksB L = true) (hb : 0 ≤ b ∧ b ≤ 15) : rdOf ByteArray.empty (setLs (L.take (f + 1).toNat) (List.replicate 16 blank)) b = onLs b (L.take (f + 1).toNat) blank := by
  rw [setLs_at b hb _ _ (fun x hxx => (takeL_in h c x hxx).2) (by simp)]
  congr 1
  unfold rdOf
  rw [List.getD_eq_getElem?_getD, List.getElem?_replicate, if_pos (by omega)]
  rfl
/-- Where two tellings differ. -/
def df (g h : Int → ByteArray) : Nat → Nat → List Int
  | 0, _ => []
  | d + 1, x => if (g x).toList = (h x).toList then df g h d (x + 1) else (x : Int) :: df g h d (x + 1)
theorem df_len (g h : Int → ByteArray) : ∀ d x, (df g h d x).length ≤ d
  | 0, x => by simp [df]
  | d + 1, x => by
    have := df_len g h d (x + 1)
    unfold df
    split <;> simp <;> omega
def tellF (L : List S94) (f : Int) (b : Int) : ByteArray := onLs b (L.take (f + 1).toNat) blank
theorem specCh_l0 (L : List S94) (p q : Int) (h : smallL L) (c : marksB L = true) (hp : 0 ≤ p ∧ p < L.length) (hq : 0 ≤ q ∧ q < L.length) : ∀ (d x : Nat) (acc : List Int), x + d = 16 → acc.length ≤ x → Tot (fun k => spec_ChangedIn.l0 k p q acc x L) (acc ++ df (tellF L p) (tellF L q) d x, true)
  | 0, x, acc, hx, ha => by
    refine Tot.step (fun k => spec_ChangedIn.l0.eq_2 ..) (Tot.no (by omega) ?_)
    simpa [df] using Tot.pure (acc, true)
  | d + 1, x, acc, hx, ha => by
    have w1 : wrap64 ((x : Int) + 1) = ((x + 1 : Nat) : Int) := by rw [wrap_in (by omega) (by omega)]; omega
    have e : df (tellF L p) (tellF L q) (d + 1) x = if (tellF L p x).toList = (tellF L q x).toList then df (tellF L p) (tellF L q) d (x + 1) else (x : Int) :: df (tellF L p) (tellF L q) d (x + 1) := rfl
    rw [e]
    refine Tot.step (fun k => spec_ChangedIn.l0.eq_2 ..) (Tot.yes (by omega) (Tot.bind (specAtF_v L p x h c hp.1 hp.2) (Tot.bind (specAtF_v L q x h c hq.1 hq.2) ?_)))
    rw [w1]
    by_cases c2 : (tellF L p x).toList = (tellF L q x).toList
    · rw [if_pos c2]
      exact Tot.yes c2 (specCh_l0 L p q h c hp hq d (x + 1) acc (by omega) (by omega))
    · rw [if_neg c2]
      have ih := specCh_l0 L p q h c hp hq d (x + 1) (acc ++ [(x : Int)]) (by omega) (by simp; omega)
      rw [List.append_assoc, List.singleton_append] at ih
      exact Tot.no c2 (Tot.yes (by omega) ih)
theorem implUn_l0 (a b : List ByteArray) (g h : Int → ByteArray) (ha : a.length = 16) (hb : b.length = 16) (hg : ∀ x : Int, 0 ≤ x ∧ x ≤ 15 → rdOf ByteArray.empty a x = g x) (hh : ∀ x : Int, 0 ≤ x ∧ x ≤ 15 → rdOf ByteArray.empty b x = h x) : ∀ (d x : Nat) (acc : List Int), x + d = 16 → acc.length ≤ x → Tot (fun k => impl_unlike_string.l0 k a b acc (a.length : Int) x) (acc ++ df g h d x)
  | 0, x, acc, hx, hl => by
    refine Tot.step (fun k => impl_unlike_string.l0.eq_2 ..) (Tot.no (by omega) ?_)
    simpa [df] using Tot.pure acc
  | d + 1, x, acc, hx, hl => by
    have w1 : wrap64 ((x : Int) + 1) = ((x + 1 : Nat) : Int) := by rw [wrap_in (by omega) (by omega)]; omega
    have e : df g h (d + 1) x = if (g x).toList = (h x).toList then df g h d (x + 1) else (x : Int) :: df g h d (x + 1) := rfl
    rw [e]
    refine Tot.step (fun k => impl_unlike_string.l0.eq_2 ..) (Tot.yes (by omega) (Tot.yes (by omega) (Tot.yes (by omega) (Tot.yes (by omega) ?_))))
    rw [w1, hg x (by omega), hh x (by omega)]
    by_cases c2 : (g x).toList = (h x).toList
    · rw [if_pos c2]
      exact Tot.yes c2 (implUn_l0 a b g h ha hb hg hh d (x + 1) acc (by omega) (by omega))
    · rw [if_neg c2]
      have ih := implUn_l0 a b g h ha hb hg hh d (x + 1) (acc ++ [(x : Int)]) (by omega) (by simp; omega)
      rw [List.append_assoc, List.singleton_append] at ih
      exact Tot.no c2 (Tot.yes (by omega) ih)
def chR (L : List S94) (a b : Int) : List Int × Bool := if marksB L = true ∧ 0 ≤ fnd L a ∧ 0 ≤ fnd L b then (df (tellF L (fnd L a)) (tellF L (fnd L b)) 16 0, true) else ([], false)
theorem chR_short (L : List S94) (a b : Int) : ((chR L a b).1.length : Int) ≤ 16 := by
  unfold chR
  split
  · have := df_len (tellF L (fnd L a)) (tellF L (fnd L b)) 16 0
    show ((df _ _ 16 0).length : Int) ≤ 16
    omega
  · simp
theorem specChR_v (L : List S94) (a b : Int) (h : smallL L) : Tot (fun k => spec_ChangedIn.f k L a b) (chR L a b) := by
  have h1 := h.1
  have ha := fnd_lt a L
  have hb := fnd_lt b L
  have fin : ¬ (marksB L = true ∧ 0 ≤ fnd L a ∧ 0 ≤ fnd L b) → Tot (fun k => spec_ChangedIn.j0 k a b true L) (chR L a b) := fun c => by
    have e : chR L a b = ([], false) := if_neg c
    rw [e]
    exact Tot.step (fun k => spec_ChangedIn.j0.eq_2 ..) (Tot.yes rfl (Tot.pure _))
  unfold spec_ChangedIn.f
  refine Tot.bind (specMarks_v L h) ?_
  by_cases c1 : marksB L = true
  · refine Tot.yes c1 (Tot.bind (specFind_v L a h1) ?_)
    by_cases c2 : fnd L a < 0
    · exact Tot.yes c2 (fin (fun e => by omega))
    · refine Tot.no c2 (Tot.bind (specFind_v L b h1) ?_)
      by_cases c3 : fnd L b < 0
      · rw [decide_eq_true c3]
        exact fin (fun e => by omega)
      · rw [decide_eq_false c3]
        have e : chR L a b = (df (tellF L (fnd L a)) (tellF L (fnd L b)) 16 0, true) := if_pos ⟨c1, by omega, by omega⟩
        rw [e]
        have := specCh_l0 L (fnd L a) (fnd L b) h c1 (by omega) (by omega) 16 0 [] (by omega) (by simp)
        exact Tot.step (fun k => spec_ChangedIn.j0.eq_2 ..) (Tot.no (by decide) (Tot.bind (specFind_v L a h1) (Tot.bind (specFind_v L b h1) (by simpa using this))))
  · exact Tot.no c1 (fin (fun e => c1 e.1))
theorem implChR_v (L : List S94) (a b : Int) (h : smallL L) : Tot (fun k => impl_ChangedIn.f k L a b) (chR L a b) := by
  have h1 := h.1
  have ha := fnd_lt a L
  have hb := fnd_lt b L
  have fin : ∀ p q : Int, ¬ (marksB L = true ∧ 0 ≤ fnd L a ∧ 0 ≤ fnd L b) → Tot (fun k => impl_ChangedIn.j0 k p q true L) (chR L a b) := fun p q c => by
    have e : chR L a b = ([], false) := if_neg c
    rw [e]
    exact Tot.step (fun k => impl_ChangedIn.j0.eq_2 ..) (Tot.yes rfl (Tot.pure _))
  unfold impl_ChangedIn.f
  refine Tot.bind (implFind_v L a h) (Tot.bind (implFind_v L b h) ?_)
  by_cases c : marksB L = true ∧ 0 ≤ fnd L a ∧ 0 ≤ fnd L b
  · obtain ⟨c1, c2, c3⟩ := c
    have e : chR L a b = (df (tellF L (fnd L a)) (tellF L (fnd L b)) 16 0, true) := if_pos ⟨c1, c2, c3⟩
    rw [e]
    refine Tot.yes (by rw [decide_eq_true c2, c1]; rfl) ?_
    have e2 : (!(decide (0 ≤ fnd L b) && marksB L)) = false := by rw [decide_eq_true c3, c1]; rfl
    dsimp only
    rw [e2]
    refine Tot.step (fun k => impl_ChangedIn.j0.eq_2 ..) (Tot.no (by decide) (Tot.bind (implAtF_v L (fnd L a) h c1 c2 (by omega)) (Tot.bind (implAtF_v L (fnd L b) h c1 c3 (by omega)) ?_)))
    have hu := implUn_l0 (setLs (L.take (fnd L a + 1).toNat) (List.replicate 16 blank)) (setLs (L.take (fnd L b + 1).toNat) (List.replicate 16 blank)) (tellF L (fnd L a)) (tellF L (fnd L b)) (by rw [setLs_length]; simp) (by rw [setLs_length]; simp) (fun x hx => at_same L (fnd L a) x h c1 hx) (fun x hx => at_same L (fnd L b) x h c1 hx) 16 0 [] (by omega) (by simp)
    exact Tot.bind (g := fun k => impl_unlike_string.f k _ _) hu (Tot.pure _)
  · by_cases c2 : (decide (0 ≤ fnd L a) && marksB L) = true
    · refine Tot.yes c2 ?_
      have e2 : (!(decide (0 ≤ fnd L b) && marksB L)) = true := by
        rw [Bool.and_eq_true, decide_eq_true_eq] at c2
        rw [Bool.not_eq_true', Bool.and_eq_false_iff]
        exact Or.inl (decide_eq_false (fun h3 => c ⟨c2.2, c2.1, h3⟩))
      dsimp only
      rw [e2]
      exact fin _ _ c
    · exact Tot.no c2 (fin _ _ c)
theorem FnExactChangedIn : laws_FnExactChangedIn.Pure := by
  intro l a b ⟨hl, hok⟩ _ _
  obtain ⟨v, hv, hv2⟩ := szMarks_v l (by omega) (fun x hx => by have := hok x hx; exact ⟨by have := this.2.1.1; omega, by have := this.2.2.1; omega, this.2.2.2⟩)
  refine Tot.at_ ?_
  unfold laws_FnExactChangedIn.f
  refine Tot.bind hv ?_
  by_cases h0 : v < 0
  · exact Tot.yes h0 (Tot.pure _)
  · obtain ⟨h1, h2⟩ := hv2 (by omega)
    have toV := toMarks_v l h1 h2
    have hs := smallL_cv h1 h2
    generalize l.map cvLayer = L at *
    have sR := specChR_v L a b hs
    have iR := implChR_v L a b hs
    have hr := chR_short L a b
    obtain ⟨mr, hm, hm0⟩ := markMarks_v L hs
    generalize chR L a b = R at *
    obtain ⟨R1, R2⟩ := R
    have hr' : (R1.length : Int) ≤ 16 := hr
    have eR := eqInt_v R1 (by omega)
    have e2 : (R2 != R2) = false := by simp
    have mI := markInt_v R1 1 (by omega)
    have hI := heldInt_v R1 1 (by omega)
    have m0 := markEnd_nonneg R1 1 (by omega) (by omega)
    refine Tot.no h0 (Tot.bind toV (Tot.bind sR (Tot.bind toV (Tot.bind iR (Tot.bind eR (Tot.yes rfl ?_))))))
    dsimp only
    rw [e2]
    refine Tot.step (fun k => laws_FnExactChangedIn.j0.eq_2 ..) (Tot.no (by decide) (Tot.bind toV (Tot.bind (eqMarks_v L hs) (Tot.yes rfl (Tot.bind hm (Tot.no (by omega) (Tot.bind eR (Tot.yes rfl ?_))))))))
    rw [e2]
    refine Tot.step (fun k => laws_FnExactChangedIn.j1.eq_2 ..) (Tot.no (by decide) (Tot.bind mI (Tot.bind hI (Tot.no (by omega) (Tot.yes rfl (Tot.bind toV (Tot.bind iR (Tot.bind eR (Tot.yes rfl ?_)))))))))
    dsimp only
    rw [e2]
    exact Tot.step (fun k => laws_FnExactChangedIn.j2.eq_2 ..) (Tot.no (by decide) (Tot.bind hI (Tot.no (by omega) (Tot.yes rfl (Tot.pure _)))))

end Go.Proofs.Ytleklbmodelehaa.Pure

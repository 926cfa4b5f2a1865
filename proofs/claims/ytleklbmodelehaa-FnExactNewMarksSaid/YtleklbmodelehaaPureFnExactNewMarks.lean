/- The plain law behind FnExactNewMarks: what the two sides compute is the same, for every input. No condition. -/
import Derived.Test.YtleklbmodelehaaPFnExactNewMarksx5
set_option linter.unusedVariables false
set_option linter.unusedSimpArgs false
namespace Go.Proofs.Ytleklbmodelehaa.Pure
open Go.RowKit Go.Proofs.Ytleklbmodelehaa.PFnExactNewMarks Go.Proofs.YtleklbmodelehaaW.PrintWords Go.Proofs.YtleklbmodelehaaW.PrintLast Go.Proofs.YtleklbmodelehaaW.PrintMore

theorem wrap_in {x : Int} (h0 : -9223372036854775808 ≤ x) (h1 : x ≤ 9223372036854775807) : wrap64 x = x := by unfold wrap64; omega
theorem wf_in {x : Int} (h : (Lit.int .i64 x).wf = true) : -9223372036854775808 ≤ x ∧ x ≤ 9223372036854775807 := by
  simp only [Lit.wf, IntKind.min, IntKind.max, IntKind.bits, IntKind.signed, Bool.and_eq_true, decide_eq_true_eq] at h
  exact ⟨by have := h.1; simpa using this, by have := h.2; simpa using this⟩
theorem toList_nil (s : ByteArray) : (s.toList == ([] : List UInt8)) = decide (s.size = 0) := by
  rw [Bool.eq_iff_iff]
  simp only [beq_iff_eq, decide_eq_true_eq, ByteArray.toList_eq]
  constructor
  · intro h
    have h2 : s.data.toList.length = 0 := by rw [h]; rfl
    rw [Array.length_toList] at h2
    exact h2
  · intro h
    have h2 : s.data.toList.length = 0 := by rw [Array.length_toList]; exact h
    exact List.eq_nil_of_length_eq_zero h2

/-- From some number of rounds on the answer is r. -/
def Tot {α : Type} (g : Nat → Option α) (r : α) : Prop := ∃ K, ∀ k, K ≤ k → g k = some r
theorem Tot.at_ {α : Type} {g : Nat → Option α} {r : α} (h : Tot g r) : ∃ k, g k = some r := by
  obtain ⟨K, hK⟩ := h
  exact ⟨K, hK K (Nat.le_refl _)⟩
theorem Tot.pure {α : Type} (r : α) : Tot (fun _ => some r) r := ⟨0, fun _ _ => rfl⟩
theorem Tot.of_eq {α : Type} {g : Nat → Option α} {r : α} (h : ∀ k, g k = some r) : Tot g r := ⟨0, fun k _ => h k⟩
theorem Tot.congr {α : Type} {g g' : Nat → Option α} {r : α} (he : ∀ k, g k = g' k) (h : Tot g' r) : Tot g r := by
  obtain ⟨K, hK⟩ := h
  exact ⟨K, fun k hk => (he k).trans (hK k hk)⟩
theorem Tot.bind {α β : Type} {g : Nat → Option α} {h : Nat → α → Option β} {a : α} {r : β} (hg : Tot g a) (hh : Tot (fun k => h k a) r) : Tot (fun k => (g k).bind (h k)) r := by
  obtain ⟨K, hK⟩ := hg
  obtain ⟨L, hL⟩ := hh
  refine ⟨max K L, fun k hk => ?_⟩
  show (g k).bind (h k) = some r
  rw [hK k (by omega)]
  exact hL k (by omega)
theorem Tot.step {α : Type} {F G : Nat → Option α} {r : α} (hF : ∀ k, F (k + 1) = G k) (h : Tot G r) : Tot F r := by
  obtain ⟨K, hK⟩ := h
  refine ⟨K + 1, fun k hk => ?_⟩
  obtain ⟨m, rfl⟩ : ∃ m, k = m + 1 := ⟨k - 1, by omega⟩
  rw [hF]
  exact hK m (by omega)
theorem Tot.yes {α : Type} {p : Prop} [Decidable p] {g h : Nat → Option α} {r : α} (hp : p) (hg : Tot g r) : Tot (fun k => if p then g k else h k) r := by
  simpa only [if_pos hp] using hg
theorem Tot.no {α : Type} {p : Prop} [Decidable p] {g h : Nat → Option α} {r : α} (hp : ¬ p) (hg : Tot h r) : Tot (fun k => if p then g k else h k) r := by
  simpa only [if_neg hp] using hg
theorem Tot.some_bind {α β : Type} {h : Nat → α → Option β} {a : α} {r : β} (hh : Tot (fun k => h k a) r) : Tot (fun k => (some a).bind (h k)) r := hh

theorem within_v (a b c : Int) : impl_within.f a b c = some (decide (b ≤ a ∧ a ≤ c)) := by
  unfold impl_within.f
  by_cases h : b ≤ a
  · rw [if_pos h]; congr 1; rw [decide_eq_decide]; omega
  · rw [if_neg h]; congr 1; symm; rw [decide_eq_false_iff_not]; omega

theorem allO_tot {α : Type} {f : Nat → α → Option Bool} {p : α → Bool} : ∀ {l : List α}, (∀ x ∈ l, Tot (fun k => f k x) (p x)) → Tot (fun k => Open.allO (f k) l) (l.all p)
  | [], _ => Tot.pure _
  | x :: l, h => by
    show Tot (fun k => (f k x).bind fun b => (Open.allO (f k) l).bind fun c => some (b && c)) ((x :: l).all p)
    rw [List.all_cons]
    exact Tot.bind (h x (by simp)) (Tot.bind (allO_tot fun y hy => h y (by simp [hy])) (Tot.pure _))

theorem rd_at {l : List Int} {i : Int} (h0 : 0 ≤ i) (h1 : i < (l.length : Int)) : rd l i = l[i.toNat]'(by omega) := by
  unfold rd
  rw [List.getD_eq_getElem?_getD, List.getElem?_eq_getElem (by omega : i.toNat < l.length)]
  rfl
theorem eqInt_l (a : List Int) (ha : (a.length : Int) ≤ 9223372036854775806) : ∀ (d : Nat) (i : Int), 0 ≤ i → i + d = a.length → Tot (fun k => laws_eqIntS.l0 k a a i) true
  | 0, i, h0, h => by
    refine Tot.step (fun k => laws_eqIntS.l0.eq_2 ..) ?_
    exact Tot.no (by omega) (Tot.pure _)
  | d + 1, i, h0, h => by
    refine Tot.step (fun k => laws_eqIntS.l0.eq_2 ..) ?_
    refine Tot.yes (by omega) (Tot.yes h0 (Tot.yes (by omega) (Tot.yes rfl ?_)))
    rw [wrap_in (by omega) (by omega)]
    exact eqInt_l a ha d (i + 1) (by omega) (by omega)
theorem eqInt_v (a : List Int) (ha : (a.length : Int) ≤ 9223372036854775806) : Tot (fun k => laws_eqIntS.f k a a) true := by
  unfold laws_eqIntS.f
  exact Tot.yes rfl (eqInt_l a ha a.length 0 (by omega) (by omega))

theorem in_v (a b c : Int) : spec_l1In.f a b c = some (decide (b ≤ a ∧ a ≤ c)) := by
  unfold spec_l1In.f
  by_cases h : a ≥ b
  · rw [if_pos h]; congr 1; rw [decide_eq_decide]; omega
  · rw [if_neg h]; congr 1; symm; rw [decide_eq_false_iff_not]; omega

theorem eqStr_l (a : List ByteArray) (ha : (a.length : Int) ≤ 9223372036854775806) : ∀ (d : Nat) (i : Int), 0 ≤ i → i + d = a.length → Tot (fun k => laws_eqStringS.l0 k a a i) true
  | 0, i, h0, h => by
    refine Tot.step (fun k => laws_eqStringS.l0.eq_2 ..) ?_
    exact Tot.no (by omega) (Tot.pure _)
  | d + 1, i, h0, h => by
    refine Tot.step (fun k => laws_eqStringS.l0.eq_2 ..) ?_
    refine Tot.yes (by omega) (Tot.yes h0 (Tot.yes (by omega) (Tot.yes rfl ?_)))
    rw [wrap_in (by omega) (by omega)]
    exact eqStr_l a ha d (i + 1) (by omega) (by omega)
theorem eqStr_v (a : List ByteArray) (ha : (a.length : Int) ≤ 9223372036854775806) : Tot (fun k => laws_eqStringS.f k a a) true := by
  unfold laws_eqStringS.f
  exact Tot.yes rfl (eqStr_l a ha a.length 0 (by omega) (by omega))
theorem rdILayer_at (a b : List S94) (x : S94) : rd_T94 (a ++ x :: b) (a.length : Int) = x := by simp [rd_T94, List.getD]
theorem eqLayer_v (x : S94) (hs : (x.f1.length : Int) ≤ 1048576 ∧ (x.f2.length : Int) ≤ 1048576) : Tot (fun k => laws_eqLayer.f k x.f0 x.f1 x.f2 x.f0 x.f1 x.f2) true := by
  unfold laws_eqLayer.f
  exact (Tot.yes rfl (Tot.bind (eqInt_v x.f1 (by omega)) (Tot.yes rfl (Tot.bind (eqStr_v x.f2 (by omega)) (Tot.yes rfl (Tot.pure _))))))
theorem eqLayerS_l : ∀ (b a : List S94), ((a ++ b).length : Int) ≤ 9223372036854775806 → (∀ y ∈ b, (y.f1.length : Int) ≤ 1048576 ∧ (y.f2.length : Int) ≤ 1048576) → Tot (fun k => laws_eqLayerS.l0 k (a ++ b) (a ++ b) a.length) true
  | [], a, h, hs => by
    refine Tot.step (fun k => laws_eqLayerS.l0.eq_2 ..) ?_
    simp only [List.append_nil]
    exact Tot.no (by omega) (Tot.pure _)
  | x :: b, a, h, hs => by
    refine Tot.step (fun k => laws_eqLayerS.l0.eq_2 ..) ?_
    have hl : ((a ++ x :: b).length : Int) = a.length + b.length + 1 := by simp; omega
    refine Tot.yes (by omega) (Tot.yes (by omega) (Tot.yes (by omega) ?_))
    rw [rdILayer_at, wrap_in (x := (a.length : Int) + 1) (by omega) (by omega)]
    refine Tot.bind (eqLayer_v x (hs x (by simp))) (Tot.yes rfl ?_)
    have := eqLayerS_l b (a ++ [x]) (by simp at hl h ⊢; omega) (fun y hy => hs y (by simp [hy]))
    simpa using this
theorem eqLayerS_v (l : List S94) (h : (l.length : Int) ≤ 9223372036854775806) (hs : ∀ y ∈ l, (y.f1.length : Int) ≤ 1048576 ∧ (y.f2.length : Int) ≤ 1048576) : Tot (fun k => laws_eqLayerS.f k l l) true := by
  unfold laws_eqLayerS.f
  refine Tot.yes rfl ?_
  have := eqLayerS_l l [] (by simpa using h) hs
  simpa using this
theorem rdStr_at (a b : List ByteArray) (x : ByteArray) : (rdOf ByteArray.empty (a ++ x :: b) (a.length : Int)) = x := by simp [rdOf, List.getD]
def rising : Option Int → List Int → Bool
  | _, [] => true
  | none, x :: r => rising (some x) r
  | some p, x :: r => decide (p < x) && rising (some x) r
theorem rd_ahead (a b : List Int) (x : Int) : rd (a ++ x :: b) (a.length : Int) = x := by simp [rd, List.getD]
theorem rd_prev1 (a b : List Int) (y : Int) : rd ((a ++ [y]) ++ b) (a.length : Int) = y := by simp [rd, List.getD]
theorem implRising_l : ∀ (b a : List Int) (y : Int), ((a ++ y :: b).length : Int) ≤ 9223372036850000000 → Tot (fun k => impl_areRising.l0 k (a ++ y :: b) ((a.length : Int) + 1)) (rising (some y) b)
  | [], a, y, h => Tot.step (fun k => impl_areRising.l0.eq_2 ..) (Tot.no (by simp) (Tot.pure _))
  | x :: b, a, y, h => by
    have hl : ((a ++ y :: x :: b).length : Int) = a.length + b.length + 2 := by simp; omega
    have next := implRising_l b (a ++ [y]) x (by simpa using h)
    have hL : ((a ++ [y]).length : Int) = a.length + 1 := by simp
    have e1 : rd (a ++ y :: x :: b) ((a.length : Int) + 1) = x := by
      rw [← hL, show a ++ y :: x :: b = (a ++ [y]) ++ x :: b by simp]; exact rd_ahead ..
    have e2 : rd (a ++ y :: x :: b) (wrap64 ((a.length : Int) + 1 - 1)) = y := by
      rw [wrap_in (by omega) (by omega), show (a.length : Int) + 1 - 1 = a.length by omega]; exact rd_ahead ..
    refine Tot.step (fun k => impl_areRising.l0.eq_2 ..) (Tot.yes (by omega) (Tot.yes (by omega) ?_))
    rw [e1, e2]
    have hw : wrap64 ((a.length : Int) + 1 - 1) = a.length := (wrap_in (by omega) (by omega)).trans (by omega)
    have hw2 : wrap64 ((a.length : Int) + 1 + 1) = ((a ++ [y]).length : Int) + 1 := (wrap_in (by omega) (by omega)).trans (by omega)
    rw [hw, hw2]
    refine Tot.yes (by omega) (Tot.yes (by omega) ?_)
    have e : rising (some y) (x :: b) = (decide (y < x) && rising (some x) b) := rfl
    rw [e]
    by_cases hy : y < x
    · rw [decide_eq_true hy, Bool.true_and]
      exact Tot.no (by omega) (by simpa using next)
    · rw [decide_eq_false hy]
      exact Tot.yes (by omega) (Tot.pure _)
theorem implRising_v (l : List Int) (h : (l.length : Int) ≤ 9223372036850000000) : Tot (fun k => impl_areRising.f k l) (rising none l) := by
  unfold impl_areRising.f
  cases l with
  | nil => exact Tot.step (fun k => impl_areRising.l0.eq_2 ..) (Tot.no (by decide) (Tot.pure _))
  | cons y b =>
    have := implRising_l b [] y (by simpa using h)
    simpa [rising] using this
def blockB (x : Int) : Bool := decide (0 ≤ x ∧ x ≤ 15)
def dataB (s : ByteArray) : Bool := decide ((s.size : Int) = 2)
def layB (x : S94) : Bool := decide (0 ≤ x.f0 ∧ x.f0 ≤ 200) && ((x.f1.all blockB && rising none x.f1) && (decide ((x.f2.length : Int) = x.f1.length) && x.f2.all dataB))
def marksB (l : List S94) : Bool := (l.all layB && rising none (l.map (·.f0))) && decide (1 ≤ (l.length : Int) ∧ (l.length : Int) ≤ 8)
def smallL (l : List S94) : Prop := (l.length : Int) ≤ 1048576 ∧ ∀ x ∈ l, (x.f1.length : Int) ≤ 1048576 ∧ (x.f2.length : Int) ≤ 1048576
theorem implLay_v (x : S94) (hx : (x.f1.length : Int) ≤ 1048576 ∧ (x.f2.length : Int) ≤ 1048576) : Tot (fun k => impl_Layer_isGood.f k x.f0 x.f1 x.f2) (layB x) := by
  have e1 : impl_isMark.f x.f0 = some (decide (0 ≤ x.f0 ∧ x.f0 ≤ 200)) := by unfold impl_isMark.f; rw [within_v]; rfl
  have e2 : impl_areAll_int_at_impl_isBlock.f x.f1 = some (x.f1.all blockB) := Open.allO_v fun y _ => by unfold impl_isBlock.f; rw [within_v]; rfl
  have e3 : impl_areAll_string_at_impl_isData.f x.f2 = some (x.f2.all dataB) := Open.allO_v fun y _ => by unfold impl_isData.f dataB; congr 1
  unfold impl_Layer_isGood.f layB
  simp only [e1, e2, e3, Option.bind_some]
  by_cases c1 : 0 ≤ x.f0 ∧ x.f0 ≤ 200
  · rw [decide_eq_true c1, Bool.true_and]
    refine Tot.yes rfl ?_
    cases x.f1.all blockB with
    | false => exact Tot.no (by decide) (Tot.pure _)
    | true =>
      rw [Bool.true_and]
      refine Tot.yes rfl (Tot.bind (implRising_v x.f1 (by omega)) ?_)
      cases rising none x.f1 with
      | false => exact Tot.no (by decide) (Tot.pure _)
      | true =>
        rw [Bool.true_and]
        refine Tot.yes rfl ?_
        by_cases c2 : (x.f2.length : Int) = x.f1.length
        · rw [decide_eq_true c2]; exact Tot.yes c2 (Tot.pure _)
        · rw [decide_eq_false c2]; exact Tot.no c2 (Tot.pure _)
  · rw [decide_eq_false c1]; exact Tot.no (by decide) (Tot.pure _)
theorem implMarks_l (L : List S94) (hL : smallL L) : ∀ (b a : List S94), a ++ b = L → Tot (fun k => impl_GoodMarks.l0 k (a.map (·.f0)) L (L.length : Int) a.length L) (marksB L)
  | [], a, h => by
    have hq := hL.1
    simp only [List.append_nil] at h
    subst h
    refine Tot.step (fun k => impl_GoodMarks.l0.eq_2 ..) (Tot.no (by simp) ?_)
    simp only [within_v, Option.bind_some]
    unfold marksB
    by_cases c : 1 ≤ (a.length : Int) ∧ (a.length : Int) ≤ 8
    · rw [decide_eq_true c, Bool.and_true]
      refine Tot.yes rfl (Tot.bind (allO_tot fun x hx => implLay_v x (hL.2 x hx)) ?_)
      cases a.all layB with
      | false => exact Tot.no (by decide) (Tot.pure _)
      | true => exact Tot.yes rfl (Tot.bind (implRising_v _ (by simp; omega)) (Tot.pure _))
    · rw [decide_eq_false c, Bool.and_false]; exact Tot.no (by decide) (Tot.pure _)
  | x :: b, a, h => by
    have hq := hL.1
    have hl : (L.length : Int) = a.length + b.length + 1 := by rw [← h]; simp; omega
    refine Tot.step (fun k => impl_GoodMarks.l0.eq_2 ..) (Tot.yes (by omega) (Tot.yes (by omega) (Tot.yes (by omega) (Tot.yes (by simp; omega) ?_))))
    have e : rd_T94 L (a.length : Int) = x := by rw [← h]; exact rdILayer_at ..
    rw [e, wrap_in (x := (a.length : Int) + 1) (by omega) (by omega)]
    have := implMarks_l L hL b (a ++ [x]) (by simpa using h)
    simpa using this
theorem implMarks_v (l : List S94) (h : smallL l) : Tot (fun k => impl_GoodMarks.f k l) (marksB l) := by
  have := implMarks_l l h l [] rfl
  unfold impl_GoodMarks.f
  simpa using this
theorem eqMarks_v (l : List S94) (h : smallL l) : Tot (fun k => laws_eqMarks.f k l l) true := by
  have h1 := h.1
  unfold laws_eqMarks.f
  exact Tot.bind (eqLayerS_v l (by omega) h.2) (Tot.yes rfl (Tot.pure _))

theorem l1_v (a : Int) : spec_NewMarks.f a = some (nmL a (decide (0 ≤ a ∧ a ≤ 200)), decide (0 ≤ a ∧ a ≤ 200)) := by
  unfold spec_NewMarks.f nmL
  rw [in_v, Option.bind_some]
  by_cases c : 0 ≤ a ∧ a ≤ 200
  · rw [decide_eq_true c]; rfl
  · rw [decide_eq_false c]; rfl
theorem good_v (a : Int) : Tot (fun k => impl_GoodMarks.f k [(⟨a, [], []⟩ : S94)]) (decide (0 ≤ a ∧ a ≤ 200)) := by
  have := implMarks_v [(⟨a, [], []⟩ : S94)] ⟨by simp, fun x hx => by rw [List.mem_singleton.1 hx]; simp⟩
  have e : marksB [(⟨a, [], []⟩ : S94)] = decide (0 ≤ a ∧ a ≤ 200) := by simp [marksB, layB, rising]
  rw [e] at this
  exact this
theorem eq_v (a : Int) (g : Bool) : Tot (fun k => laws_eqMarks.f k (nmL a g) (nmL a g)) true := by
  refine eqMarks_v _ ?_
  unfold nmL
  cases g
  · exact ⟨by simp, fun x hx => by simp at hx⟩
  · exact ⟨by simp, fun x hx => by rw [if_pos rfl] at hx; rw [List.mem_singleton.1 hx]; simp⟩
theorem intN (m : Int) : Tot (fun k => laws_markIntS.f k [] m) (m, []) := by
  unfold laws_markIntS.f
  exact Tot.step (fun k => laws_markIntS.l0.eq_2 ..) (Tot.no (by simp) (Tot.pure _))
theorem strN (m : Int) : Tot (fun k => laws_markStringS.f k [] m) (m, []) := by
  unfold laws_markStringS.f
  exact Tot.step (fun k => laws_markStringS.l0.eq_2 ..) (Tot.no (by simp) (Tot.pure _))
theorem hintN (m : Int) : Tot (fun k => laws_heldIntS.f k [] m) m := by
  unfold laws_heldIntS.f
  exact Tot.step (fun k => laws_heldIntS.l0.eq_2 ..) (Tot.no (by simp) (Tot.pure _))
theorem hstrN (m : Int) : Tot (fun k => laws_heldStringS.f k [] m) m := by
  unfold laws_heldStringS.f
  exact Tot.step (fun k => laws_heldStringS.l0.eq_2 ..) (Tot.no (by simp) (Tot.pure _))
theorem mark_v (a : Int) (g : Bool) : ∃ (q : Int) (l2 : List S94), 0 ≤ q ∧ l2.length = (nmL a g).length ∧ Tot (fun k => laws_markLayerS.f k (nmL a g) 1) (q, l2) ∧ Tot (fun k => laws_heldMarks.f k l2 1) q := by
  cases g with
  | false =>
    refine ⟨1, [], by omega, rfl, ?_, ?_⟩
    · exact Tot.step (fun k => laws_markLayerS.l0.eq_2 ..) (Tot.no (by simp [nmL]) (Tot.pure _))
    · unfold laws_heldMarks.f
      exact Tot.bind (g := fun k => laws_heldLayerS.f k [] 1) (a := 1) (Tot.step (fun k => laws_heldLayerS.l0.eq_2 ..) (Tot.no (by simp) (Tot.pure _))) (Tot.no (by omega) (Tot.pure _))
  | true =>
    have w2 : wrap64 ((1 : Int) + 1) = 2 := by rw [wrap_in (by omega) (by omega)]; rfl
    have w1 : wrap64 ((0 : Int) + 1) = 1 := by rw [wrap_in (by omega) (by omega)]; rfl
    refine ⟨2, [⟨1, [], []⟩], by omega, rfl, ?_, ?_⟩
    · refine Tot.step (F := fun k => laws_markLayerS.l0 k [⟨a, [], []⟩] 1 0) (fun k => laws_markLayerS.l0.eq_2 ..) (Tot.yes (by simp) (Tot.yes (by omega) ?_))
      rw [w2, w1]
      refine Tot.bind (g := fun k => laws_markIntS.f k [] 2) (intN 2) (Tot.bind (g := fun k => laws_markStringS.f k [] 2) (strN 2) ?_)
      exact Tot.step (fun k => laws_markLayerS.l0.eq_2 ..) (Tot.no (by simp) (Tot.pure _))
    · unfold laws_heldMarks.f
      refine Tot.bind (g := fun k => laws_heldLayerS.f k [⟨1, [], []⟩] 1) (a := 2) ?_ (Tot.no (by omega) (Tot.pure _))
      refine Tot.step (F := fun k => laws_heldLayerS.l0 k [⟨1, [], []⟩] 1 0) (fun k => laws_heldLayerS.l0.eq_2 ..) (Tot.yes (by simp) (Tot.yes (by omega) (Tot.yes rfl ?_)))
      rw [w2, w1]
      refine Tot.bind (g := fun k => laws_heldIntS.f k [] 2) (hintN 2) (Tot.no (by omega) (Tot.bind (g := fun k => laws_heldStringS.f k [] 2) (hstrN 2) (Tot.no (by omega) ?_)))
      exact Tot.step (fun k => laws_heldLayerS.l0.eq_2 ..) (Tot.no (by simp) (Tot.pure _))
theorem FnExactNewMarks : laws_FnExactNewMarks.Pure := by
  intro a _
  refine Tot.at_ ?_
  obtain ⟨q, l2, h0, h1, h2, h3⟩ := mark_v a (decide (0 ≤ a ∧ a ≤ 200))
  unfold laws_FnExactNewMarks.f
  simp only [l1_v, Option.bind_some]
  exact Tot.bind (good_v a) (Tot.bind (eq_v a _) (Tot.bind h2 (Tot.bind h3 (Tot.yes ⟨rfl, rfl, by omega, rfl, h1⟩ (Tot.pure _)))))

end Go.Proofs.Ytleklbmodelehaa.Pure

/- The plain law behind FnExactMapOf: what the two sides compute is the same, for every input. No condition. -/
import Derived.Test.YtcoceoplnehmcaaPFnExactMapOfx4
set_option linter.unusedVariables false
set_option linter.unusedSimpArgs false
namespace Go.Proofs.Ytcoceoplnehmcaa.Pure
open Go.RowKit Go.Proofs.Ytcoceoplnehmcaa.PFnExactMapOf Go.Proofs.YtcoceoplnehmcaaW.PrintWords Go.Proofs.YtcoceoplnehmcaaW.PrintLast Go.Proofs.YtcoceoplnehmcaaW.PrintMore

theorem wrap_in {x : Int} (h0 : -9223372036854775808 ≤ x) (h1 : x ≤ 9223372036854775807) : wrap64 x = x := by unfold wrap64; omega
theorem wf_in {x : Int} (h : (Lit.int .i64 x).wf = true) : -9223372036854775808 ≤ x ∧ x ≤ 9223372036854775807 := by
  simp only [Lit.wf, IntKind.min, IntKind.max, IntKind.bits, IntKind.signed, Bool.and_eq_true, decide_eq_true_eq] at h
  exact ⟨by have := h.1; simpa using this, by have := h.2; simpa using this⟩
theorem toList_nil (s : ByteArray) : (s.toList == ([] : List UInt8)) = decide (s.size = 0) := by
  rw [Bool.eq_iff_iff]
  simp only [beq_iff_eq, decide_eq_true_eq, ByteArray.toList_eq]
  constructor
  · intro h
    have h2 : s.data.toList.length = 0 := by rw [h]; rfl
    rw [Array.length_toList] at h2
    exact h2
  · intro h
    have h2 : s.data.toList.length = 0 := by rw [Array.length_toList]; exact h
    exact List.eq_nil_of_length_eq_zero h2

/-- From some number of rounds on the answer is r. -/
def Tot {α : Type} (g : Nat → Option α) (r : α) : Prop := ∃ K, ∀ k, K ≤ k → g k = some r
theorem Tot.at_ {α : Type} {g : Nat → Option α} {r : α} (h : Tot g r) : ∃ k, g k = some r := by
  obtain ⟨K, hK⟩ := h
  exact ⟨K, hK K (Nat.le_refl _)⟩
theorem Tot.pure {α : Type} (r : α) : Tot (fun _ => some r) r := ⟨0, fun _ _ => rfl⟩
theorem Tot.of_eq {α : Type} {g : Nat → Option α} {r : α} (h : ∀ k, g k = some r) : Tot g r := ⟨0, fun k _ => h k⟩
theorem Tot.congr {α : Type} {g g' : Nat → Option α} {r : α} (he : ∀ k, g k = g' k) (h : Tot g' r) : Tot g r := by
  obtain ⟨K, hK⟩ := h
  exact ⟨K, fun k hk => (he k).trans (hK k hk)⟩
theorem Tot.bind {α β : Type} {g : Nat → Option α} {h : Nat → α → Option β} {a : α} {r : β} (hg : Tot g a) (hh : Tot (fun k => h k a) r) : Tot (fun k => (g k).bind (h k)) r := by
  obtain ⟨K, hK⟩ := hg
  obtain ⟨L, hL⟩ := hh
  refine ⟨max K L, fun k hk => ?_⟩
  show (g k).bind (h k) = some r
  rw [hK k (by omega)]
  exact hL k (by omega)
theorem Tot.step {α : Type} {F G : Nat → Option α} {r : α} (hF : ∀ k, F (k + 1) = G k) (h : Tot G r) : Tot F r := by
  obtain ⟨K, hK⟩ := h
  refine ⟨K + 1, fun k hk => ?_⟩
  obtain ⟨m, rfl⟩ : ∃ m, k = m + 1 := ⟨k - 1, by omega⟩
  rw [hF]
  exact hK m (by omega)
theorem Tot.yes {α : Type} {p : Prop} [Decidable p] {g h : Nat → Option α} {r : α} (hp : p) (hg : Tot g r) : Tot (fun k => if p then g k else h k) r := by
  simpa only [if_pos hp] using hg
theorem Tot.no {α : Type} {p : Prop} [Decidable p] {g h : Nat → Option α} {r : α} (hp : ¬ p) (hg : Tot h r) : Tot (fun k => if p then g k else h k) r := by
  simpa only [if_neg hp] using hg
theorem Tot.some_bind {α β : Type} {h : Nat → α → Option β} {a : α} {r : β} (hh : Tot (fun k => h k a) r) : Tot (fun k => (some a).bind (h k)) r := hh

theorem in_v (a b c : Int) : spec_l1In.f a b c = some (decide (b ≤ a ∧ a ≤ c)) := by
  unfold spec_l1In.f
  by_cases h : a ≥ b
  · rw [if_pos h]; congr 1; rw [decide_eq_decide]; omega
  · rw [if_neg h]; congr 1; symm; rw [decide_eq_false_iff_not]; omega

theorem within_v (a b c : Int) : impl_within.f a b c = some (decide (b ≤ a ∧ a ≤ c)) := by
  unfold impl_within.f
  by_cases h : b ≤ a
  · rw [if_pos h]; congr 1; rw [decide_eq_decide]; omega
  · rw [if_neg h]; congr 1; symm; rw [decide_eq_false_iff_not]; omega


theorem all_l (lo hi : Int) : ∀ (b a : List Int), ((a ++ b).length : Int) ≤ 9223372036850000000 → Tot (fun k => spec_l1All.l0 k lo hi (a ++ b) ((a ++ b).length : Int) a.length) (b.all fun x => decide (lo ≤ x ∧ x ≤ hi))
  | [], a, h => by
    refine Tot.step (fun k => spec_l1All.l0.eq_2 ..) ?_
    exact Tot.no (by simp) (Tot.pure _)
  | x :: b, a, h => by
    have hl : ((a ++ x :: b).length : Int) = a.length + b.length + 1 := by simp; omega
    have hr : rd (a ++ x :: b) (a.length : Int) = x := by simp [rd, List.getD]
    refine Tot.step (fun k => spec_l1All.l0.eq_2 ..) (Tot.yes (by omega) (Tot.yes (by omega) (Tot.yes (by omega) ?_)))
    rw [hr, wrap_in (x := (a.length : Int) + 1) (by omega) (by omega)]
    simp only [in_v, Option.bind_some, List.all_cons]
    by_cases hx : lo ≤ x ∧ x ≤ hi
    · rw [decide_eq_true hx, Bool.true_and]
      refine Tot.yes rfl ?_
      have := all_l lo hi b (a ++ [x]) (by simp at hl h ⊢; omega)
      simpa using this
    · rw [decide_eq_false hx, Bool.false_and]
      exact Tot.no (by decide) (Tot.pure _)
theorem all_v (l : List Int) (lo hi : Int) (h : (l.length : Int) ≤ 9223372036850000000) : Tot (fun k => spec_l1All.f k l lo hi) (l.all fun x => decide (lo ≤ x ∧ x ≤ hi)) := by
  have := all_l lo hi l [] (by simpa using h)
  unfold spec_l1All.f
  simpa using this

theorem rd_at {l : List Int} {i : Int} (h0 : 0 ≤ i) (h1 : i < (l.length : Int)) : rd l i = l[i.toNat]'(by omega) := by
  unfold rd
  rw [List.getD_eq_getElem?_getD, List.getElem?_eq_getElem (by omega : i.toNat < l.length)]
  rfl
theorem eqInt_l (a : List Int) (ha : (a.length : Int) ≤ 9223372036854775806) : ∀ (d : Nat) (i : Int), 0 ≤ i → i + d = a.length → Tot (fun k => laws_eqIntS.l0 k a a i) true
  | 0, i, h0, h => by
    refine Tot.step (fun k => laws_eqIntS.l0.eq_2 ..) ?_
    exact Tot.no (by omega) (Tot.pure _)
  | d + 1, i, h0, h => by
    refine Tot.step (fun k => laws_eqIntS.l0.eq_2 ..) ?_
    refine Tot.yes (by omega) (Tot.yes h0 (Tot.yes (by omega) (Tot.yes rfl ?_)))
    rw [wrap_in (by omega) (by omega)]
    exact eqInt_l a ha d (i + 1) (by omega) (by omega)
theorem eqInt_v (a : List Int) (ha : (a.length : Int) ≤ 9223372036854775806) : Tot (fun k => laws_eqIntS.f k a a) true := by
  unfold laws_eqIntS.f
  exact Tot.yes rfl (eqInt_l a ha a.length 0 (by omega) (by omega))

/-- m, m + 1, .. in the place of what stands from i on. -/
def marked : List Int → Int → List Int
  | [], _ => []
  | _ :: l, m => m :: marked l (wrap64 (m + 1))
def markEnd : List Int → Int → Int
  | [], m => m
  | _ :: l, m => markEnd l (wrap64 (m + 1))
theorem marked_length : ∀ (l : List Int) (m : Int), (marked l m).length = l.length
  | [], _ => rfl
  | _ :: l, m => by simp [marked, marked_length l]
theorem markEnd_marked : ∀ (l : List Int) (m : Int), markEnd (marked l m) m = markEnd l m
  | [], _ => rfl
  | _ :: l, m => markEnd_marked l _
theorem markInt_l : ∀ (b a : List Int) (m : Int), ((a ++ b).length : Int) ≤ 9223372036854775806 → Tot (fun k => laws_markIntS.l0 k (a ++ b) m a.length) (markEnd b m, a ++ marked b m)
  | [], a, m, h => by
    refine Tot.step (fun k => laws_markIntS.l0.eq_2 ..) ?_
    simp only [List.append_nil, marked, markEnd]
    exact Tot.no (by omega) (Tot.pure _)
  | x :: b, a, m, h => by
    refine Tot.step (fun k => laws_markIntS.l0.eq_2 ..) ?_
    have hl : ((a ++ x :: b).length : Int) = a.length + b.length + 1 := by simp; omega
    refine Tot.yes (by omega) (Tot.yes (by omega) ?_)
    have e : (a ++ x :: b).set ((a.length : Int)).toNat m = (a ++ [m]) ++ b := by simp
    rw [e, wrap_in (x := (a.length : Int) + 1) (by omega) (by omega)]
    have := markInt_l b (a ++ [m]) (wrap64 (m + 1)) (by simp at hl h ⊢; omega)
    simpa [marked, markEnd] using this
theorem markInt_v (a : List Int) (m : Int) (ha : (a.length : Int) ≤ 9223372036854775806) : Tot (fun k => laws_markIntS.f k a m) (markEnd a m, marked a m) := by
  have := markInt_l a [] m (by simpa using ha)
  unfold laws_markIntS.f
  simpa using this
theorem markEnd_nonneg : ∀ (l : List Int) (m : Int), 0 ≤ m → m + l.length ≤ 9223372036854775806 → 0 ≤ markEnd l m
  | [], m, h, _ => h
  | _ :: l, m, h, h2 => by
    simp at h2
    unfold markEnd
    rw [wrap_in (by omega) (by omega)]
    exact markEnd_nonneg l _ (by omega) (by omega)

theorem set_app {α : Type} (a b : List α) (x y : α) : (a ++ x :: b).set ((a.length : Int)).toNat y = a ++ y :: b := by simp

theorem rdIStretch_at (a b : List S47) (x : S47) : rd_T47 (a ++ x :: b) (a.length : Int) = x := by simp [rd_T47, List.getD]
theorem rdInt_at (a b : List Int) (x : Int) : (rd (a ++ x :: b) (a.length : Int)) = x := by simp [rd, List.getD]
theorem toInt_l : ∀ (b a : List Int), ((a ++ b).length : Int) ≤ 9223372036854775806 → Tot (fun k => laws_toIntS.l0 k (a ++ b) (a ++ List.replicate b.length 0) a.length) (a ++ b)
  | [], a, h => by
    refine Tot.step (fun k => laws_toIntS.l0.eq_2 ..) ?_
    simp only [List.append_nil, List.length_nil, List.replicate_zero]
    exact Tot.no (by omega) (Tot.pure _)
  | x :: b, a, h => by
    refine Tot.step (fun k => laws_toIntS.l0.eq_2 ..) ?_
    have hl : ((a ++ x :: b).length : Int) = a.length + b.length + 1 := by simp; omega
    have hl2 : ((a ++ List.replicate (x :: b).length 0).length : Int) = a.length + b.length + 1 := by simp; omega
    refine Tot.yes (by omega) (Tot.yes (by omega) (Tot.yes (by omega) ?_))
    rw [rdInt_at, wrap_in (x := (a.length : Int) + 1) (by omega) (by omega)]
    have e : (a ++ List.replicate (x :: b).length 0).set ((a.length : Int)).toNat x = (a ++ [x]) ++ List.replicate b.length 0 := by simp [List.replicate_succ]
    rw [e]
    have := toInt_l b (a ++ [x]) (by simp at hl h ⊢; omega)
    simpa using this
theorem toInt_v (l : List Int) (h : (l.length : Int) ≤ 1048576) : Tot (fun k => laws_toIntS.f k l) l := by
  unfold laws_toIntS.f
  refine Tot.yes (by omega) (Tot.yes (by omega) ?_)
  have := toInt_l l [] (by simp; omega)
  simpa using this
theorem eqStretch_v (x : S47) (hs : True) : Tot (fun (_ : Nat) => laws_eqStretch.f x.f0 x.f1 x.f2 x.f0 x.f1 x.f2) true := Tot.of_eq fun _ => by simp [laws_eqStretch.f]
theorem eqStretchS_l : ∀ (b a : List S47), ((a ++ b).length : Int) ≤ 9223372036854775806 → (∀ y ∈ b, True) → Tot (fun k => laws_eqStretchS.l0 k (a ++ b) (a ++ b) a.length) true
  | [], a, h, hs => by
    refine Tot.step (fun k => laws_eqStretchS.l0.eq_2 ..) ?_
    simp only [List.append_nil]
    exact Tot.no (by omega) (Tot.pure _)
  | x :: b, a, h, hs => by
    refine Tot.step (fun k => laws_eqStretchS.l0.eq_2 ..) ?_
    have hl : ((a ++ x :: b).length : Int) = a.length + b.length + 1 := by simp; omega
    refine Tot.yes (by omega) (Tot.yes (by omega) (Tot.yes (by omega) ?_))
    rw [rdIStretch_at, wrap_in (x := (a.length : Int) + 1) (by omega) (by omega)]
    refine Tot.bind (eqStretch_v x (hs x (by simp))) (Tot.yes rfl ?_)
    have := eqStretchS_l b (a ++ [x]) (by simp at hl h ⊢; omega) (fun y hy => hs y (by simp [hy]))
    simpa using this
theorem eqStretchS_v (l : List S47) (h : (l.length : Int) ≤ 9223372036854775806) (hs : ∀ y ∈ l, True) : Tot (fun k => laws_eqStretchS.f k l l) true := by
  unfold laws_eqStretchS.f
  refine Tot.yes rfl ?_
  have := eqStretchS_l l [] (by simpa using h) hs
  simpa using this
noncomputable def mkStretch : List S47 → Int → List S47
  | [], _ => []
  | _ :: l, m => ⟨m, (m + 1), (m + 2)⟩ :: mkStretch l (m + 3)
theorem mkStretch_length : ∀ (l : List S47) (m : Int), (mkStretch l m).length = l.length
  | [], _ => rfl
  | _ :: l, m => by simp [mkStretch, mkStretch_length l]
theorem markStretchS_l : ∀ (b a : List S47) (m : Int), 0 ≤ m → m + 3 * b.length ≤ 1125899906842624 → ((a ++ b).length : Int) ≤ 9223372036854775806 → Tot (fun k => laws_markStretchS.l0 k (a ++ b) m a.length) (m + 3 * b.length, a ++ mkStretch b m)
  | [], a, m, h0, h1, h => by
    refine Tot.step (fun k => laws_markStretchS.l0.eq_2 ..) ?_
    simp only [List.append_nil, mkStretch, List.length_nil, Int.natCast_zero, Int.mul_zero, Int.add_zero]
    exact Tot.no (by omega) (Tot.pure _)
  | x :: b, a, m, h0, h1, h => by
    have hl : ((a ++ x :: b).length : Int) = a.length + b.length + 1 := by simp; omega
    simp only [List.length_cons] at h1
    have hw1 : wrap64 (m + 1 + 1) = m + 2 := (wrap_in (by omega) (by omega)).trans (by omega); have hw2 : wrap64 (m + 2 + 1) = m + 3 := (wrap_in (by omega) (by omega)).trans (by omega)
    refine Tot.step (fun k => laws_markStretchS.l0.eq_2 ..) (Tot.yes (by omega) ?_)
    rw [wrap_in (x := (a.length : Int) + 1) (by omega) (by omega)]
    simp only [wrap_in (x := m + 1) (by omega) (by omega), hw1, hw2, rdIStretch_at, set_app]
    refine Tot.yes (by omega) ?_
    refine Tot.some_bind ?_
    try simp only [rdIStretch_at, set_app]
    refine Tot.some_bind ?_
    try simp only [rdIStretch_at, set_app]
    try simp only [rdIStretch_at, set_app]
    have := markStretchS_l b (a ++ [⟨m, (m + 1), (m + 2)⟩]) (m + 3) (by omega) (by omega) (by simp at hl h ⊢; omega)
    have e : m + 3 * ((x :: b).length : Int) = m + 3 + 3 * b.length := by simp; omega
    rw [e]
    simpa [mkStretch] using this
theorem markStretchS_v (l : List S47) (m : Int) (h0 : 0 ≤ m) (h1 : m + 3 * l.length ≤ 1125899906842624) : Tot (fun k => laws_markStretchS.f k l m) (m + 3 * l.length, mkStretch l m) := by
  have := markStretchS_l l [] m h0 h1 (by simp; omega)
  unfold laws_markStretchS.f
  simpa using this
theorem heldStretchS_l : ∀ (b a : List S47) (m : Int), 0 ≤ m → m + 3 * b.length ≤ 1125899906842624 → ((a ++ b).length : Int) ≤ 9223372036854775806 → Tot (fun k => laws_heldStretchS.l0 k (a ++ mkStretch b m) m a.length) (m + 3 * b.length)
  | [], a, m, h0, h1, h => by
    refine Tot.step (fun k => laws_heldStretchS.l0.eq_2 ..) ?_
    simp only [List.append_nil, mkStretch, List.length_nil, Int.natCast_zero, Int.mul_zero, Int.add_zero]
    exact Tot.no (by omega) (Tot.pure _)
  | x :: b, a, m, h0, h1, h => by
    have hl : ((a ++ x :: b).length : Int) = a.length + b.length + 1 := by simp; omega
    have hl2 : ((a ++ mkStretch (x :: b) m).length : Int) = a.length + b.length + 1 := by simp [mkStretch, mkStretch_length]; omega
    simp only [List.length_cons] at h1
    have hw1 : wrap64 (m + 1 + 1) = m + 2 := (wrap_in (by omega) (by omega)).trans (by omega); have hw2 : wrap64 (m + 2 + 1) = m + 3 := (wrap_in (by omega) (by omega)).trans (by omega)
    refine Tot.step (fun k => laws_heldStretchS.l0.eq_2 ..) (Tot.yes (by omega) (Tot.yes (by omega) ?_))
    rw [wrap_in (x := (a.length : Int) + 1) (by omega) (by omega)]
    simp only [mkStretch, wrap_in (x := m + 1) (by omega) (by omega), hw1, hw2, rdIStretch_at]
    refine Tot.yes (by first | rfl | trivial) ?_
    refine Tot.yes (by first | rfl | trivial) ?_
    refine Tot.yes (by first | rfl | trivial) ?_
    have := heldStretchS_l b (a ++ [⟨m, (m + 1), (m + 2)⟩]) (m + 3) (by omega) (by omega) (by simp at hl h ⊢; omega)
    have e : m + 3 * ((x :: b).length : Int) = m + 3 + 3 * b.length := by simp; omega
    rw [e]
    simpa [mkStretch] using this
theorem heldStretchS_v (l : List S47) (m : Int) (h0 : 0 ≤ m) (h1 : m + 3 * l.length ≤ 1125899906842624) : Tot (fun k => laws_heldStretchS.f k (mkStretch l m) m) (m + 3 * l.length) := by
  have := heldStretchS_l l [] m h0 h1 (by simp; omega)
  unfold laws_heldStretchS.f
  simpa using this
/-- One more block of a map: it lengthens the last stretch, or begins one. -/
def mapStep (out : List S47) (i p : Int) : List S47 :=
  if p < 0 then out else
  match out.getLast? with
  | none => [⟨i, 1, p⟩]
  | some y => if y.f0 + y.f1 = i ∧ y.f2 + y.f1 = p then out.dropLast ++ [⟨y.f0, y.f1 + 1, y.f2⟩] else out ++ [⟨i, 1, p⟩]
def mapAll : List Int → Int → List S47 → List S47
  | [], _, out => out
  | p :: r, i, out => mapAll r (i + 1) (mapStep out i p)
/-- What holds of the stretches so far. -/
def mapInv (out : List S47) (i : Int) : Prop := (out.length : Int) ≤ i ∧ ∀ y ∈ out, 0 ≤ y.f0 ∧ y.f0 ≤ 1000000 ∧ 0 ≤ y.f1 ∧ y.f1 ≤ i ∧ 0 ≤ y.f2 ∧ y.f2 ≤ 1000000
theorem mapInv_step {out : List S47} {i p : Int} (h : mapInv out i) (h0 : 0 ≤ i) (h1 : i ≤ 1000000) (hp : p ≤ 1000000) : mapInv (mapStep out i p) (i + 1) := by
  have mono : ∀ y ∈ out, 0 ≤ y.f0 ∧ y.f0 ≤ 1000000 ∧ 0 ≤ y.f1 ∧ y.f1 ≤ i + 1 ∧ 0 ≤ y.f2 ∧ y.f2 ≤ 1000000 := fun y hy => by have := h.2 y hy; omega
  unfold mapStep
  split
  · exact ⟨by have := h.1; omega, mono⟩
  · rename_i hp0
    split
    · exact ⟨by simp; omega, fun y hy => by rw [List.mem_singleton.1 hy]; show 0 ≤ i ∧ i ≤ 1000000 ∧ (0 : Int) ≤ 1 ∧ 1 ≤ i + 1 ∧ 0 ≤ p ∧ p ≤ 1000000; omega⟩
    · rename_i y hy
      have hm := List.mem_of_getLast? hy
      have hyb := h.2 y hm
      have hl := h.1
      split
      · refine ⟨by simp; have : out.length ≠ 0 := fun e => by rw [List.eq_nil_of_length_eq_zero e] at hm; simp at hm
                   omega, fun z hz => ?_⟩
        rcases List.mem_append.1 hz with hz | hz
        · exact mono z (List.dropLast_subset _ hz)
        · rw [List.mem_singleton.1 hz]
          show 0 ≤ y.f0 ∧ y.f0 ≤ 1000000 ∧ 0 ≤ y.f1 + 1 ∧ y.f1 + 1 ≤ i + 1 ∧ 0 ≤ y.f2 ∧ y.f2 ≤ 1000000
          omega
      · refine ⟨by simp; omega, fun z hz => ?_⟩
        rcases List.mem_append.1 hz with hz | hz
        · exact mono z hz
        · rw [List.mem_singleton.1 hz]; show 0 ≤ i ∧ i ≤ 1000000 ∧ (0 : Int) ≤ 1 ∧ 1 ≤ i + 1 ∧ 0 ≤ p ∧ p ≤ 1000000; omega
theorem mapInv_all : ∀ (r : List Int) (i : Int) (out : List S47), mapInv out i → 0 ≤ i → i + r.length ≤ 1000000 → (∀ p ∈ r, p ≤ 1000000) → mapInv (mapAll r i out) (i + r.length)
  | [], i, out, h, h0, h1, hp => by simpa [mapAll] using h
  | p :: r, i, out, h, h0, h1, hp => by
    simp only [List.length_cons] at h1
    have := mapInv_all r (i + 1) (mapStep out i p) (mapInv_step h h0 (by omega) (hp p (by simp))) (by omega) (by omega) (fun q hq => hp q (by simp [hq]))
    have e : i + ((p :: r).length : Int) = i + 1 + r.length := by simp; omega
    rw [e]
    exact this
theorem rd_lastS (b : List S47) (y : S47) : rd_T47 (b ++ [y]) (b.length : Int) = y := by simp [rd_T47, List.getD]
theorem set_lastS (b : List S47) (y z : S47) : (b ++ [y]).set ((b.length : Int)).toNat z = b ++ [z] := by simp
theorem specMapAll_l : ∀ (b a : List Int) (out : List S47), mapInv out a.length → ((a ++ b).length : Int) ≤ 1000000 → (∀ p ∈ b, p ≤ 1000000) → Tot (fun k => spec_l4Map.l0 k out (a ++ b) ((a ++ b).length : Int) a.length) (mapAll b a.length out)
  | [], a, out, hi, h, hp => by
    refine Tot.step (fun k => spec_l4Map.l0.eq_2 ..) ?_
    exact Tot.no (by simp) (Tot.pure _)
  | p :: b, a, out, hi, h, hp => by
    have hl : ((a ++ p :: b).length : Int) = a.length + b.length + 1 := by simp; omega
    have hr : rd (a ++ p :: b) (a.length : Int) = p := by simp [rd, List.getD]
    have hpp := hp p (by simp)
    have next : Tot (fun k => spec_l4Map.l0 k (mapStep out a.length p) (a ++ p :: b) ((a ++ p :: b).length : Int) ((a.length : Int) + 1)) (mapAll (p :: b) a.length out) := by
      have hi2 := mapInv_step hi (by omega) (by omega) hpp
      have := specMapAll_l b (a ++ [p]) (mapStep out a.length p) (by simpa using hi2) (by simpa using h) (fun q hq => hp q (by simp [hq]))
      simpa [mapAll] using this
    refine Tot.step (fun k => spec_l4Map.l0.eq_2 ..) (Tot.yes (by omega) (Tot.yes (by omega) (Tot.yes (by omega) ?_)))
    rw [hr, wrap_in (x := (a.length : Int) + 1) (by omega) (by omega)]
    unfold mapStep at next
    by_cases h0 : p < 0
    · rw [if_pos h0] at next
      exact Tot.yes h0 next
    · rw [if_neg h0] at next
      refine Tot.no h0 ?_
      rcases List.eq_nil_or_concat out with rfl | ⟨o, y, rfl⟩
      · exact Tot.no (by simp) (Tot.yes (by simp) next)
      · rw [List.concat_eq_append] at *
        simp only [List.getLast?_append, List.getLast?_singleton, Option.some_or, List.dropLast_concat] at next
        have hol := hi.1
        have hyb := hi.2 y (by simp)
        have hlen : ((o ++ [y]).length : Int) = o.length + 1 := by simp
        have e1 : wrap64 (((o ++ [y]).length : Int) - 1) = (o.length : Int) := (wrap_in (by omega) (by omega)).trans (by omega)
        rw [e1, rd_lastS, wrap_in (x := y.f0 + y.f1) (by omega) (by omega), wrap_in (x := y.f2 + y.f1) (by omega) (by omega), wrap_in (x := y.f1 + 1) (by omega) (by omega), set_lastS]
        refine Tot.yes (by omega) (Tot.yes (by omega) (Tot.yes (by omega) ?_))
        by_cases c1 : y.f0 + y.f1 = a.length
        · refine Tot.yes c1 ?_
          by_cases c2 : y.f2 + y.f1 = p
          · rw [if_pos ⟨c1, c2⟩] at next
            exact Tot.yes c2 next
          · rw [if_neg (fun e => c2 e.2)] at next
            exact Tot.no c2 (Tot.yes (by omega) next)
        · rw [if_neg (fun e => c1 e.1)] at next
          exact Tot.no c1 (Tot.yes (by omega) next)
theorem specMapAll_v (l : List Int) (h : (l.length : Int) ≤ 1000000) (hp : ∀ p ∈ l, p ≤ 1000000) : Tot (fun k => spec_l4Map.f k l) (mapAll l 0 []) := by
  have := specMapAll_l l [] [] ⟨by simp, fun y hy => by simp at hy⟩ (by simpa using h) hp
  unfold spec_l4Map.f
  simpa using this

theorem implMapAll_l : ∀ (b a : List Int) (out : List S47), mapInv out a.length → ((a ++ b).length : Int) ≤ 1000000 → (∀ p ∈ b, -1 ≤ p ∧ p ≤ 1000000) → Tot (fun k => impl_mapOf.l0 k out (a ++ b) ((a ++ b).length : Int) a.length) (mapAll b a.length out)
  | [], a, out, hi, h, hp => by
    refine Tot.step (fun k => impl_mapOf.l0.eq_2 ..) ?_
    exact Tot.no (by simp) (Tot.pure _)
  | p :: b, a, out, hi, h, hp => by
    have hl : ((a ++ p :: b).length : Int) = a.length + b.length + 1 := by simp; omega
    have hr : rd (a ++ p :: b) (a.length : Int) = p := by simp [rd, List.getD]
    have hpp := hp p (by simp)
    have next : Tot (fun k => impl_mapOf.l0 k (mapStep out a.length p) (a ++ p :: b) ((a ++ p :: b).length : Int) ((a.length : Int) + 1)) (mapAll (p :: b) a.length out) := by
      have hi2 := mapInv_step hi (by omega) (by omega) hpp.2
      have := implMapAll_l b (a ++ [p]) (mapStep out a.length p) (by simpa using hi2) (by simpa using h) (fun q hq => hp q (by simp [hq]))
      simpa [mapAll] using this
    refine Tot.step (fun k => impl_mapOf.l0.eq_2 ..) (Tot.yes (by omega) (Tot.yes (by omega) (Tot.yes (by omega) ?_)))
    rw [hr, wrap_in (x := (a.length : Int) + 1) (by omega) (by omega)]
    unfold mapStep at next
    by_cases h0 : p = -1
    · rw [if_pos (by omega)] at next
      exact Tot.yes h0 next
    · rw [if_neg (by omega)] at next
      refine Tot.no h0 ?_
      rcases List.eq_nil_or_concat out with rfl | ⟨o, y, rfl⟩
      · have e0 : wrap64 (((([] : List S47)).length : Int) - 1) = -1 := (wrap_in (by simp) (by simp)).trans (by simp)
        exact Tot.no (by rw [e0]; decide) (Tot.yes (by simp) next)
      · rw [List.concat_eq_append] at *
        simp only [List.getLast?_append, List.getLast?_singleton, Option.some_or, List.dropLast_concat] at next
        have hol := hi.1
        have hyb := hi.2 y (by simp)
        have hlen : ((o ++ [y]).length : Int) = o.length + 1 := by simp
        have e1 : wrap64 (((o ++ [y]).length : Int) - 1) = (o.length : Int) := (wrap_in (by omega) (by omega)).trans (by omega)
        rw [e1, rd_lastS, wrap_in (x := y.f0 + y.f1) (by omega) (by omega), wrap_in (x := y.f2 + y.f1) (by omega) (by omega), wrap_in (x := y.f1 + 1) (by omega) (by omega), set_lastS]
        refine Tot.yes (by omega) (Tot.yes (by omega) (Tot.yes (by omega) ?_))
        by_cases c1 : y.f0 + y.f1 = a.length
        · refine Tot.yes c1 ?_
          by_cases c2 : y.f2 + y.f1 = p
          · rw [if_pos ⟨c1, c2⟩] at next
            exact Tot.yes c2 next
          · rw [if_neg (fun e => c2 e.2)] at next
            exact Tot.no c2 (Tot.yes (by omega) next)
        · rw [if_neg (fun e => c1 e.1)] at next
          exact Tot.no c1 (Tot.yes (by omega) next)
theorem implMapAll_v (l : List Int) (h : (l.length : Int) ≤ 1000000) (hp : ∀ p ∈ l, -1 ≤ p ∧ p ≤ 1000000) : Tot (fun k => impl_mapOf.f k l) (mapAll l 0 []) := by
  have := implMapAll_l l [] [] ⟨by simp, fun y hy => by simp at hy⟩ (by simpa using h) hp
  unfold impl_mapOf.f
  simpa using this

def placeB (x : Int) : Bool := decide (-1 ≤ x ∧ x ≤ 10000)
def mapR (l : List Int) : List S47 × Bool := if (l.length : Int) = 16 ∧ l.all placeB = true then (mapAll l 0 [], true) else ([], false)
theorem areMapOf_v (l : List Int) : impl_areAll_int_at_impl_MapOf_1.f l = some (l.all placeB) :=
  Go.Proofs.Ytcoceoplnehmcaa.Open.allO_v fun x _ => by unfold impl_MapOf_1.f; rw [within_v, Option.bind_some]; rfl
theorem specR_v (l : List Int) (h : (l.length : Int) ≤ 9223372036850000000) : Tot (fun k => spec_MapOf.f k l) (mapR l) := by
  unfold spec_MapOf.f mapR
  by_cases h1 : (l.length : Int) = 16
  · refine Tot.yes h1 (Tot.bind (all_v l (-1) 10000 h) ?_)
    by_cases h2 : l.all placeB = true
    · rw [if_pos ⟨h1, h2⟩]
      refine Tot.yes h2 (Tot.bind (specMapAll_v l (by omega) fun p hp => ?_) (Tot.pure _))
      have := List.all_eq_true.1 h2 p hp
      simp [placeB] at this
      omega
    · rw [if_neg (fun e => h2 e.2)]
      exact Tot.no h2 (Tot.pure _)
  · rw [if_neg (fun e => h1 e.1)]
    exact Tot.no h1 (Tot.pure _)
theorem implR_v (l : List Int) : Tot (fun k => impl_MapOf.f k l) (mapR l) := by
  unfold impl_MapOf.f mapR
  simp only [areMapOf_v, Option.bind_some]
  by_cases h1 : (l.length : Int) = 16
  · refine Tot.yes h1 ?_
    by_cases h2 : l.all placeB = true
    · rw [if_pos ⟨h1, h2⟩]
      refine Tot.yes h2 (Tot.bind (implMapAll_v l (by omega) fun p hp => ?_) (Tot.pure _))
      have := List.all_eq_true.1 h2 p hp
      simp [placeB] at this
      omega
    · rw [if_neg (fun e => h2 e.2)]
      exact Tot.no h2 (Tot.pure _)
  · rw [if_neg (fun e => h1 e.1)]
    exact Tot.no h1 (Tot.pure _)
theorem mapR_short (l : List Int) : ((mapR l).1.length : Int) ≤ 16 := by
  unfold mapR
  split
  · rename_i h
    have h3 : ∀ p ∈ l, p ≤ 1000000 := fun p hp => by
      have := List.all_eq_true.1 h.2 p hp
      simp [placeB] at this
      omega
    have := (mapInv_all l 0 [] ⟨by simp, fun y hy => by simp at hy⟩ (by omega) (by omega) h3).1
    show ((mapAll l 0 []).length : Int) ≤ 16
    omega
  · simp
theorem FnExactMapOf : laws_FnExactMapOf.Pure := by
  intro l _ _ _
  have hsh := mapR_short l
  refine Tot.at_ ?_
  unfold laws_FnExactMapOf.f
  by_cases hz : (l.length : Int) > 1048576
  · exact Tot.yes hz (Tot.pure _)
  · have toV := toInt_v l (by omega)
    have eqS := eqStretchS_v (mapR l).1 (by omega) (fun _ _ => trivial)
    refine Tot.no hz (Tot.bind toV (Tot.bind (specR_v l (by omega)) (Tot.bind toV (Tot.bind (implR_v l) (Tot.bind eqS (Tot.yes rfl ?_))))))
    refine Tot.step (fun k => laws_FnExactMapOf.j0.eq_2 ..) (Tot.no (by simp) ?_)
    refine Tot.bind toV (Tot.bind (eqInt_v l (by omega)) (Tot.yes rfl (Tot.bind (markInt_v l 1 (by omega)) ?_)))
    refine Tot.no (by have := markEnd_nonneg l 1 (by omega) (by omega); omega) (Tot.bind eqS (Tot.yes rfl ?_))
    refine Tot.step (fun k => laws_FnExactMapOf.j1.eq_2 ..) (Tot.no (by simp) ?_)
    refine Tot.bind (markStretchS_v (mapR l).1 1 (by omega) (by omega)) (Tot.bind (heldStretchS_v (mapR l).1 1 (by omega) (by omega)) ?_)
    refine Tot.no (by omega) (Tot.yes rfl (Tot.bind toV (Tot.bind (implR_v l) (Tot.bind eqS (Tot.yes rfl ?_)))))
    refine Tot.step (fun k => laws_FnExactMapOf.j2.eq_2 ..) (Tot.no (by simp) ?_)
    exact Tot.bind (heldStretchS_v (mapR l).1 1 (by omega) (by omega)) (Tot.no (by omega) (Tot.yes rfl (Tot.pure _)))

end Go.Proofs.Ytcoceoplnehmcaa.Pure

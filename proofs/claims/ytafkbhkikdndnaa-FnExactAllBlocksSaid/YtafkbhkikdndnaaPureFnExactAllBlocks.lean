/- The plain law behind FnExactAllBlocks: what the two sides compute is the same, for every input. No condition. -/
import Derived.Test.YtafkbhkikdndnaaPFnExactAllBlocksx8
set_option linter.unusedVariables false
set_option linter.unusedSimpArgs false
namespace Go.Proofs.Ytafkbhkikdndnaa.Pure
open Go.RowKit Go.Proofs.Ytafkbhkikdndnaa.PFnExactAllBlocks Go.Proofs.YtafkbhkikdndnaaW.PrintWords Go.Proofs.YtafkbhkikdndnaaW.PrintLast Go.Proofs.YtafkbhkikdndnaaW.PrintMore

theorem wrap_in {x : Int} (h0 : -9223372036854775808 ≤ x) (h1 : x ≤ 9223372036854775807) : wrap64 x = x := by unfold wrap64; omega
theorem wf_in {x : Int} (h : (Lit.int .i64 x).wf = true) : -9223372036854775808 ≤ x ∧ x ≤ 9223372036854775807 := by
  simp only [Lit.wf, IntKind.min, IntKind.max, IntKind.bits, IntKind.signed, Bool.and_eq_true, decide_eq_true_eq] at h
  exact ⟨by have := h.1; simpa using this, by have := h.2; simpa using this⟩
theorem toList_nil (s : ByteArray) : (s.toList == ([] : List UInt8)) = decide (s.size = 0) := by
  rw [Bool.eq_iff_iff]
  simp only [beq_iff_eq, decide_eq_true_eq, ByteArray.toList_eq]
  constructor
  · intro h
    have h2 : s.data.toList.length = 0 := by rw [h]; rfl
    rw [Array.length_toList] at h2
    exact h2
  · intro h
    have h2 : s.data.toList.length = 0 := by rw [Array.length_toList]; exact h
    exact List.eq_nil_of_length_eq_zero h2

/-- From some number of rounds on the answer is r. -/
def Tot {α : Type} (g : Nat → Option α) (r : α) : Prop := ∃ K, ∀ k, K ≤ k → g k = some r
theorem Tot.at_ {α : Type} {g : Nat → Option α} {r : α} (h : Tot g r) : ∃ k, g k = some r := by
  obtain ⟨K, hK⟩ := h
  exact ⟨K, hK K (Nat.le_refl _)⟩
theorem Tot.pure {α : Type} (r : α) : Tot (fun _ => some r) r := ⟨0, fun _ _ => rfl⟩
theorem Tot.of_eq {α : Type} {g : Nat → Option α} {r : α} (h : ∀ k, g k = some r) : Tot g r := ⟨0, fun k _ => h k⟩
theorem Tot.congr {α : Type} {g g' : Nat → Option α} {r : α} (he : ∀ k, g k = g' k) (h : Tot g' r) : Tot g r := by
  obtain ⟨K, hK⟩ := h
  exact ⟨K, fun k hk => (he k).trans (hK k hk)⟩
theorem Tot.bind {α β : Type} {g : Nat → Option α} {h : Nat → α → Option β} {a : α} {r : β} (hg : Tot g a) (hh : Tot (fun k => h k a) r) : Tot (fun k => (g k).bind (h k)) r := by
  obtain ⟨K, hK⟩ := hg
  obtain ⟨L, hL⟩ := hh
  refine ⟨max K L, fun k hk => ?_⟩
  show (g k).bind (h k) = some r
  rw [hK k (by omega)]
  exact hL k (by omega)
theorem Tot.step {α : Type} {F G : Nat → Option α} {r : α} (hF : ∀ k, F (k + 1) = G k) (h : Tot G r) : Tot F r := by
  obtain ⟨K, hK⟩ := h
  refine ⟨K + 1, fun k hk => ?_⟩
  obtain ⟨m, rfl⟩ : ∃ m, k = m + 1 := ⟨k - 1, by omega⟩
  rw [hF]
  exact hK m (by omega)
theorem Tot.yes {α : Type} {p : Prop} [Decidable p] {g h : Nat → Option α} {r : α} (hp : p) (hg : Tot g r) : Tot (fun k => if p then g k else h k) r := by
  simpa only [if_pos hp] using hg
theorem Tot.no {α : Type} {p : Prop} [Decidable p] {g h : Nat → Option α} {r : α} (hp : ¬ p) (hg : Tot h r) : Tot (fun k => if p then g k else h k) r := by
  simpa only [if_neg hp] using hg
theorem Tot.some_bind {α β : Type} {h : Nat → α → Option β} {a : α} {r : β} (hh : Tot (fun k => h k a) r) : Tot (fun k => (some a).bind (h k)) r := hh

theorem rd_at {l : List Int} {i : Int} (h0 : 0 ≤ i) (h1 : i < (l.length : Int)) : rd l i = l[i.toNat]'(by omega) := by
  unfold rd
  rw [List.getD_eq_getElem?_getD, List.getElem?_eq_getElem (by omega : i.toNat < l.length)]
  rfl
theorem eqInt_l (a : List Int) (ha : (a.length : Int) ≤ 9223372036854775806) : ∀ (d : Nat) (i : Int), 0 ≤ i → i + d = a.length → Tot (fun k => laws_eqIntS.l0 k a a i) true
  | 0, i, h0, h => by
    refine Tot.step (fun k => laws_eqIntS.l0.eq_2 ..) ?_
    exact Tot.no (by omega) (Tot.pure _)
  | d + 1, i, h0, h => by
    refine Tot.step (fun k => laws_eqIntS.l0.eq_2 ..) ?_
    refine Tot.yes (by omega) (Tot.yes h0 (Tot.yes (by omega) (Tot.yes rfl ?_)))
    rw [wrap_in (by omega) (by omega)]
    exact eqInt_l a ha d (i + 1) (by omega) (by omega)
theorem eqInt_v (a : List Int) (ha : (a.length : Int) ≤ 9223372036854775806) : Tot (fun k => laws_eqIntS.f k a a) true := by
  unfold laws_eqIntS.f
  exact Tot.yes rfl (eqInt_l a ha a.length 0 (by omega) (by omega))

theorem in_v (a b c : Int) : spec_l1In.f a b c = some (decide (b ≤ a ∧ a ≤ c)) := by
  unfold spec_l1In.f
  by_cases h : a ≥ b
  · rw [if_pos h]; congr 1; rw [decide_eq_decide]; omega
  · rw [if_neg h]; congr 1; symm; rw [decide_eq_false_iff_not]; omega

theorem all_l (lo hi : Int) : ∀ (b a : List Int), ((a ++ b).length : Int) ≤ 9223372036850000000 → Tot (fun k => spec_l1All.l0 k lo hi (a ++ b) ((a ++ b).length : Int) a.length) (b.all fun x => decide (lo ≤ x ∧ x ≤ hi))
  | [], a, h => by
    refine Tot.step (fun k => spec_l1All.l0.eq_2 ..) ?_
    exact Tot.no (by simp) (Tot.pure _)
  | x :: b, a, h => by
    have hl : ((a ++ x :: b).length : Int) = a.length + b.length + 1 := by simp; omega
    have hr : rd (a ++ x :: b) (a.length : Int) = x := by simp [rd, List.getD]
    refine Tot.step (fun k => spec_l1All.l0.eq_2 ..) (Tot.yes (by omega) (Tot.yes (by omega) (Tot.yes (by omega) ?_)))
    rw [hr, wrap_in (x := (a.length : Int) + 1) (by omega) (by omega)]
    simp only [in_v, Option.bind_some, List.all_cons]
    by_cases hx : lo ≤ x ∧ x ≤ hi
    · rw [decide_eq_true hx, Bool.true_and]
      refine Tot.yes rfl ?_
      have := all_l lo hi b (a ++ [x]) (by simp at hl h ⊢; omega)
      simpa using this
    · rw [decide_eq_false hx, Bool.false_and]
      exact Tot.no (by decide) (Tot.pure _)
theorem all_v (l : List Int) (lo hi : Int) (h : (l.length : Int) ≤ 9223372036850000000) : Tot (fun k => spec_l1All.f k l lo hi) (l.all fun x => decide (lo ≤ x ∧ x ≤ hi)) := by
  have := all_l lo hi l [] (by simpa using h)
  unfold spec_l1All.f
  simpa using this

/-- m, m + 1, .. in the place of what stands from i on. -/
def marked : List Int → Int → List Int
  | [], _ => []
  | _ :: l, m => m :: marked l (wrap64 (m + 1))
def markEnd : List Int → Int → Int
  | [], m => m
  | _ :: l, m => markEnd l (wrap64 (m + 1))
theorem marked_length : ∀ (l : List Int) (m : Int), (marked l m).length = l.length
  | [], _ => rfl
  | _ :: l, m => by simp [marked, marked_length l]
theorem markEnd_marked : ∀ (l : List Int) (m : Int), markEnd (marked l m) m = markEnd l m
  | [], _ => rfl
  | _ :: l, m => markEnd_marked l _
theorem markInt_l : ∀ (b a : List Int) (m : Int), ((a ++ b).length : Int) ≤ 9223372036854775806 → Tot (fun k => laws_markIntS.l0 k (a ++ b) m a.length) (markEnd b m, a ++ marked b m)
  | [], a, m, h => by
    refine Tot.step (fun k => laws_markIntS.l0.eq_2 ..) ?_
    simp only [List.append_nil, marked, markEnd]
    exact Tot.no (by omega) (Tot.pure _)
  | x :: b, a, m, h => by
    refine Tot.step (fun k => laws_markIntS.l0.eq_2 ..) ?_
    have hl : ((a ++ x :: b).length : Int) = a.length + b.length + 1 := by simp; omega
    refine Tot.yes (by omega) (Tot.yes (by omega) ?_)
    have e : (a ++ x :: b).set ((a.length : Int)).toNat m = (a ++ [m]) ++ b := by simp
    rw [e, wrap_in (x := (a.length : Int) + 1) (by omega) (by omega)]
    have := markInt_l b (a ++ [m]) (wrap64 (m + 1)) (by simp at hl h ⊢; omega)
    simpa [marked, markEnd] using this
theorem markInt_v (a : List Int) (m : Int) (ha : (a.length : Int) ≤ 9223372036854775806) : Tot (fun k => laws_markIntS.f k a m) (markEnd a m, marked a m) := by
  have := markInt_l a [] m (by simpa using ha)
  unfold laws_markIntS.f
  simpa using this
theorem markEnd_nonneg : ∀ (l : List Int) (m : Int), 0 ≤ m → m + l.length ≤ 9223372036854775806 → 0 ≤ markEnd l m
  | [], m, h, _ => h
  | _ :: l, m, h, h2 => by
    simp at h2
    unfold markEnd
    rw [wrap_in (by omega) (by omega)]
    exact markEnd_nonneg l _ (by omega) (by omega)

theorem heldInt_l : ∀ (b a : List Int) (m : Int), ((a ++ b).length : Int) ≤ 9223372036854775806 → Tot (fun k => laws_heldIntS.l0 k (a ++ marked b m) m a.length) (markEnd b m)
  | [], a, m, h => by
    refine Tot.step (fun k => laws_heldIntS.l0.eq_2 ..) ?_
    simp only [List.append_nil, marked, markEnd]
    exact Tot.no (by omega) (Tot.pure _)
  | x :: b, a, m, h => by
    refine Tot.step (fun k => laws_heldIntS.l0.eq_2 ..) ?_
    have hl : ((a ++ marked (x :: b) m).length : Int) = a.length + b.length + 1 := by simp [marked, marked_length]; omega
    have h2 : ((a ++ x :: b).length : Int) = a.length + b.length + 1 := by simp; omega
    refine Tot.yes (by omega) (Tot.yes (by omega) (Tot.yes ?_ ?_))
    · rw [rd_at (by omega) (by omega)]
      simp [marked]
    · rw [wrap_in (x := (a.length : Int) + 1) (by omega) (by omega)]
      have := heldInt_l b (a ++ [m]) (wrap64 (m + 1)) (by simp at h2 h ⊢; omega)
      simpa [marked, markEnd] using this
theorem heldInt_v (a : List Int) (m : Int) (ha : (a.length : Int) ≤ 9223372036854775806) : Tot (fun k => laws_heldIntS.f k (marked a m) m) (markEnd a m) := by
  have := heldInt_l a [] m (by simpa using ha)
  unfold laws_heldIntS.f
  simpa using this

def putL : List Int → Int → List Int
  | [], n => [n]
  | x :: r, n => if x < n then x :: putL r n else if x = n then x :: r else n :: x :: r
theorem mem_putL : ∀ (l : List Int) (n x : Int), x ∈ putL l n ↔ x = n ∨ x ∈ l
  | [], n, x => by simp [putL]
  | y :: r, n, x => by
    unfold putL
    by_cases c : y < n
    · rw [if_pos c, List.mem_cons, mem_putL r n x, List.mem_cons]
      constructor
      · rintro (h | h | h) <;> simp [h]
      · rintro (h | h | h) <;> simp [h]
    · rw [if_neg c]
      by_cases c2 : y = n
      · rw [if_pos c2, List.mem_cons]
        subst c2
        constructor
        · intro h; exact Or.inr h
        · rintro (h | h)
          · exact Or.inl h
          · exact h
      · rw [if_neg c2]
        simp only [List.mem_cons]
theorem putL_lt : ∀ (l : List Int) (n : Int), l.Pairwise (· < ·) → (putL l n).Pairwise (· < ·)
  | [], n, _ => by simp [putL]
  | y :: r, n, h => by
    obtain ⟨h1, h2⟩ := List.pairwise_cons.1 h
    unfold putL
    by_cases c : y < n
    · rw [if_pos c]
      refine List.pairwise_cons.2 ⟨fun z hz => ?_, putL_lt r n h2⟩
      rcases (mem_putL r n z).1 hz with rfl | hz
      · exact c
      · exact h1 z hz
    · rw [if_neg c]
      by_cases c2 : y = n
      · rw [if_pos c2]; exact h
      · rw [if_neg c2]
        refine List.pairwise_cons.2 ⟨fun z hz => ?_, h⟩
        rcases List.mem_cons.1 hz with rfl | hz
        · omega
        · have := h1 z hz; omega
theorem putL_len : ∀ (l : List Int) (n : Int), (putL l n).length ≤ l.length + 1
  | [], n => by simp [putL]
  | y :: r, n => by
    unfold putL
    split
    · have := putL_len r n; simp; omega
    · split <;> simp
theorem lt_eq : ∀ {a b : List Int}, a.Pairwise (· < ·) → b.Pairwise (· < ·) → (∀ x, x ∈ a ↔ x ∈ b) → a = b
  | [], [], _, _, _ => rfl
  | [], y :: b, _, _, h => absurd ((h y).2 (by simp)) (by simp)
  | x :: a, [], _, _, h => absurd ((h x).1 (by simp)) (by simp)
  | x :: a, y :: b, ha, hb, h => by
    obtain ⟨a1, a2⟩ := List.pairwise_cons.1 ha
    obtain ⟨b1, b2⟩ := List.pairwise_cons.1 hb
    have e : x = y := by
      rcases List.mem_cons.1 ((h x).1 (by simp)) with e | e
      · exact e
      · rcases List.mem_cons.1 ((h y).2 (by simp)) with e2 | e2
        · exact e2.symm
        · have := a1 y e2
          have := b1 x e
          omega
    subst e
    congr 1
    refine lt_eq a2 b2 fun z => ⟨fun hz => ?_, fun hz => ?_⟩
    · rcases List.mem_cons.1 ((h z).1 (by simp [hz])) with e | e
      · have := a1 z hz; omega
      · exact e
    · rcases List.mem_cons.1 ((h z).2 (by simp [hz])) with e | e
      · have := b1 z hz; omega
      · exact e

theorem set_app {α : Type} (a b : List α) (x y : α) : (a ++ x :: b).set ((a.length : Int)).toNat y = a ++ y :: b := by simp

theorem szInt_v (l : List Int) (m : Int) (h0 : 0 ≤ m) (h1 : m ≤ 1048576) (hl : (l.length : Int) ≤ 9223372036850000000) : ∃ v, laws_szIntS.f l m = some v ∧ v ≤ 1048576 ∧ (0 ≤ v → (l.length : Int) ≤ 1048576) := by
  unfold laws_szIntS.f
  rw [wrap_in (by omega) (by omega)]
  by_cases h : m - (l.length : Int) < 0
  · exact ⟨-1, by rw [if_pos h], by omega, fun h => by omega⟩
  · exact ⟨_, by rw [if_neg h], by omega, fun _ => by omega⟩
theorem rdInt_at (a b : List Int) (x : Int) : (rd (a ++ x :: b) (a.length : Int)) = x := by simp [rd, List.getD]
theorem toInt_l : ∀ (b a : List Int), ((a ++ b).length : Int) ≤ 9223372036854775806 → Tot (fun k => laws_toIntS.l0 k (a ++ b) (a ++ List.replicate b.length 0) a.length) (a ++ b)
  | [], a, h => by
    refine Tot.step (fun k => laws_toIntS.l0.eq_2 ..) ?_
    simp only [List.append_nil, List.length_nil, List.replicate_zero]
    exact Tot.no (by omega) (Tot.pure _)
  | x :: b, a, h => by
    refine Tot.step (fun k => laws_toIntS.l0.eq_2 ..) ?_
    have hl : ((a ++ x :: b).length : Int) = a.length + b.length + 1 := by simp; omega
    have hl2 : ((a ++ List.replicate (x :: b).length 0).length : Int) = a.length + b.length + 1 := by simp; omega
    refine Tot.yes (by omega) (Tot.yes (by omega) (Tot.yes (by omega) ?_))
    rw [rdInt_at, wrap_in (x := (a.length : Int) + 1) (by omega) (by omega)]
    have e : (a ++ List.replicate (x :: b).length 0).set ((a.length : Int)).toNat x = (a ++ [x]) ++ List.replicate b.length 0 := by simp [List.replicate_succ]
    rw [e]
    have := toInt_l b (a ++ [x]) (by simp at hl h ⊢; omega)
    simpa using this
theorem toInt_v (l : List Int) (h : (l.length : Int) ≤ 1048576) : Tot (fun k => laws_toIntS.f k l) l := by
  unfold laws_toIntS.f
  refine Tot.yes (by omega) (Tot.yes (by omega) ?_)
  have := toInt_l l [] (by simp; omega)
  simpa using this
theorem szBool_v (l : List Bool) (m : Int) (h0 : 0 ≤ m) (h1 : m ≤ 1048576) (hl : (l.length : Int) ≤ 9223372036850000000) : ∃ v, laws_szBoolS.f l m = some v ∧ v ≤ 1048576 ∧ (0 ≤ v → (l.length : Int) ≤ 1048576) := by
  unfold laws_szBoolS.f
  rw [wrap_in (by omega) (by omega)]
  by_cases h : m - (l.length : Int) < 0
  · exact ⟨-1, by rw [if_pos h], by omega, fun h => by omega⟩
  · exact ⟨_, by rw [if_neg h], by omega, fun _ => by omega⟩
theorem rdBool_at (a b : List Bool) (x : Bool) : (rdOf false (a ++ x :: b) (a.length : Int)) = x := by simp [rdOf, List.getD]
theorem toBool_l : ∀ (b a : List Bool), ((a ++ b).length : Int) ≤ 9223372036854775806 → Tot (fun k => laws_toBoolS.l0 k (a ++ b) (a ++ List.replicate b.length false) a.length) (a ++ b)
  | [], a, h => by
    refine Tot.step (fun k => laws_toBoolS.l0.eq_2 ..) ?_
    simp only [List.append_nil, List.length_nil, List.replicate_zero]
    exact Tot.no (by omega) (Tot.pure _)
  | x :: b, a, h => by
    refine Tot.step (fun k => laws_toBoolS.l0.eq_2 ..) ?_
    have hl : ((a ++ x :: b).length : Int) = a.length + b.length + 1 := by simp; omega
    have hl2 : ((a ++ List.replicate (x :: b).length false).length : Int) = a.length + b.length + 1 := by simp; omega
    refine Tot.yes (by omega) (Tot.yes (by omega) (Tot.yes (by omega) ?_))
    rw [rdBool_at, wrap_in (x := (a.length : Int) + 1) (by omega) (by omega)]
    have e : (a ++ List.replicate (x :: b).length false).set ((a.length : Int)).toNat x = (a ++ [x]) ++ List.replicate b.length false := by simp [List.replicate_succ]
    rw [e]
    have := toBool_l b (a ++ [x]) (by simp at hl h ⊢; omega)
    simpa using this
theorem toBool_v (l : List Bool) (h : (l.length : Int) ≤ 1048576) : Tot (fun k => laws_toBoolS.f k l) l := by
  unfold laws_toBoolS.f
  refine Tot.yes (by omega) (Tot.yes (by omega) ?_)
  have := toBool_l l [] (by simp; omega)
  simpa using this
theorem eqBool_l (a : List Bool) (ha : (a.length : Int) ≤ 9223372036854775806) : ∀ (d : Nat) (i : Int), 0 ≤ i → i + d = a.length → Tot (fun k => laws_eqBoolS.l0 k a a i) true
  | 0, i, h0, h => by
    refine Tot.step (fun k => laws_eqBoolS.l0.eq_2 ..) ?_
    exact Tot.no (by omega) (Tot.pure _)
  | d + 1, i, h0, h => by
    refine Tot.step (fun k => laws_eqBoolS.l0.eq_2 ..) ?_
    refine Tot.yes (by omega) (Tot.yes h0 (Tot.yes (by omega) (Tot.no (by simp) ?_)))
    rw [wrap_in (by omega) (by omega)]
    exact eqBool_l a ha d (i + 1) (by omega) (by omega)
theorem eqBool_v (a : List Bool) (ha : (a.length : Int) ≤ 9223372036854775806) : Tot (fun k => laws_eqBoolS.f k a a) true := by
  unfold laws_eqBoolS.f
  exact Tot.yes rfl (eqBool_l a ha a.length 0 (by omega) (by omega))
theorem rdLSeg_at (a b : List S134) (x : S134) : rd_T134 (a ++ x :: b) (a.length : Int) = x := by simp [rd_T134, List.getD]
theorem szSeg_v (x : S134) (m : Int) (h0 : 0 ≤ m) (h1 : m ≤ 1048576) (hx : (x.f0.length : Int) ≤ 9223372036850000000) : ∃ v, Tot (fun (_ : Nat) => laws_szSeg.f x.f0 x.f1 m) v ∧ v ≤ 1048576 ∧ (0 ≤ v → (x.f0.length : Int) ≤ 1048576) := by
  unfold laws_szSeg.f
  obtain ⟨v, hv, hv1, hv2⟩ := szInt_v x.f0 m h0 h1 hx
  rw [hv]
  by_cases h : v < 0
  · exact ⟨-1, Tot.some_bind (Tot.yes h (Tot.pure _)), by omega, fun h => by omega⟩
  · exact ⟨v, Tot.some_bind (Tot.no h (Tot.pure _)), hv1, hv2⟩
theorem szSegS_l : ∀ (b a : List S134) (m : Int), 0 ≤ m → m ≤ 1048576 → ((a ++ b).length : Int) ≤ 1048576 → (∀ x ∈ b, (x.f0.length : Int) ≤ 9223372036850000000) → ∃ v, Tot (fun k => laws_szSegS.l0 k (a ++ b) m a.length) v ∧ v ≤ 1048576 ∧ (0 ≤ v → ∀ y ∈ b, (y.f0.length : Int) ≤ 1048576)
  | [], a, m, h0, h1, hl, hs => ⟨m, by
    refine Tot.step (fun k => laws_szSegS.l0.eq_2 ..) ?_
    simp only [List.append_nil]
    exact Tot.no (by omega) (Tot.pure _), h1, fun _ y hy => by simp at hy⟩
  | x :: b, a, m, h0, h1, hl, hs => by
    have hll : ((a ++ x :: b).length : Int) = a.length + b.length + 1 := by simp; omega
    obtain ⟨u, hu, hu1, hu2⟩ := szSeg_v x m h0 h1 (hs x (by simp))
    by_cases hc : u < 0
    · refine ⟨-1, Tot.step (fun k => laws_szSegS.l0.eq_2 ..) (Tot.yes (by omega) (Tot.yes (by omega) ?_)), by omega, fun h => by omega⟩
      rw [rdLSeg_at]
      exact Tot.bind hu (Tot.yes hc (Tot.pure _))
    · obtain ⟨v, hv, hv1, hv2⟩ := szSegS_l b (a ++ [x]) u (by omega) hu1 (by simp at hll hl ⊢; omega) (fun y hy => hs y (by simp [hy]))
      refine ⟨v, Tot.step (fun k => laws_szSegS.l0.eq_2 ..) (Tot.yes (by omega) (Tot.yes (by omega) ?_)), hv1, fun h y hy => ?_⟩
      · rw [rdLSeg_at, wrap_in (x := (a.length : Int) + 1) (by omega) (by omega)]
        exact Tot.bind hu (Tot.no hc (by simpa using hv))
      · rcases List.mem_cons.1 hy with rfl | hy
        · exact hu2 (by omega)
        · exact hv2 h y hy
theorem szSegS_v (l : List S134) (m : Int) (h0 : 0 ≤ m) (h1 : m ≤ 1048576) (hl : (l.length : Int) ≤ 9223372036850000000) (hs : ∀ x ∈ l, (x.f0.length : Int) ≤ 9223372036850000000) : ∃ v, Tot (fun k => laws_szSegS.f k l m) v ∧ v ≤ 1048576 ∧ (0 ≤ v → (l.length : Int) ≤ 1048576 ∧ ∀ y ∈ l, (y.f0.length : Int) ≤ 1048576) := by
  unfold laws_szSegS.f
  rw [wrap_in (by omega) (by omega)]
  by_cases h : m - (l.length : Int) < 0
  · exact ⟨-1, Tot.yes h (Tot.pure _), by omega, fun h => by omega⟩
  · obtain ⟨v, hv, hv1, hv2⟩ := szSegS_l l [] (m - (l.length : Int)) (by omega) (by omega) (by simp; omega) hs
    exact ⟨v, Tot.no h (by simpa using hv), hv1, fun h3 => ⟨by omega, hv2 h3⟩⟩
def cvSeg (x : S134) : S88 := ⟨x.f0, x.f1⟩
theorem toSeg_v (x : S134) (hs : (x.f0.length : Int) ≤ 1048576) : Tot (fun k => laws_toSeg.f k x.f0 x.f1) (x.f0, x.f1) := by
  unfold laws_toSeg.f
  exact (Tot.bind (toInt_v x.f0 (by omega)) (Tot.pure _))
theorem toSegS_l : ∀ (b a : List S134), ((a ++ b).length : Int) ≤ 9223372036854775806 → (∀ y ∈ b, (y.f0.length : Int) ≤ 1048576) → Tot (fun k => laws_toSegS.l0 k (a ++ b) (a.map cvSeg ++ List.replicate b.length z88) a.length) ((a ++ b).map cvSeg)
  | [], a, h, hs => by
    refine Tot.step (fun k => laws_toSegS.l0.eq_2 ..) ?_
    simp only [List.append_nil, List.length_nil, List.replicate_zero]
    exact Tot.no (by omega) (Tot.pure _)
  | x :: b, a, h, hs => by
    refine Tot.step (fun k => laws_toSegS.l0.eq_2 ..) ?_
    have hl : ((a ++ x :: b).length : Int) = a.length + b.length + 1 := by simp; omega
    have hl2 : ((a.map cvSeg ++ List.replicate (x :: b).length z88).length : Int) = a.length + b.length + 1 := by simp; omega
    refine Tot.yes (by omega) (Tot.yes (by omega) ?_)
    rw [rdLSeg_at, wrap_in (x := (a.length : Int) + 1) (by omega) (by omega)]
    refine Tot.bind (toSeg_v x (hs x (by simp))) (Tot.yes (by omega) ?_)
    have e : (a.map cvSeg ++ List.replicate (x :: b).length z88).set ((a.length : Int)).toNat (cvSeg x) = (a ++ [x]).map cvSeg ++ List.replicate b.length z88 := by
      rw [List.length_cons, List.replicate_succ, List.set_append_right _ _ (by simp)]
      simp
    have e2 : (⟨x.f0, x.f1⟩ : S88) = cvSeg x := rfl
    dsimp only
    rw [e2, e]
    have := toSegS_l b (a ++ [x]) (by simp at hl h ⊢; omega) (fun y hy => hs y (by simp [hy]))
    simpa using this
theorem toSegS_v (l : List S134) (h : (l.length : Int) ≤ 1048576) (hs : ∀ y ∈ l, (y.f0.length : Int) ≤ 1048576) : Tot (fun k => laws_toSegS.f k l) (l.map cvSeg) := by
  unfold laws_toSegS.f
  refine Tot.yes (by omega) (Tot.yes (by omega) ?_)
  have := toSegS_l l [] (by simp; omega) hs
  simpa using this
theorem rdISeg_at (a b : List S88) (x : S88) : rd_T88 (a ++ x :: b) (a.length : Int) = x := by simp [rd_T88, List.getD]
theorem eqSeg_v (x : S88) (hs : (x.f0.length : Int) ≤ 1048576) : Tot (fun k => laws_eqSeg.f k x.f0 x.f1 x.f0 x.f1) true := by
  unfold laws_eqSeg.f
  exact (Tot.bind (eqInt_v x.f0 (by omega)) (Tot.yes rfl (Tot.yes rfl (Tot.pure _))))
theorem eqSegS_l : ∀ (b a : List S88), ((a ++ b).length : Int) ≤ 9223372036854775806 → (∀ y ∈ b, (y.f0.length : Int) ≤ 1048576) → Tot (fun k => laws_eqSegS.l0 k (a ++ b) (a ++ b) a.length) true
  | [], a, h, hs => by
    refine Tot.step (fun k => laws_eqSegS.l0.eq_2 ..) ?_
    simp only [List.append_nil]
    exact Tot.no (by omega) (Tot.pure _)
  | x :: b, a, h, hs => by
    refine Tot.step (fun k => laws_eqSegS.l0.eq_2 ..) ?_
    have hl : ((a ++ x :: b).length : Int) = a.length + b.length + 1 := by simp; omega
    refine Tot.yes (by omega) (Tot.yes (by omega) (Tot.yes (by omega) ?_))
    rw [rdISeg_at, wrap_in (x := (a.length : Int) + 1) (by omega) (by omega)]
    refine Tot.bind (eqSeg_v x (hs x (by simp))) (Tot.yes rfl ?_)
    have := eqSegS_l b (a ++ [x]) (by simp at hl h ⊢; omega) (fun y hy => hs y (by simp [hy]))
    simpa using this
theorem eqSegS_v (l : List S88) (h : (l.length : Int) ≤ 9223372036854775806) (hs : ∀ y ∈ l, (y.f0.length : Int) ≤ 1048576) : Tot (fun k => laws_eqSegS.f k l l) true := by
  unfold laws_eqSegS.f
  refine Tot.yes rfl ?_
  have := eqSegS_l l [] (by simpa using h) hs
  simpa using this
noncomputable def mkBool : List Bool → Int → List Bool
  | [], _ => []
  | _ :: l, m => ((Int.tmod m 3) == 0) :: mkBool l (m + 1)
theorem mkBool_length : ∀ (l : List Bool) (m : Int), (mkBool l m).length = l.length
  | [], _ => rfl
  | _ :: l, m => by simp [mkBool, mkBool_length l]
theorem markBool_l : ∀ (b a : List Bool) (m : Int), 0 ≤ m → m + b.length ≤ 1125899906842624 → ((a ++ b).length : Int) ≤ 9223372036854775806 → Tot (fun k => laws_markBoolS.l0 k (a ++ b) m a.length) (m + b.length, a ++ mkBool b m)
  | [], a, m, h0, h1, h => by
    refine Tot.step (fun k => laws_markBoolS.l0.eq_2 ..) ?_
    simp only [List.append_nil, mkBool, List.length_nil, Int.natCast_zero, Int.add_zero]
    exact Tot.no (by omega) (Tot.pure _)
  | x :: b, a, m, h0, h1, h => by
    have hl : ((a ++ x :: b).length : Int) = a.length + b.length + 1 := by simp; omega
    simp only [List.length_cons] at h1
    refine Tot.step (fun k => laws_markBoolS.l0.eq_2 ..) (Tot.yes (by omega) ?_)
    rw [wrap_in (x := (a.length : Int) + 1) (by omega) (by omega), wrap_in (x := m + 1) (by omega) (by omega)]
    repeat (first | refine Tot.yes (by omega) ?_ | refine Tot.bind (markText_v m h0 (by omega)) ?_)
    rw [set_app]
    have := markBool_l b (a ++ [((Int.tmod m 3) == 0)]) (m + 1) (by omega) (by omega) (by simp at hl h ⊢; omega)
    have e : m + ((x :: b).length : Int) = m + 1 + b.length := by simp; omega
    rw [e]
    simpa [mkBool] using this
theorem markBool_v (l : List Bool) (m : Int) (h0 : 0 ≤ m) (h1 : m + l.length ≤ 1125899906842624) : Tot (fun k => laws_markBoolS.f k l m) (m + l.length, mkBool l m) := by
  have := markBool_l l [] m h0 h1 (by simp; omega)
  unfold laws_markBoolS.f
  simpa using this
theorem rdLL_at (a b : List (List Bool)) (x : List Bool) : rd_L4 (a ++ x :: b) (a.length : Int) = x := by simp [rd_L4, List.getD]
theorem szLL_l : ∀ (b a : List (List Bool)) (m : Int), 0 ≤ m → m ≤ 1048576 → ((a ++ b).length : Int) ≤ 1048576 → (∀ y ∈ b, (y.length : Int) ≤ 9223372036850000000) → ∃ v, Tot (fun k => laws_szBoolSS.l0 k (a ++ b) m a.length) v ∧ v ≤ 1048576 ∧ (0 ≤ v → ∀ y ∈ b, (y.length : Int) ≤ 1048576)
  | [], a, m, h0, h1, hl, hs => ⟨m, by
    refine Tot.step (fun k => laws_szBoolSS.l0.eq_2 ..) ?_
    simp only [List.append_nil]
    exact Tot.no (by omega) (Tot.pure _), h1, fun _ y hy => by cases hy⟩
  | x :: b, a, m, h0, h1, hl, hs => by
    have hll : ((a ++ x :: b).length : Int) = a.length + b.length + 1 := by simp; omega
    obtain ⟨u, hu, hu1, hu2⟩ := szBool_v x m h0 h1 (hs x (by simp))
    by_cases hc : u < 0
    · refine ⟨-1, Tot.step (fun k => laws_szBoolSS.l0.eq_2 ..) (Tot.yes (by omega) (Tot.yes (by omega) ?_)), by omega, fun h => by omega⟩
      rw [rdLL_at, hu]
      exact Tot.some_bind (Tot.yes hc (Tot.pure _))
    · obtain ⟨v, hv, hv2, hv3⟩ := szLL_l b (a ++ [x]) u (by omega) hu1 (by simp at hll hl ⊢; omega) (fun y hy => hs y (by simp [hy]))
      refine ⟨v, Tot.step (fun k => laws_szBoolSS.l0.eq_2 ..) (Tot.yes (by omega) (Tot.yes (by omega) ?_)), hv2, fun h y hy => ?_⟩
      · rw [rdLL_at, hu, wrap_in (x := (a.length : Int) + 1) (by omega) (by omega)]
        refine Tot.some_bind (Tot.no hc ?_)
        simpa using hv
      · rcases List.mem_cons.1 hy with rfl | hy
        · exact hu2 (by omega)
        · exact hv3 h y hy
theorem szLL_v (l : List (List Bool)) (m : Int) (h0 : 0 ≤ m) (h1 : m ≤ 1048576) (hl : (l.length : Int) ≤ 9223372036850000000) (hs : ∀ y ∈ l, (y.length : Int) ≤ 9223372036850000000) : ∃ v, Tot (fun k => laws_szBoolSS.f k l m) v ∧ v ≤ 1048576 ∧ (0 ≤ v → (l.length : Int) ≤ 1048576 ∧ ∀ y ∈ l, (y.length : Int) ≤ 1048576) := by
  unfold laws_szBoolSS.f
  rw [wrap_in (by omega) (by omega)]
  by_cases h : m - (l.length : Int) < 0
  · exact ⟨-1, Tot.yes h (Tot.pure _), by omega, fun h => by omega⟩
  · obtain ⟨v, hv, hv2, hv3⟩ := szLL_l l [] (m - (l.length : Int)) (by omega) (by omega) (by simp; omega) hs
    exact ⟨v, Tot.no h (by simpa using hv), hv2, fun h => ⟨by omega, hv3 h⟩⟩
theorem toLL_l : ∀ (b a : List (List Bool)), ((a ++ b).length : Int) ≤ 9223372036854775806 → (∀ y ∈ b, (y.length : Int) ≤ 1048576) → Tot (fun k => laws_toBoolSS.l0 k (a ++ b) (a ++ List.replicate b.length []) a.length) (a ++ b)
  | [], a, h, hs => by
    refine Tot.step (fun k => laws_toBoolSS.l0.eq_2 ..) ?_
    simp only [List.append_nil, List.length_nil, List.replicate_zero]
    exact Tot.no (by omega) (Tot.pure _)
  | x :: b, a, h, hs => by
    refine Tot.step (fun k => laws_toBoolSS.l0.eq_2 ..) ?_
    have hl : ((a ++ x :: b).length : Int) = a.length + b.length + 1 := by simp; omega
    have hl2 : ((a ++ List.replicate (x :: b).length ([] : List Bool)).length : Int) = a.length + b.length + 1 := by simp; omega
    refine Tot.yes (by omega) (Tot.yes (by omega) ?_)
    rw [rdLL_at, wrap_in (x := (a.length : Int) + 1) (by omega) (by omega)]
    refine Tot.bind (toBool_v x (hs x (by simp))) (Tot.yes (by omega) ?_)
    have e : (a ++ List.replicate (x :: b).length ([] : List Bool)).set ((a.length : Int)).toNat x = (a ++ [x]) ++ List.replicate b.length [] := by simp [List.replicate_succ]
    rw [e]
    have := toLL_l b (a ++ [x]) (by simp at hl h ⊢; omega) (fun y hy => hs y (by simp [hy]))
    simpa using this
theorem toLL_v (l : List (List Bool)) (h : (l.length : Int) ≤ 1048576) (hs : ∀ y ∈ l, (y.length : Int) ≤ 1048576) : Tot (fun k => laws_toBoolSS.f k l) l := by
  unfold laws_toBoolSS.f
  refine Tot.yes (by omega) (Tot.yes (by omega) ?_)
  have := toLL_l l [] (by simp; omega) hs
  simpa using this
theorem eqLL_l : ∀ (b a : List (List Bool)), ((a ++ b).length : Int) ≤ 9223372036854775806 → (∀ y ∈ b, (y.length : Int) ≤ 1048576) → Tot (fun k => laws_eqBoolSS.l0 k (a ++ b) (a ++ b) a.length) true
  | [], a, h, hs => by
    refine Tot.step (fun k => laws_eqBoolSS.l0.eq_2 ..) ?_
    simp only [List.append_nil]
    exact Tot.no (by omega) (Tot.pure _)
  | x :: b, a, h, hs => by
    refine Tot.step (fun k => laws_eqBoolSS.l0.eq_2 ..) ?_
    have hl : ((a ++ x :: b).length : Int) = a.length + b.length + 1 := by simp; omega
    have hx := hs x (by simp)
    refine Tot.yes (by omega) (Tot.yes (by omega) (Tot.yes (by omega) ?_))
    rw [rdLL_at, wrap_in (x := (a.length : Int) + 1) (by omega) (by omega)]
    refine Tot.bind (eqBool_v x (by omega)) (Tot.yes rfl ?_)
    have := eqLL_l b (a ++ [x]) (by simp at hl h ⊢; omega) (fun y hy => hs y (by simp [hy]))
    simpa using this
theorem eqLL_v (l : List (List Bool)) (h : (l.length : Int) ≤ 1048576) (hs : ∀ y ∈ l, (y.length : Int) ≤ 1048576) : Tot (fun k => laws_eqBoolSS.f k l l) true := by
  unfold laws_eqBoolSS.f
  refine Tot.yes rfl ?_
  have := eqLL_l l [] (by simp; omega) hs
  simpa using this
/-- What szHeap bounds. -/
theorem szHeap_v (l : List S134) (L : List (List Bool)) (m : Int) (h0 : 0 ≤ m) (h1 : m ≤ 1048576) (hl : (l.length : Int) ≤ 9223372036850000000) (hs : ∀ y ∈ l, (y.f0.length : Int) ≤ 9223372036850000000) (hL : (L.length : Int) ≤ 9223372036850000000) (hS : ∀ y ∈ L, (y.length : Int) ≤ 9223372036850000000) :
    ∃ v, Tot (fun k => laws_szHeap.f k l L m) v ∧ v ≤ 1048576 ∧ (0 ≤ v → ((l.length : Int) ≤ 1048576 ∧ ∀ y ∈ l, (y.f0.length : Int) ≤ 1048576) ∧ (L.length : Int) ≤ 1048576 ∧ ∀ y ∈ L, (y.length : Int) ≤ 1048576) := by
  unfold laws_szHeap.f
  obtain ⟨u, hu, hu1, hu2⟩ := szSegS_v l m h0 h1 hl hs
  by_cases c1 : u < 0
  · exact ⟨-1, Tot.bind hu (Tot.yes c1 (Tot.pure _)), by omega, fun h => by omega⟩
  · obtain ⟨v, hv, hv1, hv2⟩ := szLL_v L u (by omega) hu1 hL hS
    by_cases c2 : v < 0
    · exact ⟨-1, Tot.bind hu (Tot.no c1 (Tot.bind hv (Tot.yes c2 (Tot.pure _)))), by omega, fun h => by omega⟩
    · exact ⟨v, Tot.bind hu (Tot.no c1 (Tot.bind hv (Tot.no c2 (Tot.pure _)))), hv1, fun h => ⟨hu2 (by omega), hv2 h⟩⟩
theorem toHeap_v (l : List S134) (L : List (List Bool)) (h1 : (l.length : Int) ≤ 1048576 ∧ ∀ y ∈ l, (y.f0.length : Int) ≤ 1048576) (h2 : (L.length : Int) ≤ 1048576 ∧ ∀ y ∈ L, (y.length : Int) ≤ 1048576) : Tot (fun k => laws_toHeap.f k l L) (l.map cvSeg, L) := by
  unfold laws_toHeap.f
  exact Tot.bind (toSegS_v l h1.1 h1.2) (Tot.bind (toLL_v L h2.1 h2.2) (Tot.pure _))
theorem eqHeap_v (l : List S88) (L : List (List Bool)) (h1 : (l.length : Int) ≤ 1048576 ∧ ∀ y ∈ l, (y.f0.length : Int) ≤ 1048576) (h2 : (L.length : Int) ≤ 1048576 ∧ ∀ y ∈ L, (y.length : Int) ≤ 1048576) : Tot (fun k => laws_eqHeap.f k l L l L) true := by
  unfold laws_eqHeap.f
  exact Tot.bind (eqSegS_v l (by omega) h1.2) (Tot.yes rfl (Tot.bind (eqLL_v L h2.1 h2.2) (Tot.yes rfl (Tot.pure _))))
open Go.Proofs.Ytafkbhkikdndnaa (Heap.cnt Heap.pairs Heap.fine Heap.sg Heap.lv Heap.goodHeap Heap.isB)
abbrev sgs (l : List S88) : List (List Int × Int) := l.map fun x => (x.f0, x.f1)
theorem sg_at (l : List S88) (i : Nat) (h : i < l.length) : Heap.sg (sgs l) i = ((rd_T88 l (i : Int)).f0, (rd_T88 l (i : Int)).f1) := by
  unfold Heap.sg rd_T88
  rw [Int.toNat_natCast, List.getD_eq_getElem?_getD, List.getD_eq_getElem?_getD, List.getElem?_map, List.getElem?_eq_getElem h]
  rfl
theorem lv_at (L : List (List Bool)) (i : Nat) : rd_L4 L (i : Int) = Heap.lv L i := rfl
theorem goodHeap_unfine (l : List (List Int × Int)) (L : List (List Bool)) (i : Nat) (hi : i < l.length) (h : Heap.fine (Heap.sg l i) (Heap.lv L i) = false) : Heap.goodHeap l L = false := by
  unfold Heap.goodHeap
  have : ((List.range l.length).all fun k => Heap.fine (Heap.sg l k) (Heap.lv L k)) = false := List.all_eq_false.2 ⟨i, List.mem_range.2 hi, by simp [h]⟩
  rw [this, Bool.and_false, Bool.false_and]
/-- What spec keeps: how often a block is live, and whether it is written. -/
def Sp (P : List (Int × Bool)) (x3 : List Int) (x4 : List Bool) : Prop :=
  x3.length = 16 ∧ x4.length = 16 ∧ ∀ z : Nat, z < 16 → x3.getD z 0 = Heap.cnt P z ∧ x4.getD z false = P.any fun p => decide (p.1 = z)
theorem Sp_nil : Sp [] (List.replicate 16 0) (List.replicate 16 false) := by
  refine ⟨rfl, rfl, fun z hz => ?_⟩
  have e1 : (List.replicate 16 (0 : Int)).getD z 0 = 0 := by
    rw [List.getD_eq_getElem?_getD, List.getElem?_replicate]; split <;> rfl
  have e2 : (List.replicate 16 false).getD z false = false := by
    rw [List.getD_eq_getElem?_getD, List.getElem?_replicate]; split <;> rfl
  exact ⟨e1, e2⟩
theorem getD_set {α : Type} (l : List α) (i z : Nat) (v d : α) (h : z < l.length) : (l.set i v).getD z d = if i = z then v else l.getD z d := by
  rw [List.getD_eq_getElem?_getD, List.getD_eq_getElem?_getD, List.getElem?_set]
  by_cases e : i = z
  · subst e; simp [h]
  · simp [e]
theorem Sp_false {P : List (Int × Bool)} {x3 : List Int} {x4 : List Bool} (h : Sp P x3 x4) (x : Int) (hx : 0 ≤ x ∧ x ≤ 15) : Sp (P ++ [(x, false)]) x3 (x4.set x.toNat true) := by
  obtain ⟨h1, h2, h3⟩ := h
  refine ⟨h1, by simpa using h2, fun z hz => ?_⟩
  obtain ⟨a, b⟩ := h3 z hz
  rw [Go.Proofs.Ytafkbhkikdndnaa.Heap.cnt_snoc, if_neg (by simp), Int.add_zero, getD_set _ _ _ _ _ (by omega), List.any_append, ← b]
  refine ⟨a, ?_⟩
  by_cases e : x.toNat = z
  · have e2 : x = (z : Int) := by omega
    simp [e, e2]
  · have e2 : ¬ x = (z : Int) := by omega
    simp [e, e2]
theorem Sp_true {P : List (Int × Bool)} {x3 : List Int} {x4 : List Bool} (h : Sp P x3 x4) (x c : Int) (hx : 0 ≤ x ∧ x ≤ 15) (hc : c = Heap.cnt P x + 1) : Sp (P ++ [(x, true)]) (x3.set x.toNat c) (x4.set x.toNat true) := by
  obtain ⟨h1, h2, h3⟩ := h
  refine ⟨by simpa using h1, by simpa using h2, fun z hz => ?_⟩
  obtain ⟨a, b⟩ := h3 z hz
  rw [Go.Proofs.Ytafkbhkikdndnaa.Heap.cnt_snoc, getD_set _ _ _ _ _ (by omega), getD_set _ _ _ _ _ (by omega), List.any_append, ← b]
  by_cases e : x.toNat = z
  · have e2 : x = (z : Int) := by omega
    subst e2
    exact ⟨by simp [hc], by simp⟩
  · have e2 : ¬ x = (z : Int) := by omega
    refine ⟨?_, by simp [e, e2]⟩
    rw [if_neg e, if_neg (fun h => e2 h.1), Int.add_zero]
    exact a
theorem any_of_cnt {P : List (Int × Bool)} {z : Int} (h : 0 < Heap.cnt P z) : (P.any fun p => decide (p.1 = z)) = true := by
  unfold Heap.cnt at h
  obtain ⟨p, hp⟩ := List.exists_mem_of_length_pos (l := P.filter fun p => decide (p.1 = z) && p.2) (by omega)
  obtain ⟨h1, h2⟩ := List.mem_filter.1 hp
  rw [Bool.and_eq_true] at h2
  exact List.any_eq_true.2 ⟨p, h1, h2.1⟩
/-- The last loop. -/
theorem specHeap_l2 (P : List (Int × Bool)) (x3 : List Int) (x4 : List Bool) (h : Sp P x3 x4) (hP : ∀ p ∈ P, 0 ≤ p.1 ∧ p.1 ≤ 15) : ∀ (d i : Nat), i + d = 16 → (∀ z : Nat, z < i → (P.any fun p => decide (p.1 = z)) = true → Heap.cnt P z = 1) → Tot (fun k => spec_GoodHeap.l2 k x3 x4 (x4.length : Int) i) (P.all fun p => decide (Heap.cnt P p.1 = 1))
  | 0, i, hi, hq => by
    obtain ⟨h1, h2, h3⟩ := h
    refine Tot.step (fun k => spec_GoodHeap.l2.eq_2 ..) (Tot.no (by omega) ?_)
    have : (P.all fun p => decide (Heap.cnt P p.1 = 1)) = true := List.all_eq_true.2 fun p hp => by
      have hb := hP p hp
      have := hq p.1.toNat (by omega) (List.any_eq_true.2 ⟨p, hp, by simp; omega⟩)
      rw [show ((p.1.toNat : Nat) : Int) = p.1 by omega] at this
      exact decide_eq_true this
    rw [this]
    exact Tot.pure _
  | d + 1, i, hi, hq => by
    have hh := h
    obtain ⟨h1, h2, h3⟩ := h
    obtain ⟨a, b⟩ := h3 i (by omega)
    have ra : rd x3 (i : Int) = Heap.cnt P i := by rw [← a]; rfl
    have rb : rdOf false x4 (i : Int) = P.any fun p => decide (p.1 = (i : Int)) := by rw [← b]; rfl
    have bad : (P.any fun p => decide (p.1 = (i : Int))) = true → Heap.cnt P i ≠ 1 → (P.all fun p => decide (Heap.cnt P p.1 = 1)) = false := fun q1 q2 => by
      obtain ⟨p, hp, hpz⟩ := List.any_eq_true.1 q1
      have hpz := of_decide_eq_true hpz
      exact List.all_eq_false.2 ⟨p, hp, by rw [hpz]; simpa using q2⟩
    have nxt : ((P.any fun p => decide (p.1 = (i : Int))) = true → Heap.cnt P i = 1) → Tot (fun k => spec_GoodHeap.l2 k x3 x4 (x4.length : Int) ((i : Int) + 1)) (P.all fun p => decide (Heap.cnt P p.1 = 1)) := fun q => by
      have := specHeap_l2 P x3 x4 hh hP d (i + 1) (by omega) (fun z hz hw => by
        by_cases e : z < i
        · exact hq z e hw
        · obtain rfl : z = i := by omega
          exact q hw)
      simpa using this
    refine Tot.step (fun k => spec_GoodHeap.l2.eq_2 ..) (Tot.yes (by omega) (Tot.yes (by omega) (Tot.yes (by omega) (Tot.yes (by omega) ?_))))
    rw [ra, rb, wrap_in (x := (i : Int) + 1) (by omega) (by omega)]
    by_cases c1 : Heap.cnt P i > 1
    · rw [bad (any_of_cnt (by omega)) (by omega)]
      exact Tot.yes c1 (Tot.pure _)
    · refine Tot.no c1 ?_
      by_cases c2 : (P.any fun p => decide (p.1 = (i : Int))) = true
      · refine Tot.yes c2 ?_
        by_cases c3 : Heap.cnt P i = 0
        · rw [bad c2 (by omega)]
          exact Tot.yes c3 (Tot.pure _)
        · refine Tot.no c3 (nxt fun _ => ?_)
          have := (Go.Proofs.Ytafkbhkikdndnaa.Heap.cnt_le P i).1
          omega
      · exact Tot.no c2 (nxt fun h => absurd h c2)
theorem fine_open {s : List Int × Int} {v : List Bool} (h : Heap.fine s v = true) : s.1.length ≤ 6 ∧ (∀ x ∈ s.1, 0 ≤ x ∧ x ≤ 15) ∧ (0 ≤ s.2 ∧ s.2 ≤ 1000) ∧ v.length = s.1.length := by
  unfold Heap.fine at h
  simp only [Bool.and_eq_true, decide_eq_true_eq] at h
  obtain ⟨⟨⟨f1, f2⟩, f3⟩, f4⟩ := h
  exact ⟨f1, fun x hx => of_decide_eq_true (List.all_eq_true.1 f2 x hx), f3, f4⟩
theorem pairs_in (l : List (List Int × Int)) (L : List (List Bool)) : ∀ k, (∀ j, j < k → Heap.fine (Heap.sg l j) (Heap.lv L j) = true) → ∀ p ∈ Heap.pairs l L k, 0 ≤ p.1 ∧ p.1 ≤ 15
  | 0, _, p, hp => by cases hp
  | k + 1, h, p, hp => by
    rcases List.mem_append.1 hp with hp | hp
    · exact pairs_in l L k (fun j hj => h j (by omega)) p hp
    · exact (fine_open (h k (by omega))).2.1 p.1 (List.of_mem_zip hp).1
/-- The middle loop: the blocks of one segment. -/
theorem specHeap_l1 (l : List S88) (L : List (List Bool)) (n : Nat) (x29 : Int) (bs : List Int) (P : List (Int × Bool)) (r : Bool) (hn : n < L.length) (hn2 : n < l.length) (hlen : P.length ≤ 1000) (h6 : bs.length ≤ 6) (hbs : ∀ x ∈ bs, 0 ≤ x ∧ x ≤ 15) (hv : (Heap.lv L n).length = bs.length) (hl : L.length ≤ 1000)
    (hk : ∀ y3 y4, Sp (P ++ bs.zip (Heap.lv L n)) y3 y4 → Tot (fun k => spec_GoodHeap.l0 k y3 y4 l x29 ((n : Int) + 1) l L) r) : ∀ (d i : Nat) (x3 : List Int) (x4 : List Bool), i + d = bs.length → Sp (P ++ (bs.zip (Heap.lv L n)).take i) x3 x4 → Tot (fun k => spec_GoodHeap.l1 k x3 x4 n l x29 n bs (bs.length : Int) i l L) r
  | 0, i, x3, x4, hi, hS => by
    refine Tot.step (fun k => spec_GoodHeap.l1.eq_2 ..) (Tot.no (by omega) ?_)
    rw [wrap_in (x := (n : Int) + 1) (by omega) (by omega)]
    refine hk _ _ ?_
    rwa [List.take_of_length_le (by rw [List.length_zip]; omega)] at hS
  | d + 1, i, x3, x4, hi, hS => by
    obtain ⟨x, hx⟩ : ∃ x, bs[i]? = some x := ⟨_, List.getElem?_eq_getElem (by omega)⟩
    obtain ⟨y, hy⟩ : ∃ y, (Heap.lv L n)[i]? = some y := ⟨_, List.getElem?_eq_getElem (by omega)⟩
    have rx : rd bs (i : Int) = x := by show bs.getD (i : Int).toNat 0 = x; simp [List.getD_eq_getElem?_getD, hx]
    have ry : rdOf false (rd_L4 L (n : Int)) (i : Int) = y := by
      rw [lv_at]; show (Heap.lv L n).getD (i : Int).toNat false = y; simp [List.getD_eq_getElem?_getD, hy]
    have rl : (rd_L4 L (n : Int)).length = bs.length := by rw [lv_at, hv]
    have hxb := hbs x (List.mem_of_getElem? hx)
    obtain ⟨s1, s2, s3⟩ := hS
    have htk : (bs.zip (Heap.lv L n)).take (i + 1) = (bs.zip (Heap.lv L n)).take i ++ [(x, y)] := by
      have hz : (bs.zip (Heap.lv L n))[i]? = some (x, y) := by rw [List.getElem?_zip_eq_some]; exact ⟨hx, hy⟩
      obtain ⟨h3, h4⟩ := List.getElem?_eq_some_iff.1 hz
      rw [List.take_succ_eq_append_getElem h3, h4]
    have rc : rd x3 x = Heap.cnt (P ++ (bs.zip (Heap.lv L n)).take i) x := by
      have := (s3 x.toNat (by omega)).1
      rw [show ((x.toNat : Nat) : Int) = x by omega] at this
      exact this
    have hcb := Go.Proofs.Ytafkbhkikdndnaa.Heap.cnt_le (P ++ (bs.zip (Heap.lv L n)).take i) x
    have hpl : (P ++ (bs.zip (Heap.lv L n)).take i).length ≤ 2000 := by
      rw [List.length_append, List.length_take, List.length_zip]; omega
    refine Tot.step (fun k => spec_GoodHeap.l1.eq_2 ..) (Tot.yes (by omega) (Tot.yes (by omega) (Tot.yes (by omega) ?_)))
    rw [rx, ry, rl, wrap_in (x := (i : Int) + 1) (by omega) (by omega)]
    refine Tot.yes hxb.1 (Tot.yes (by omega) (Tot.some_bind (Tot.yes (by omega) (Tot.yes (by omega) (Tot.yes (by omega) ?_)))))
    cases y with
    | true =>
      refine Tot.yes rfl (Tot.yes (by omega) ?_)
      rw [rc, wrap_in (by omega) (by omega)]
      have := specHeap_l1 l L n x29 bs P r hn hn2 hlen h6 hbs hv hl hk d (i + 1) _ _ (by omega) (by rw [htk, ← List.append_assoc]; exact Sp_true ⟨s1, s2, s3⟩ x _ hxb rfl)
      simpa using this
    | false =>
      refine Tot.no (by decide) ?_
      have := specHeap_l1 l L n x29 bs P r hn hn2 hlen h6 hbs hv hl hk d (i + 1) _ _ (by omega) (by rw [htk, ← List.append_assoc]; exact Sp_false ⟨s1, s2, s3⟩ x hxb)
      simpa using this
/-- The outer loop. -/
theorem specHeap_l0 (l : List S88) (L : List (List Bool)) (hn : 2 ≤ l.length ∧ l.length ≤ 8) (hL : L.length = l.length) (hs : ∀ y ∈ l, (y.f0.length : Int) ≤ 1048576) : ∀ (d i : Nat) (x3 : List Int) (x4 : List Bool), i + d = l.length → Sp (Heap.pairs (sgs l) L i) x3 x4 → (∀ j, j < i → Heap.fine (Heap.sg (sgs l) j) (Heap.lv L j) = true) → Tot (fun k => spec_GoodHeap.l0 k x3 x4 l (l.length : Int) i l L) (Heap.goodHeap (sgs l) L)
  | 0, i, x3, x4, hi, hS, hF => by
    refine Tot.step (fun k => spec_GoodHeap.l0.eq_2 ..) (Tot.no (by omega) ?_)
    obtain rfl : i = l.length := by omega
    have h2 := specHeap_l2 _ x3 x4 hS (pairs_in _ _ _ hF) 16 0 (by omega) (fun z hz => by omega)
    have e : Heap.goodHeap (sgs l) L = (Heap.pairs (sgs l) L l.length).all fun p => decide (Heap.cnt (Heap.pairs (sgs l) L l.length) p.1 = 1) := by
      unfold Heap.goodHeap
      have hll : (sgs l).length = l.length := List.length_map ..
      rw [hll, decide_eq_true (by omega : 2 ≤ l.length ∧ l.length ≤ 8 ∧ L.length = l.length), Bool.true_and]
      rw [show ((List.range l.length).all fun k => Heap.fine (Heap.sg (sgs l) k) (Heap.lv L k)) = true from List.all_eq_true.2 fun j hj => hF j (List.mem_range.1 hj), Bool.true_and]
    rw [e]
    exact h2
  | d + 1, i, x3, x4, hi, hS, hF => by
    have hil : i < l.length := by omega
    have esg := sg_at l i hil
    have hb : ((rd_T88 l (i : Int)).f0.length : Int) ≤ 1048576 := by
      refine hs _ ?_
      unfold rd_T88
      rw [Int.toNat_natCast, List.getD_eq_getElem?_getD, List.getElem?_eq_getElem hil]
      exact List.getElem_mem hil
    refine Tot.step (fun k => spec_GoodHeap.l0.eq_2 ..) (Tot.yes (by omega) (Tot.yes (by omega) (Tot.yes (by omega) ?_)))
    simp only [in_v, Option.bind_some]
    rw [lv_at]
    generalize hbs : (rd_T88 l (i : Int)).f0 = bs at *
    generalize hage : (rd_T88 l (i : Int)).f1 = age at *
    have bad : Heap.fine (bs, age) (Heap.lv L i) = false → Tot (fun k => spec_GoodHeap.j2 k x3 x4 i l (l.length : Int) i true l L bs age) (Heap.goodHeap (sgs l) L) := fun hf => by
      rw [goodHeap_unfine (sgs l) L i (by rw [List.length_map]; exact hil) (by rw [esg]; exact hf)]
      exact Tot.step (fun k => spec_GoodHeap.j2.eq_2 ..) (Tot.yes rfl (Tot.pure _))
    by_cases c1 : (bs.length : Int) > 6
    · exact Tot.yes c1 (bad (by unfold Heap.fine; rw [decide_eq_false (by dsimp only; omega)]; rfl))
    · refine Tot.no c1 (Tot.bind (all_v bs 0 15 (by omega)) ?_)
      by_cases c2 : (bs.all fun x => decide (0 ≤ x ∧ x ≤ 15)) = true
      · refine Tot.yes c2 ?_
        by_cases c3 : 0 ≤ age ∧ age ≤ 1000
        · refine Tot.yes (decide_eq_true c3) (Tot.yes (by omega) ?_)
          by_cases c4 : (Heap.lv L i).length = bs.length
          · have hf : Heap.fine (bs, age) (Heap.lv L i) = true := by
              unfold Heap.fine
              simp only [Bool.and_eq_true, decide_eq_true_eq]
              exact ⟨⟨⟨by omega, c2⟩, c3⟩, c4⟩
            have hpl := Go.Proofs.Ytafkbhkikdndnaa.Heap.pairs_len (sgs l) L i hF
            have c4' : (((Heap.lv L i).length : Int) != (bs.length : Int)) = false := by simp [c4]
            rw [c4']
            refine Tot.step (fun k => spec_GoodHeap.j2.eq_2 ..) (Tot.no (by decide) ?_)
            refine specHeap_l1 l L i _ bs (Heap.pairs (sgs l) L i) _ (by omega) hil (by omega) (by omega) (fine_open hf).2.1 c4 (by omega) (fun y3 y4 hy => ?_) bs.length 0 x3 x4 (by omega) (by simpa using hS)
            have := specHeap_l0 l L hn hL hs d (i + 1) y3 y4 (by omega) (by
              show Sp (Heap.pairs (sgs l) L i ++ (Heap.sg (sgs l) i).1.zip (Heap.lv L i)) y3 y4
              rw [esg]
              exact hy) (fun j hj => by
              by_cases e : j < i
              · exact hF j e
              · obtain rfl : j = i := by omega
                rw [esg]
                exact hf)
            simpa using this
          · have c4' : (((Heap.lv L i).length : Int) != (bs.length : Int)) = true := by simp; omega
            rw [c4']
            exact bad (by unfold Heap.fine; rw [decide_eq_false c4, Bool.and_false])
        · refine Tot.no (by simpa using c3) (bad ?_)
          unfold Heap.fine
          rw [decide_eq_false c3, Bool.and_false, Bool.false_and]
      · refine Tot.no c2 (bad ?_)
        have c2' : (bs.all Heap.isB) = false := Bool.eq_false_iff.2 c2
        unfold Heap.fine
        rw [c2', Bool.and_false, Bool.false_and, Bool.false_and]
theorem specHeap_v (l : List S88) (L : List (List Bool)) (h1 : (l.length : Int) ≤ 1048576 ∧ ∀ y ∈ l, (y.f0.length : Int) ≤ 1048576) : Tot (fun k => spec_GoodHeap.f k l L) (Heap.goodHeap (sgs l) L) := by
  have hll : (sgs l).length = l.length := List.length_map ..
  unfold spec_GoodHeap.f
  simp only [in_v, Option.bind_some]
  by_cases c1 : (2 : Int) ≤ (l.length : Int) ∧ (l.length : Int) ≤ 8
  · refine Tot.yes (decide_eq_true c1) ?_
    by_cases c2 : L.length = l.length
    · have c2' : ((L.length : Int) != (l.length : Int)) = false := by simp [c2]
      rw [c2']
      refine Tot.step (fun k => spec_GoodHeap.j0.eq_2 ..) (Tot.no (by decide) (Tot.yes (by decide) (Tot.yes (by decide) ?_)))
      exact specHeap_l0 l L (by omega) c2 h1.2 l.length 0 _ _ (by omega) Sp_nil (fun j hj => by omega)
    · have c2' : ((L.length : Int) != (l.length : Int)) = true := by simp; omega
      rw [c2', Go.Proofs.Ytafkbhkikdndnaa.Heap.goodHeap_short (sgs l) L (by rw [hll]; omega)]
      exact Tot.step (fun k => spec_GoodHeap.j0.eq_2 ..) (Tot.yes rfl (Tot.pure _))
  · rw [Go.Proofs.Ytafkbhkikdndnaa.Heap.goodHeap_short (sgs l) L (by rw [hll]; omega)]
    exact Tot.no (by simpa using c1) (Tot.step (fun k => spec_GoodHeap.j0.eq_2 ..) (Tot.yes rfl (Tot.pure _)))

theorem goodHeap_open {l : List S88} {L : List (List Bool)} (h : Heap.goodHeap (sgs l) L = true) : 2 ≤ l.length ∧ l.length ≤ 8 ∧ L.length = l.length ∧ ∀ j, j < l.length → (rd_T88 l (j : Int)).f0.length ≤ 6 ∧ (∀ x ∈ (rd_T88 l (j : Int)).f0, 0 ≤ x ∧ x ≤ 15) ∧ (rd_L4 L (j : Int)).length = (rd_T88 l (j : Int)).f0.length := by
  unfold Heap.goodHeap at h
  have hll : (sgs l).length = l.length := List.length_map ..
  rw [hll] at h
  simp only [Bool.and_eq_true, decide_eq_true_eq] at h
  obtain ⟨⟨⟨h1, h2, h3⟩, h4⟩, h5⟩ := h
  refine ⟨h1, h2, h3, fun j hj => ?_⟩
  have hf := fine_open (List.all_eq_true.1 h4 j (List.mem_range.2 hj))
  rw [sg_at l j hj] at hf
  rw [lv_at]
  exact ⟨hf.1, hf.2.1, hf.2.2.2⟩
theorem heap_end {l : List S88} {L : List (List Bool)} {M : List S134} (toH : Tot (fun k => laws_toHeap.f k M L) (l, L)) (h1 : (l.length : Int) ≤ 1048576 ∧ ∀ y ∈ l, (y.f0.length : Int) ≤ 1048576) (h2 : (L.length : Int) ≤ 1048576 ∧ ∀ y ∈ L, (y.length : Int) ≤ 1048576) :
    Tot (fun k => (laws_toHeap.f k M L).bind fun t => (laws_eqHeap.f k l L t.1 t.2).bind fun t2 => if t2 = true then some true else some false) true :=
  Tot.bind toH (Tot.bind (eqHeap_v l L h1 h2) (Tot.yes rfl (Tot.pure _)))

theorem put_l : ∀ (b a : List Int) (n : Int), ((a ++ b).length : Int) ≤ 1000 → Tot (fun k => spec_l1Put.l0 k (a ++ b) n a.length) (a ++ putL b n)
  | [], a, n, h => by
    have hl : (a.length : Int) ≤ 1000 := by simpa using h
    have e2 : ([] ++ (a ++ ([] : List Int)).take (a.length : Int).toNat ++ [n] ++ (a ++ ([] : List Int)).drop (a.length : Int).toNat) = a ++ putL [] n := by simp [putL]
    refine Tot.step (fun k => spec_l1Put.l0.eq_2 ..) (Tot.no (by simp) (Tot.some_bind (Tot.yes (by omega) (Tot.yes (by simp) ?_))))
    refine Tot.some_bind (Tot.yes (by simp; omega) (Tot.some_bind ?_))
    refine Tot.yes (by simp; omega) (Tot.some_bind (Tot.some_bind ?_))
    refine Tot.yes (by simp; omega) ?_
    rw [e2]
    exact Tot.pure _
  | x :: b, a, n, h => by
    have hl : ((a ++ x :: b).length : Int) = a.length + b.length + 1 := by simp; omega
    refine Tot.step (fun k => spec_l1Put.l0.eq_2 ..) (Tot.yes (by omega) (Tot.yes (by omega) ?_))
    rw [rdInt_at, wrap_in (x := (a.length : Int) + 1) (by omega) (by omega)]
    by_cases c : x < n
    · have ih := put_l b (a ++ [x]) n (by simpa using h)
      have e : putL (x :: b) n = x :: putL b n := by
        show (if x < n then x :: putL b n else if x = n then x :: b else n :: x :: b) = _
        rw [if_pos c]
      rw [show (a ++ [x]) ++ b = a ++ x :: b by simp, show ((a ++ [x]).length : Int) = (a.length : Int) + 1 by simp, show (a ++ [x]) ++ putL b n = a ++ x :: putL b n by simp] at ih
      rw [e]
      exact Tot.yes c ih
    · refine Tot.no c ?_
      by_cases c2 : x = n
      · have e : putL (x :: b) n = x :: b := by
          show (if x < n then x :: putL b n else if x = n then x :: b else n :: x :: b) = _
          rw [if_neg c, if_pos c2]
        rw [e]
        exact Tot.yes c2 (Tot.pure _)
      · have e : putL (x :: b) n = n :: x :: b := by
          show (if x < n then x :: putL b n else if x = n then x :: b else n :: x :: b) = _
          rw [if_neg c, if_neg c2]
        rw [e]
        refine Tot.no c2 (Tot.some_bind (Tot.yes (by omega) ?_))
        refine Tot.some_bind (Tot.yes (by simp; omega) (Tot.some_bind ?_))
        refine Tot.yes (by simp; omega) (Tot.some_bind (Tot.some_bind ?_))
        refine Tot.yes (by simp; omega) ?_
        have e2 : ([] ++ (a ++ x :: b).take (a.length : Int).toNat ++ [n] ++ (a ++ x :: b).drop (a.length : Int).toNat) = a ++ n :: x :: b := by simp
        rw [e2]
        exact Tot.pure _
theorem put_v (l : List Int) (n : Int) (h : (l.length : Int) ≤ 1000) : Tot (fun k => spec_l1Put.f k l n) (putL l n) := by
  have := put_l l [] n (by simpa using h)
  unfold spec_l1Put.f
  simpa using this
def rowPut (bs : List Int) (v : List Bool) : Nat → Nat → List Int → List Int
  | 0, _, acc => acc
  | d + 1, i, acc => rowPut bs v d (i + 1) (if rdOf false v (i : Int) = true then putL acc (rd bs (i : Int)) else acc)
def rowHas (a : Int) (bs : List Int) (v : List Bool) : Nat → Nat → Bool
  | 0, _ => false
  | d + 1, i => (decide (rd bs (i : Int) = a) && rdOf false v (i : Int)) || rowHas a bs v d (i + 1)
def allPut (l : List S88) (L : List (List Bool)) : Nat → Nat → List Int → List Int
  | 0, _, acc => acc
  | d + 1, i, acc => allPut l L d (i + 1) (rowPut (rd_T88 l (i : Int)).f0 (rd_L4 L (i : Int)) (rd_T88 l (i : Int)).f0.length 0 acc)
def allHas (a : Int) (l : List S88) (L : List (List Bool)) : Nat → Nat → Bool
  | 0, _ => false
  | d + 1, i => rowHas a (rd_T88 l (i : Int)).f0 (rd_L4 L (i : Int)) (rd_T88 l (i : Int)).f0.length 0 || allHas a l L d (i + 1)
theorem rowPut_yes {bs : List Int} {v : List Bool} {d i : Nat} {acc : List Int} (h : rdOf false v (i : Int) = true) : rowPut bs v (d + 1) i acc = rowPut bs v d (i + 1) (putL acc (rd bs (i : Int))) := by
  show rowPut bs v d (i + 1) (if rdOf false v (i : Int) = true then putL acc (rd bs (i : Int)) else acc) = _
  rw [if_pos h]
theorem rowPut_no {bs : List Int} {v : List Bool} {d i : Nat} {acc : List Int} (h : ¬ rdOf false v (i : Int) = true) : rowPut bs v (d + 1) i acc = rowPut bs v d (i + 1) acc := by
  show rowPut bs v d (i + 1) (if rdOf false v (i : Int) = true then putL acc (rd bs (i : Int)) else acc) = _
  rw [if_neg h]
theorem rowPut_ok (bs : List Int) (v : List Bool) : ∀ (d i : Nat) (acc : List Int), acc.Pairwise (· < ·) → (rowPut bs v d i acc).Pairwise (· < ·) ∧ (rowPut bs v d i acc).length ≤ acc.length + d ∧ ∀ x, x ∈ rowPut bs v d i acc ↔ x ∈ acc ∨ rowHas x bs v d i = true
  | 0, i, acc, h => ⟨h, Nat.le_refl _, fun x => by simp [rowPut, rowHas]⟩
  | d + 1, i, acc, h => by
    by_cases c : rdOf false v (i : Int) = true
    · have e : rowPut bs v (d + 1) i acc = rowPut bs v d (i + 1) (putL acc (rd bs (i : Int))) := rowPut_yes c
      obtain ⟨h1, h2, h3⟩ := rowPut_ok bs v d (i + 1) (putL acc (rd bs (i : Int))) (putL_lt _ _ h)
      have := putL_len acc (rd bs (i : Int))
      rw [e]
      refine ⟨h1, by omega, fun x => ?_⟩
      have e2 : rowHas x bs v (d + 1) i = ((decide (rd bs (i : Int) = x) && rdOf false v (i : Int)) || rowHas x bs v d (i + 1)) := rfl
      rw [h3, mem_putL, e2, c, Bool.and_true, Bool.or_eq_true, decide_eq_true_eq]
      constructor
      · rintro ((h | h) | h)
        · exact Or.inr (Or.inl h.symm)
        · exact Or.inl h
        · exact Or.inr (Or.inr h)
      · rintro (h | h | h)
        · exact Or.inl (Or.inr h)
        · exact Or.inl (Or.inl h.symm)
        · exact Or.inr h
    · have e : rowPut bs v (d + 1) i acc = rowPut bs v d (i + 1) acc := rowPut_no c
      obtain ⟨h1, h2, h3⟩ := rowPut_ok bs v d (i + 1) acc h
      rw [e]
      refine ⟨h1, by omega, fun x => ?_⟩
      have e2 : rowHas x bs v (d + 1) i = ((decide (rd bs (i : Int) = x) && rdOf false v (i : Int)) || rowHas x bs v d (i + 1)) := rfl
      rw [h3, e2, Bool.eq_false_iff.2 c, Bool.and_false, Bool.false_or]
theorem allPut_ok (l : List S88) (L : List (List Bool)) (h6 : ∀ j, j < l.length → (rd_T88 l (j : Int)).f0.length ≤ 6) : ∀ (d i : Nat) (acc : List Int), i + d = l.length → acc.Pairwise (· < ·) → (allPut l L d i acc).Pairwise (· < ·) ∧ (allPut l L d i acc).length ≤ acc.length + 6 * d ∧ ∀ x, x ∈ allPut l L d i acc ↔ x ∈ acc ∨ allHas x l L d i = true
  | 0, i, acc, hi, h => ⟨h, Nat.le_refl _, fun x => by simp [allPut, allHas]⟩
  | d + 1, i, acc, hi, h => by
    obtain ⟨g1, g2, g3⟩ := rowPut_ok (rd_T88 l (i : Int)).f0 (rd_L4 L (i : Int)) (rd_T88 l (i : Int)).f0.length 0 acc h
    obtain ⟨h1, h2, h3⟩ := allPut_ok l L h6 d (i + 1) _ (by omega) g1
    have := h6 i (by omega)
    have e : allPut l L (d + 1) i acc = allPut l L d (i + 1) (rowPut (rd_T88 l (i : Int)).f0 (rd_L4 L (i : Int)) (rd_T88 l (i : Int)).f0.length 0 acc) := rfl
    rw [e]
    refine ⟨h1, by omega, fun x => ?_⟩
    have e2 : allHas x l L (d + 1) i = (rowHas x (rd_T88 l (i : Int)).f0 (rd_L4 L (i : Int)) (rd_T88 l (i : Int)).f0.length 0 || allHas x l L d (i + 1)) := rfl
    rw [h3, g3, e2, Bool.or_eq_true, or_assoc]
theorem specAll_l1 (l : List S88) (L : List (List Bool)) (x14 : Int) (n : Nat) (bs : List Int) (hn : n < L.length) (hn2 : L.length ≤ 1000) (h6 : bs.length ≤ 6) (hv : (rd_L4 L (n : Int)).length = bs.length) (R : List Int → List Int × Bool) (B : Nat)
    (hR : ∀ acc : List Int, acc.length ≤ B → Tot (fun k => spec_AllBlocks.l0 k acc l x14 ((n : Int) + 1) l L) (R acc)) (hB : B ≤ 900) : ∀ (d i : Nat) (acc : List Int), i + d = bs.length → acc.length + d ≤ B →
    Tot (fun k => spec_AllBlocks.l1 k acc n l x14 n bs (bs.length : Int) i l L) (R (rowPut bs (rd_L4 L (n : Int)) d i acc))
  | 0, i, acc, hi, hb => by
    refine Tot.step (fun k => spec_AllBlocks.l1.eq_2 ..) (Tot.no (by omega) ?_)
    rw [wrap_in (x := (n : Int) + 1) (by omega) (by omega)]
    exact hR acc (by omega)
  | d + 1, i, acc, hi, hb => by
    have w1 : wrap64 ((i : Int) + 1) = ((i + 1 : Nat) : Int) := by rw [wrap_in (by omega) (by omega)]; omega
    refine Tot.step (fun k => spec_AllBlocks.l1.eq_2 ..) (Tot.yes (by omega) (Tot.yes (by omega) (Tot.yes (by omega) (Tot.yes (by omega) (Tot.yes (by omega) (Tot.yes (by omega) ?_))))))
    rw [w1]
    by_cases c : rdOf false (rd_L4 L (n : Int)) (i : Int) = true
    · have e : rowPut bs (rd_L4 L (n : Int)) (d + 1) i acc = rowPut bs (rd_L4 L (n : Int)) d (i + 1) (putL acc (rd bs (i : Int))) := rowPut_yes c
      have := putL_len acc (rd bs (i : Int))
      rw [e]
      exact Tot.yes c (Tot.bind (put_v acc _ (by omega)) (specAll_l1 l L x14 n bs hn hn2 h6 hv R B hR hB d (i + 1) _ (by omega) (by omega)))
    · have e : rowPut bs (rd_L4 L (n : Int)) (d + 1) i acc = rowPut bs (rd_L4 L (n : Int)) d (i + 1) acc := rowPut_no c
      rw [e]
      exact Tot.no c (specAll_l1 l L x14 n bs hn hn2 h6 hv R B hR hB d (i + 1) _ (by omega) (by omega))
theorem rowPut_len (bs : List Int) (v : List Bool) : ∀ (d i : Nat) (acc : List Int), (rowPut bs v d i acc).length ≤ acc.length + d
  | 0, i, acc => Nat.le_refl _
  | d + 1, i, acc => by
    have h1 := rowPut_len bs v d (i + 1) (if rdOf false v (i : Int) = true then putL acc (rd bs (i : Int)) else acc)
    have h2 := putL_len acc (rd bs (i : Int))
    have e : rowPut bs v (d + 1) i acc = rowPut bs v d (i + 1) (if rdOf false v (i : Int) = true then putL acc (rd bs (i : Int)) else acc) := rfl
    rw [e]
    split at h1 <;> rename_i c
    · rw [if_pos c]; omega
    · rw [if_neg c]; omega
theorem specAll_l0 (l : List S88) (L : List (List Bool)) (h8 : l.length ≤ 8) (hL : L.length = l.length) (hr : ∀ j, j < l.length → (rd_T88 l (j : Int)).f0.length ≤ 6 ∧ (rd_L4 L (j : Int)).length = (rd_T88 l (j : Int)).f0.length) : ∀ (d i : Nat) (acc : List Int), i + d = l.length → acc.length + 6 * d ≤ 48 →
    Tot (fun k => spec_AllBlocks.l0 k acc l (l.length : Int) i l L) (allPut l L d i acc, true)
  | 0, i, acc, hi, hb => Tot.step (fun k => spec_AllBlocks.l0.eq_2 ..) (Tot.no (by omega) (Tot.pure _))
  | d + 1, i, acc, hi, hb => by
    obtain ⟨b6, bl⟩ := hr i (by omega)
    refine Tot.step (fun k => spec_AllBlocks.l0.eq_2 ..) (Tot.yes (by omega) (Tot.yes (by omega) (Tot.yes (by omega) ?_)))
    exact specAll_l1 l L (l.length : Int) i (rd_T88 l (i : Int)).f0 (by omega) (by omega) b6 bl (fun a => (allPut l L d (i + 1) a, true)) (48 - 6 * d) (fun a ha => by
      have := specAll_l0 l L h8 hL hr d (i + 1) a (by omega) (by omega)
      simpa using this) (by omega) (rd_T88 l (i : Int)).f0.length 0 acc (by omega) (by omega)
theorem find_l1 (l : List S88) (L : List (List Bool)) (a x29 : Int) (n : Nat) (bs : List Int) (hn : n < L.length) (hn2 : L.length ≤ 1000) (h6 : bs.length ≤ 6) (hv : (rd_L4 L (n : Int)).length = bs.length) (R : Bool)
    (k2 : ∃ u v, Tot (fun k => impl_Heap_find.l0 k a l x29 ((n : Int) + 1) l L) (u, v, R)) : ∀ (d i : Nat), i + d = bs.length →
    ∃ u v, Tot (fun k => impl_Heap_find.l1 k a n l x29 n bs (bs.length : Int) i l L) (u, v, rowHas a bs (rd_L4 L (n : Int)) d i || R)
  | 0, i, hi => by
    obtain ⟨u, v, k2⟩ := k2
    refine ⟨u, v, Tot.step (fun k => impl_Heap_find.l1.eq_2 ..) (Tot.no (by omega) ?_)⟩
    rw [wrap_in (x := (n : Int) + 1) (by omega) (by omega)]
    exact k2
  | d + 1, i, hi => by
    obtain ⟨u, v, q2⟩ := find_l1 l L a x29 n bs hn hn2 h6 hv R k2 d (i + 1) (by omega)
    have w1 : wrap64 ((i : Int) + 1) = ((i + 1 : Nat) : Int) := by rw [wrap_in (by omega) (by omega)]; omega
    have e2 : rowHas a bs (rd_L4 L (n : Int)) (d + 1) i = ((decide (rd bs (i : Int) = a) && rdOf false (rd_L4 L (n : Int)) (i : Int)) || rowHas a bs (rd_L4 L (n : Int)) d (i + 1)) := rfl
    rw [e2]
    by_cases c1 : rd bs (i : Int) = a
    · rw [decide_eq_true c1, Bool.true_and]
      by_cases c2 : rdOf false (rd_L4 L (n : Int)) (i : Int) = true
      · refine ⟨n, i, Tot.step (fun k => impl_Heap_find.l1.eq_2 ..) (Tot.yes (by omega) (Tot.yes (by omega) (Tot.yes (by omega) (Tot.yes c1 (Tot.yes (by omega) (Tot.yes (by omega) (Tot.yes (by omega) (Tot.yes c2 ?_))))))))⟩
        rw [c2, Bool.true_or, Bool.true_or]
        exact Tot.pure _
      · refine ⟨u, v, Tot.step (fun k => impl_Heap_find.l1.eq_2 ..) (Tot.yes (by omega) (Tot.yes (by omega) (Tot.yes (by omega) (Tot.yes c1 (Tot.yes (by omega) (Tot.yes (by omega) (Tot.yes (by omega) (Tot.no c2 ?_))))))))⟩
        rw [Bool.eq_false_iff.2 c2, Bool.false_or, w1]
        exact q2
    · refine ⟨u, v, Tot.step (fun k => impl_Heap_find.l1.eq_2 ..) (Tot.yes (by omega) (Tot.yes (by omega) (Tot.yes (by omega) (Tot.no c1 ?_))))⟩
      rw [decide_eq_false c1, Bool.false_and, Bool.false_or, w1]
      exact q2
theorem find_l0 (l : List S88) (L : List (List Bool)) (a : Int) (h8 : l.length ≤ 8) (hL : L.length = l.length) (hr : ∀ j, j < l.length → (rd_T88 l (j : Int)).f0.length ≤ 6 ∧ (rd_L4 L (j : Int)).length = (rd_T88 l (j : Int)).f0.length) : ∀ (d i : Nat), i + d = l.length →
    ∃ u v, Tot (fun k => impl_Heap_find.l0 k a l (l.length : Int) i l L) (u, v, allHas a l L d i)
  | 0, i, hi => ⟨0, 0, Tot.step (fun k => impl_Heap_find.l0.eq_2 ..) (Tot.no (by omega) (Tot.pure _))⟩
  | d + 1, i, hi => by
    have q2 := find_l0 l L a h8 hL hr d (i + 1) (by omega)
    obtain ⟨b6, bl⟩ := hr i (by omega)
    obtain ⟨u, v, p2⟩ := find_l1 l L a (l.length : Int) i (rd_T88 l (i : Int)).f0 (by omega) (by omega) b6 bl _ (by simpa using q2) (rd_T88 l (i : Int)).f0.length 0 (Nat.zero_add _)
    exact ⟨u, v, Tot.step (fun k => impl_Heap_find.l0.eq_2 ..) (Tot.yes (by omega) (Tot.yes (by omega) (Tot.yes (by omega) p2)))⟩
def fl (l : List S88) (L : List (List Bool)) : Nat → Nat → List Int
  | 0, _ => []
  | d + 1, x => if allHas (x : Int) l L l.length 0 = true then (x : Int) :: fl l L d (x + 1) else fl l L d (x + 1)
theorem fl_mem (l : List S88) (L : List (List Bool)) : ∀ (d x : Nat) (y : Int), y ∈ fl l L d x ↔ (x : Int) ≤ y ∧ y < (x : Int) + d ∧ allHas y l L l.length 0 = true
  | 0, x, y => by simp [fl]; omega
  | d + 1, x, y => by
    have ih := fl_mem l L d (x + 1) y
    unfold fl
    by_cases c : allHas (x : Int) l L l.length 0 = true
    · rw [if_pos c, List.mem_cons, ih]
      constructor
      · rintro (rfl | ⟨h1, h2, h3⟩)
        · exact ⟨by omega, by omega, c⟩
        · exact ⟨by omega, by omega, h3⟩
      · rintro ⟨h1, h2, h3⟩
        by_cases e : y = (x : Int)
        · exact Or.inl e
        · exact Or.inr ⟨by omega, by omega, h3⟩
    · rw [if_neg c, ih]
      constructor
      · rintro ⟨h1, h2, h3⟩; exact ⟨by omega, by omega, h3⟩
      · rintro ⟨h1, h2, h3⟩
        by_cases e : y = (x : Int)
        · subst e; exact absurd h3 c
        · exact ⟨by omega, by omega, h3⟩
theorem fl_lt (l : List S88) (L : List (List Bool)) : ∀ (d x : Nat), (fl l L d x).Pairwise (· < ·)
  | 0, x => by simp [fl]
  | d + 1, x => by
    unfold fl
    split
    · refine List.pairwise_cons.2 ⟨fun y hy => ?_, fl_lt l L d (x + 1)⟩
      have := ((fl_mem l L d (x + 1) y).1 hy).1
      omega
    · exact fl_lt l L d (x + 1)
theorem implAll_l0 (l : List S88) (L : List (List Bool)) (h8 : l.length ≤ 8) (hL : L.length = l.length) (hr : ∀ j, j < l.length → (rd_T88 l (j : Int)).f0.length ≤ 6 ∧ (rd_L4 L (j : Int)).length = (rd_T88 l (j : Int)).f0.length) : ∀ (d x : Nat) (acc : List Int), x + d = 16 → acc.length ≤ x →
    Tot (fun k => impl_AllBlocks.l0 k acc x l L) (acc ++ fl l L d x, true)
  | 0, x, acc, hx, ha => by
    refine Tot.step (fun k => impl_AllBlocks.l0.eq_2 ..) (Tot.no (by omega) ?_)
    simpa [fl] using Tot.pure (acc, true)
  | d + 1, x, acc, hx, ha => by
    obtain ⟨u, v, hf⟩ := find_l0 l L (x : Int) h8 hL hr l.length 0 (by omega)
    have hf' : Tot (fun k => impl_Heap_find.f k l L (x : Int)) (u, v, allHas (x : Int) l L l.length 0) := hf
    have w1 : wrap64 ((x : Int) + 1) = ((x + 1 : Nat) : Int) := by rw [wrap_in (by omega) (by omega)]; omega
    refine Tot.step (fun k => impl_AllBlocks.l0.eq_2 ..) (Tot.yes (by omega) (Tot.bind hf' ?_))
    rw [w1]
    unfold fl
    by_cases c : allHas (x : Int) l L l.length 0 = true
    · rw [if_pos c]
      have ih := implAll_l0 l L h8 hL hr d (x + 1) (acc ++ [(x : Int)]) (by omega) (by simp; omega)
      rw [List.append_assoc, List.singleton_append] at ih
      exact Tot.yes c (Tot.yes (by omega) ih)
    · rw [if_neg c]
      exact Tot.no c (implAll_l0 l L h8 hL hr d (x + 1) acc (by omega) (by omega))
theorem rowHas_in (a : Int) (bs : List Int) (v : List Bool) (hb : ∀ x ∈ bs, 0 ≤ x ∧ x ≤ 15) : ∀ (d i : Nat), i + d = bs.length → rowHas a bs v d i = true → 0 ≤ a ∧ a ≤ 15
  | 0, i, hi, h => by simp [rowHas] at h
  | d + 1, i, hi, h => by
    have h' : ((decide (rd bs (i : Int) = a) && rdOf false v (i : Int)) || rowHas a bs v d (i + 1)) = true := h
    rw [Bool.or_eq_true, Bool.and_eq_true, decide_eq_true_eq] at h'
    rcases h' with ⟨h', _⟩ | h'
    · rw [← h']
      refine hb _ ?_
      unfold rd
      rw [Int.toNat_natCast, List.getD_eq_getElem?_getD, List.getElem?_eq_getElem (by omega : i < bs.length)]
      exact List.getElem_mem _
    · exact rowHas_in a bs v hb d (i + 1) (by omega) h'
theorem allHas_in (a : Int) (l : List S88) (L : List (List Bool)) (hb : ∀ j, j < l.length → ∀ x ∈ (rd_T88 l (j : Int)).f0, 0 ≤ x ∧ x ≤ 15) : ∀ (d i : Nat), i + d = l.length → allHas a l L d i = true → 0 ≤ a ∧ a ≤ 15
  | 0, i, hi, h => by simp [allHas] at h
  | d + 1, i, hi, h => by
    have h' : (rowHas a (rd_T88 l (i : Int)).f0 (rd_L4 L (i : Int)) (rd_T88 l (i : Int)).f0.length 0 || allHas a l L d (i + 1)) = true := h
    rw [Bool.or_eq_true] at h'
    rcases h' with h' | h'
    · exact rowHas_in a _ _ (hb i (by omega)) _ 0 (by omega) h'
    · exact allHas_in a l L hb d (i + 1) (by omega) h'
theorem both_v (l : List S88) (L : List (List Bool)) (h1 : (l.length : Int) ≤ 1048576 ∧ ∀ y ∈ l, (y.f0.length : Int) ≤ 1048576) : ∃ r : List Int × Bool, (r.1.length : Int) ≤ 48 ∧ Tot (fun k => spec_AllBlocks.f k l L) r ∧ Tot (fun k => impl_AllBlocks.f k l L) r := by
  have hs := specHeap_v l L h1
  have hi : impl_GoodHeap.f l L = some (Heap.goodHeap (sgs l) L) := rfl
  unfold spec_AllBlocks.f impl_AllBlocks.f
  rw [hi]
  cases hg : Heap.goodHeap (sgs l) L with
  | false =>
    rw [hg] at hs
    exact ⟨([], false), by simp, Tot.bind hs (Tot.no (by decide) (Tot.pure _)), Tot.some_bind (Tot.no (by decide) (Tot.pure _))⟩
  | true =>
    have ho := goodHeap_open hg
    rw [hg] at hs
    have hr := fun j hj => (⟨(ho.2.2.2 j hj).1, (ho.2.2.2 j hj).2.2⟩ : _ ∧ _)
    have p1 := specAll_l0 l L (by omega) ho.2.2.1 hr l.length 0 [] (by omega) (by simp; omega)
    have p2 := implAll_l0 l L (by omega) ho.2.2.1 hr 16 0 [] (by omega) (by simp)
    obtain ⟨g1, g2, g3⟩ := allPut_ok l L (fun j hj => (ho.2.2.2 j hj).1) l.length 0 [] (by omega) (by simp)
    have e : allPut l L l.length 0 [] = fl l L 16 0 := lt_eq g1 (fl_lt l L 16 0) (fun x => by
      rw [g3, fl_mem]
      constructor
      · rintro (h | h)
        · simp at h
        · have := allHas_in x l L (fun j hj => (ho.2.2.2 j hj).2.1) l.length 0 (by omega) h
          exact ⟨by omega, by omega, h⟩
      · rintro ⟨_, _, h⟩
        exact Or.inr h)
    rw [List.nil_append, ← e] at p2
    refine ⟨(allPut l L l.length 0 [], true), by simp at g2 ⊢; omega, Tot.bind hs (Tot.yes rfl p1), Tot.some_bind (Tot.yes rfl p2)⟩
theorem markEnd_eq : ∀ (l : List Int) (m : Int), 0 ≤ m → m + l.length ≤ 9223372036854775806 → markEnd l m = m + l.length
  | [], m, _, _ => by simp [markEnd]
  | x :: l, m, h0, h1 => by
    simp only [List.length_cons] at h1
    have e : markEnd (x :: l) m = markEnd l (wrap64 (m + 1)) := rfl
    rw [e, wrap_in (by omega) (by omega), markEnd_eq l (m + 1) (by omega) (by omega)]
    simp
    omega
theorem markSeg_v (n : Nat) (hn : n ≤ 1048576) : ∀ (d i : Nat) (x0 : List S88) (m : Int), i + d = n → x0.length = n → (∀ y ∈ x0, (y.f0.length : Int) ≤ 1048576) → 0 ≤ m → m + 1048577 * d ≤ 4611686018427387904 → ∃ r, Tot (fun k => laws_markSegS.l0 k x0 m i) r ∧ m ≤ r.1 ∧ r.1 ≤ m + 1048577 * d
  | 0, i, x0, m, hi, hl, hy, h0, h1 => ⟨(m, x0), Tot.step (fun k => laws_markSegS.l0.eq_2 ..) (Tot.no (by omega) (Tot.pure _)), by omega, by omega⟩
  | d + 1, i, x0, m, hi, hl, hy, h0, h1 => by
    have hm : rd_T88 x0 (i : Int) ∈ x0 := by
      unfold rd_T88
      rw [Int.toNat_natCast, List.getD_eq_getElem?_getD, List.getElem?_eq_getElem (by omega : i < x0.length)]
      exact List.getElem_mem _
    have hb := hy _ hm
    have he := markEnd_eq (rd_T88 x0 (i : Int)).f0 m h0 (by omega)
    have hi1 := markInt_v (rd_T88 x0 (i : Int)).f0 m (by omega)
    rw [he] at hi1
    obtain ⟨r, hr, r1, r2⟩ := markSeg_v n hn d (i + 1) (x0.set i ⟨marked (rd_T88 x0 (i : Int)).f0 m, m + ((rd_T88 x0 (i : Int)).f0.length : Int)⟩) (m + ((rd_T88 x0 (i : Int)).f0.length : Int) + 1) (by omega) (by simpa using hl) (fun y hy' => by
      rcases List.mem_or_eq_of_mem_set hy' with h | rfl
      · exact hy y h
      · show ((marked _ m).length : Int) ≤ _
        rw [marked_length]; exact hb) (by omega) (by omega)
    refine ⟨r, Tot.step (fun k => laws_markSegS.l0.eq_2 ..) (Tot.yes (by omega) (Tot.yes (by omega) (Tot.bind hi1 ?_))), by omega, by omega⟩
    rw [wrap_in (x := (i : Int) + 1) (by omega) (by omega), wrap_in (x := m + ((rd_T88 x0 (i : Int)).f0.length : Int) + 1) (by omega) (by omega)]
    simpa using hr
theorem markLL_v (n : Nat) (hn : n ≤ 1048576) : ∀ (d i : Nat) (x0 : List (List Bool)) (m : Int), i + d = n → x0.length = n → (∀ y ∈ x0, (y.length : Int) ≤ 1048576) → 0 ≤ m → m + 1048577 * d ≤ 1125899906842624 → ∃ r, Tot (fun k => laws_markBoolSS.l0 k x0 m i) r ∧ m ≤ r.1
  | 0, i, x0, m, hi, hl, hy, h0, h1 => ⟨(m, x0), Tot.step (fun k => laws_markBoolSS.l0.eq_2 ..) (Tot.no (by omega) (Tot.pure _)), by omega⟩
  | d + 1, i, x0, m, hi, hl, hy, h0, h1 => by
    have hm : x0.getD i [] ∈ x0 := by
      rw [List.getD_eq_getElem?_getD, List.getElem?_eq_getElem (by omega : i < x0.length)]
      exact List.getElem_mem _
    have hb := hy _ hm
    have hi1 := markBool_v (x0.getD i []) m h0 (by omega)
    obtain ⟨r, hr, r1⟩ := markLL_v n hn d (i + 1) (x0.set i (mkBool (x0.getD i []) m)) (m + ((x0.getD i []).length : Int)) (by omega) (by simpa using hl) (fun y hy' => by
      rcases List.mem_or_eq_of_mem_set hy' with h | rfl
      · exact hy y h
      · rw [mkBool_length]; exact hb) (by omega) (by omega)
    refine ⟨r, Tot.step (fun k => laws_markBoolSS.l0.eq_2 ..) (Tot.yes (by omega) (Tot.yes (by omega) (Tot.bind (by simpa using hi1) ?_))), by omega⟩
    rw [wrap_in (x := (i : Int) + 1) (by omega) (by omega)]
    simpa using hr
theorem markHeap_v (l : List S88) (L : List (List Bool)) (h1 : (l.length : Int) ≤ 1048576 ∧ ∀ y ∈ l, (y.f0.length : Int) ≤ 1048576) (h2 : (L.length : Int) ≤ 1048576 ∧ ∀ y ∈ L, (y.length : Int) ≤ 1048576) : ∃ r, Tot (fun k => laws_markHeap.f k l L 1) r ∧ 0 ≤ r := by
  obtain ⟨r, hr, r1, r2⟩ := markSeg_v l.length (by omega) l.length 0 l 1 (by omega) rfl h1.2 (by omega) (by omega)
  obtain ⟨u, hu, u1⟩ := markLL_v L.length (by omega) L.length 0 L r.1 (by omega) rfl h2.2 (by omega) (by omega)
  exact ⟨u.1, Tot.bind (g := fun k => laws_markSegS.f k l 1) hr (Tot.bind (g := fun k => laws_markBoolSS.f k L r.1) hu (Tot.pure _)), by omega⟩
theorem FnExactAllBlocks : laws_FnExactAllBlocks.Pure := by
  intro l L ⟨hl, hok⟩ ⟨hL, hLk⟩
  obtain ⟨v, hv, hv1, hv2⟩ := szHeap_v l L 1048576 (by omega) (by omega) (by omega) (fun y hy => by have := (hok y hy).1.1; omega) (by omega) (fun y hy => by have := (hLk y hy).1; omega)
  refine Tot.at_ ?_
  unfold laws_FnExactAllBlocks.f
  refine Tot.bind hv ?_
  by_cases c : v < 0
  · exact Tot.yes c (Tot.pure _)
  · obtain ⟨s1, s2⟩ := hv2 (by omega)
    have toH := toHeap_v l L s1 s2
    have s1' : ((l.map cvSeg).length : Int) ≤ 1048576 ∧ ∀ y ∈ l.map cvSeg, (y.f0.length : Int) ≤ 1048576 := ⟨by simpa using s1.1, fun y hy => by
      obtain ⟨x, hx, rfl⟩ := List.mem_map.1 hy
      exact s1.2 x hx⟩
    generalize l.map cvSeg = M at *
    obtain ⟨⟨R1, R2⟩, hr, sR, iR⟩ := both_v M L s1'
    obtain ⟨mr, hm, hm0⟩ := markHeap_v M L s1' s2
    have hr' : (R1.length : Int) ≤ 48 := hr
    have eR := eqInt_v R1 (by omega)
    have e2 : (R2 != R2) = false := by simp
    have mI := markInt_v R1 1 (by omega)
    have hI := heldInt_v R1 1 (by omega)
    have m0 := markEnd_nonneg R1 1 (by omega) (by omega)
    refine Tot.no c (Tot.bind toH (Tot.bind sR (Tot.bind toH (Tot.bind iR (Tot.bind eR (Tot.yes rfl ?_))))))
    dsimp only
    rw [e2]
    refine Tot.step (fun k => laws_FnExactAllBlocks.j0.eq_2 ..) (Tot.no (by decide) (Tot.bind toH (Tot.bind (eqHeap_v M L s1' s2) (Tot.yes rfl (Tot.bind hm (Tot.no (by omega) (Tot.bind eR (Tot.yes rfl ?_))))))))
    rw [e2]
    refine Tot.step (fun k => laws_FnExactAllBlocks.j1.eq_2 ..) (Tot.no (by decide) (Tot.bind mI (Tot.bind hI (Tot.no (by omega) (Tot.yes rfl (Tot.bind toH (Tot.bind iR (Tot.bind eR (Tot.yes rfl ?_)))))))))
    dsimp only
    rw [e2]
    exact Tot.step (fun k => laws_FnExactAllBlocks.j2.eq_2 ..) (Tot.no (by decide) (Tot.bind hI (Tot.no (by omega) (Tot.yes rfl (Tot.pure _)))))

end Go.Proofs.Ytafkbhkikdndnaa.Pure

/- The plain law behind FnExactOpenZones: what the two sides compute is the same, for every input. No condition. -/
import Derived.Test.YtleklbmodelehaaPFnExactOpenZonesx5
set_option linter.unusedVariables false
set_option linter.unusedSimpArgs false
namespace Go.Proofs.Ytleklbmodelehaa.Pure
open Go.RowKit Go.Proofs.Ytleklbmodelehaa.PFnExactOpenZones Go.Proofs.YtleklbmodelehaaW.PrintWords Go.Proofs.YtleklbmodelehaaW.PrintLast Go.Proofs.YtleklbmodelehaaW.PrintMore

theorem wrap_in {x : Int} (h0 : -9223372036854775808 ≤ x) (h1 : x ≤ 9223372036854775807) : wrap64 x = x := by unfold wrap64; omega
theorem wf_in {x : Int} (h : (Lit.int .i64 x).wf = true) : -9223372036854775808 ≤ x ∧ x ≤ 9223372036854775807 := by
  simp only [Lit.wf, IntKind.min, IntKind.max, IntKind.bits, IntKind.signed, Bool.and_eq_true, decide_eq_true_eq] at h
  exact ⟨by have := h.1; simpa using this, by have := h.2; simpa using this⟩
theorem toList_nil (s : ByteArray) : (s.toList == ([] : List UInt8)) = decide (s.size = 0) := by
  rw [Bool.eq_iff_iff]
  simp only [beq_iff_eq, decide_eq_true_eq, ByteArray.toList_eq]
  constructor
  · intro h
    have h2 : s.data.toList.length = 0 := by rw [h]; rfl
    rw [Array.length_toList] at h2
    exact h2
  · intro h
    have h2 : s.data.toList.length = 0 := by rw [Array.length_toList]; exact h
    exact List.eq_nil_of_length_eq_zero h2

/-- From some number of rounds on the answer is r. -/
def Tot {α : Type} (g : Nat → Option α) (r : α) : Prop := ∃ K, ∀ k, K ≤ k → g k = some r
theorem Tot.at_ {α : Type} {g : Nat → Option α} {r : α} (h : Tot g r) : ∃ k, g k = some r := by
  obtain ⟨K, hK⟩ := h
  exact ⟨K, hK K (Nat.le_refl _)⟩
theorem Tot.pure {α : Type} (r : α) : Tot (fun _ => some r) r := ⟨0, fun _ _ => rfl⟩
theorem Tot.of_eq {α : Type} {g : Nat → Option α} {r : α} (h : ∀ k, g k = some r) : Tot g r := ⟨0, fun k _ => h k⟩
theorem Tot.congr {α : Type} {g g' : Nat → Option α} {r : α} (he : ∀ k, g k = g' k) (h : Tot g' r) : Tot g r := by
  obtain ⟨K, hK⟩ := h
  exact ⟨K, fun k hk => (he k).trans (hK k hk)⟩
theorem Tot.bind {α β : Type} {g : Nat → Option α} {h : Nat → α → Option β} {a : α} {r : β} (hg : Tot g a) (hh : Tot (fun k => h k a) r) : Tot (fun k => (g k).bind (h k)) r := by
  obtain ⟨K, hK⟩ := hg
  obtain ⟨L, hL⟩ := hh
  refine ⟨max K L, fun k hk => ?_⟩
  show (g k).bind (h k) = some r
  rw [hK k (by omega)]
  exact hL k (by omega)
theorem Tot.step {α : Type} {F G : Nat → Option α} {r : α} (hF : ∀ k, F (k + 1) = G k) (h : Tot G r) : Tot F r := by
  obtain ⟨K, hK⟩ := h
  refine ⟨K + 1, fun k hk => ?_⟩
  obtain ⟨m, rfl⟩ : ∃ m, k = m + 1 := ⟨k - 1, by omega⟩
  rw [hF]
  exact hK m (by omega)
theorem Tot.yes {α : Type} {p : Prop} [Decidable p] {g h : Nat → Option α} {r : α} (hp : p) (hg : Tot g r) : Tot (fun k => if p then g k else h k) r := by
  simpa only [if_pos hp] using hg
theorem Tot.no {α : Type} {p : Prop} [Decidable p] {g h : Nat → Option α} {r : α} (hp : ¬ p) (hg : Tot h r) : Tot (fun k => if p then g k else h k) r := by
  simpa only [if_neg hp] using hg
theorem Tot.some_bind {α β : Type} {h : Nat → α → Option β} {a : α} {r : β} (hh : Tot (fun k => h k a) r) : Tot (fun k => (some a).bind (h k)) r := hh

theorem in_v (a b c : Int) : spec_l1In.f a b c = some (decide (b ≤ a ∧ a ≤ c)) := by
  unfold spec_l1In.f
  by_cases h : a ≥ b
  · rw [if_pos h]; congr 1; rw [decide_eq_decide]; omega
  · rw [if_neg h]; congr 1; symm; rw [decide_eq_false_iff_not]; omega

theorem within_v (a b c : Int) : impl_within.f a b c = some (decide (b ≤ a ∧ a ≤ c)) := by
  unfold impl_within.f
  by_cases h : b ≤ a
  · rw [if_pos h]; congr 1; rw [decide_eq_decide]; omega
  · rw [if_neg h]; congr 1; symm; rw [decide_eq_false_iff_not]; omega


theorem rd_at {l : List Int} {i : Int} (h0 : 0 ≤ i) (h1 : i < (l.length : Int)) : rd l i = l[i.toNat]'(by omega) := by
  unfold rd
  rw [List.getD_eq_getElem?_getD, List.getElem?_eq_getElem (by omega : i.toNat < l.length)]
  rfl
theorem eqInt_l (a : List Int) (ha : (a.length : Int) ≤ 9223372036854775806) : ∀ (d : Nat) (i : Int), 0 ≤ i → i + d = a.length → Tot (fun k => laws_eqIntS.l0 k a a i) true
  | 0, i, h0, h => by
    refine Tot.step (fun k => laws_eqIntS.l0.eq_2 ..) ?_
    exact Tot.no (by omega) (Tot.pure _)
  | d + 1, i, h0, h => by
    refine Tot.step (fun k => laws_eqIntS.l0.eq_2 ..) ?_
    refine Tot.yes (by omega) (Tot.yes h0 (Tot.yes (by omega) (Tot.yes rfl ?_)))
    rw [wrap_in (by omega) (by omega)]
    exact eqInt_l a ha d (i + 1) (by omega) (by omega)
theorem eqInt_v (a : List Int) (ha : (a.length : Int) ≤ 9223372036854775806) : Tot (fun k => laws_eqIntS.f k a a) true := by
  unfold laws_eqIntS.f
  exact Tot.yes rfl (eqInt_l a ha a.length 0 (by omega) (by omega))

/-- m, m + 1, .. in the place of what stands from i on. -/
def marked : List Int → Int → List Int
  | [], _ => []
  | _ :: l, m => m :: marked l (wrap64 (m + 1))
def markEnd : List Int → Int → Int
  | [], m => m
  | _ :: l, m => markEnd l (wrap64 (m + 1))
theorem marked_length : ∀ (l : List Int) (m : Int), (marked l m).length = l.length
  | [], _ => rfl
  | _ :: l, m => by simp [marked, marked_length l]
theorem markEnd_marked : ∀ (l : List Int) (m : Int), markEnd (marked l m) m = markEnd l m
  | [], _ => rfl
  | _ :: l, m => markEnd_marked l _
theorem markInt_l : ∀ (b a : List Int) (m : Int), ((a ++ b).length : Int) ≤ 9223372036854775806 → Tot (fun k => laws_markIntS.l0 k (a ++ b) m a.length) (markEnd b m, a ++ marked b m)
  | [], a, m, h => by
    refine Tot.step (fun k => laws_markIntS.l0.eq_2 ..) ?_
    simp only [List.append_nil, marked, markEnd]
    exact Tot.no (by omega) (Tot.pure _)
  | x :: b, a, m, h => by
    refine Tot.step (fun k => laws_markIntS.l0.eq_2 ..) ?_
    have hl : ((a ++ x :: b).length : Int) = a.length + b.length + 1 := by simp; omega
    refine Tot.yes (by omega) (Tot.yes (by omega) ?_)
    have e : (a ++ x :: b).set ((a.length : Int)).toNat m = (a ++ [m]) ++ b := by simp
    rw [e, wrap_in (x := (a.length : Int) + 1) (by omega) (by omega)]
    have := markInt_l b (a ++ [m]) (wrap64 (m + 1)) (by simp at hl h ⊢; omega)
    simpa [marked, markEnd] using this
theorem markInt_v (a : List Int) (m : Int) (ha : (a.length : Int) ≤ 9223372036854775806) : Tot (fun k => laws_markIntS.f k a m) (markEnd a m, marked a m) := by
  have := markInt_l a [] m (by simpa using ha)
  unfold laws_markIntS.f
  simpa using this
theorem markEnd_nonneg : ∀ (l : List Int) (m : Int), 0 ≤ m → m + l.length ≤ 9223372036854775806 → 0 ≤ markEnd l m
  | [], m, h, _ => h
  | _ :: l, m, h, h2 => by
    simp at h2
    unfold markEnd
    rw [wrap_in (by omega) (by omega)]
    exact markEnd_nonneg l _ (by omega) (by omega)

theorem heldInt_l : ∀ (b a : List Int) (m : Int), ((a ++ b).length : Int) ≤ 9223372036854775806 → Tot (fun k => laws_heldIntS.l0 k (a ++ marked b m) m a.length) (markEnd b m)
  | [], a, m, h => by
    refine Tot.step (fun k => laws_heldIntS.l0.eq_2 ..) ?_
    simp only [List.append_nil, marked, markEnd]
    exact Tot.no (by omega) (Tot.pure _)
  | x :: b, a, m, h => by
    refine Tot.step (fun k => laws_heldIntS.l0.eq_2 ..) ?_
    have hl : ((a ++ marked (x :: b) m).length : Int) = a.length + b.length + 1 := by simp [marked, marked_length]; omega
    have h2 : ((a ++ x :: b).length : Int) = a.length + b.length + 1 := by simp; omega
    refine Tot.yes (by omega) (Tot.yes (by omega) (Tot.yes ?_ ?_))
    · rw [rd_at (by omega) (by omega)]
      simp [marked]
    · rw [wrap_in (x := (a.length : Int) + 1) (by omega) (by omega)]
      have := heldInt_l b (a ++ [m]) (wrap64 (m + 1)) (by simp at h2 h ⊢; omega)
      simpa [marked, markEnd] using this
theorem heldInt_v (a : List Int) (m : Int) (ha : (a.length : Int) ≤ 9223372036854775806) : Tot (fun k => laws_heldIntS.f k (marked a m) m) (markEnd a m) := by
  have := heldInt_l a [] m (by simpa using ha)
  unfold laws_heldIntS.f
  simpa using this

theorem strOf_one (a : Int) : (strOfNums [a]).size = 1 := by simp [strOfNums]; rfl
theorem size_app (a b : ByteArray) : (a ++ b).size = a.size + b.size := by simp
theorem markText_l : ∀ (n : Nat) (m : Int) (t : ByteArray), 0 ≤ m → m.toNat ≤ n → n + t.size ≤ 4611686018427387904 → ∃ r, Tot (fun k => laws_markText.l0 k m t) r
  | 0, m, t, h0, hn, hb => ⟨_, Tot.step (fun k => laws_markText.l0.eq_2 ..) (Tot.no (by omega) (Tot.yes (by omega) (Tot.pure _)))⟩
  | n + 1, m, t, h0, hn, hb => by
    by_cases hp : m > 0
    · have e1 : Int.tdiv m 10 = m / 10 := Int.tdiv_eq_ediv_of_nonneg h0
      have e2 : wrap64 (Int.tdiv m 10) = m / 10 := by rw [e1]; exact wrap_in (by omega) (by omega)
      obtain ⟨r, hr⟩ := markText_l n (m / 10) (strOfNums [(wrap64 (48 + (Int.tmod m 10))) % 256] ++ t) (by omega) (by omega) (by rw [size_app, strOf_one]; omega)
      refine ⟨r, Tot.step (fun k => laws_markText.l0.eq_2 ..) (Tot.yes hp (Tot.some_bind (Tot.yes (by rw [strOf_one]; omega) ?_)))⟩
      rw [e2]; exact hr
    · exact ⟨_, Tot.step (fun k => laws_markText.l0.eq_2 ..) (Tot.no hp (Tot.yes (by omega) (Tot.pure _)))⟩
theorem markText_e (m : Int) (h0 : 0 ≤ m) (h1 : m ≤ 1125899906842624) : ∃ r, Tot (fun k => laws_markText.f k m) r := by
  unfold laws_markText.f
  by_cases h : m ≤ 0
  · exact ⟨_, Tot.yes h (Tot.pure _)⟩
  · have h00 : (⟨#[]⟩ : ByteArray).size = 0 := rfl
    obtain ⟨r, hr⟩ := markText_l m.toNat m ⟨#[]⟩ h0 (Nat.le_refl _) (by rw [h00]; omega)
    exact ⟨r, Tot.no h hr⟩
open Classical in
/-- The text of a mark. -/
noncomputable def mtxt (m : Int) : ByteArray := if h : ∃ r, Tot (fun k => laws_markText.f k m) r then Classical.choose h else ⟨#[]⟩
theorem markText_v (m : Int) (h0 : 0 ≤ m) (h1 : m ≤ 1125899906842624) : Tot (fun k => laws_markText.f k m) (mtxt m) := by
  unfold mtxt
  rw [dif_pos (markText_e m h0 h1)]
  exact Classical.choose_spec (markText_e m h0 h1)

theorem set_app {α : Type} (a b : List α) (x y : α) : (a ++ x :: b).set ((a.length : Int)).toNat y = a ++ y :: b := by simp

theorem rdLZone_at (a b : List S124) (x : S124) : rd_T124 (a ++ x :: b) (a.length : Int) = x := by simp [rd_T124, List.getD]
theorem szZone_v (x : S124) (m : Int) (h0 : 0 ≤ m) (h1 : m ≤ 1048576) (hx : (x.f0.size : Int) ≤ 140737488351232) : ∃ v, Tot (fun (_ : Nat) => laws_szZone.f x.f0 x.f1 x.f2 m) v ∧ v ≤ 1048576 ∧ (0 ≤ v → True) := by
  unfold laws_szZone.f
  rw [wrap_in (by omega) (by omega)]
  by_cases h : m - (x.f0.size : Int) < 0
  · exact ⟨-1, Tot.yes h (Tot.pure _), by omega, fun h => by omega⟩
  · exact ⟨_, Tot.no h (Tot.pure _), by omega, fun _ => trivial⟩
theorem szZoneS_l : ∀ (b a : List S124) (m : Int), 0 ≤ m → m ≤ 1048576 → ((a ++ b).length : Int) ≤ 1048576 → (∀ x ∈ b, (x.f0.size : Int) ≤ 140737488351232) → ∃ v, Tot (fun k => laws_szZoneS.l0 k (a ++ b) m a.length) v ∧ v ≤ 1048576 ∧ (0 ≤ v → ∀ y ∈ b, True)
  | [], a, m, h0, h1, hl, hs => ⟨m, by
    refine Tot.step (fun k => laws_szZoneS.l0.eq_2 ..) ?_
    simp only [List.append_nil]
    exact Tot.no (by omega) (Tot.pure _), h1, fun _ y hy => by simp at hy⟩
  | x :: b, a, m, h0, h1, hl, hs => by
    have hll : ((a ++ x :: b).length : Int) = a.length + b.length + 1 := by simp; omega
    obtain ⟨u, hu, hu1, hu2⟩ := szZone_v x m h0 h1 (hs x (by simp))
    by_cases hc : u < 0
    · refine ⟨-1, Tot.step (fun k => laws_szZoneS.l0.eq_2 ..) (Tot.yes (by omega) (Tot.yes (by omega) ?_)), by omega, fun h => by omega⟩
      rw [rdLZone_at]
      exact Tot.bind hu (Tot.yes hc (Tot.pure _))
    · obtain ⟨v, hv, hv1, hv2⟩ := szZoneS_l b (a ++ [x]) u (by omega) hu1 (by simp at hll hl ⊢; omega) (fun y hy => hs y (by simp [hy]))
      refine ⟨v, Tot.step (fun k => laws_szZoneS.l0.eq_2 ..) (Tot.yes (by omega) (Tot.yes (by omega) ?_)), hv1, fun h y hy => ?_⟩
      · rw [rdLZone_at, wrap_in (x := (a.length : Int) + 1) (by omega) (by omega)]
        exact Tot.bind hu (Tot.no hc (by simpa using hv))
      · rcases List.mem_cons.1 hy with rfl | hy
        · exact hu2 (by omega)
        · exact hv2 h y hy
theorem szZoneS_v (l : List S124) (m : Int) (h0 : 0 ≤ m) (h1 : m ≤ 1048576) (hl : (l.length : Int) ≤ 9223372036850000000) (hs : ∀ x ∈ l, (x.f0.size : Int) ≤ 140737488351232) : ∃ v, Tot (fun k => laws_szZoneS.f k l m) v ∧ v ≤ 1048576 ∧ (0 ≤ v → (l.length : Int) ≤ 1048576 ∧ ∀ y ∈ l, True) := by
  unfold laws_szZoneS.f
  rw [wrap_in (by omega) (by omega)]
  by_cases h : m - (l.length : Int) < 0
  · exact ⟨-1, Tot.yes h (Tot.pure _), by omega, fun h => by omega⟩
  · obtain ⟨v, hv, hv1, hv2⟩ := szZoneS_l l [] (m - (l.length : Int)) (by omega) (by omega) (by simp; omega) hs
    exact ⟨v, Tot.no h (by simpa using hv), hv1, fun h3 => ⟨by omega, hv2 h3⟩⟩
def cvZone (x : S124) : S86 := ⟨x.f0, x.f1, x.f2⟩
theorem toZone_v (x : S124) (hs : True) : Tot (fun (_ : Nat) => laws_toZone.f x.f0 x.f1 x.f2) (x.f0, x.f1, x.f2) := Tot.of_eq fun _ => by simp [laws_toZone.f]
theorem toZoneS_l : ∀ (b a : List S124), ((a ++ b).length : Int) ≤ 9223372036854775806 → (∀ y ∈ b, True) → Tot (fun k => laws_toZoneS.l0 k (a ++ b) (a.map cvZone ++ List.replicate b.length z86) a.length) ((a ++ b).map cvZone)
  | [], a, h, hs => by
    refine Tot.step (fun k => laws_toZoneS.l0.eq_2 ..) ?_
    simp only [List.append_nil, List.length_nil, List.replicate_zero]
    exact Tot.no (by omega) (Tot.pure _)
  | x :: b, a, h, hs => by
    refine Tot.step (fun k => laws_toZoneS.l0.eq_2 ..) ?_
    have hl : ((a ++ x :: b).length : Int) = a.length + b.length + 1 := by simp; omega
    have hl2 : ((a.map cvZone ++ List.replicate (x :: b).length z86).length : Int) = a.length + b.length + 1 := by simp; omega
    refine Tot.yes (by omega) (Tot.yes (by omega) ?_)
    rw [rdLZone_at, wrap_in (x := (a.length : Int) + 1) (by omega) (by omega)]
    refine Tot.bind (toZone_v x (hs x (by simp))) (Tot.yes (by omega) ?_)
    have e : (a.map cvZone ++ List.replicate (x :: b).length z86).set ((a.length : Int)).toNat (cvZone x) = (a ++ [x]).map cvZone ++ List.replicate b.length z86 := by
      rw [List.length_cons, List.replicate_succ, List.set_append_right _ _ (by simp)]
      simp
    have e2 : (⟨x.f0, x.f1, x.f2⟩ : S86) = cvZone x := rfl
    dsimp only
    rw [e2, e]
    have := toZoneS_l b (a ++ [x]) (by simp at hl h ⊢; omega) (fun y hy => hs y (by simp [hy]))
    simpa using this
theorem toZoneS_v (l : List S124) (h : (l.length : Int) ≤ 1048576) (hs : ∀ y ∈ l, True) : Tot (fun k => laws_toZoneS.f k l) (l.map cvZone) := by
  unfold laws_toZoneS.f
  refine Tot.yes (by omega) (Tot.yes (by omega) ?_)
  have := toZoneS_l l [] (by simp; omega) hs
  simpa using this
theorem rdIZone_at (a b : List S86) (x : S86) : rd_T86 (a ++ x :: b) (a.length : Int) = x := by simp [rd_T86, List.getD]
theorem eqZone_v (x : S86) (hs : True) : Tot (fun (_ : Nat) => laws_eqZone.f x.f0 x.f1 x.f2 x.f0 x.f1 x.f2) true := Tot.of_eq fun _ => by simp [laws_eqZone.f]
theorem eqZoneS_l : ∀ (b a : List S86), ((a ++ b).length : Int) ≤ 9223372036854775806 → (∀ y ∈ b, True) → Tot (fun k => laws_eqZoneS.l0 k (a ++ b) (a ++ b) a.length) true
  | [], a, h, hs => by
    refine Tot.step (fun k => laws_eqZoneS.l0.eq_2 ..) ?_
    simp only [List.append_nil]
    exact Tot.no (by omega) (Tot.pure _)
  | x :: b, a, h, hs => by
    refine Tot.step (fun k => laws_eqZoneS.l0.eq_2 ..) ?_
    have hl : ((a ++ x :: b).length : Int) = a.length + b.length + 1 := by simp; omega
    refine Tot.yes (by omega) (Tot.yes (by omega) (Tot.yes (by omega) ?_))
    rw [rdIZone_at, wrap_in (x := (a.length : Int) + 1) (by omega) (by omega)]
    refine Tot.bind (eqZone_v x (hs x (by simp))) (Tot.yes rfl ?_)
    have := eqZoneS_l b (a ++ [x]) (by simp at hl h ⊢; omega) (fun y hy => hs y (by simp [hy]))
    simpa using this
theorem eqZoneS_v (l : List S86) (h : (l.length : Int) ≤ 9223372036854775806) (hs : ∀ y ∈ l, True) : Tot (fun k => laws_eqZoneS.f k l l) true := by
  unfold laws_eqZoneS.f
  refine Tot.yes rfl ?_
  have := eqZoneS_l l [] (by simpa using h) hs
  simpa using this
noncomputable def mkZone : List S86 → Int → List S86
  | [], _ => []
  | _ :: l, m => ⟨mtxt m, (m + 1), ((Int.tmod (m + 2) 3) == 0)⟩ :: mkZone l (m + 3)
theorem mkZone_length : ∀ (l : List S86) (m : Int), (mkZone l m).length = l.length
  | [], _ => rfl
  | _ :: l, m => by simp [mkZone, mkZone_length l]
theorem markZoneS_l : ∀ (b a : List S86) (m : Int), 0 ≤ m → m + 3 * b.length ≤ 1125899906842624 → ((a ++ b).length : Int) ≤ 9223372036854775806 → Tot (fun k => laws_markZoneS.l0 k (a ++ b) m a.length) (m + 3 * b.length, a ++ mkZone b m)
  | [], a, m, h0, h1, h => by
    refine Tot.step (fun k => laws_markZoneS.l0.eq_2 ..) ?_
    simp only [List.append_nil, mkZone, List.length_nil, Int.natCast_zero, Int.mul_zero, Int.add_zero]
    exact Tot.no (by omega) (Tot.pure _)
  | x :: b, a, m, h0, h1, h => by
    have hl : ((a ++ x :: b).length : Int) = a.length + b.length + 1 := by simp; omega
    simp only [List.length_cons] at h1
    have hw1 : wrap64 (m + 1 + 1) = m + 2 := (wrap_in (by omega) (by omega)).trans (by omega); have hw2 : wrap64 (m + 2 + 1) = m + 3 := (wrap_in (by omega) (by omega)).trans (by omega)
    refine Tot.step (fun k => laws_markZoneS.l0.eq_2 ..) (Tot.yes (by omega) ?_)
    rw [wrap_in (x := (a.length : Int) + 1) (by omega) (by omega)]
    simp only [wrap_in (x := m + 1) (by omega) (by omega), hw1, hw2, rdIZone_at, set_app]
    refine Tot.bind (markText_v m (by omega) (by omega)) ?_
    refine Tot.yes (by omega) ?_
    refine Tot.some_bind ?_
    try simp only [rdIZone_at, set_app]
    refine Tot.some_bind ?_
    try simp only [rdIZone_at, set_app]
    try simp only [rdIZone_at, set_app]
    have := markZoneS_l b (a ++ [⟨mtxt m, (m + 1), ((Int.tmod (m + 2) 3) == 0)⟩]) (m + 3) (by omega) (by omega) (by simp at hl h ⊢; omega)
    have e : m + 3 * ((x :: b).length : Int) = m + 3 + 3 * b.length := by simp; omega
    rw [e]
    simpa [mkZone] using this
theorem markZoneS_v (l : List S86) (m : Int) (h0 : 0 ≤ m) (h1 : m + 3 * l.length ≤ 1125899906842624) : Tot (fun k => laws_markZoneS.f k l m) (m + 3 * l.length, mkZone l m) := by
  have := markZoneS_l l [] m h0 h1 (by simp; omega)
  unfold laws_markZoneS.f
  simpa using this
theorem toList_nilP (s : ByteArray) : s.toList = ([] : List UInt8) ↔ s.size = 0 := by
  have := toList_nil s
  rw [Bool.eq_iff_iff] at this
  simpa using this
theorem eqDevice_v (l : List S86) (h : (l.length : Int) ≤ 1048576) : Tot (fun k => laws_eqDevice.f k l l) true := by
  unfold laws_eqDevice.f
  exact Tot.bind (eqZoneS_v l (by omega) (fun _ _ => trivial)) (Tot.yes rfl (Tot.pure _))
theorem toDevice_v (l : List S124) (h : (l.length : Int) ≤ 1048576) : Tot (fun k => laws_toDevice.f k l) (l.map cvZone) := by
  unfold laws_toDevice.f
  exact Tot.bind (toZoneS_v l h (fun _ _ => trivial)) (Tot.pure _)
theorem szDevice_v (l : List S124) (hl : (l.length : Int) ≤ 9223372036850000000) (hs : ∀ x ∈ l, (x.f0.size : Int) ≤ 140737488351232) : ∃ v, Tot (fun k => laws_szDevice.f k l 1048576) v ∧ (0 ≤ v → (l.length : Int) ≤ 1048576) := by
  obtain ⟨v, hv, hv1, hv2⟩ := szZoneS_v l 1048576 (by omega) (by omega) hl hs
  unfold laws_szDevice.f
  by_cases h : v < 0
  · exact ⟨-1, Tot.bind hv (Tot.yes h (Tot.pure _)), fun h => by omega⟩
  · exact ⟨v, Tot.bind hv (Tot.no h (Tot.pure _)), fun h => (hv2 h).1⟩
def goodZ (x : S86) : Bool := decide ((x.f0.size : Int) ≤ 60 ∧ (0 ≤ x.f1 ∧ x.f1 ≤ x.f0.size)) && (x.f2 || decide ((x.f0.size : Int) < 60))
def openZ (x : S86) : Bool := !(decide (x.f0.size = 0)) && !x.f2
def nOpen (l : List S86) : Int := ((l.filter openZ).length : Int)
def devB (l : List S86) : Bool := l.all goodZ && (decide (1 ≤ (l.length : Int) ∧ (l.length : Int) ≤ 6) && decide (nOpen l ≤ 3))
theorem nOpen_app (a : List S86) (x : S86) : nOpen (a ++ [x]) = if openZ x = true then nOpen a + 1 else nOpen a := by
  unfold nOpen
  by_cases h : openZ x = true <;> simp [List.filter_append, h]
theorem nOpen_le (l : List S86) : 0 ≤ nOpen l ∧ nOpen l ≤ l.length := ⟨by unfold nOpen; omega, by unfold nOpen; have := List.length_filter_le openZ l; omega⟩
theorem specOpen_v (x : S86) : spec_l2Open.f x.f0 x.f1 x.f2 = some (openZ x) := by
  unfold spec_l2Open.f openZ
  by_cases h : x.f0.size = 0
  · rw [if_pos ((toList_nilP _).2 h), decide_eq_true h]; rfl
  · rw [if_neg (fun e => h ((toList_nilP _).1 e)), decide_eq_false h]; rfl
theorem specDev_l : ∀ (b a : List S86), ((a ++ b).length : Int) ≤ 9223372036850000000 → Tot (fun k => spec_GoodDevice.l0 k (nOpen a) (a ++ b) ((a ++ b).length : Int) a.length (a ++ b)) (b.all goodZ && (decide (1 ≤ ((a ++ b).length : Int) ∧ ((a ++ b).length : Int) ≤ 6) && decide (nOpen (a ++ b) ≤ 3)))
  | [], a, h => by
    refine Tot.step (fun k => spec_GoodDevice.l0.eq_2 ..) (Tot.no (by simp) ?_)
    simp only [in_v, Option.bind_some, List.append_nil, List.all_nil, Bool.true_and]
    by_cases c : 1 ≤ (a.length : Int) ∧ (a.length : Int) ≤ 6
    · rw [decide_eq_true c]; exact Tot.yes rfl (Tot.pure _)
    · rw [decide_eq_false c]; exact Tot.no (by decide) (Tot.pure _)
  | x :: b, a, h => by
    have hl : ((a ++ x :: b).length : Int) = a.length + b.length + 1 := by simp; omega
    have hna := nOpen_le a
    have next : ∀ bad : Bool, bad = !(goodZ x) → Tot (fun k => spec_GoodDevice.j1 k (nOpen a) (a ++ x :: b) ((a ++ x :: b).length : Int) a.length bad (a ++ x :: b) x.f0 x.f1 x.f2) ((x :: b).all goodZ && (decide (1 ≤ ((a ++ x :: b).length : Int) ∧ ((a ++ x :: b).length : Int) ≤ 6) && decide (nOpen (a ++ x :: b) ≤ 3))) := by
      rintro bad rfl
      refine Tot.step (fun k => spec_GoodDevice.j1.eq_2 ..) ?_
      by_cases hg : goodZ x = true
      · refine Tot.no (by simp [hg]) ?_
        simp only [specOpen_v, Option.bind_some]
        have ih := specDev_l b (a ++ [x]) (by simpa using h)
        rw [nOpen_app] at ih
        rw [wrap_in (x := (a.length : Int) + 1) (by omega) (by omega), wrap_in (x := nOpen a + 1) (by omega) (by omega), List.all_cons, hg, Bool.true_and]
        by_cases ho : openZ x = true
        · rw [if_pos ho] at ih
          exact Tot.yes ho (by simpa using ih)
        · rw [if_neg ho] at ih
          exact Tot.no ho (by simpa using ih)
      · have e : (x :: b).all goodZ = false := by simp [List.all_cons, hg]
        rw [e, Bool.false_and]
        exact Tot.yes (by simp [hg]) (Tot.pure _)
    refine Tot.step (fun k => spec_GoodDevice.l0.eq_2 ..) (Tot.yes (by omega) (Tot.yes (by omega) (Tot.yes (by omega) ?_)))
    rw [rdIZone_at]
    simp only [in_v, Option.bind_some]
    by_cases c1 : (x.f0.size : Int) > 60
    · exact Tot.yes c1 (next true (by have : ¬ ((x.f0.size : Int) ≤ 60) := by omega
                                      simp [goodZ, this]))
    · refine Tot.no c1 ?_
      by_cases c2 : 0 ≤ x.f1 ∧ x.f1 ≤ (x.f0.size : Int)
      · refine Tot.yes (decide_eq_true c2) ?_
        by_cases c3 : (x.f0.size : Int) = 60
        · refine Tot.yes c3 (next _ ?_)
          unfold goodZ
          rw [decide_eq_true ⟨by omega, c2⟩, decide_eq_false (by omega : ¬ (x.f0.size : Int) < 60)]
          simp
        · refine Tot.no c3 (next _ ?_)
          unfold goodZ
          rw [decide_eq_true ⟨by omega, c2⟩, decide_eq_true (by omega : (x.f0.size : Int) < 60)]
          simp
      · exact Tot.no (by rw [decide_eq_true_eq]; exact c2) (next true (by
          unfold goodZ
          rw [decide_eq_false (fun e => c2 e.2)]; rfl))
theorem specDev_v (l : List S86) (h : (l.length : Int) ≤ 9223372036850000000) : Tot (fun k => spec_GoodDevice.f k l) (devB l) := by
  have := specDev_l l [] (by simpa using h)
  unfold spec_GoodDevice.f
  simpa [devB, nOpen] using this
theorem implGoodZ_v (x : S86) : impl_Zone_isGood.f x.f0 x.f1 x.f2 = some (goodZ x) := by
  unfold impl_Zone_isGood.f goodZ
  simp only [within_v, Option.bind_some]
  by_cases c1 : (x.f0.size : Int) ≤ 60
  · rw [if_pos c1]
    by_cases c2 : 0 ≤ x.f1 ∧ x.f1 ≤ (x.f0.size : Int)
    · rw [if_pos (decide_eq_true c2), decide_eq_true (show (x.f0.size : Int) ≤ 60 ∧ (0 ≤ x.f1 ∧ x.f1 ≤ x.f0.size) from ⟨c1, c2⟩), Bool.true_and]
      cases x.f2 <;> simp
    · rw [if_neg (by rw [decide_eq_true_eq]; exact c2), decide_eq_false (fun e => c2 e.2)]; rfl
  · rw [if_neg c1, decide_eq_false (fun e => c1 e.1)]; rfl
theorem areZ_v (l : List S86) : impl_areAll_Zone_at_impl_Zone_isGood.f l = some (l.all goodZ) :=
  Go.Proofs.Ytleklbmodelehaa.Open.allO_v fun x _ => implGoodZ_v x
theorem implOpen_v (x : S86) : impl_Zone_isOpen.f x.f0 x.f1 x.f2 = some (openZ x) := by
  unfold impl_Zone_isOpen.f openZ
  by_cases h : x.f0.size = 0
  · rw [if_pos ((toList_nilP _).2 h), decide_eq_true h]; rfl
  · rw [if_neg (fun e => h ((toList_nilP _).1 e)), decide_eq_false h]; rfl
/-- The numbers of the open zones, from i on. -/
def opens : List S86 → Int → List Int
  | [], _ => []
  | x :: l, i => if openZ x = true then i :: opens l (i + 1) else opens l (i + 1)
theorem opens_length : ∀ (l : List S86) (i : Int), ((opens l i).length : Int) = nOpen l
  | [], _ => rfl
  | x :: l, i => by
    have := opens_length l (i + 1)
    unfold nOpen at this ⊢
    by_cases h : openZ x = true <;> simp [opens, h, this]
theorem implOpens_l : ∀ (b a : List S86) (out : List Int), (out.length : Int) ≤ a.length → ((a ++ b).length : Int) ≤ 1048576 → Tot (fun k => impl_Device_open.l0 k out (a ++ b) ((a ++ b).length : Int) a.length) (out ++ opens b a.length)
  | [], a, out, ho, h => by
    refine Tot.step (fun k => impl_Device_open.l0.eq_2 ..) (Tot.no (by simp) ?_)
    simp only [opens, List.append_nil]
    exact Tot.pure _
  | x :: b, a, out, ho, h => by
    have hl : ((a ++ x :: b).length : Int) = a.length + b.length + 1 := by simp; omega
    refine Tot.step (fun k => impl_Device_open.l0.eq_2 ..) (Tot.yes (by omega) (Tot.yes (by omega) (Tot.yes (by omega) ?_)))
    rw [rdIZone_at, wrap_in (x := (a.length : Int) + 1) (by omega) (by omega)]
    simp only [implOpen_v, Option.bind_some, opens]
    by_cases hx : openZ x = true
    · rw [if_pos hx]
      refine Tot.yes hx (Tot.yes (by omega) ?_)
      have := implOpens_l b (a ++ [x]) (out ++ [(a.length : Int)]) (by simp; omega) (by simpa using h)
      simpa using this
    · rw [if_neg hx]
      refine Tot.no hx ?_
      have := implOpens_l b (a ++ [x]) out (by simp; omega) (by simpa using h)
      simpa using this
theorem implOpens_v (l : List S86) (h : (l.length : Int) ≤ 1048576) : Tot (fun k => impl_Device_open.f k l) (opens l 0) := by
  have := implOpens_l l [] [] (by simp) (by simpa using h)
  unfold impl_Device_open.f
  simpa using this
theorem implDev_v (l : List S86) (h : (l.length : Int) ≤ 1048576) : Tot (fun k => impl_GoodDevice.f k l) (devB l) := by
  unfold impl_GoodDevice.f devB
  simp only [within_v, areZ_v, Option.bind_some]
  by_cases c1 : 1 ≤ (l.length : Int) ∧ (l.length : Int) ≤ 6
  · rw [decide_eq_true c1, Bool.true_and]
    refine Tot.yes rfl ?_
    cases l.all goodZ with
    | false => exact Tot.no (by decide) (Tot.pure _)
    | true =>
      rw [Bool.true_and, ← opens_length l 0]
      exact Tot.yes rfl (Tot.bind (implOpens_v l h) (Tot.pure _))
  · rw [decide_eq_false c1, Bool.false_and, Bool.and_false]
    exact Tot.no (by decide) (Tot.pure _)

theorem markDevice_v (l : List S86) (h : (l.length : Int) ≤ 1048576) : Tot (fun k => laws_markDevice.f k l 1) (1 + 3 * l.length, mkZone l 1) := by
  unfold laws_markDevice.f
  exact Tot.bind (markZoneS_v l 1 (by omega) (by omega)) (Tot.pure _)
def openR (l : List S86) : List Int × Bool := if devB l = true then (opens l 0, true) else ([], false)
theorem specOpens_l : ∀ (b a : List S86) (out : List Int), (out.length : Int) ≤ a.length → ((a ++ b).length : Int) ≤ 1048576 → Tot (fun k => spec_OpenZones.l0 k out (a ++ b) ((a ++ b).length : Int) a.length) (out ++ opens b a.length, true)
  | [], a, out, ho, h => by
    refine Tot.step (fun k => spec_OpenZones.l0.eq_2 ..) (Tot.no (by simp) ?_)
    simp only [opens, List.append_nil]
    exact Tot.pure _
  | x :: b, a, out, ho, h => by
    have hl : ((a ++ x :: b).length : Int) = a.length + b.length + 1 := by simp; omega
    refine Tot.step (fun k => spec_OpenZones.l0.eq_2 ..) (Tot.yes (by omega) (Tot.yes (by omega) (Tot.yes (by omega) ?_)))
    rw [rdIZone_at, wrap_in (x := (a.length : Int) + 1) (by omega) (by omega)]
    simp only [specOpen_v, Option.bind_some, opens]
    by_cases hx : openZ x = true
    · rw [if_pos hx]
      refine Tot.yes hx (Tot.yes (by omega) ?_)
      have := specOpens_l b (a ++ [x]) (out ++ [(a.length : Int)]) (by simp; omega) (by simpa using h)
      simpa using this
    · rw [if_neg hx]
      refine Tot.no hx ?_
      have := specOpens_l b (a ++ [x]) out (by simp; omega) (by simpa using h)
      simpa using this
theorem specOpenR_v (l : List S86) (h : (l.length : Int) ≤ 1048576) : Tot (fun k => spec_OpenZones.f k l) (openR l) := by
  unfold spec_OpenZones.f openR
  refine Tot.bind (specDev_v l (by omega)) ?_
  by_cases c : devB l = true
  · rw [if_pos c]
    refine Tot.yes c ?_
    have := specOpens_l l [] [] (by simp) (by simpa using h)
    simpa using this
  · rw [if_neg c]; exact Tot.no c (Tot.pure _)
theorem implOpenR_v (l : List S86) (h : (l.length : Int) ≤ 1048576) : Tot (fun k => impl_OpenZones.f k l) (openR l) := by
  unfold impl_OpenZones.f openR
  refine Tot.bind (implDev_v l h) ?_
  by_cases c : devB l = true
  · rw [if_pos c]
    exact Tot.yes c (Tot.bind (implOpens_v l h) (Tot.pure _))
  · rw [if_neg c]; exact Tot.no c (Tot.pure _)
theorem openR_short (l : List S86) (h : (l.length : Int) ≤ 1048576) : ((openR l).1.length : Int) ≤ 1048576 := by
  unfold openR
  split
  · have := opens_length l 0
    have := nOpen_le l
    show ((opens l 0).length : Int) ≤ 1048576
    omega
  · simp
theorem FnExactOpenZones : laws_FnExactOpenZones.Pure := by
  intro l ⟨hl, hok⟩
  obtain ⟨v, hv, hv2⟩ := szDevice_v l (by omega) (fun x hx => by have := (hok x hx).1; omega)
  refine Tot.at_ ?_
  unfold laws_FnExactOpenZones.f
  refine Tot.bind hv ?_
  by_cases h0 : v < 0
  · exact Tot.yes h0 (Tot.pure _)
  · have hs := hv2 (by omega)
    have hs' : ((l.map cvZone).length : Int) ≤ 1048576 := by simpa using hs
    have toV := toDevice_v l hs
    generalize l.map cvZone = L at hs' toV
    have hsh := openR_short L hs'
    have eqV := eqInt_v (openR L).1 (by omega)
    have hn := markEnd_nonneg (openR L).1 1 (by omega) (by omega)
    refine Tot.no h0 (Tot.bind toV (Tot.bind (specOpenR_v L hs') (Tot.bind toV (Tot.bind (implOpenR_v L hs') (Tot.bind eqV (Tot.yes rfl ?_))))))
    refine Tot.step (fun k => laws_FnExactOpenZones.j0.eq_2 ..) (Tot.no (by simp) ?_)
    refine Tot.bind toV (Tot.bind (eqDevice_v _ hs') (Tot.yes rfl (Tot.bind (markDevice_v L hs') (Tot.no (by omega) (Tot.bind eqV (Tot.yes rfl ?_))))))
    refine Tot.step (fun k => laws_FnExactOpenZones.j1.eq_2 ..) (Tot.no (by simp) ?_)
    refine Tot.bind (markInt_v _ _ (by omega)) (Tot.bind (heldInt_v _ _ (by omega)) (Tot.no (by omega) (Tot.yes rfl ?_)))
    refine Tot.bind toV (Tot.bind (implOpenR_v L hs') (Tot.bind eqV (Tot.yes rfl ?_)))
    refine Tot.step (fun k => laws_FnExactOpenZones.j2.eq_2 ..) (Tot.no (by simp) ?_)
    exact Tot.bind (heldInt_v _ _ (by omega)) (Tot.no (by omega) (Tot.yes rfl (Tot.pure _)))

end Go.Proofs.Ytleklbmodelehaa.Pure

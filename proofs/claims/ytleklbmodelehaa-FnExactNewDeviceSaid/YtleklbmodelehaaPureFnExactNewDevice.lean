/- The plain law behind FnExactNewDevice: what the two sides compute is the same, for every input. No condition. -/
import Derived.Test.YtleklbmodelehaaPFnExactNewDevicex3
set_option linter.unusedVariables false
set_option linter.unusedSimpArgs false
namespace Go.Proofs.Ytleklbmodelehaa.Pure
open Go.RowKit Go.Proofs.Ytleklbmodelehaa.PFnExactNewDevice Go.Proofs.YtleklbmodelehaaW.PrintWords Go.Proofs.YtleklbmodelehaaW.PrintLast Go.Proofs.YtleklbmodelehaaW.PrintMore

theorem wrap_in {x : Int} (h0 : -9223372036854775808 ≤ x) (h1 : x ≤ 9223372036854775807) : wrap64 x = x := by unfold wrap64; omega
theorem wf_in {x : Int} (h : (Lit.int .i64 x).wf = true) : -9223372036854775808 ≤ x ∧ x ≤ 9223372036854775807 := by
  simp only [Lit.wf, IntKind.min, IntKind.max, IntKind.bits, IntKind.signed, Bool.and_eq_true, decide_eq_true_eq] at h
  exact ⟨by have := h.1; simpa using this, by have := h.2; simpa using this⟩
theorem toList_nil (s : ByteArray) : (s.toList == ([] : List UInt8)) = decide (s.size = 0) := by
  rw [Bool.eq_iff_iff]
  simp only [beq_iff_eq, decide_eq_true_eq, ByteArray.toList_eq]
  constructor
  · intro h
    have h2 : s.data.toList.length = 0 := by rw [h]; rfl
    rw [Array.length_toList] at h2
    exact h2
  · intro h
    have h2 : s.data.toList.length = 0 := by rw [Array.length_toList]; exact h
    exact List.eq_nil_of_length_eq_zero h2

/-- From some number of rounds on the answer is r. -/
def Tot {α : Type} (g : Nat → Option α) (r : α) : Prop := ∃ K, ∀ k, K ≤ k → g k = some r
theorem Tot.at_ {α : Type} {g : Nat → Option α} {r : α} (h : Tot g r) : ∃ k, g k = some r := by
  obtain ⟨K, hK⟩ := h
  exact ⟨K, hK K (Nat.le_refl _)⟩
theorem Tot.pure {α : Type} (r : α) : Tot (fun _ => some r) r := ⟨0, fun _ _ => rfl⟩
theorem Tot.of_eq {α : Type} {g : Nat → Option α} {r : α} (h : ∀ k, g k = some r) : Tot g r := ⟨0, fun k _ => h k⟩
theorem Tot.congr {α : Type} {g g' : Nat → Option α} {r : α} (he : ∀ k, g k = g' k) (h : Tot g' r) : Tot g r := by
  obtain ⟨K, hK⟩ := h
  exact ⟨K, fun k hk => (he k).trans (hK k hk)⟩
theorem Tot.bind {α β : Type} {g : Nat → Option α} {h : Nat → α → Option β} {a : α} {r : β} (hg : Tot g a) (hh : Tot (fun k => h k a) r) : Tot (fun k => (g k).bind (h k)) r := by
  obtain ⟨K, hK⟩ := hg
  obtain ⟨L, hL⟩ := hh
  refine ⟨max K L, fun k hk => ?_⟩
  show (g k).bind (h k) = some r
  rw [hK k (by omega)]
  exact hL k (by omega)
theorem Tot.step {α : Type} {F G : Nat → Option α} {r : α} (hF : ∀ k, F (k + 1) = G k) (h : Tot G r) : Tot F r := by
  obtain ⟨K, hK⟩ := h
  refine ⟨K + 1, fun k hk => ?_⟩
  obtain ⟨m, rfl⟩ : ∃ m, k = m + 1 := ⟨k - 1, by omega⟩
  rw [hF]
  exact hK m (by omega)
theorem Tot.yes {α : Type} {p : Prop} [Decidable p] {g h : Nat → Option α} {r : α} (hp : p) (hg : Tot g r) : Tot (fun k => if p then g k else h k) r := by
  simpa only [if_pos hp] using hg
theorem Tot.no {α : Type} {p : Prop} [Decidable p] {g h : Nat → Option α} {r : α} (hp : ¬ p) (hg : Tot h r) : Tot (fun k => if p then g k else h k) r := by
  simpa only [if_neg hp] using hg
theorem Tot.some_bind {α β : Type} {h : Nat → α → Option β} {a : α} {r : β} (hh : Tot (fun k => h k a) r) : Tot (fun k => (some a).bind (h k)) r := hh

theorem in_v (a b c : Int) : spec_l1In.f a b c = some (decide (b ≤ a ∧ a ≤ c)) := by
  unfold spec_l1In.f
  by_cases h : a ≥ b
  · rw [if_pos h]; congr 1; rw [decide_eq_decide]; omega
  · rw [if_neg h]; congr 1; symm; rw [decide_eq_false_iff_not]; omega

theorem within_v (a b c : Int) : impl_within.f a b c = some (decide (b ≤ a ∧ a ≤ c)) := by
  unfold impl_within.f
  by_cases h : b ≤ a
  · rw [if_pos h]; congr 1; rw [decide_eq_decide]; omega
  · rw [if_neg h]; congr 1; symm; rw [decide_eq_false_iff_not]; omega


theorem strOf_one (a : Int) : (strOfNums [a]).size = 1 := by simp [strOfNums]; rfl
theorem size_app (a b : ByteArray) : (a ++ b).size = a.size + b.size := by simp
theorem markText_l : ∀ (n : Nat) (m : Int) (t : ByteArray), 0 ≤ m → m.toNat ≤ n → n + t.size ≤ 4611686018427387904 → ∃ r, Tot (fun k => laws_markText.l0 k m t) r
  | 0, m, t, h0, hn, hb => ⟨_, Tot.step (fun k => laws_markText.l0.eq_2 ..) (Tot.no (by omega) (Tot.yes (by omega) (Tot.pure _)))⟩
  | n + 1, m, t, h0, hn, hb => by
    by_cases hp : m > 0
    · have e1 : Int.tdiv m 10 = m / 10 := Int.tdiv_eq_ediv_of_nonneg h0
      have e2 : wrap64 (Int.tdiv m 10) = m / 10 := by rw [e1]; exact wrap_in (by omega) (by omega)
      obtain ⟨r, hr⟩ := markText_l n (m / 10) (strOfNums [(wrap64 (48 + (Int.tmod m 10))) % 256] ++ t) (by omega) (by omega) (by rw [size_app, strOf_one]; omega)
      refine ⟨r, Tot.step (fun k => laws_markText.l0.eq_2 ..) (Tot.yes hp (Tot.some_bind (Tot.yes (by rw [strOf_one]; omega) ?_)))⟩
      rw [e2]; exact hr
    · exact ⟨_, Tot.step (fun k => laws_markText.l0.eq_2 ..) (Tot.no hp (Tot.yes (by omega) (Tot.pure _)))⟩
theorem markText_e (m : Int) (h0 : 0 ≤ m) (h1 : m ≤ 1125899906842624) : ∃ r, Tot (fun k => laws_markText.f k m) r := by
  unfold laws_markText.f
  by_cases h : m ≤ 0
  · exact ⟨_, Tot.yes h (Tot.pure _)⟩
  · have h00 : (⟨#[]⟩ : ByteArray).size = 0 := rfl
    obtain ⟨r, hr⟩ := markText_l m.toNat m ⟨#[]⟩ h0 (Nat.le_refl _) (by rw [h00]; omega)
    exact ⟨r, Tot.no h hr⟩
open Classical in
/-- The text of a mark. -/
noncomputable def mtxt (m : Int) : ByteArray := if h : ∃ r, Tot (fun k => laws_markText.f k m) r then Classical.choose h else ⟨#[]⟩
theorem markText_v (m : Int) (h0 : 0 ≤ m) (h1 : m ≤ 1125899906842624) : Tot (fun k => laws_markText.f k m) (mtxt m) := by
  unfold mtxt
  rw [dif_pos (markText_e m h0 h1)]
  exact Classical.choose_spec (markText_e m h0 h1)

theorem set_app {α : Type} (a b : List α) (x y : α) : (a ++ x :: b).set ((a.length : Int)).toNat y = a ++ y :: b := by simp

theorem rdIZone_at (a b : List S86) (x : S86) : rd_T86 (a ++ x :: b) (a.length : Int) = x := by simp [rd_T86, List.getD]
theorem eqZone_v (x : S86) (hs : True) : Tot (fun (_ : Nat) => laws_eqZone.f x.f0 x.f1 x.f2 x.f0 x.f1 x.f2) true := Tot.of_eq fun _ => by simp [laws_eqZone.f]
theorem eqZoneS_l : ∀ (b a : List S86), ((a ++ b).length : Int) ≤ 9223372036854775806 → (∀ y ∈ b, True) → Tot (fun k => laws_eqZoneS.l0 k (a ++ b) (a ++ b) a.length) true
  | [], a, h, hs => by
    refine Tot.step (fun k => laws_eqZoneS.l0.eq_2 ..) ?_
    simp only [List.append_nil]
    exact Tot.no (by omega) (Tot.pure _)
  | x :: b, a, h, hs => by
    refine Tot.step (fun k => laws_eqZoneS.l0.eq_2 ..) ?_
    have hl : ((a ++ x :: b).length : Int) = a.length + b.length + 1 := by simp; omega
    refine Tot.yes (by omega) (Tot.yes (by omega) (Tot.yes (by omega) ?_))
    rw [rdIZone_at, wrap_in (x := (a.length : Int) + 1) (by omega) (by omega)]
    refine Tot.bind (eqZone_v x (hs x (by simp))) (Tot.yes rfl ?_)
    have := eqZoneS_l b (a ++ [x]) (by simp at hl h ⊢; omega) (fun y hy => hs y (by simp [hy]))
    simpa using this
theorem eqZoneS_v (l : List S86) (h : (l.length : Int) ≤ 9223372036854775806) (hs : ∀ y ∈ l, True) : Tot (fun k => laws_eqZoneS.f k l l) true := by
  unfold laws_eqZoneS.f
  refine Tot.yes rfl ?_
  have := eqZoneS_l l [] (by simpa using h) hs
  simpa using this
noncomputable def mkZone : List S86 → Int → List S86
  | [], _ => []
  | _ :: l, m => ⟨mtxt m, (m + 1), ((Int.tmod (m + 2) 3) == 0)⟩ :: mkZone l (m + 3)
theorem mkZone_length : ∀ (l : List S86) (m : Int), (mkZone l m).length = l.length
  | [], _ => rfl
  | _ :: l, m => by simp [mkZone, mkZone_length l]
theorem markZoneS_l : ∀ (b a : List S86) (m : Int), 0 ≤ m → m + 3 * b.length ≤ 1125899906842624 → ((a ++ b).length : Int) ≤ 9223372036854775806 → Tot (fun k => laws_markZoneS.l0 k (a ++ b) m a.length) (m + 3 * b.length, a ++ mkZone b m)
  | [], a, m, h0, h1, h => by
    refine Tot.step (fun k => laws_markZoneS.l0.eq_2 ..) ?_
    simp only [List.append_nil, mkZone, List.length_nil, Int.natCast_zero, Int.mul_zero, Int.add_zero]
    exact Tot.no (by omega) (Tot.pure _)
  | x :: b, a, m, h0, h1, h => by
    have hl : ((a ++ x :: b).length : Int) = a.length + b.length + 1 := by simp; omega
    simp only [List.length_cons] at h1
    have hw1 : wrap64 (m + 1 + 1) = m + 2 := (wrap_in (by omega) (by omega)).trans (by omega); have hw2 : wrap64 (m + 2 + 1) = m + 3 := (wrap_in (by omega) (by omega)).trans (by omega)
    refine Tot.step (fun k => laws_markZoneS.l0.eq_2 ..) (Tot.yes (by omega) ?_)
    rw [wrap_in (x := (a.length : Int) + 1) (by omega) (by omega)]
    simp only [wrap_in (x := m + 1) (by omega) (by omega), hw1, hw2, rdIZone_at, set_app]
    refine Tot.bind (markText_v m (by omega) (by omega)) ?_
    refine Tot.yes (by omega) ?_
    refine Tot.some_bind ?_
    try simp only [rdIZone_at, set_app]
    refine Tot.some_bind ?_
    try simp only [rdIZone_at, set_app]
    try simp only [rdIZone_at, set_app]
    have := markZoneS_l b (a ++ [⟨mtxt m, (m + 1), ((Int.tmod (m + 2) 3) == 0)⟩]) (m + 3) (by omega) (by omega) (by simp at hl h ⊢; omega)
    have e : m + 3 * ((x :: b).length : Int) = m + 3 + 3 * b.length := by simp; omega
    rw [e]
    simpa [mkZone] using this
theorem markZoneS_v (l : List S86) (m : Int) (h0 : 0 ≤ m) (h1 : m + 3 * l.length ≤ 1125899906842624) : Tot (fun k => laws_markZoneS.f k l m) (m + 3 * l.length, mkZone l m) := by
  have := markZoneS_l l [] m h0 h1 (by simp; omega)
  unfold laws_markZoneS.f
  simpa using this
theorem heldZoneS_l : ∀ (b a : List S86) (m : Int), 0 ≤ m → m + 3 * b.length ≤ 1125899906842624 → ((a ++ b).length : Int) ≤ 9223372036854775806 → Tot (fun k => laws_heldZoneS.l0 k (a ++ mkZone b m) m a.length) (m + 3 * b.length)
  | [], a, m, h0, h1, h => by
    refine Tot.step (fun k => laws_heldZoneS.l0.eq_2 ..) ?_
    simp only [List.append_nil, mkZone, List.length_nil, Int.natCast_zero, Int.mul_zero, Int.add_zero]
    exact Tot.no (by omega) (Tot.pure _)
  | x :: b, a, m, h0, h1, h => by
    have hl : ((a ++ x :: b).length : Int) = a.length + b.length + 1 := by simp; omega
    have hl2 : ((a ++ mkZone (x :: b) m).length : Int) = a.length + b.length + 1 := by simp [mkZone, mkZone_length]; omega
    simp only [List.length_cons] at h1
    have hw1 : wrap64 (m + 1 + 1) = m + 2 := (wrap_in (by omega) (by omega)).trans (by omega); have hw2 : wrap64 (m + 2 + 1) = m + 3 := (wrap_in (by omega) (by omega)).trans (by omega)
    refine Tot.step (fun k => laws_heldZoneS.l0.eq_2 ..) (Tot.yes (by omega) (Tot.yes (by omega) ?_))
    rw [wrap_in (x := (a.length : Int) + 1) (by omega) (by omega)]
    simp only [mkZone, wrap_in (x := m + 1) (by omega) (by omega), hw1, hw2, rdIZone_at]
    refine Tot.bind (markText_v m (by omega) (by omega)) ?_
    refine Tot.yes (by first | rfl | trivial) ?_
    refine Tot.yes (by first | rfl | trivial) ?_
    refine Tot.no (by simp) ?_
    have := heldZoneS_l b (a ++ [⟨mtxt m, (m + 1), ((Int.tmod (m + 2) 3) == 0)⟩]) (m + 3) (by omega) (by omega) (by simp at hl h ⊢; omega)
    have e : m + 3 * ((x :: b).length : Int) = m + 3 + 3 * b.length := by simp; omega
    rw [e]
    simpa [mkZone] using this
theorem heldZoneS_v (l : List S86) (m : Int) (h0 : 0 ≤ m) (h1 : m + 3 * l.length ≤ 1125899906842624) : Tot (fun k => laws_heldZoneS.f k (mkZone l m) m) (m + 3 * l.length) := by
  have := heldZoneS_l l [] m h0 h1 (by simp; omega)
  unfold laws_heldZoneS.f
  simpa using this
theorem eqDevice_v (l : List S86) (h : (l.length : Int) ≤ 1048576) : Tot (fun k => laws_eqDevice.f k l l) true := by
  unfold laws_eqDevice.f
  exact Tot.bind (eqZoneS_v l (by omega) (fun _ _ => trivial)) (Tot.yes rfl (Tot.pure _))
theorem markDevice_v (l : List S86) (h : (l.length : Int) ≤ 1048576) : Tot (fun k => laws_markDevice.f k l 1) (1 + 3 * l.length, mkZone l 1) := by
  unfold laws_markDevice.f
  exact Tot.bind (markZoneS_v l 1 (by omega) (by omega)) (Tot.pure _)
theorem heldDevice_v (l : List S86) (h : (l.length : Int) ≤ 1048576) : Tot (fun k => laws_heldDevice.f k (mkZone l 1) 1) (1 + 3 * l.length) := by
  unfold laws_heldDevice.f
  exact Tot.bind (heldZoneS_v l 1 (by omega) (by omega)) (Tot.no (by omega) (Tot.pure _))
def newDev (n : Int) : List S86 × Bool := if 1 ≤ n ∧ n ≤ 6 then (List.replicate n.toNat z86, true) else ([], false)
theorem specNew_v (n : Int) : spec_NewDevice.f n = some (newDev n) := by
  unfold spec_NewDevice.f newDev
  simp only [in_v, Option.bind_some]
  by_cases h : 1 ≤ n ∧ n ≤ 6
  · rw [if_pos (decide_eq_true h), if_pos (by omega), if_pos (by omega), if_pos h]
  · rw [if_neg (by simp [h]), if_neg h]
theorem implNew_v (n : Int) : impl_NewDevice.f n = some (newDev n) := by
  unfold impl_NewDevice.f newDev
  simp only [within_v, Option.bind_some]
  by_cases h : 1 ≤ n ∧ n ≤ 6
  · rw [if_pos (decide_eq_true h), if_pos (by omega), if_pos (by omega), if_pos h]
  · rw [if_neg (by simp [h]), if_neg h]
theorem newDev_short (n : Int) : ((newDev n).1.length : Int) ≤ 1000 := by
  unfold newDev
  split
  · simp; omega
  · simp
theorem FnExactNewDevice : laws_FnExactNewDevice.Pure := by
  intro n hn
  have hs := newDev_short n
  refine Tot.at_ ?_
  unfold laws_FnExactNewDevice.f
  simp only [specNew_v, implNew_v, Option.bind_some]
  refine Tot.bind (eqDevice_v _ (by omega)) (Tot.yes rfl ?_)
  refine Tot.step (fun k => laws_FnExactNewDevice.j0.eq_2 ..) (Tot.no (by simp) ?_)
  refine Tot.bind (markDevice_v _ (by omega)) (Tot.bind (heldDevice_v _ (by omega)) ?_)
  refine Tot.no (by omega) (Tot.yes rfl ?_)
  simp only [implNew_v]
  refine Tot.some_bind (Tot.bind (eqDevice_v _ (by omega)) (Tot.yes rfl ?_))
  refine Tot.step (fun k => laws_FnExactNewDevice.j1.eq_2 ..) (Tot.no (by simp) ?_)
  exact Tot.bind (heldDevice_v _ (by omega)) (Tot.no (by omega) (Tot.yes rfl (Tot.pure _)))

end Go.Proofs.Ytleklbmodelehaa.Pure

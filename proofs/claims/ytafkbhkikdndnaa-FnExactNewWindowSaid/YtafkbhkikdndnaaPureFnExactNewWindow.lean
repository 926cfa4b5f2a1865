/- The plain law behind FnExactNewWindow: what the two sides compute is the same, for every input. No condition. -/
import Derived.Test.YtafkbhkikdndnaaPFnExactNewWindowx9
set_option linter.unusedVariables false
set_option linter.unusedSimpArgs false
namespace Go.Proofs.Ytafkbhkikdndnaa.Pure
open Go.RowKit Go.Proofs.Ytafkbhkikdndnaa.PFnExactNewWindow Go.Proofs.YtafkbhkikdndnaaW.PrintWords Go.Proofs.YtafkbhkikdndnaaW.PrintLast Go.Proofs.YtafkbhkikdndnaaW.PrintMore

theorem wrap_in {x : Int} (h0 : -9223372036854775808 ≤ x) (h1 : x ≤ 9223372036854775807) : wrap64 x = x := by unfold wrap64; omega
theorem wf_in {x : Int} (h : (Lit.int .i64 x).wf = true) : -9223372036854775808 ≤ x ∧ x ≤ 9223372036854775807 := by
  simp only [Lit.wf, IntKind.min, IntKind.max, IntKind.bits, IntKind.signed, Bool.and_eq_true, decide_eq_true_eq] at h
  exact ⟨by have := h.1; simpa using this, by have := h.2; simpa using this⟩
theorem toList_nil (s : ByteArray) : (s.toList == ([] : List UInt8)) = decide (s.size = 0) := by
  rw [Bool.eq_iff_iff]
  simp only [beq_iff_eq, decide_eq_true_eq, ByteArray.toList_eq]
  constructor
  · intro h
    have h2 : s.data.toList.length = 0 := by rw [h]; rfl
    rw [Array.length_toList] at h2
    exact h2
  · intro h
    have h2 : s.data.toList.length = 0 := by rw [Array.length_toList]; exact h
    exact List.eq_nil_of_length_eq_zero h2

/-- From some number of rounds on the answer is r. -/
def Tot {α : Type} (g : Nat → Option α) (r : α) : Prop := ∃ K, ∀ k, K ≤ k → g k = some r
theorem Tot.at_ {α : Type} {g : Nat → Option α} {r : α} (h : Tot g r) : ∃ k, g k = some r := by
  obtain ⟨K, hK⟩ := h
  exact ⟨K, hK K (Nat.le_refl _)⟩
theorem Tot.pure {α : Type} (r : α) : Tot (fun _ => some r) r := ⟨0, fun _ _ => rfl⟩
theorem Tot.of_eq {α : Type} {g : Nat → Option α} {r : α} (h : ∀ k, g k = some r) : Tot g r := ⟨0, fun k _ => h k⟩
theorem Tot.congr {α : Type} {g g' : Nat → Option α} {r : α} (he : ∀ k, g k = g' k) (h : Tot g' r) : Tot g r := by
  obtain ⟨K, hK⟩ := h
  exact ⟨K, fun k hk => (he k).trans (hK k hk)⟩
theorem Tot.bind {α β : Type} {g : Nat → Option α} {h : Nat → α → Option β} {a : α} {r : β} (hg : Tot g a) (hh : Tot (fun k => h k a) r) : Tot (fun k => (g k).bind (h k)) r := by
  obtain ⟨K, hK⟩ := hg
  obtain ⟨L, hL⟩ := hh
  refine ⟨max K L, fun k hk => ?_⟩
  show (g k).bind (h k) = some r
  rw [hK k (by omega)]
  exact hL k (by omega)
theorem Tot.step {α : Type} {F G : Nat → Option α} {r : α} (hF : ∀ k, F (k + 1) = G k) (h : Tot G r) : Tot F r := by
  obtain ⟨K, hK⟩ := h
  refine ⟨K + 1, fun k hk => ?_⟩
  obtain ⟨m, rfl⟩ : ∃ m, k = m + 1 := ⟨k - 1, by omega⟩
  rw [hF]
  exact hK m (by omega)
theorem Tot.yes {α : Type} {p : Prop} [Decidable p] {g h : Nat → Option α} {r : α} (hp : p) (hg : Tot g r) : Tot (fun k => if p then g k else h k) r := by
  simpa only [if_pos hp] using hg
theorem Tot.no {α : Type} {p : Prop} [Decidable p] {g h : Nat → Option α} {r : α} (hp : ¬ p) (hg : Tot h r) : Tot (fun k => if p then g k else h k) r := by
  simpa only [if_neg hp] using hg
theorem Tot.some_bind {α β : Type} {h : Nat → α → Option β} {a : α} {r : β} (hh : Tot (fun k => h k a) r) : Tot (fun k => (some a).bind (h k)) r := hh

theorem in_v (a b c : Int) : spec_l1In.f a b c = some (decide (b ≤ a ∧ a ≤ c)) := by
  unfold spec_l1In.f
  by_cases h : a ≥ b
  · rw [if_pos h]; congr 1; rw [decide_eq_decide]; omega
  · rw [if_neg h]; congr 1; symm; rw [decide_eq_false_iff_not]; omega

theorem within_v (a b c : Int) : impl_within.f a b c = some (decide (b ≤ a ∧ a ≤ c)) := by
  unfold impl_within.f
  by_cases h : b ≤ a
  · rw [if_pos h]; congr 1; rw [decide_eq_decide]; omega
  · rw [if_neg h]; congr 1; symm; rw [decide_eq_false_iff_not]; omega


theorem strOf_one (a : Int) : (strOfNums [a]).size = 1 := by simp [strOfNums]; rfl
theorem size_app (a b : ByteArray) : (a ++ b).size = a.size + b.size := by simp
theorem markText_l : ∀ (n : Nat) (m : Int) (t : ByteArray), 0 ≤ m → m.toNat ≤ n → n + t.size ≤ 4611686018427387904 → ∃ r, Tot (fun k => laws_markText.l0 k m t) r
  | 0, m, t, h0, hn, hb => ⟨_, Tot.step (fun k => laws_markText.l0.eq_2 ..) (Tot.no (by omega) (Tot.yes (by omega) (Tot.pure _)))⟩
  | n + 1, m, t, h0, hn, hb => by
    by_cases hp : m > 0
    · have e1 : Int.tdiv m 10 = m / 10 := Int.tdiv_eq_ediv_of_nonneg h0
      have e2 : wrap64 (Int.tdiv m 10) = m / 10 := by rw [e1]; exact wrap_in (by omega) (by omega)
      obtain ⟨r, hr⟩ := markText_l n (m / 10) (strOfNums [(wrap64 (48 + (Int.tmod m 10))) % 256] ++ t) (by omega) (by omega) (by rw [size_app, strOf_one]; omega)
      refine ⟨r, Tot.step (fun k => laws_markText.l0.eq_2 ..) (Tot.yes hp (Tot.some_bind (Tot.yes (by rw [strOf_one]; omega) ?_)))⟩
      rw [e2]; exact hr
    · exact ⟨_, Tot.step (fun k => laws_markText.l0.eq_2 ..) (Tot.no hp (Tot.yes (by omega) (Tot.pure _)))⟩
theorem markText_e (m : Int) (h0 : 0 ≤ m) (h1 : m ≤ 1125899906842624) : ∃ r, Tot (fun k => laws_markText.f k m) r := by
  unfold laws_markText.f
  by_cases h : m ≤ 0
  · exact ⟨_, Tot.yes h (Tot.pure _)⟩
  · have h00 : (⟨#[]⟩ : ByteArray).size = 0 := rfl
    obtain ⟨r, hr⟩ := markText_l m.toNat m ⟨#[]⟩ h0 (Nat.le_refl _) (by rw [h00]; omega)
    exact ⟨r, Tot.no h hr⟩
open Classical in
/-- The text of a mark. -/
noncomputable def mtxt (m : Int) : ByteArray := if h : ∃ r, Tot (fun k => laws_markText.f k m) r then Classical.choose h else ⟨#[]⟩
theorem markText_v (m : Int) (h0 : 0 ≤ m) (h1 : m ≤ 1125899906842624) : Tot (fun k => laws_markText.f k m) (mtxt m) := by
  unfold mtxt
  rw [dif_pos (markText_e m h0 h1)]
  exact Classical.choose_spec (markText_e m h0 h1)

theorem set_app {α : Type} (a b : List α) (x y : α) : (a ++ x :: b).set ((a.length : Int)).toNat y = a ++ y :: b := by simp

theorem rdStr_at (a b : List ByteArray) (x : ByteArray) : (rdOf ByteArray.empty (a ++ x :: b) (a.length : Int)) = x := by simp [rdOf, List.getD]
theorem szStr_l : ∀ (b a : List ByteArray) (m : Int), 0 ≤ m → m ≤ 1048576 → ((a ++ b).length : Int) ≤ 1048576 → (∀ y ∈ b, y.size ≤ 140737488351232) → ∃ v, Tot (fun k => laws_szStringS.l0 k (a ++ b) m a.length) v ∧ v ≤ 1048576
  | [], a, m, h0, h1, hl, hs => ⟨m, by
    refine Tot.step (fun k => laws_szStringS.l0.eq_2 ..) ?_
    simp only [List.append_nil]
    exact Tot.no (by omega) (Tot.pure _), h1⟩
  | x :: b, a, m, h0, h1, hl, hs => by
    have hx := hs x (by simp)
    have hll : ((a ++ x :: b).length : Int) = a.length + b.length + 1 := by simp; omega
    by_cases hc : m - (x.size : Int) < 0
    · refine ⟨-1, Tot.step (fun k => laws_szStringS.l0.eq_2 ..) (Tot.yes (by omega) (Tot.yes (by omega) (Tot.yes ?_ (Tot.pure _)))), by omega⟩
      rw [rdStr_at, wrap_in (by omega) (by omega)]; exact hc
    · obtain ⟨v, hv, hv2⟩ := szStr_l b (a ++ [x]) (m - (x.size : Int)) (by omega) (by omega) (by simp at hll hl ⊢; omega) (fun y hy => hs y (by simp [hy]))
      refine ⟨v, Tot.step (fun k => laws_szStringS.l0.eq_2 ..) (Tot.yes (by omega) (Tot.yes (by omega) (Tot.no ?_ ?_))), hv2⟩
      · rw [rdStr_at, wrap_in (by omega) (by omega)]; exact hc
      · rw [rdStr_at, wrap_in (x := m - (x.size : Int)) (by omega) (by omega), wrap_in (x := (a.length : Int) + 1) (by omega) (by omega)]
        simpa using hv
theorem szStr_v (l : List ByteArray) (m : Int) (h0 : 0 ≤ m) (h1 : m ≤ 1048576) (hl : (l.length : Int) ≤ 9223372036850000000) (hs : ∀ y ∈ l, y.size ≤ 140737488351232) : ∃ v, Tot (fun k => laws_szStringS.f k l m) v ∧ v ≤ 1048576 ∧ (0 ≤ v → (l.length : Int) ≤ 1048576) := by
  unfold laws_szStringS.f
  rw [wrap_in (by omega) (by omega)]
  by_cases h : m - (l.length : Int) < 0
  · exact ⟨-1, Tot.yes h (Tot.pure _), by omega, fun h => by omega⟩
  · obtain ⟨v, hv, hv2⟩ := szStr_l l [] (m - (l.length : Int)) (by omega) (by omega) (by simp; omega) hs
    exact ⟨v, Tot.no h (by simpa using hv), hv2, fun _ => by omega⟩
theorem toStr_l : ∀ (b a : List ByteArray), ((a ++ b).length : Int) ≤ 9223372036854775806 → Tot (fun k => laws_toStringS.l0 k (a ++ b) (a ++ List.replicate b.length (⟨#[]⟩ : ByteArray)) a.length) (a ++ b)
  | [], a, h => by
    refine Tot.step (fun k => laws_toStringS.l0.eq_2 ..) ?_
    simp only [List.append_nil, List.length_nil, List.replicate_zero]
    exact Tot.no (by omega) (Tot.pure _)
  | x :: b, a, h => by
    refine Tot.step (fun k => laws_toStringS.l0.eq_2 ..) ?_
    have hl : ((a ++ x :: b).length : Int) = a.length + b.length + 1 := by simp; omega
    have hl2 : ((a ++ List.replicate (x :: b).length (⟨#[]⟩ : ByteArray)).length : Int) = a.length + b.length + 1 := by simp; omega
    refine Tot.yes (by omega) (Tot.yes (by omega) (Tot.yes (by omega) ?_))
    rw [rdStr_at, wrap_in (x := (a.length : Int) + 1) (by omega) (by omega)]
    have e : (a ++ List.replicate (x :: b).length (⟨#[]⟩ : ByteArray)).set ((a.length : Int)).toNat x = (a ++ [x]) ++ List.replicate b.length (⟨#[]⟩ : ByteArray) := by simp [List.replicate_succ]
    rw [e]
    have := toStr_l b (a ++ [x]) (by simp at hl h ⊢; omega)
    simpa using this
theorem toStr_v (l : List ByteArray) (h : (l.length : Int) ≤ 1048576) : Tot (fun k => laws_toStringS.f k l) l := by
  unfold laws_toStringS.f
  refine Tot.yes (by omega) (Tot.yes (by omega) ?_)
  have := toStr_l l [] (by simp; omega)
  simpa using this
theorem eqStr_l (a : List ByteArray) (ha : (a.length : Int) ≤ 9223372036854775806) : ∀ (d : Nat) (i : Int), 0 ≤ i → i + d = a.length → Tot (fun k => laws_eqStringS.l0 k a a i) true
  | 0, i, h0, h => by
    refine Tot.step (fun k => laws_eqStringS.l0.eq_2 ..) ?_
    exact Tot.no (by omega) (Tot.pure _)
  | d + 1, i, h0, h => by
    refine Tot.step (fun k => laws_eqStringS.l0.eq_2 ..) ?_
    refine Tot.yes (by omega) (Tot.yes h0 (Tot.yes (by omega) (Tot.yes rfl ?_)))
    rw [wrap_in (by omega) (by omega)]
    exact eqStr_l a ha d (i + 1) (by omega) (by omega)
theorem eqStr_v (a : List ByteArray) (ha : (a.length : Int) ≤ 9223372036854775806) : Tot (fun k => laws_eqStringS.f k a a) true := by
  unfold laws_eqStringS.f
  exact Tot.yes rfl (eqStr_l a ha a.length 0 (by omega) (by omega))
theorem eqBool_l (a : List Bool) (ha : (a.length : Int) ≤ 9223372036854775806) : ∀ (d : Nat) (i : Int), 0 ≤ i → i + d = a.length → Tot (fun k => laws_eqBoolS.l0 k a a i) true
  | 0, i, h0, h => by
    refine Tot.step (fun k => laws_eqBoolS.l0.eq_2 ..) ?_
    exact Tot.no (by omega) (Tot.pure _)
  | d + 1, i, h0, h => by
    refine Tot.step (fun k => laws_eqBoolS.l0.eq_2 ..) ?_
    refine Tot.yes (by omega) (Tot.yes h0 (Tot.yes (by omega) (Tot.no (by simp) ?_)))
    rw [wrap_in (by omega) (by omega)]
    exact eqBool_l a ha d (i + 1) (by omega) (by omega)
theorem eqBool_v (a : List Bool) (ha : (a.length : Int) ≤ 9223372036854775806) : Tot (fun k => laws_eqBoolS.f k a a) true := by
  unfold laws_eqBoolS.f
  exact Tot.yes rfl (eqBool_l a ha a.length 0 (by omega) (by omega))
theorem rdBool_at (a b : List Bool) (x : Bool) : (rdOf false (a ++ x :: b) (a.length : Int)) = x := by simp [rdOf, List.getD]
theorem rdIFrame_at (a b : List S128) (x : S128) : rd_T128 (a ++ x :: b) (a.length : Int) = x := by simp [rd_T128, List.getD]
theorem eqFrame_v (x : S128) (hs : True) : Tot (fun (_ : Nat) => laws_eqFrame.f x.f0 x.f1 x.f2 x.f0 x.f1 x.f2) true := Tot.of_eq fun _ => by simp [laws_eqFrame.f]
theorem eqFrameS_l : ∀ (b a : List S128), ((a ++ b).length : Int) ≤ 9223372036854775806 → (∀ y ∈ b, True) → Tot (fun k => laws_eqFrameS.l0 k (a ++ b) (a ++ b) a.length) true
  | [], a, h, hs => by
    refine Tot.step (fun k => laws_eqFrameS.l0.eq_2 ..) ?_
    simp only [List.append_nil]
    exact Tot.no (by omega) (Tot.pure _)
  | x :: b, a, h, hs => by
    refine Tot.step (fun k => laws_eqFrameS.l0.eq_2 ..) ?_
    have hl : ((a ++ x :: b).length : Int) = a.length + b.length + 1 := by simp; omega
    refine Tot.yes (by omega) (Tot.yes (by omega) (Tot.yes (by omega) ?_))
    rw [rdIFrame_at, wrap_in (x := (a.length : Int) + 1) (by omega) (by omega)]
    refine Tot.bind (eqFrame_v x (hs x (by simp))) (Tot.yes rfl ?_)
    have := eqFrameS_l b (a ++ [x]) (by simp at hl h ⊢; omega) (fun y hy => hs y (by simp [hy]))
    simpa using this
theorem eqFrameS_v (l : List S128) (h : (l.length : Int) ≤ 9223372036854775806) (hs : ∀ y ∈ l, True) : Tot (fun k => laws_eqFrameS.f k l l) true := by
  unfold laws_eqFrameS.f
  refine Tot.yes rfl ?_
  have := eqFrameS_l l [] (by simpa using h) hs
  simpa using this
noncomputable def mkStr : List ByteArray → Int → List ByteArray
  | [], _ => []
  | _ :: l, m => mtxt m :: mkStr l (m + 1)
theorem mkStr_length : ∀ (l : List ByteArray) (m : Int), (mkStr l m).length = l.length
  | [], _ => rfl
  | _ :: l, m => by simp [mkStr, mkStr_length l]
theorem markStr_l : ∀ (b a : List ByteArray) (m : Int), 0 ≤ m → m + b.length ≤ 1125899906842624 → ((a ++ b).length : Int) ≤ 9223372036854775806 → Tot (fun k => laws_markStringS.l0 k (a ++ b) m a.length) (m + b.length, a ++ mkStr b m)
  | [], a, m, h0, h1, h => by
    refine Tot.step (fun k => laws_markStringS.l0.eq_2 ..) ?_
    simp only [List.append_nil, mkStr, List.length_nil, Int.natCast_zero, Int.add_zero]
    exact Tot.no (by omega) (Tot.pure _)
  | x :: b, a, m, h0, h1, h => by
    have hl : ((a ++ x :: b).length : Int) = a.length + b.length + 1 := by simp; omega
    simp only [List.length_cons] at h1
    refine Tot.step (fun k => laws_markStringS.l0.eq_2 ..) (Tot.yes (by omega) ?_)
    rw [wrap_in (x := (a.length : Int) + 1) (by omega) (by omega), wrap_in (x := m + 1) (by omega) (by omega)]
    repeat (first | refine Tot.yes (by omega) ?_ | refine Tot.bind (markText_v m h0 (by omega)) ?_)
    rw [set_app]
    have := markStr_l b (a ++ [mtxt m]) (m + 1) (by omega) (by omega) (by simp at hl h ⊢; omega)
    have e : m + ((x :: b).length : Int) = m + 1 + b.length := by simp; omega
    rw [e]
    simpa [mkStr] using this
theorem markStr_v (l : List ByteArray) (m : Int) (h0 : 0 ≤ m) (h1 : m + l.length ≤ 1125899906842624) : Tot (fun k => laws_markStringS.f k l m) (m + l.length, mkStr l m) := by
  have := markStr_l l [] m h0 h1 (by simp; omega)
  unfold laws_markStringS.f
  simpa using this
theorem heldStr_l : ∀ (b a : List ByteArray) (m : Int), 0 ≤ m → m + b.length ≤ 1125899906842624 → ((a ++ b).length : Int) ≤ 9223372036854775806 → Tot (fun k => laws_heldStringS.l0 k (a ++ mkStr b m) m a.length) (m + b.length)
  | [], a, m, h0, h1, h => by
    refine Tot.step (fun k => laws_heldStringS.l0.eq_2 ..) ?_
    simp only [List.append_nil, mkStr, List.length_nil, Int.natCast_zero, Int.add_zero]
    exact Tot.no (by omega) (Tot.pure _)
  | x :: b, a, m, h0, h1, h => by
    have hl : ((a ++ x :: b).length : Int) = a.length + b.length + 1 := by simp; omega
    have hl2 : ((a ++ mkStr (x :: b) m).length : Int) = a.length + b.length + 1 := by simp [mkStr, mkStr_length]; omega
    simp only [List.length_cons] at h1
    refine Tot.step (fun k => laws_heldStringS.l0.eq_2 ..) (Tot.yes (by omega) (Tot.yes (by omega) ?_))
    simp only [mkStr, rdStr_at]
    rw [wrap_in (x := (a.length : Int) + 1) (by omega) (by omega), wrap_in (x := m + 1) (by omega) (by omega)]
    repeat (first | refine Tot.yes rfl ?_ | refine Tot.bind (markText_v m h0 (by omega)) ?_)
    have := heldStr_l b (a ++ [mtxt m]) (m + 1) (by omega) (by omega) (by simp at hl h ⊢; omega)
    have e : m + ((x :: b).length : Int) = m + 1 + b.length := by simp; omega
    rw [e]
    simpa [mkStr] using this
theorem heldStr_v (l : List ByteArray) (m : Int) (h0 : 0 ≤ m) (h1 : m + l.length ≤ 1125899906842624) : Tot (fun k => laws_heldStringS.f k (mkStr l m) m) (m + l.length) := by
  have := heldStr_l l [] m h0 h1 (by simp; omega)
  unfold laws_heldStringS.f
  simpa using this
noncomputable def mkBool : List Bool → Int → List Bool
  | [], _ => []
  | _ :: l, m => ((Int.tmod m 3) == 0) :: mkBool l (m + 1)
theorem mkBool_length : ∀ (l : List Bool) (m : Int), (mkBool l m).length = l.length
  | [], _ => rfl
  | _ :: l, m => by simp [mkBool, mkBool_length l]
theorem markBool_l : ∀ (b a : List Bool) (m : Int), 0 ≤ m → m + b.length ≤ 1125899906842624 → ((a ++ b).length : Int) ≤ 9223372036854775806 → Tot (fun k => laws_markBoolS.l0 k (a ++ b) m a.length) (m + b.length, a ++ mkBool b m)
  | [], a, m, h0, h1, h => by
    refine Tot.step (fun k => laws_markBoolS.l0.eq_2 ..) ?_
    simp only [List.append_nil, mkBool, List.length_nil, Int.natCast_zero, Int.add_zero]
    exact Tot.no (by omega) (Tot.pure _)
  | x :: b, a, m, h0, h1, h => by
    have hl : ((a ++ x :: b).length : Int) = a.length + b.length + 1 := by simp; omega
    simp only [List.length_cons] at h1
    refine Tot.step (fun k => laws_markBoolS.l0.eq_2 ..) (Tot.yes (by omega) ?_)
    rw [wrap_in (x := (a.length : Int) + 1) (by omega) (by omega), wrap_in (x := m + 1) (by omega) (by omega)]
    repeat (first | refine Tot.yes (by omega) ?_ | refine Tot.bind (markText_v m h0 (by omega)) ?_)
    rw [set_app]
    have := markBool_l b (a ++ [((Int.tmod m 3) == 0)]) (m + 1) (by omega) (by omega) (by simp at hl h ⊢; omega)
    have e : m + ((x :: b).length : Int) = m + 1 + b.length := by simp; omega
    rw [e]
    simpa [mkBool] using this
theorem markBool_v (l : List Bool) (m : Int) (h0 : 0 ≤ m) (h1 : m + l.length ≤ 1125899906842624) : Tot (fun k => laws_markBoolS.f k l m) (m + l.length, mkBool l m) := by
  have := markBool_l l [] m h0 h1 (by simp; omega)
  unfold laws_markBoolS.f
  simpa using this
theorem heldBool_l : ∀ (b a : List Bool) (m : Int), 0 ≤ m → m + b.length ≤ 1125899906842624 → ((a ++ b).length : Int) ≤ 9223372036854775806 → Tot (fun k => laws_heldBoolS.l0 k (a ++ mkBool b m) m a.length) (m + b.length)
  | [], a, m, h0, h1, h => by
    refine Tot.step (fun k => laws_heldBoolS.l0.eq_2 ..) ?_
    simp only [List.append_nil, mkBool, List.length_nil, Int.natCast_zero, Int.add_zero]
    exact Tot.no (by omega) (Tot.pure _)
  | x :: b, a, m, h0, h1, h => by
    have hl : ((a ++ x :: b).length : Int) = a.length + b.length + 1 := by simp; omega
    have hl2 : ((a ++ mkBool (x :: b) m).length : Int) = a.length + b.length + 1 := by simp [mkBool, mkBool_length]; omega
    simp only [List.length_cons] at h1
    refine Tot.step (fun k => laws_heldBoolS.l0.eq_2 ..) (Tot.yes (by omega) (Tot.yes (by omega) ?_))
    simp only [mkBool, rdBool_at]
    rw [wrap_in (x := (a.length : Int) + 1) (by omega) (by omega), wrap_in (x := m + 1) (by omega) (by omega)]
    repeat (first | refine Tot.no (by simp) ?_ | refine Tot.bind (markText_v m h0 (by omega)) ?_)
    have := heldBool_l b (a ++ [((Int.tmod m 3) == 0)]) (m + 1) (by omega) (by omega) (by simp at hl h ⊢; omega)
    have e : m + ((x :: b).length : Int) = m + 1 + b.length := by simp; omega
    rw [e]
    simpa [mkBool] using this
theorem heldBool_v (l : List Bool) (m : Int) (h0 : 0 ≤ m) (h1 : m + l.length ≤ 1125899906842624) : Tot (fun k => laws_heldBoolS.f k (mkBool l m) m) (m + l.length) := by
  have := heldBool_l l [] m h0 h1 (by simp; omega)
  unfold laws_heldBoolS.f
  simpa using this
noncomputable def mkFrame : List S128 → Int → List S128
  | [], _ => []
  | _ :: l, m => ⟨((Int.tmod m 3) == 0), (m + 1), mtxt (m + 2)⟩ :: mkFrame l (m + 3)
theorem mkFrame_length : ∀ (l : List S128) (m : Int), (mkFrame l m).length = l.length
  | [], _ => rfl
  | _ :: l, m => by simp [mkFrame, mkFrame_length l]
theorem markFrameS_l : ∀ (b a : List S128) (m : Int), 0 ≤ m → m + 3 * b.length ≤ 1125899906842624 → ((a ++ b).length : Int) ≤ 9223372036854775806 → Tot (fun k => laws_markFrameS.l0 k (a ++ b) m a.length) (m + 3 * b.length, a ++ mkFrame b m)
  | [], a, m, h0, h1, h => by
    refine Tot.step (fun k => laws_markFrameS.l0.eq_2 ..) ?_
    simp only [List.append_nil, mkFrame, List.length_nil, Int.natCast_zero, Int.mul_zero, Int.add_zero]
    exact Tot.no (by omega) (Tot.pure _)
  | x :: b, a, m, h0, h1, h => by
    have hl : ((a ++ x :: b).length : Int) = a.length + b.length + 1 := by simp; omega
    simp only [List.length_cons] at h1
    have hw1 : wrap64 (m + 1 + 1) = m + 2 := (wrap_in (by omega) (by omega)).trans (by omega); have hw2 : wrap64 (m + 2 + 1) = m + 3 := (wrap_in (by omega) (by omega)).trans (by omega)
    refine Tot.step (fun k => laws_markFrameS.l0.eq_2 ..) (Tot.yes (by omega) ?_)
    rw [wrap_in (x := (a.length : Int) + 1) (by omega) (by omega)]
    simp only [wrap_in (x := m + 1) (by omega) (by omega), hw1, hw2, rdIFrame_at, set_app]
    refine Tot.yes (by omega) ?_
    refine Tot.some_bind ?_
    try simp only [rdIFrame_at, set_app]
    refine Tot.some_bind ?_
    try simp only [rdIFrame_at, set_app]
    refine Tot.bind (markText_v (m + 2) (by omega) (by omega)) ?_
    try simp only [rdIFrame_at, set_app]
    have := markFrameS_l b (a ++ [⟨((Int.tmod m 3) == 0), (m + 1), mtxt (m + 2)⟩]) (m + 3) (by omega) (by omega) (by simp at hl h ⊢; omega)
    have e : m + 3 * ((x :: b).length : Int) = m + 3 + 3 * b.length := by simp; omega
    rw [e]
    simpa [mkFrame] using this
theorem markFrameS_v (l : List S128) (m : Int) (h0 : 0 ≤ m) (h1 : m + 3 * l.length ≤ 1125899906842624) : Tot (fun k => laws_markFrameS.f k l m) (m + 3 * l.length, mkFrame l m) := by
  have := markFrameS_l l [] m h0 h1 (by simp; omega)
  unfold laws_markFrameS.f
  simpa using this
theorem heldFrameS_l : ∀ (b a : List S128) (m : Int), 0 ≤ m → m + 3 * b.length ≤ 1125899906842624 → ((a ++ b).length : Int) ≤ 9223372036854775806 → Tot (fun k => laws_heldFrameS.l0 k (a ++ mkFrame b m) m a.length) (m + 3 * b.length)
  | [], a, m, h0, h1, h => by
    refine Tot.step (fun k => laws_heldFrameS.l0.eq_2 ..) ?_
    simp only [List.append_nil, mkFrame, List.length_nil, Int.natCast_zero, Int.mul_zero, Int.add_zero]
    exact Tot.no (by omega) (Tot.pure _)
  | x :: b, a, m, h0, h1, h => by
    have hl : ((a ++ x :: b).length : Int) = a.length + b.length + 1 := by simp; omega
    have hl2 : ((a ++ mkFrame (x :: b) m).length : Int) = a.length + b.length + 1 := by simp [mkFrame, mkFrame_length]; omega
    simp only [List.length_cons] at h1
    have hw1 : wrap64 (m + 1 + 1) = m + 2 := (wrap_in (by omega) (by omega)).trans (by omega); have hw2 : wrap64 (m + 2 + 1) = m + 3 := (wrap_in (by omega) (by omega)).trans (by omega)
    refine Tot.step (fun k => laws_heldFrameS.l0.eq_2 ..) (Tot.yes (by omega) (Tot.yes (by omega) ?_))
    rw [wrap_in (x := (a.length : Int) + 1) (by omega) (by omega)]
    simp only [mkFrame, wrap_in (x := m + 1) (by omega) (by omega), hw1, hw2, rdIFrame_at]
    refine Tot.no (by simp) ?_
    refine Tot.yes (by first | rfl | trivial) ?_
    refine Tot.bind (markText_v (m + 2) (by omega) (by omega)) ?_
    refine Tot.yes (by first | rfl | trivial) ?_
    have := heldFrameS_l b (a ++ [⟨((Int.tmod m 3) == 0), (m + 1), mtxt (m + 2)⟩]) (m + 3) (by omega) (by omega) (by simp at hl h ⊢; omega)
    have e : m + 3 * ((x :: b).length : Int) = m + 3 + 3 * b.length := by simp; omega
    rw [e]
    simpa [mkFrame] using this
theorem heldFrameS_v (l : List S128) (m : Int) (h0 : 0 ≤ m) (h1 : m + 3 * l.length ≤ 1125899906842624) : Tot (fun k => laws_heldFrameS.f k (mkFrame l m) m) (m + 3 * l.length) := by
  have := heldFrameS_l l [] m h0 h1 (by simp; omega)
  unfold laws_heldFrameS.f
  simpa using this
def pieceB (s : ByteArray) : Bool := decide ((s.size : Int) ≤ 20)
theorem specPieces_l : ∀ (b a : List ByteArray), ((a ++ b).length : Int) ≤ 9223372036850000000 → Tot (fun k => spec_l9Pieces.l0 k (a ++ b) (a ++ b) ((a ++ b).length : Int) a.length) (b.all pieceB && decide (((a ++ b).length : Int) ≤ 12))
  | [], a, h => by
    refine Tot.step (fun k => spec_l9Pieces.l0.eq_2 ..) (Tot.no (by simp) ?_)
    rw [List.all_nil, Bool.true_and]
    exact Tot.pure _
  | x :: b, a, h => by
    have hl : ((a ++ x :: b).length : Int) = a.length + b.length + 1 := by simp; omega
    refine Tot.step (fun k => spec_l9Pieces.l0.eq_2 ..) (Tot.yes (by omega) (Tot.yes (by omega) (Tot.yes (by omega) ?_)))
    rw [rdStr_at, wrap_in (x := (a.length : Int) + 1) (by omega) (by omega), List.all_cons]
    by_cases hx : (x.size : Int) > 20
    · have e : pieceB x = false := decide_eq_false (by omega)
      rw [e, Bool.false_and, Bool.false_and]
      exact Tot.yes hx (Tot.pure _)
    · have e : pieceB x = true := decide_eq_true (by omega)
      rw [e, Bool.true_and]
      refine Tot.no hx ?_
      have := specPieces_l b (a ++ [x]) (by simpa using h)
      simpa using this
theorem specPieces_v (l : List ByteArray) (h : (l.length : Int) ≤ 9223372036850000000) : Tot (fun k => spec_l9Pieces.f k l) (l.all pieceB && decide ((l.length : Int) ≤ 12)) := by
  have := specPieces_l l [] (by simpa using h)
  unfold spec_l9Pieces.f
  simpa using this
theorem implPieces_v (l : List ByteArray) : impl_arePieces.f l = some (l.all pieceB && decide ((l.length : Int) ≤ 12)) := by
  unfold impl_arePieces.f
  by_cases c : (l.length : Int) ≤ 12
  · have e : impl_areAll_string_at_impl_arePieces_1.f l = some (l.all pieceB) := Go.Proofs.Ytafkbhkikdndnaa.Open.allO_v fun x _ => rfl
    rw [if_pos c, e, decide_eq_true c, Bool.and_true]
    rfl
  · rw [if_neg c, decide_eq_false c, Bool.and_false]
def smallW (P : List ByteArray) (E : List Bool) (L : List S128) (H : List ByteArray) (A : List Bool) : Prop := (P.length : Int) ≤ 1048576 ∧ (E.length : Int) ≤ 1048576 ∧ (L.length : Int) ≤ 1048576 ∧ (H.length : Int) ≤ 1048576 ∧ (A.length : Int) ≤ 1048576
theorem eqWindow_v (P : List ByteArray) (s : Int) (E : List Bool) (L : List S128) (H : List ByteArray) (A : List Bool) (t : Int) (h : smallW P E L H A) : Tot (fun k => laws_eqWindow.f k P s E L H A t P s E L H A t) true := by
  obtain ⟨h1, h2, h3, h4, h5⟩ := h
  unfold laws_eqWindow.f
  exact Tot.bind (eqStr_v P (by omega)) (Tot.yes rfl (Tot.yes rfl (Tot.bind (eqBool_v E (by omega)) (Tot.yes rfl (Tot.bind (eqFrameS_v L (by omega) (fun _ _ => trivial)) (Tot.yes rfl (Tot.bind (eqStr_v H (by omega)) (Tot.yes rfl (Tot.bind (eqBool_v A (by omega)) (Tot.yes rfl (Tot.yes rfl (Tot.pure _))))))))))))

abbrev WR := List ByteArray × Int × List Bool × List S128 × List ByteArray × List Bool × Int × Bool
def nwR (P : List ByteArray) (s : Int) : WR :=
  if (P.all pieceB && decide ((P.length : Int) ≤ 12)) = true ∧ (1 ≤ s ∧ s ≤ 12) then (P, s, List.replicate P.length false, [], List.replicate P.length (⟨#[]⟩ : ByteArray), List.replicate P.length false, 0, true) else ([], 0, [], [], [], [], 0, false)
theorem clone_v (l : List ByteArray) (h : (l.length : Int) ≤ 12) : slices_Clone_string_string.f l = some l := by
  unfold slices_Clone_string_string.f
  rw [Option.bind_some, if_pos (by simp; omega)]
  rfl
theorem len12 {P : List ByteArray} (c : (P.all pieceB && decide ((P.length : Int) ≤ 12)) = true) : (P.length : Int) ≤ 12 := by
  rw [Bool.and_eq_true, decide_eq_true_eq] at c
  exact c.2
theorem specNW_v (P : List ByteArray) (s : Int) (hP : (P.length : Int) ≤ 1048576) : Tot (fun k => spec_NewWindow.f k P s) (nwR P s) := by
  unfold spec_NewWindow.f
  refine Tot.bind (specPieces_v P (by omega)) ?_
  simp only [in_v, Option.bind_some]
  by_cases c : (P.all pieceB && decide ((P.length : Int) ≤ 12)) = true
  · have h12 := len12 c
    by_cases c2 : 1 ≤ s ∧ s ≤ 12
    · have e : nwR P s = (P, s, List.replicate P.length false, [], List.replicate P.length (⟨#[]⟩ : ByteArray), List.replicate P.length false, 0, true) := if_pos ⟨c, c2⟩
      rw [e]
      refine Tot.yes c (Tot.yes (decide_eq_true c2) (Tot.yes (by simp; omega) (Tot.yes (by omega) (Tot.yes (by omega) (Tot.yes (by omega) ?_)))))
      rw [List.nil_append, Int.toNat_natCast]
      exact Tot.pure _
    · have e : nwR P s = ([], 0, [], [], [], [], 0, false) := if_neg (fun h => c2 h.2)
      rw [e]
      exact Tot.yes c (Tot.no (by rw [decide_eq_true_eq]; exact c2) (Tot.pure _))
  · have e : nwR P s = ([], 0, [], [], [], [], 0, false) := if_neg (fun h => c h.1)
    rw [e]
    exact Tot.no c (Tot.pure _)
theorem implNW_v (P : List ByteArray) (s : Int) (hP : (P.length : Int) ≤ 1048576) : impl_NewWindow.f P s = some (nwR P s) := by
  unfold impl_NewWindow.f
  rw [implPieces_v, Option.bind_some]
  by_cases c : (P.all pieceB && decide ((P.length : Int) ≤ 12)) = true
  · have h12 := len12 c
    rw [if_pos c, within_v, Option.bind_some]
    by_cases c2 : 1 ≤ s ∧ s ≤ 12
    · have e : nwR P s = (P, s, List.replicate P.length false, [], List.replicate P.length (⟨#[]⟩ : ByteArray), List.replicate P.length false, 0, true) := if_pos ⟨c, c2⟩
      rw [e, if_pos (decide_eq_true c2)]
      unfold impl_newWindow.f
      rw [clone_v P h12, Option.bind_some, if_pos (by omega), if_pos (by omega), if_pos (by omega), Option.bind_some, Int.toNat_natCast]
    · have e : nwR P s = ([], 0, [], [], [], [], 0, false) := if_neg (fun h => c2 h.2)
      rw [e, if_neg (by rw [decide_eq_true_eq]; exact c2)]
  · have e : nwR P s = ([], 0, [], [], [], [], 0, false) := if_neg (fun h => c h.1)
    rw [e, if_neg c]
theorem nwR_short (P : List ByteArray) (s : Int) : ((nwR P s).1.length : Int) ≤ 12 ∧ ((nwR P s).2.2.1.length : Int) ≤ 12 ∧ (nwR P s).2.2.2.1 = [] ∧ ((nwR P s).2.2.2.2.1.length : Int) ≤ 12 ∧ ((nwR P s).2.2.2.2.2.1.length : Int) ≤ 12 := by
  unfold nwR
  split
  · rename_i c
    have := len12 c.1
    simp
    omega
  · simp
theorem marksW_v (P : List ByteArray) (s : Int) (E : List Bool) (L : List S128) (H : List ByteArray) (A : List Bool) (t : Int) (h1 : (P.length : Int) ≤ 12) (h2 : (E.length : Int) ≤ 12) (h3 : L = []) (h4 : (H.length : Int) ≤ 12) (h5 : (A.length : Int) ≤ 12) :
    ∃ (r : Int) (P' : List ByteArray) (E' : List Bool) (L' : List S128) (H' : List ByteArray) (A' : List Bool), Tot (fun k => laws_markWindow.f k P s E L H A t 1) (r, P', E', L', H', A') ∧ 0 ≤ r ∧ Tot (fun k => laws_heldWindow.f k P' s E' L' H' A' t 1) r := by
  subst h3
  refine ⟨1 + P.length + E.length + 3 * (([] : List S128).length : Nat) + H.length + A.length, mkStr P 1, mkBool E (1 + P.length), mkFrame [] (1 + P.length + E.length), mkStr H (1 + P.length + E.length + 3 * (([] : List S128).length : Nat)), mkBool A (1 + P.length + E.length + 3 * (([] : List S128).length : Nat) + H.length), ?_, by simp; omega, ?_⟩
  · unfold laws_markWindow.f
    exact Tot.bind (markStr_v P 1 (by omega) (by omega)) (Tot.bind (markBool_v E _ (by omega) (by omega)) (Tot.bind (markFrameS_v [] _ (by omega) (by simp; omega)) (Tot.bind (markStr_v H _ (by simp; omega) (by simp; omega)) (Tot.bind (markBool_v A _ (by simp; omega) (by simp; omega)) (Tot.pure _)))))
  · unfold laws_heldWindow.f
    exact Tot.bind (heldStr_v P 1 (by omega) (by omega)) (Tot.no (by omega) (Tot.bind (heldBool_v E _ (by omega) (by omega)) (Tot.no (by omega) (Tot.bind (heldFrameS_v [] _ (by omega) (by simp; omega)) (Tot.no (by simp; omega) (Tot.bind (heldStr_v H _ (by simp; omega) (by simp; omega)) (Tot.no (by simp; omega) (Tot.bind (heldBool_v A _ (by simp; omega) (by simp; omega)) (Tot.no (by simp; omega) (Tot.pure _))))))))))
theorem FnExactNewWindow : laws_FnExactNewWindow.Pure := by
  intro P s ⟨hP, hP2⟩ _
  obtain ⟨v, hv, hv1, hv2⟩ := szStr_v P 1048576 (by omega) (by omega) (by omega) hP2
  refine Tot.at_ ?_
  unfold laws_FnExactNewWindow.f
  refine Tot.bind hv ?_
  by_cases c : v < 0
  · exact Tot.yes c (Tot.pure _)
  · have hs := hv2 (by omega)
    have toP := toStr_v P hs
    have sR := specNW_v P s hs
    have iR := implNW_v P s hs
    have iR' : Tot (fun _ => impl_NewWindow.f P s) (nwR P s) := Tot.of_eq fun _ => iR
    obtain ⟨g1, g2, g3, g4, g5⟩ := nwR_short P s
    generalize nwR P s = R at *
    obtain ⟨R1, R2, R3, R4, R5, R6, R7, R8⟩ := R
    have eW := eqWindow_v R1 R2 R3 R4 R5 R6 R7 ⟨by dsimp only at g1; omega, by dsimp only at g2; omega, by dsimp only at g3; rw [g3]; simp, by dsimp only at g4; omega, by dsimp only at g5; omega⟩
    obtain ⟨r, P', E', L', H', A', hm, hm0, hh⟩ := marksW_v R1 R2 R3 R4 R5 R6 R7 g1 g2 g3 g4 g5
    have e2 : (R8 != R8) = false := by simp
    refine Tot.no c (Tot.bind toP (Tot.bind sR (Tot.bind toP (Tot.bind iR' (Tot.bind eW (Tot.yes rfl ?_))))))
    dsimp only
    rw [e2]
    refine Tot.step (fun k => laws_FnExactNewWindow.j0.eq_2 ..) (Tot.no (by decide) (Tot.bind toP (Tot.bind (eqStr_v P (by omega)) (Tot.yes rfl (Tot.bind (markStr_v P 1 (by omega) (by omega)) (Tot.no (by dsimp only; omega) (Tot.bind eW (Tot.yes rfl ?_))))))))
    rw [e2]
    refine Tot.step (fun k => laws_FnExactNewWindow.j1.eq_2 ..) (Tot.no (by decide) (Tot.bind hm (Tot.bind hh (Tot.no (by omega) (Tot.yes rfl (Tot.bind toP (Tot.bind iR' (Tot.bind eW (Tot.yes rfl ?_)))))))))
    dsimp only
    rw [e2]
    exact Tot.step (fun k => laws_FnExactNewWindow.j2.eq_2 ..) (Tot.no (by decide) (Tot.bind hh (Tot.no (by omega) (Tot.yes rfl (Tot.pure _)))))

end Go.Proofs.Ytafkbhkikdndnaa.Pure

/- The plain law behind FnExactFirstOpen: what the two sides compute is the same, for every input. No condition. -/
import Derived.Test.YtafkbhkikdndnaaPFnExactFirstOpenx7
set_option linter.unusedVariables false
set_option linter.unusedSimpArgs false
namespace Go.Proofs.Ytafkbhkikdndnaa.Pure
open Go.RowKit Go.Proofs.Ytafkbhkikdndnaa.PFnExactFirstOpen Go.Proofs.YtafkbhkikdndnaaW.PrintWords Go.Proofs.YtafkbhkikdndnaaW.PrintLast Go.Proofs.YtafkbhkikdndnaaW.PrintMore

theorem wrap_in {x : Int} (h0 : -9223372036854775808 ≤ x) (h1 : x ≤ 9223372036854775807) : wrap64 x = x := by unfold wrap64; omega
theorem wf_in {x : Int} (h : (Lit.int .i64 x).wf = true) : -9223372036854775808 ≤ x ∧ x ≤ 9223372036854775807 := by
  simp only [Lit.wf, IntKind.min, IntKind.max, IntKind.bits, IntKind.signed, Bool.and_eq_true, decide_eq_true_eq] at h
  exact ⟨by have := h.1; simpa using this, by have := h.2; simpa using this⟩
theorem toList_nil (s : ByteArray) : (s.toList == ([] : List UInt8)) = decide (s.size = 0) := by
  rw [Bool.eq_iff_iff]
  simp only [beq_iff_eq, decide_eq_true_eq, ByteArray.toList_eq]
  constructor
  · intro h
    have h2 : s.data.toList.length = 0 := by rw [h]; rfl
    rw [Array.length_toList] at h2
    exact h2
  · intro h
    have h2 : s.data.toList.length = 0 := by rw [Array.length_toList]; exact h
    exact List.eq_nil_of_length_eq_zero h2

/-- From some number of rounds on the answer is r. -/
def Tot {α : Type} (g : Nat → Option α) (r : α) : Prop := ∃ K, ∀ k, K ≤ k → g k = some r
theorem Tot.at_ {α : Type} {g : Nat → Option α} {r : α} (h : Tot g r) : ∃ k, g k = some r := by
  obtain ⟨K, hK⟩ := h
  exact ⟨K, hK K (Nat.le_refl _)⟩
theorem Tot.pure {α : Type} (r : α) : Tot (fun _ => some r) r := ⟨0, fun _ _ => rfl⟩
theorem Tot.of_eq {α : Type} {g : Nat → Option α} {r : α} (h : ∀ k, g k = some r) : Tot g r := ⟨0, fun k _ => h k⟩
theorem Tot.congr {α : Type} {g g' : Nat → Option α} {r : α} (he : ∀ k, g k = g' k) (h : Tot g' r) : Tot g r := by
  obtain ⟨K, hK⟩ := h
  exact ⟨K, fun k hk => (he k).trans (hK k hk)⟩
theorem Tot.bind {α β : Type} {g : Nat → Option α} {h : Nat → α → Option β} {a : α} {r : β} (hg : Tot g a) (hh : Tot (fun k => h k a) r) : Tot (fun k => (g k).bind (h k)) r := by
  obtain ⟨K, hK⟩ := hg
  obtain ⟨L, hL⟩ := hh
  refine ⟨max K L, fun k hk => ?_⟩
  show (g k).bind (h k) = some r
  rw [hK k (by omega)]
  exact hL k (by omega)
theorem Tot.step {α : Type} {F G : Nat → Option α} {r : α} (hF : ∀ k, F (k + 1) = G k) (h : Tot G r) : Tot F r := by
  obtain ⟨K, hK⟩ := h
  refine ⟨K + 1, fun k hk => ?_⟩
  obtain ⟨m, rfl⟩ : ∃ m, k = m + 1 := ⟨k - 1, by omega⟩
  rw [hF]
  exact hK m (by omega)
theorem Tot.yes {α : Type} {p : Prop} [Decidable p] {g h : Nat → Option α} {r : α} (hp : p) (hg : Tot g r) : Tot (fun k => if p then g k else h k) r := by
  simpa only [if_pos hp] using hg
theorem Tot.no {α : Type} {p : Prop} [Decidable p] {g h : Nat → Option α} {r : α} (hp : ¬ p) (hg : Tot h r) : Tot (fun k => if p then g k else h k) r := by
  simpa only [if_neg hp] using hg
theorem Tot.some_bind {α β : Type} {h : Nat → α → Option β} {a : α} {r : β} (hh : Tot (fun k => h k a) r) : Tot (fun k => (some a).bind (h k)) r := hh

theorem in_v (a b c : Int) : spec_l1In.f a b c = some (decide (b ≤ a ∧ a ≤ c)) := by
  unfold spec_l1In.f
  by_cases h : a ≥ b
  · rw [if_pos h]; congr 1; rw [decide_eq_decide]; omega
  · rw [if_neg h]; congr 1; symm; rw [decide_eq_false_iff_not]; omega

theorem within_v (a b c : Int) : impl_within.f a b c = some (decide (b ≤ a ∧ a ≤ c)) := by
  unfold impl_within.f
  by_cases h : b ≤ a
  · rw [if_pos h]; congr 1; rw [decide_eq_decide]; omega
  · rw [if_neg h]; congr 1; symm; rw [decide_eq_false_iff_not]; omega


theorem rdStr_at (a b : List ByteArray) (x : ByteArray) : (rdOf ByteArray.empty (a ++ x :: b) (a.length : Int)) = x := by simp [rdOf, List.getD]
theorem szStr_l : ∀ (b a : List ByteArray) (m : Int), 0 ≤ m → m ≤ 1048576 → ((a ++ b).length : Int) ≤ 1048576 → (∀ y ∈ b, y.size ≤ 140737488351232) → ∃ v, Tot (fun k => laws_szStringS.l0 k (a ++ b) m a.length) v ∧ v ≤ 1048576
  | [], a, m, h0, h1, hl, hs => ⟨m, by
    refine Tot.step (fun k => laws_szStringS.l0.eq_2 ..) ?_
    simp only [List.append_nil]
    exact Tot.no (by omega) (Tot.pure _), h1⟩
  | x :: b, a, m, h0, h1, hl, hs => by
    have hx := hs x (by simp)
    have hll : ((a ++ x :: b).length : Int) = a.length + b.length + 1 := by simp; omega
    by_cases hc : m - (x.size : Int) < 0
    · refine ⟨-1, Tot.step (fun k => laws_szStringS.l0.eq_2 ..) (Tot.yes (by omega) (Tot.yes (by omega) (Tot.yes ?_ (Tot.pure _)))), by omega⟩
      rw [rdStr_at, wrap_in (by omega) (by omega)]; exact hc
    · obtain ⟨v, hv, hv2⟩ := szStr_l b (a ++ [x]) (m - (x.size : Int)) (by omega) (by omega) (by simp at hll hl ⊢; omega) (fun y hy => hs y (by simp [hy]))
      refine ⟨v, Tot.step (fun k => laws_szStringS.l0.eq_2 ..) (Tot.yes (by omega) (Tot.yes (by omega) (Tot.no ?_ ?_))), hv2⟩
      · rw [rdStr_at, wrap_in (by omega) (by omega)]; exact hc
      · rw [rdStr_at, wrap_in (x := m - (x.size : Int)) (by omega) (by omega), wrap_in (x := (a.length : Int) + 1) (by omega) (by omega)]
        simpa using hv
theorem szStr_v (l : List ByteArray) (m : Int) (h0 : 0 ≤ m) (h1 : m ≤ 1048576) (hl : (l.length : Int) ≤ 9223372036850000000) (hs : ∀ y ∈ l, y.size ≤ 140737488351232) : ∃ v, Tot (fun k => laws_szStringS.f k l m) v ∧ v ≤ 1048576 ∧ (0 ≤ v → (l.length : Int) ≤ 1048576) := by
  unfold laws_szStringS.f
  rw [wrap_in (by omega) (by omega)]
  by_cases h : m - (l.length : Int) < 0
  · exact ⟨-1, Tot.yes h (Tot.pure _), by omega, fun h => by omega⟩
  · obtain ⟨v, hv, hv2⟩ := szStr_l l [] (m - (l.length : Int)) (by omega) (by omega) (by simp; omega) hs
    exact ⟨v, Tot.no h (by simpa using hv), hv2, fun _ => by omega⟩
theorem toStr_l : ∀ (b a : List ByteArray), ((a ++ b).length : Int) ≤ 9223372036854775806 → Tot (fun k => laws_toStringS.l0 k (a ++ b) (a ++ List.replicate b.length (⟨#[]⟩ : ByteArray)) a.length) (a ++ b)
  | [], a, h => by
    refine Tot.step (fun k => laws_toStringS.l0.eq_2 ..) ?_
    simp only [List.append_nil, List.length_nil, List.replicate_zero]
    exact Tot.no (by omega) (Tot.pure _)
  | x :: b, a, h => by
    refine Tot.step (fun k => laws_toStringS.l0.eq_2 ..) ?_
    have hl : ((a ++ x :: b).length : Int) = a.length + b.length + 1 := by simp; omega
    have hl2 : ((a ++ List.replicate (x :: b).length (⟨#[]⟩ : ByteArray)).length : Int) = a.length + b.length + 1 := by simp; omega
    refine Tot.yes (by omega) (Tot.yes (by omega) (Tot.yes (by omega) ?_))
    rw [rdStr_at, wrap_in (x := (a.length : Int) + 1) (by omega) (by omega)]
    have e : (a ++ List.replicate (x :: b).length (⟨#[]⟩ : ByteArray)).set ((a.length : Int)).toNat x = (a ++ [x]) ++ List.replicate b.length (⟨#[]⟩ : ByteArray) := by simp [List.replicate_succ]
    rw [e]
    have := toStr_l b (a ++ [x]) (by simp at hl h ⊢; omega)
    simpa using this
theorem toStr_v (l : List ByteArray) (h : (l.length : Int) ≤ 1048576) : Tot (fun k => laws_toStringS.f k l) l := by
  unfold laws_toStringS.f
  refine Tot.yes (by omega) (Tot.yes (by omega) ?_)
  have := toStr_l l [] (by simp; omega)
  simpa using this
theorem eqStr_l (a : List ByteArray) (ha : (a.length : Int) ≤ 9223372036854775806) : ∀ (d : Nat) (i : Int), 0 ≤ i → i + d = a.length → Tot (fun k => laws_eqStringS.l0 k a a i) true
  | 0, i, h0, h => by
    refine Tot.step (fun k => laws_eqStringS.l0.eq_2 ..) ?_
    exact Tot.no (by omega) (Tot.pure _)
  | d + 1, i, h0, h => by
    refine Tot.step (fun k => laws_eqStringS.l0.eq_2 ..) ?_
    refine Tot.yes (by omega) (Tot.yes h0 (Tot.yes (by omega) (Tot.yes rfl ?_)))
    rw [wrap_in (by omega) (by omega)]
    exact eqStr_l a ha d (i + 1) (by omega) (by omega)
theorem eqStr_v (a : List ByteArray) (ha : (a.length : Int) ≤ 9223372036854775806) : Tot (fun k => laws_eqStringS.f k a a) true := by
  unfold laws_eqStringS.f
  exact Tot.yes rfl (eqStr_l a ha a.length 0 (by omega) (by omega))
theorem szBool_v (l : List Bool) (m : Int) (h0 : 0 ≤ m) (h1 : m ≤ 1048576) (hl : (l.length : Int) ≤ 9223372036850000000) : ∃ v, laws_szBoolS.f l m = some v ∧ v ≤ 1048576 ∧ (0 ≤ v → (l.length : Int) ≤ 1048576) := by
  unfold laws_szBoolS.f
  rw [wrap_in (by omega) (by omega)]
  by_cases h : m - (l.length : Int) < 0
  · exact ⟨-1, by rw [if_pos h], by omega, fun h => by omega⟩
  · exact ⟨_, by rw [if_neg h], by omega, fun _ => by omega⟩
theorem rdBool_at (a b : List Bool) (x : Bool) : (rdOf false (a ++ x :: b) (a.length : Int)) = x := by simp [rdOf, List.getD]
theorem toBool_l : ∀ (b a : List Bool), ((a ++ b).length : Int) ≤ 9223372036854775806 → Tot (fun k => laws_toBoolS.l0 k (a ++ b) (a ++ List.replicate b.length false) a.length) (a ++ b)
  | [], a, h => by
    refine Tot.step (fun k => laws_toBoolS.l0.eq_2 ..) ?_
    simp only [List.append_nil, List.length_nil, List.replicate_zero]
    exact Tot.no (by omega) (Tot.pure _)
  | x :: b, a, h => by
    refine Tot.step (fun k => laws_toBoolS.l0.eq_2 ..) ?_
    have hl : ((a ++ x :: b).length : Int) = a.length + b.length + 1 := by simp; omega
    have hl2 : ((a ++ List.replicate (x :: b).length false).length : Int) = a.length + b.length + 1 := by simp; omega
    refine Tot.yes (by omega) (Tot.yes (by omega) (Tot.yes (by omega) ?_))
    rw [rdBool_at, wrap_in (x := (a.length : Int) + 1) (by omega) (by omega)]
    have e : (a ++ List.replicate (x :: b).length false).set ((a.length : Int)).toNat x = (a ++ [x]) ++ List.replicate b.length false := by simp [List.replicate_succ]
    rw [e]
    have := toBool_l b (a ++ [x]) (by simp at hl h ⊢; omega)
    simpa using this
theorem toBool_v (l : List Bool) (h : (l.length : Int) ≤ 1048576) : Tot (fun k => laws_toBoolS.f k l) l := by
  unfold laws_toBoolS.f
  refine Tot.yes (by omega) (Tot.yes (by omega) ?_)
  have := toBool_l l [] (by simp; omega)
  simpa using this
theorem eqBool_l (a : List Bool) (ha : (a.length : Int) ≤ 9223372036854775806) : ∀ (d : Nat) (i : Int), 0 ≤ i → i + d = a.length → Tot (fun k => laws_eqBoolS.l0 k a a i) true
  | 0, i, h0, h => by
    refine Tot.step (fun k => laws_eqBoolS.l0.eq_2 ..) ?_
    exact Tot.no (by omega) (Tot.pure _)
  | d + 1, i, h0, h => by
    refine Tot.step (fun k => laws_eqBoolS.l0.eq_2 ..) ?_
    refine Tot.yes (by omega) (Tot.yes h0 (Tot.yes (by omega) (Tot.no (by simp) ?_)))
    rw [wrap_in (by omega) (by omega)]
    exact eqBool_l a ha d (i + 1) (by omega) (by omega)
theorem eqBool_v (a : List Bool) (ha : (a.length : Int) ≤ 9223372036854775806) : Tot (fun k => laws_eqBoolS.f k a a) true := by
  unfold laws_eqBoolS.f
  exact Tot.yes rfl (eqBool_l a ha a.length 0 (by omega) (by omega))
theorem rdLFrame_at (a b : List S150) (x : S150) : rd_T150 (a ++ x :: b) (a.length : Int) = x := by simp [rd_T150, List.getD]
theorem szFrame_v (x : S150) (m : Int) (h0 : 0 ≤ m) (h1 : m ≤ 1048576) (hx : (x.f2.size : Int) ≤ 140737488351232) : ∃ v, Tot (fun (_ : Nat) => laws_szFrame.f x.f0 x.f1 x.f2 m) v ∧ v ≤ 1048576 ∧ (0 ≤ v → True) := by
  unfold laws_szFrame.f
  rw [wrap_in (by omega) (by omega)]
  by_cases h : m - (x.f2.size : Int) < 0
  · exact ⟨-1, Tot.yes h (Tot.pure _), by omega, fun h => by omega⟩
  · exact ⟨_, Tot.no h (Tot.pure _), by omega, fun _ => trivial⟩
theorem szFrameS_l : ∀ (b a : List S150) (m : Int), 0 ≤ m → m ≤ 1048576 → ((a ++ b).length : Int) ≤ 1048576 → (∀ x ∈ b, (x.f2.size : Int) ≤ 140737488351232) → ∃ v, Tot (fun k => laws_szFrameS.l0 k (a ++ b) m a.length) v ∧ v ≤ 1048576 ∧ (0 ≤ v → ∀ y ∈ b, True)
  | [], a, m, h0, h1, hl, hs => ⟨m, by
    refine Tot.step (fun k => laws_szFrameS.l0.eq_2 ..) ?_
    simp only [List.append_nil]
    exact Tot.no (by omega) (Tot.pure _), h1, fun _ y hy => by simp at hy⟩
  | x :: b, a, m, h0, h1, hl, hs => by
    have hll : ((a ++ x :: b).length : Int) = a.length + b.length + 1 := by simp; omega
    obtain ⟨u, hu, hu1, hu2⟩ := szFrame_v x m h0 h1 (hs x (by simp))
    by_cases hc : u < 0
    · refine ⟨-1, Tot.step (fun k => laws_szFrameS.l0.eq_2 ..) (Tot.yes (by omega) (Tot.yes (by omega) ?_)), by omega, fun h => by omega⟩
      rw [rdLFrame_at]
      exact Tot.bind hu (Tot.yes hc (Tot.pure _))
    · obtain ⟨v, hv, hv1, hv2⟩ := szFrameS_l b (a ++ [x]) u (by omega) hu1 (by simp at hll hl ⊢; omega) (fun y hy => hs y (by simp [hy]))
      refine ⟨v, Tot.step (fun k => laws_szFrameS.l0.eq_2 ..) (Tot.yes (by omega) (Tot.yes (by omega) ?_)), hv1, fun h y hy => ?_⟩
      · rw [rdLFrame_at, wrap_in (x := (a.length : Int) + 1) (by omega) (by omega)]
        exact Tot.bind hu (Tot.no hc (by simpa using hv))
      · rcases List.mem_cons.1 hy with rfl | hy
        · exact hu2 (by omega)
        · exact hv2 h y hy
theorem szFrameS_v (l : List S150) (m : Int) (h0 : 0 ≤ m) (h1 : m ≤ 1048576) (hl : (l.length : Int) ≤ 9223372036850000000) (hs : ∀ x ∈ l, (x.f2.size : Int) ≤ 140737488351232) : ∃ v, Tot (fun k => laws_szFrameS.f k l m) v ∧ v ≤ 1048576 ∧ (0 ≤ v → (l.length : Int) ≤ 1048576 ∧ ∀ y ∈ l, True) := by
  unfold laws_szFrameS.f
  rw [wrap_in (by omega) (by omega)]
  by_cases h : m - (l.length : Int) < 0
  · exact ⟨-1, Tot.yes h (Tot.pure _), by omega, fun h => by omega⟩
  · obtain ⟨v, hv, hv1, hv2⟩ := szFrameS_l l [] (m - (l.length : Int)) (by omega) (by omega) (by simp; omega) hs
    exact ⟨v, Tot.no h (by simpa using hv), hv1, fun h3 => ⟨by omega, hv2 h3⟩⟩
def cvFrame (x : S150) : S128 := ⟨x.f0, x.f1, x.f2⟩
theorem toFrame_v (x : S150) (hs : True) : Tot (fun (_ : Nat) => laws_toFrame.f x.f0 x.f1 x.f2) (x.f0, x.f1, x.f2) := Tot.of_eq fun _ => by simp [laws_toFrame.f]
theorem toFrameS_l : ∀ (b a : List S150), ((a ++ b).length : Int) ≤ 9223372036854775806 → (∀ y ∈ b, True) → Tot (fun k => laws_toFrameS.l0 k (a ++ b) (a.map cvFrame ++ List.replicate b.length z128) a.length) ((a ++ b).map cvFrame)
  | [], a, h, hs => by
    refine Tot.step (fun k => laws_toFrameS.l0.eq_2 ..) ?_
    simp only [List.append_nil, List.length_nil, List.replicate_zero]
    exact Tot.no (by omega) (Tot.pure _)
  | x :: b, a, h, hs => by
    refine Tot.step (fun k => laws_toFrameS.l0.eq_2 ..) ?_
    have hl : ((a ++ x :: b).length : Int) = a.length + b.length + 1 := by simp; omega
    have hl2 : ((a.map cvFrame ++ List.replicate (x :: b).length z128).length : Int) = a.length + b.length + 1 := by simp; omega
    refine Tot.yes (by omega) (Tot.yes (by omega) ?_)
    rw [rdLFrame_at, wrap_in (x := (a.length : Int) + 1) (by omega) (by omega)]
    refine Tot.bind (toFrame_v x (hs x (by simp))) (Tot.yes (by omega) ?_)
    have e : (a.map cvFrame ++ List.replicate (x :: b).length z128).set ((a.length : Int)).toNat (cvFrame x) = (a ++ [x]).map cvFrame ++ List.replicate b.length z128 := by
      rw [List.length_cons, List.replicate_succ, List.set_append_right _ _ (by simp)]
      simp
    have e2 : (⟨x.f0, x.f1, x.f2⟩ : S128) = cvFrame x := rfl
    dsimp only
    rw [e2, e]
    have := toFrameS_l b (a ++ [x]) (by simp at hl h ⊢; omega) (fun y hy => hs y (by simp [hy]))
    simpa using this
theorem toFrameS_v (l : List S150) (h : (l.length : Int) ≤ 1048576) (hs : ∀ y ∈ l, True) : Tot (fun k => laws_toFrameS.f k l) (l.map cvFrame) := by
  unfold laws_toFrameS.f
  refine Tot.yes (by omega) (Tot.yes (by omega) ?_)
  have := toFrameS_l l [] (by simp; omega) hs
  simpa using this
theorem rdIFrame_at (a b : List S128) (x : S128) : rd_T128 (a ++ x :: b) (a.length : Int) = x := by simp [rd_T128, List.getD]
theorem eqFrame_v (x : S128) (hs : True) : Tot (fun (_ : Nat) => laws_eqFrame.f x.f0 x.f1 x.f2 x.f0 x.f1 x.f2) true := Tot.of_eq fun _ => by simp [laws_eqFrame.f]
theorem eqFrameS_l : ∀ (b a : List S128), ((a ++ b).length : Int) ≤ 9223372036854775806 → (∀ y ∈ b, True) → Tot (fun k => laws_eqFrameS.l0 k (a ++ b) (a ++ b) a.length) true
  | [], a, h, hs => by
    refine Tot.step (fun k => laws_eqFrameS.l0.eq_2 ..) ?_
    simp only [List.append_nil]
    exact Tot.no (by omega) (Tot.pure _)
  | x :: b, a, h, hs => by
    refine Tot.step (fun k => laws_eqFrameS.l0.eq_2 ..) ?_
    have hl : ((a ++ x :: b).length : Int) = a.length + b.length + 1 := by simp; omega
    refine Tot.yes (by omega) (Tot.yes (by omega) (Tot.yes (by omega) ?_))
    rw [rdIFrame_at, wrap_in (x := (a.length : Int) + 1) (by omega) (by omega)]
    refine Tot.bind (eqFrame_v x (hs x (by simp))) (Tot.yes rfl ?_)
    have := eqFrameS_l b (a ++ [x]) (by simp at hl h ⊢; omega) (fun y hy => hs y (by simp [hy]))
    simpa using this
theorem eqFrameS_v (l : List S128) (h : (l.length : Int) ≤ 9223372036854775806) (hs : ∀ y ∈ l, True) : Tot (fun k => laws_eqFrameS.f k l l) true := by
  unfold laws_eqFrameS.f
  refine Tot.yes rfl ?_
  have := eqFrameS_l l [] (by simpa using h) hs
  simpa using this
def pieceB (s : ByteArray) : Bool := decide ((s.size : Int) ≤ 20)
/-- How many are set without a gap. -/
def toldN (l : List Bool) : Int := ((l.takeWhile (fun b => b)).length : Int)
def rowB (P H : List ByteArray) (E A : List Bool) (i : Int) : Bool :=
  if rdOf false A i = true then decide ((rdOf ByteArray.empty H i).toList = (rdOf ByteArray.empty P i).toList) else decide ((rdOf ByteArray.empty H i).toList = ([] : List UInt8)) && !rdOf false E i
def rowsB (P H : List ByteArray) (E A : List Bool) : Nat → Nat → Bool
  | 0, _ => true
  | d + 1, i => rowB P H E A i && rowsB P H E A d (i + 1)
def frameB (P : List ByteArray) (A : List Bool) (x : S128) : Bool :=
  decide (0 ≤ x.f1 ∧ x.f1 < (P.length : Int)) && (if x.f0 = true then decide (x.f2.toList = ([] : List UInt8)) && rdOf false A x.f1 else decide (x.f2.toList = (rdOf ByteArray.empty P x.f1).toList))
def goodW (P : List ByteArray) (s : Int) (E : List Bool) (L : List S128) (H : List ByteArray) (A : List Bool) (t : Int) : Bool :=
  (P.all pieceB && decide ((P.length : Int) ≤ 12)) && decide (1 ≤ s ∧ s ≤ 12) && decide ((E.length : Int) = P.length) && decide ((H.length : Int) = P.length) && decide ((A.length : Int) = P.length) && decide (t = toldN A) && decide ((L.length : Int) ≤ 30) && rowsB P H E A P.length 0 && L.all (frameB P A)
theorem specPieces_l : ∀ (b a : List ByteArray), ((a ++ b).length : Int) ≤ 9223372036850000000 → Tot (fun k => spec_l9Pieces.l0 k (a ++ b) (a ++ b) ((a ++ b).length : Int) a.length) (b.all pieceB && decide (((a ++ b).length : Int) ≤ 12))
  | [], a, h => by
    refine Tot.step (fun k => spec_l9Pieces.l0.eq_2 ..) (Tot.no (by simp) ?_)
    rw [List.all_nil, Bool.true_and]
    exact Tot.pure _
  | x :: b, a, h => by
    have hl : ((a ++ x :: b).length : Int) = a.length + b.length + 1 := by simp; omega
    refine Tot.step (fun k => spec_l9Pieces.l0.eq_2 ..) (Tot.yes (by omega) (Tot.yes (by omega) (Tot.yes (by omega) ?_)))
    rw [rdStr_at, wrap_in (x := (a.length : Int) + 1) (by omega) (by omega), List.all_cons]
    by_cases hx : (x.size : Int) > 20
    · have e : pieceB x = false := decide_eq_false (by omega)
      rw [e, Bool.false_and, Bool.false_and]
      exact Tot.yes hx (Tot.pure _)
    · have e : pieceB x = true := decide_eq_true (by omega)
      rw [e, Bool.true_and]
      refine Tot.no hx ?_
      have := specPieces_l b (a ++ [x]) (by simpa using h)
      simpa using this
theorem specPieces_v (l : List ByteArray) (h : (l.length : Int) ≤ 9223372036850000000) : Tot (fun k => spec_l9Pieces.f k l) (l.all pieceB && decide ((l.length : Int) ≤ 12)) := by
  have := specPieces_l l [] (by simpa using h)
  unfold spec_l9Pieces.f
  simpa using this
theorem implPieces_v (l : List ByteArray) : impl_arePieces.f l = some (l.all pieceB && decide ((l.length : Int) ≤ 12)) := by
  unfold impl_arePieces.f
  by_cases c : (l.length : Int) ≤ 12
  · have e : impl_areAll_string_at_impl_arePieces_1.f l = some (l.all pieceB) := Go.Proofs.Ytafkbhkikdndnaa.Open.allO_v fun x _ => rfl
    rw [if_pos c, e, decide_eq_true c, Bool.and_true]
    rfl
  · rw [if_neg c, decide_eq_false c, Bool.and_false]
theorem toldN_le (l : List Bool) : 0 ≤ toldN l ∧ toldN l ≤ l.length := by
  unfold toldN
  have : (l.takeWhile (fun b => b)).length ≤ l.length := (List.takeWhile_prefix _).length_le
  omega
theorem specTold_l : ∀ (b a : List Bool), ((a ++ b).length : Int) ≤ 9223372036850000000 → Tot (fun k => spec_l9Told.l0 k (a ++ b) a.length) (a.length + toldN b)
  | [], a, h => by
    refine Tot.step (fun k => spec_l9Told.l0.eq_2 ..) (Tot.no (by simp) ?_)
    simpa [toldN] using Tot.pure (a.length : Int)
  | x :: b, a, h => by
    have hl : ((a ++ x :: b).length : Int) = a.length + b.length + 1 := by simp; omega
    refine Tot.step (fun k => spec_l9Told.l0.eq_2 ..) (Tot.yes (by omega) (Tot.yes (by omega) ?_))
    rw [rdBool_at, wrap_in (x := (a.length : Int) + 1) (by omega) (by omega)]
    cases x with
    | false =>
      refine Tot.no (by decide) ?_
      simpa [toldN] using Tot.pure (a.length : Int)
    | true =>
      refine Tot.yes rfl ?_
      have := specTold_l b (a ++ [true]) (by simpa using h)
      have e : (a.length : Int) + toldN (true :: b) = ((a ++ [true]).length : Int) + toldN b := by simp [toldN]; omega
      rw [e]
      simpa using this
theorem specTold_v (l : List Bool) (h : (l.length : Int) ≤ 9223372036850000000) : Tot (fun k => spec_l9Told.f k l) (toldN l) := by
  have := specTold_l l [] (by simpa using h)
  unfold spec_l9Told.f
  simpa using this
theorem implTold_l : ∀ (b a : List Bool), ((a ++ b).length : Int) ≤ 9223372036850000000 → Tot (fun k => impl_without.l0 k (a ++ b) a.length) (a.length + toldN b)
  | [], a, h => by
    refine Tot.step (fun k => impl_without.l0.eq_2 ..) (Tot.no (by simp) ?_)
    simpa [toldN] using Tot.pure (a.length : Int)
  | x :: b, a, h => by
    have hl : ((a ++ x :: b).length : Int) = a.length + b.length + 1 := by simp; omega
    refine Tot.step (fun k => impl_without.l0.eq_2 ..) (Tot.yes (by omega) (Tot.yes (by omega) ?_))
    rw [rdBool_at, wrap_in (x := (a.length : Int) + 1) (by omega) (by omega)]
    cases x with
    | false =>
      refine Tot.no (by decide) ?_
      simpa [toldN] using Tot.pure (a.length : Int)
    | true =>
      refine Tot.yes rfl ?_
      have := implTold_l b (a ++ [true]) (by simpa using h)
      have e : (a.length : Int) + toldN (true :: b) = ((a ++ [true]).length : Int) + toldN b := by simp [toldN]; omega
      rw [e]
      simpa using this
theorem implTold_v (l : List Bool) (h : (l.length : Int) ≤ 9223372036850000000) : Tot (fun k => impl_without.f k l) (toldN l) := by
  have := implTold_l l [] (by simpa using h)
  unfold impl_without.f
  simpa using this
/-- The frames, as spec asks. -/
theorem specFrames_l (P : List ByteArray) (s : Int) (E : List Bool) (F : List S128) (H : List ByteArray) (A : List Bool) (t : Int) (hA : (A.length : Int) = P.length) : ∀ (b a : List S128), ((a ++ b).length : Int) ≤ 9223372036850000000 → Tot (fun k => spec_GoodWindow.l1 k (P.length : Int) (a ++ b) ((a ++ b).length : Int) a.length P s E F H A t) (b.all (frameB P A))
  | [], a, h => by
    refine Tot.step (fun k => spec_GoodWindow.l1.eq_2 ..) (Tot.no (by simp) ?_)
    exact Tot.pure _
  | x :: b, a, h => by
    have hl : ((a ++ x :: b).length : Int) = a.length + b.length + 1 := by simp; omega
    refine Tot.step (fun k => spec_GoodWindow.l1.eq_2 ..) (Tot.yes (by omega) (Tot.yes (by omega) (Tot.yes (by omega) ?_)))
    rw [rdIFrame_at, wrap_in (x := (a.length : Int) + 1) (by omega) (by omega), List.all_cons]
    have ih := specFrames_l P s E F H A t hA b (a ++ [x]) (by simpa using h)
    rw [show (a ++ [x]) ++ b = a ++ x :: b by simp, show ((a ++ [x]).length : Int) = (a.length : Int) + 1 by simp] at ih
    by_cases c1 : x.f1 < 0
    · have e : frameB P A x = false := by unfold frameB; rw [decide_eq_false (by omega), Bool.false_and]
      rw [e, Bool.false_and]
      exact Tot.yes c1 (Tot.pure _)
    · by_cases c2 : x.f1 ≥ (P.length : Int)
      · have e : frameB P A x = false := by unfold frameB; rw [decide_eq_false (by omega), Bool.false_and]
        rw [e, Bool.false_and]
        exact Tot.no c1 (Tot.yes c2 (Tot.pure _))
      · have e : frameB P A x = (if x.f0 = true then decide (x.f2.toList = ([] : List UInt8)) && rdOf false A x.f1 else decide (x.f2.toList = (rdOf ByteArray.empty P x.f1).toList)) := by unfold frameB; rw [decide_eq_true (by omega), Bool.true_and]
        rw [e]
        refine Tot.no c1 (Tot.no c2 ?_)
        by_cases c3 : x.f0 = true
        · rw [if_pos c3]
          refine Tot.yes c3 ?_
          by_cases c4 : x.f2.toList = ([] : List UInt8)
          · rw [decide_eq_true c4, Bool.true_and]
            refine Tot.yes c4 (Tot.yes (by omega) (Tot.yes (by omega) ?_))
            by_cases c5 : rdOf false A x.f1 = true
            · rw [c5, Bool.true_and]
              exact Tot.yes rfl (Tot.yes c3 ih)
            · rw [Bool.eq_false_iff.2 c5, Bool.false_and]
              exact Tot.no (by decide) (Tot.pure _)
          · rw [decide_eq_false c4, Bool.false_and, Bool.false_and]
            exact Tot.no c4 (Tot.pure _)
        · rw [if_neg c3]
          refine Tot.no c3 (Tot.no c3 (Tot.yes (by omega) (Tot.yes (by omega) ?_)))
          by_cases c4 : x.f2.toList = (rdOf ByteArray.empty P x.f1).toList
          · rw [decide_eq_true c4, Bool.true_and]
            exact Tot.yes c4 ih
          · rw [decide_eq_false c4, Bool.false_and]
            exact Tot.no c4 (Tot.pure _)
theorem implFrame_v (P : List ByteArray) (s : Int) (E : List Bool) (F : List S128) (H : List ByteArray) (A : List Bool) (t : Int) (hA : (A.length : Int) = P.length) (hP : (P.length : Int) ≤ 9223372036850000000) (x : S128) : impl_Window_isFrame.f P s E F H A t x.f0 x.f1 x.f2 = some (frameB P A x) := by
  unfold impl_Window_isFrame.f frameB
  rw [wrap_in (x := (P.length : Int) - 1) (by omega) (by omega), within_v, Option.bind_some]
  by_cases c : 0 ≤ x.f1 ∧ x.f1 < (P.length : Int)
  · rw [decide_eq_true (show 0 ≤ x.f1 ∧ x.f1 ≤ (P.length : Int) - 1 by omega), if_pos rfl, decide_eq_true c, Bool.true_and]
    by_cases c3 : x.f0 = true
    · rw [if_pos c3, if_pos c3]
      by_cases c4 : x.f2.toList = ([] : List UInt8)
      · rw [if_pos c4, if_pos c.1, if_pos (by omega), decide_eq_true c4, Bool.true_and]
      · rw [if_neg c4, decide_eq_false c4, Bool.false_and]
    · rw [if_neg c3, if_neg c3, if_pos c.1, if_pos c.2]
      congr 1
      rw [Bool.eq_iff_iff, beq_iff_eq, decide_eq_true_eq]
  · rw [decide_eq_false (show ¬ (0 ≤ x.f1 ∧ x.f1 ≤ (P.length : Int) - 1) by omega), if_neg (by decide), decide_eq_false c, Bool.false_and]
theorem implFrames_v (P : List ByteArray) (s : Int) (E : List Bool) (F : List S128) (H : List ByteArray) (A : List Bool) (t : Int) (hA : (A.length : Int) = P.length) (hP : (P.length : Int) ≤ 9223372036850000000) : impl_areAll_of_impl_Window_isFrame.f F P s E F H A t = some (F.all (frameB P A)) :=
  Go.Proofs.Ytafkbhkikdndnaa.Open.allO_v fun x _ => implFrame_v P s E F H A t hA hP x
theorem specRows_l (P : List ByteArray) (s : Int) (E : List Bool) (F : List S128) (H : List ByteArray) (A : List Bool) (t : Int) (hE : (E.length : Int) = P.length) (hH : (H.length : Int) = P.length) (hA : (A.length : Int) = P.length) (hP : (P.length : Int) ≤ 9223372036850000000) (R : Bool) (hR : Tot (fun k => spec_GoodWindow.l1 k (P.length : Int) F (F.length : Int) 0 P s E F H A t) R) :
    ∀ (d i : Nat), i + d = P.length → Tot (fun k => spec_GoodWindow.l0 k (P.length : Int) P (P.length : Int) i P s E F H A t) (rowsB P H E A d i && R)
  | 0, i, h => by
    refine Tot.step (fun k => spec_GoodWindow.l0.eq_2 ..) (Tot.no (by omega) ?_)
    simpa [rowsB] using hR
  | d + 1, i, h => by
    have ih := specRows_l P s E F H A t hE hH hA hP R hR d (i + 1) (by omega)
    have w1 : wrap64 ((i : Int) + 1) = ((i + 1 : Nat) : Int) := by rw [wrap_in (by omega) (by omega)]; omega
    have e : rowsB P H E A (d + 1) i = (rowB P H E A i && rowsB P H E A d (i + 1)) := rfl
    rw [e]
    refine Tot.step (fun k => spec_GoodWindow.l0.eq_2 ..) (Tot.yes (by omega) (Tot.yes (by omega) (Tot.yes (by omega) (Tot.yes (by omega) ?_))))
    rw [w1]
    unfold rowB
    by_cases c : rdOf false A (i : Int) = true
    · rw [if_pos c]
      refine Tot.yes c (Tot.yes (by omega) ?_)
      by_cases c2 : (rdOf ByteArray.empty H (i : Int)).toList = (rdOf ByteArray.empty P (i : Int)).toList
      · rw [decide_eq_true c2, Bool.true_and]; exact Tot.yes c2 ih
      · rw [decide_eq_false c2, Bool.false_and, Bool.false_and]; exact Tot.no c2 (Tot.pure _)
    · rw [if_neg c]
      refine Tot.no c (Tot.yes (by omega) ?_)
      by_cases c2 : (rdOf ByteArray.empty H (i : Int)).toList = ([] : List UInt8)
      · rw [decide_eq_true c2, Bool.true_and]
        refine Tot.yes c2 (Tot.yes (by omega) ?_)
        by_cases c3 : rdOf false E (i : Int) = true
        · rw [c3]; exact Tot.yes rfl (Tot.pure _)
        · rw [Bool.eq_false_iff.2 c3]; exact Tot.no (by decide) (by simpa using ih)
      · rw [decide_eq_false c2, Bool.false_and, Bool.false_and, Bool.false_and]; exact Tot.no c2 (Tot.pure _)
theorem implRows_l (P : List ByteArray) (s : Int) (E : List Bool) (F : List S128) (H : List ByteArray) (A : List Bool) (t : Int) (hE : (E.length : Int) = P.length) (hH : (H.length : Int) = P.length) (hA : (A.length : Int) = P.length) (hP : (P.length : Int) ≤ 9223372036850000000) :
    ∀ (d i : Nat), i + d = P.length → Tot (fun k => impl_GoodWindow.l0 k A (A.length : Int) i P s E F H A t) (rowsB P H E A d i && (decide (t = toldN A) && F.all (frameB P A)))
  | 0, i, h => by
    refine Tot.step (fun k => impl_GoodWindow.l0.eq_2 ..) (Tot.no (by omega) ?_)
    have e : rowsB P H E A 0 i = true := rfl
    rw [e, Bool.true_and]
    refine Tot.bind (implTold_v A (by omega)) ?_
    simp only [implFrames_v P s E F H A t hA hP, Option.bind_some]
    by_cases c : t = toldN A
    · rw [decide_eq_true c, Bool.true_and]; exact Tot.yes c (Tot.pure _)
    · rw [decide_eq_false c, Bool.false_and]; exact Tot.no c (Tot.pure _)
  | d + 1, i, h => by
    have ih := implRows_l P s E F H A t hE hH hA hP d (i + 1) (by omega)
    have w1 : wrap64 ((i : Int) + 1) = ((i + 1 : Nat) : Int) := by rw [wrap_in (by omega) (by omega)]; omega
    have e : rowsB P H E A (d + 1) i = (rowB P H E A i && rowsB P H E A d (i + 1)) := rfl
    rw [e]
    refine Tot.step (fun k => impl_GoodWindow.l0.eq_2 ..) (Tot.yes (by omega) (Tot.yes (by omega) (Tot.yes (by omega) ?_)))
    rw [w1]
    unfold rowB
    by_cases c : rdOf false A (i : Int) = true
    · rw [if_pos c]
      refine Tot.yes c (Tot.yes (by omega) (Tot.yes (by omega) ?_))
      by_cases c2 : (rdOf ByteArray.empty H (i : Int)).toList = (rdOf ByteArray.empty P (i : Int)).toList
      · rw [decide_eq_true c2, Bool.true_and]; exact Tot.yes c2 ih
      · rw [decide_eq_false c2, Bool.false_and, Bool.false_and]; exact Tot.no c2 (Tot.pure _)
    · rw [if_neg c]
      refine Tot.no c (Tot.yes (by omega) ?_)
      by_cases c2 : (rdOf ByteArray.empty H (i : Int)).toList = ([] : List UInt8)
      · rw [decide_eq_true c2, Bool.true_and]
        refine Tot.yes c2 (Tot.yes (by omega) ?_)
        by_cases c3 : rdOf false E (i : Int) = true
        · rw [c3]; exact Tot.yes rfl (Tot.pure _)
        · rw [Bool.eq_false_iff.2 c3]; exact Tot.no (by decide) (by simpa using ih)
      · rw [decide_eq_false c2, Bool.false_and, Bool.false_and, Bool.false_and]; exact Tot.no c2 (Tot.pure _)
theorem specWin_v (P : List ByteArray) (s : Int) (E : List Bool) (L : List S128) (H : List ByteArray) (A : List Bool) (t : Int) (hP : (P.length : Int) ≤ 1048576) (hA : (A.length : Int) ≤ 1048576) (hL : (L.length : Int) ≤ 1048576) : Tot (fun k => spec_GoodWindow.f k P s E L H A t) (goodW P s E L H A t) := by
  have bad : Tot (fun k => spec_GoodWindow.j0 k (P.length : Int) true P s E L H A t) false := Tot.step (fun k => spec_GoodWindow.j0.eq_2 ..) (Tot.yes rfl (Tot.pure _))
  unfold spec_GoodWindow.f goodW
  refine Tot.bind (specPieces_v P (by omega)) ?_
  simp only [in_v, Option.bind_some]
  by_cases c1 : (P.all pieceB && decide ((P.length : Int) ≤ 12)) = true
  · rw [c1]
    refine Tot.yes rfl ?_
    by_cases c2 : 1 ≤ s ∧ s ≤ 12
    · rw [decide_eq_true c2]
      refine Tot.yes rfl ?_
      by_cases c3 : (E.length : Int) = P.length
      · rw [decide_eq_true c3]
        refine Tot.yes c3 ?_
        by_cases c4 : (H.length : Int) = P.length
        · rw [decide_eq_true c4]
          refine Tot.yes c4 ?_
          by_cases c5 : (A.length : Int) = P.length
          · rw [decide_eq_true c5]
            refine Tot.yes c5 (Tot.bind (specTold_v A (by omega)) ?_)
            by_cases c6 : t = toldN A
            · rw [decide_eq_true c6]
              refine Tot.yes c6 (Tot.step (fun k => spec_GoodWindow.j0.eq_2 ..) ?_)
              by_cases c7 : (L.length : Int) ≤ 30
              · rw [decide_eq_true c7]
                refine Tot.no (by simpa using c7) ?_
                have hF := specFrames_l P s E L H A t c5 L [] (by simp; omega)
                have := specRows_l P s E L H A t c3 c4 c5 (by omega) _ (by simpa using hF) P.length 0 (by omega)
                simpa using this
              · rw [decide_eq_false c7]
                exact Tot.yes (by simpa using c7) (by simpa using Tot.pure false)
            · rw [decide_eq_false c6]; exact Tot.no c6 (by simpa using bad)
          · rw [decide_eq_false c5]; exact Tot.no c5 (by simpa using bad)
        · rw [decide_eq_false c4]; exact Tot.no c4 (by simpa using bad)
      · rw [decide_eq_false c3]; exact Tot.no c3 (by simpa using bad)
    · rw [decide_eq_false c2]; exact Tot.no (by decide) (by simpa using bad)
  · rw [Bool.eq_false_iff.2 c1]; exact Tot.no (by decide) (by simpa using bad)
theorem implWin_v (P : List ByteArray) (s : Int) (E : List Bool) (L : List S128) (H : List ByteArray) (A : List Bool) (t : Int) (hP : (P.length : Int) ≤ 1048576) (hA : (A.length : Int) ≤ 1048576) (hL : (L.length : Int) ≤ 1048576) : Tot (fun k => impl_GoodWindow.f k P s E L H A t) (goodW P s E L H A t) := by
  have bad : Tot (fun k => impl_GoodWindow.j0 k true P s E L H A t) false := Tot.step (fun k => impl_GoodWindow.j0.eq_2 ..) (Tot.yes rfl (Tot.pure _))
  unfold impl_GoodWindow.f goodW
  simp only [implPieces_v, within_v, Option.bind_some]
  by_cases c1 : (P.all pieceB && decide ((P.length : Int) ≤ 12)) = true
  · rw [c1]
    refine Tot.yes rfl ?_
    by_cases c2 : 1 ≤ s ∧ s ≤ 12
    · rw [decide_eq_true c2]
      refine Tot.yes rfl ?_
      by_cases c3 : (E.length : Int) = P.length
      · rw [decide_eq_true c3]
        refine Tot.yes c3 ?_
        by_cases c4 : (H.length : Int) = P.length
        · rw [decide_eq_true c4]
          refine Tot.yes c4 ?_
          by_cases c5 : (A.length : Int) = P.length
          · rw [decide_eq_true c5]
            refine Tot.yes c5 (Tot.step (fun k => impl_GoodWindow.j0.eq_2 ..) ?_)
            by_cases c7 : (L.length : Int) ≤ 30
            · rw [decide_eq_true c7]
              refine Tot.no (by simpa using c7) ?_
              have := implRows_l P s E L H A t c3 c4 c5 (by omega) P.length 0 (by omega)
              have e : ((true && true && true && true && true && decide (t = toldN A) && true && rowsB P H E A P.length 0 && L.all (frameB P A)) : Bool) = (rowsB P H E A P.length 0 && (decide (t = toldN A) && L.all (frameB P A))) := by
                cases decide (t = toldN A) <;> cases rowsB P H E A P.length 0 <;> rfl
              rw [e]
              simpa using this
            · rw [decide_eq_false c7]
              exact Tot.yes (by simpa using c7) (by simpa using Tot.pure false)
          · rw [decide_eq_false c5]; exact Tot.no c5 (by simpa using bad)
        · rw [decide_eq_false c4]; exact Tot.no c4 (by simpa using bad)
      · rw [decide_eq_false c3]; exact Tot.no c3 (by simpa using bad)
    · rw [decide_eq_false c2]; exact Tot.no (by decide) (by simpa using bad)
  · rw [Bool.eq_false_iff.2 c1]; exact Tot.no (by decide) (by simpa using bad)
def smallW (P : List ByteArray) (E : List Bool) (L : List S128) (H : List ByteArray) (A : List Bool) : Prop := (P.length : Int) ≤ 1048576 ∧ (E.length : Int) ≤ 1048576 ∧ (L.length : Int) ≤ 1048576 ∧ (H.length : Int) ≤ 1048576 ∧ (A.length : Int) ≤ 1048576
theorem szWindow_v (P : List ByteArray) (s : Int) (E : List Bool) (L : List S150) (H : List ByteArray) (A : List Bool) (t : Int) (hP : (P.length : Int) ≤ 9223372036850000000) (hP2 : ∀ y ∈ P, y.size ≤ 140737488351232) (hE : (E.length : Int) ≤ 9223372036850000000) (hL : (L.length : Int) ≤ 9223372036850000000) (hL2 : ∀ x ∈ L, (x.f2.size : Int) ≤ 140737488351232) (hH : (H.length : Int) ≤ 9223372036850000000) (hH2 : ∀ y ∈ H, y.size ≤ 140737488351232) (hA : (A.length : Int) ≤ 9223372036850000000) :
    ∃ v, Tot (fun k => laws_szWindow.f k P s E L H A t 1048576) v ∧ (0 ≤ v → smallW P E (L.map cvFrame) H A) := by
  unfold laws_szWindow.f smallW
  obtain ⟨v1, h1, a1, b1⟩ := szStr_v P 1048576 (by omega) (by omega) hP hP2
  by_cases c1 : v1 < 0
  · exact ⟨-1, Tot.bind h1 (Tot.yes c1 (Tot.pure _)), fun h => by omega⟩
  · obtain ⟨v2, h2, a2, b2⟩ := szBool_v E v1 (by omega) a1 hE
    have h2' : Tot (fun _ => laws_szBoolS.f E v1) v2 := Tot.of_eq fun _ => h2
    by_cases c2 : v2 < 0
    · exact ⟨-1, Tot.bind h1 (Tot.no c1 (Tot.bind h2' (Tot.yes c2 (Tot.pure _)))), fun h => by omega⟩
    · obtain ⟨v3, h3, a3, b3⟩ := szFrameS_v L v2 (by omega) a2 hL hL2
      by_cases c3 : v3 < 0
      · exact ⟨-1, Tot.bind h1 (Tot.no c1 (Tot.bind h2' (Tot.no c2 (Tot.bind h3 (Tot.yes c3 (Tot.pure _)))))), fun h => by omega⟩
      · obtain ⟨v4, h4, a4, b4⟩ := szStr_v H v3 (by omega) a3 hH hH2
        by_cases c4 : v4 < 0
        · exact ⟨-1, Tot.bind h1 (Tot.no c1 (Tot.bind h2' (Tot.no c2 (Tot.bind h3 (Tot.no c3 (Tot.bind h4 (Tot.yes c4 (Tot.pure _)))))))), fun h => by omega⟩
        · obtain ⟨v5, h5, a5, b5⟩ := szBool_v A v4 (by omega) a4 hA
          have h5' : Tot (fun _ => laws_szBoolS.f A v4) v5 := Tot.of_eq fun _ => h5
          by_cases c5 : v5 < 0
          · exact ⟨-1, Tot.bind h1 (Tot.no c1 (Tot.bind h2' (Tot.no c2 (Tot.bind h3 (Tot.no c3 (Tot.bind h4 (Tot.no c4 (Tot.bind h5' (Tot.yes c5 (Tot.pure _)))))))))), fun h => by omega⟩
          · refine ⟨v5, Tot.bind h1 (Tot.no c1 (Tot.bind h2' (Tot.no c2 (Tot.bind h3 (Tot.no c3 (Tot.bind h4 (Tot.no c4 (Tot.bind h5' (Tot.no c5 (Tot.pure _)))))))))), fun h => ?_⟩
            rw [List.length_map]
            exact ⟨b1 (by omega), b2 (by omega), (b3 (by omega)).1, b4 (by omega), b5 (by omega)⟩
theorem toWindow_v (P : List ByteArray) (s : Int) (E : List Bool) (L : List S150) (H : List ByteArray) (A : List Bool) (t : Int) (h : smallW P E (L.map cvFrame) H A) : Tot (fun k => laws_toWindow.f k P s E L H A t) (P, s, E, L.map cvFrame, H, A, t) := by
  obtain ⟨h1, h2, h3, h4, h5⟩ := h
  rw [List.length_map] at h3
  unfold laws_toWindow.f
  exact Tot.bind (toStr_v P h1) (Tot.bind (toBool_v E h2) (Tot.bind (toFrameS_v L h3 (fun _ _ => trivial)) (Tot.bind (toStr_v H h4) (Tot.bind (toBool_v A h5) (Tot.pure _)))))
theorem eqWindow_v (P : List ByteArray) (s : Int) (E : List Bool) (L : List S128) (H : List ByteArray) (A : List Bool) (t : Int) (h : smallW P E L H A) : Tot (fun k => laws_eqWindow.f k P s E L H A t P s E L H A t) true := by
  obtain ⟨h1, h2, h3, h4, h5⟩ := h
  unfold laws_eqWindow.f
  exact Tot.bind (eqStr_v P (by omega)) (Tot.yes rfl (Tot.yes rfl (Tot.bind (eqBool_v E (by omega)) (Tot.yes rfl (Tot.bind (eqFrameS_v L (by omega) (fun _ _ => trivial)) (Tot.yes rfl (Tot.bind (eqStr_v H (by omega)) (Tot.yes rfl (Tot.bind (eqBool_v A (by omega)) (Tot.yes rfl (Tot.yes rfl (Tot.pure _))))))))))))

def firstR (P : List ByteArray) (s : Int) (E : List Bool) (L : List S128) (H : List ByteArray) (A : List Bool) (t : Int) : Int × Bool := if goodW P s E L H A t = true then (toldN E, true) else (0, false)
theorem specFirst_v (P : List ByteArray) (s : Int) (E : List Bool) (L : List S128) (H : List ByteArray) (A : List Bool) (t : Int) (h : smallW P E L H A) : Tot (fun k => spec_FirstOpen.f k P s E L H A t) (firstR P s E L H A t) := by
  unfold spec_FirstOpen.f
  refine Tot.bind (specWin_v P s E L H A t h.1 h.2.2.2.2 h.2.2.1) ?_
  by_cases c : goodW P s E L H A t = true
  · have e0 : firstR P s E L H A t = (toldN E, true) := if_pos c
    rw [e0]
    exact Tot.yes c (Tot.bind (specTold_v E (by have := h.2.1; omega)) (Tot.pure _))
  · have e0 : firstR P s E L H A t = (0, false) := if_neg c
    rw [e0]
    exact Tot.no c (Tot.pure _)
theorem implFirst_v (P : List ByteArray) (s : Int) (E : List Bool) (L : List S128) (H : List ByteArray) (A : List Bool) (t : Int) (h : smallW P E L H A) : Tot (fun k => impl_FirstOpen.f k P s E L H A t) (firstR P s E L H A t) := by
  unfold impl_FirstOpen.f
  refine Tot.bind (implWin_v P s E L H A t h.1 h.2.2.2.2 h.2.2.1) ?_
  by_cases c : goodW P s E L H A t = true
  · have e0 : firstR P s E L H A t = (toldN E, true) := if_pos c
    rw [e0]
    exact Tot.yes c (Tot.bind (implTold_v E (by have := h.2.1; omega)) (Tot.pure _))
  · have e0 : firstR P s E L H A t = (0, false) := if_neg c
    rw [e0]
    exact Tot.no c (Tot.pure _)
theorem FnExactFirstOpen : laws_FnExactFirstOpen.Pure := by
  intro P s E L H A t ⟨hP, hP2⟩ _ ⟨hE, _⟩ ⟨hL, hL2⟩ ⟨hH, hH2⟩ ⟨hA, _⟩ _
  obtain ⟨v, hv, hv2⟩ := szWindow_v P s E L H A t (by omega) hP2 (by omega) (by omega) (fun x hx => by have := (hL2 x hx).2.2; omega) (by omega) hH2 (by omega)
  refine Tot.at_ ?_
  unfold laws_FnExactFirstOpen.f
  refine Tot.bind hv ?_
  by_cases c : v < 0
  · exact Tot.yes c (Tot.pure _)
  · have hs := hv2 (by omega)
    have toW := toWindow_v P s E L H A t hs
    generalize L.map cvFrame = M at *
    refine Tot.no c (Tot.bind toW (Tot.bind (specFirst_v P s E M H A t hs) (Tot.bind toW (Tot.bind (implFirst_v P s E M H A t hs) (Tot.yes rfl ?_)))))
    exact Tot.step (fun k => laws_FnExactFirstOpen.j0.eq_2 ..) (Tot.no (by simp) (Tot.bind toW (Tot.bind (eqWindow_v P s E M H A t hs) (Tot.yes rfl (Tot.pure _)))))

end Go.Proofs.Ytafkbhkikdndnaa.Pure

/- The plain law behind FnExactMarkOf: what the two sides compute is the same, for every input. No condition. -/
import Derived.Test.YtafkbhkikdndnaaPFnExactMarkOfx6
set_option linter.unusedVariables false
set_option linter.unusedSimpArgs false
namespace Go.Proofs.Ytafkbhkikdndnaa.Pure
open Go.RowKit Go.Proofs.Ytafkbhkikdndnaa.PFnExactMarkOf Go.Proofs.YtafkbhkikdndnaaW.PrintWords Go.Proofs.YtafkbhkikdndnaaW.PrintLast Go.Proofs.YtafkbhkikdndnaaW.PrintMore

theorem wrap_in {x : Int} (h0 : -9223372036854775808 ≤ x) (h1 : x ≤ 9223372036854775807) : wrap64 x = x := by unfold wrap64; omega
theorem wf_in {x : Int} (h : (Lit.int .i64 x).wf = true) : -9223372036854775808 ≤ x ∧ x ≤ 9223372036854775807 := by
  simp only [Lit.wf, IntKind.min, IntKind.max, IntKind.bits, IntKind.signed, Bool.and_eq_true, decide_eq_true_eq] at h
  exact ⟨by have := h.1; simpa using this, by have := h.2; simpa using this⟩
theorem toList_nil (s : ByteArray) : (s.toList == ([] : List UInt8)) = decide (s.size = 0) := by
  rw [Bool.eq_iff_iff]
  simp only [beq_iff_eq, decide_eq_true_eq, ByteArray.toList_eq]
  constructor
  · intro h
    have h2 : s.data.toList.length = 0 := by rw [h]; rfl
    rw [Array.length_toList] at h2
    exact h2
  · intro h
    have h2 : s.data.toList.length = 0 := by rw [Array.length_toList]; exact h
    exact List.eq_nil_of_length_eq_zero h2

/-- From some number of rounds on the answer is r. -/
def Tot {α : Type} (g : Nat → Option α) (r : α) : Prop := ∃ K, ∀ k, K ≤ k → g k = some r
theorem Tot.at_ {α : Type} {g : Nat → Option α} {r : α} (h : Tot g r) : ∃ k, g k = some r := by
  obtain ⟨K, hK⟩ := h
  exact ⟨K, hK K (Nat.le_refl _)⟩
theorem Tot.pure {α : Type} (r : α) : Tot (fun _ => some r) r := ⟨0, fun _ _ => rfl⟩
theorem Tot.of_eq {α : Type} {g : Nat → Option α} {r : α} (h : ∀ k, g k = some r) : Tot g r := ⟨0, fun k _ => h k⟩
theorem Tot.congr {α : Type} {g g' : Nat → Option α} {r : α} (he : ∀ k, g k = g' k) (h : Tot g' r) : Tot g r := by
  obtain ⟨K, hK⟩ := h
  exact ⟨K, fun k hk => (he k).trans (hK k hk)⟩
theorem Tot.bind {α β : Type} {g : Nat → Option α} {h : Nat → α → Option β} {a : α} {r : β} (hg : Tot g a) (hh : Tot (fun k => h k a) r) : Tot (fun k => (g k).bind (h k)) r := by
  obtain ⟨K, hK⟩ := hg
  obtain ⟨L, hL⟩ := hh
  refine ⟨max K L, fun k hk => ?_⟩
  show (g k).bind (h k) = some r
  rw [hK k (by omega)]
  exact hL k (by omega)
theorem Tot.step {α : Type} {F G : Nat → Option α} {r : α} (hF : ∀ k, F (k + 1) = G k) (h : Tot G r) : Tot F r := by
  obtain ⟨K, hK⟩ := h
  refine ⟨K + 1, fun k hk => ?_⟩
  obtain ⟨m, rfl⟩ : ∃ m, k = m + 1 := ⟨k - 1, by omega⟩
  rw [hF]
  exact hK m (by omega)
theorem Tot.yes {α : Type} {p : Prop} [Decidable p] {g h : Nat → Option α} {r : α} (hp : p) (hg : Tot g r) : Tot (fun k => if p then g k else h k) r := by
  simpa only [if_pos hp] using hg
theorem Tot.no {α : Type} {p : Prop} [Decidable p] {g h : Nat → Option α} {r : α} (hp : ¬ p) (hg : Tot h r) : Tot (fun k => if p then g k else h k) r := by
  simpa only [if_neg hp] using hg
theorem Tot.some_bind {α β : Type} {h : Nat → α → Option β} {a : α} {r : β} (hh : Tot (fun k => h k a) r) : Tot (fun k => (some a).bind (h k)) r := hh

theorem in_v (a b c : Int) : spec_l1In.f a b c = some (decide (b ≤ a ∧ a ≤ c)) := by
  unfold spec_l1In.f
  by_cases h : a ≥ b
  · rw [if_pos h]; congr 1; rw [decide_eq_decide]; omega
  · rw [if_neg h]; congr 1; symm; rw [decide_eq_false_iff_not]; omega

theorem within_v (a b c : Int) : impl_within.f a b c = some (decide (b ≤ a ∧ a ≤ c)) := by
  unfold impl_within.f
  by_cases h : b ≤ a
  · rw [if_pos h]; congr 1; rw [decide_eq_decide]; omega
  · rw [if_neg h]; congr 1; symm; rw [decide_eq_false_iff_not]; omega


def goodR (k a l : Int) (s : ByteArray) : Bool :=
  if k = 1 then decide (1 ≤ l ∧ l ≤ 4 ∧ 0 ≤ a ∧ a ≤ 16 - l ∧ (s.size : Int) = 2 * l) else if k = 2 then decide (1 ≤ l ∧ l ≤ 4 ∧ 0 ≤ a ∧ a ≤ 16 - l ∧ s.size = 0) else if k = 3 then decide (0 ≤ a ∧ a ≤ 200 ∧ l = 0 ∧ s.size = 0) else false
theorem where_v (k a l : Int) (s : ByteArray) : spec_l3Where.f k a l s = some (decide (1 ≤ l ∧ l ≤ 4 ∧ 0 ≤ a ∧ a ≤ 16 - l)) := by
  unfold spec_l3Where.f
  simp only [in_v, Option.bind_some]
  by_cases h : 1 ≤ l ∧ l ≤ 4
  · rw [if_pos (decide_eq_true h)]; congr 1; rw [wrap_in (by omega) (by omega), decide_eq_decide]; omega
  · rw [if_neg (by rw [decide_eq_false h]; decide)]; congr 1; symm; rw [decide_eq_false_iff_not]; omega
theorem specRecord_v (k a l : Int) (s : ByteArray) : spec_GoodRecord.f k a l s = some (goodR k a l s) := by
  unfold spec_GoodRecord.f goodR
  simp only [where_v, in_v, Option.bind_some, toList_nil]
  by_cases h1 : k = 1
  · rw [if_pos h1, if_pos h1]
    by_cases h : 1 ≤ l ∧ l ≤ 4 ∧ 0 ≤ a ∧ a ≤ 16 - l
    · rw [if_pos (decide_eq_true h), wrap_in (by omega) (by omega)]; congr 1; rw [Bool.eq_iff_iff, beq_iff_eq, decide_eq_true_eq]; omega
    · rw [if_neg (by rw [decide_eq_false h]; decide)]; congr 1; symm; rw [decide_eq_false_iff_not]; omega
  · rw [if_neg h1, if_neg h1]
    by_cases h2 : k = 2
    · rw [if_pos h2, if_pos h2]
      by_cases h : 1 ≤ l ∧ l ≤ 4 ∧ 0 ≤ a ∧ a ≤ 16 - l
      · rw [if_pos (decide_eq_true h)]; congr 1; rw [decide_eq_decide]; omega
      · rw [if_neg (by rw [decide_eq_false h]; decide)]; congr 1; symm; rw [decide_eq_false_iff_not]; omega
    · rw [if_neg h2, if_neg h2]
      by_cases h3 : k = 3
      · rw [if_pos h3, if_pos h3]
        by_cases h : 0 ≤ a ∧ a ≤ 200
        · rw [if_pos (decide_eq_true h)]
          by_cases h4 : l = 0
          · rw [if_pos h4]; congr 1; rw [decide_eq_decide]; omega
          · rw [if_neg h4]; congr 1; symm; rw [decide_eq_false_iff_not]; omega
        · rw [if_neg (by rw [decide_eq_false h]; decide)]; congr 1; symm; rw [decide_eq_false_iff_not]; omega
      · rw [if_neg h3, if_neg h3]
theorem isRun_v (a l : Int) (hl : -9223372036854775808 ≤ l ∧ l ≤ 9223372036854775807) : impl_isRun.f a l = some (decide (0 ≤ a ∧ 1 ≤ l ∧ a ≤ 16 - l)) := by
  unfold impl_isRun.f
  by_cases h : a ≥ 0
  · rw [if_pos h]
    by_cases h2 : l ≥ 1
    · rw [if_pos h2, wrap_in (by omega) (by omega)]; congr 1; rw [decide_eq_decide]; omega
    · rw [if_neg h2]; congr 1; symm; rw [decide_eq_false_iff_not]; omega
  · rw [if_neg h]; congr 1; symm; rw [decide_eq_false_iff_not]; omega
theorem implRecord_v (k a l : Int) (s : ByteArray) (hl : -9223372036854775808 ≤ l ∧ l ≤ 9223372036854775807) : impl_GoodRecord.f k a l s = some (goodR k a l s) := by
  unfold impl_GoodRecord.f goodR
  simp only [within_v, isRun_v a l hl, Option.bind_some, toList_nil]
  by_cases h1 : k = 1
  · rw [if_pos h1, if_pos h1]
    by_cases h : 1 ≤ l ∧ l ≤ 4
    · rw [if_pos (decide_eq_true h)]
      by_cases h' : 0 ≤ a ∧ 1 ≤ l ∧ a ≤ 16 - l
      · rw [if_pos (decide_eq_true h'), wrap_in (by omega) (by omega)]; congr 1; rw [Bool.eq_iff_iff, beq_iff_eq, decide_eq_true_eq]; omega
      · rw [if_neg (by rw [decide_eq_false h']; decide)]; congr 1; symm; rw [decide_eq_false_iff_not]; omega
    · rw [if_neg (by rw [decide_eq_false h]; decide)]; congr 1; symm; rw [decide_eq_false_iff_not]; omega
  · rw [if_neg h1, if_neg h1]
    by_cases h2 : k = 2
    · rw [if_pos h2, if_pos h2]
      by_cases h : 1 ≤ l ∧ l ≤ 4
      · rw [if_pos (decide_eq_true h)]
        by_cases h' : 0 ≤ a ∧ 1 ≤ l ∧ a ≤ 16 - l
        · rw [if_pos (decide_eq_true h')]; congr 1; rw [decide_eq_decide]; omega
        · rw [if_neg (by rw [decide_eq_false h']; decide)]; congr 1; symm; rw [decide_eq_false_iff_not]; omega
      · rw [if_neg (by rw [decide_eq_false h]; decide)]; congr 1; symm; rw [decide_eq_false_iff_not]; omega
    · rw [if_neg h2, if_neg h2]
      by_cases h3 : k = 3
      · rw [if_pos h3, if_pos h3]
        by_cases h : 0 ≤ a ∧ a ≤ 200
        · rw [if_pos (decide_eq_true h)]
          by_cases h4 : l = 0
          · rw [if_pos h4]; congr 1; rw [decide_eq_decide]; omega
          · rw [if_neg h4]; congr 1; symm; rw [decide_eq_false_iff_not]; omega
        · rw [if_neg (by rw [decide_eq_false h]; decide)]; congr 1; symm; rw [decide_eq_false_iff_not]; omega
      · rw [if_neg h3, if_neg h3]

theorem rdStr_at (a b : List ByteArray) (x : ByteArray) : (rdOf ByteArray.empty (a ++ x :: b) (a.length : Int)) = x := by simp [rdOf, List.getD]
theorem szStr_l : ∀ (b a : List ByteArray) (m : Int), 0 ≤ m → m ≤ 1048576 → ((a ++ b).length : Int) ≤ 1048576 → (∀ y ∈ b, y.size ≤ 140737488351232) → ∃ v, Tot (fun k => laws_szStringS.l0 k (a ++ b) m a.length) v ∧ v ≤ 1048576
  | [], a, m, h0, h1, hl, hs => ⟨m, by
    refine Tot.step (fun k => laws_szStringS.l0.eq_2 ..) ?_
    simp only [List.append_nil]
    exact Tot.no (by omega) (Tot.pure _), h1⟩
  | x :: b, a, m, h0, h1, hl, hs => by
    have hx := hs x (by simp)
    have hll : ((a ++ x :: b).length : Int) = a.length + b.length + 1 := by simp; omega
    by_cases hc : m - (x.size : Int) < 0
    · refine ⟨-1, Tot.step (fun k => laws_szStringS.l0.eq_2 ..) (Tot.yes (by omega) (Tot.yes (by omega) (Tot.yes ?_ (Tot.pure _)))), by omega⟩
      rw [rdStr_at, wrap_in (by omega) (by omega)]; exact hc
    · obtain ⟨v, hv, hv2⟩ := szStr_l b (a ++ [x]) (m - (x.size : Int)) (by omega) (by omega) (by simp at hll hl ⊢; omega) (fun y hy => hs y (by simp [hy]))
      refine ⟨v, Tot.step (fun k => laws_szStringS.l0.eq_2 ..) (Tot.yes (by omega) (Tot.yes (by omega) (Tot.no ?_ ?_))), hv2⟩
      · rw [rdStr_at, wrap_in (by omega) (by omega)]; exact hc
      · rw [rdStr_at, wrap_in (x := m - (x.size : Int)) (by omega) (by omega), wrap_in (x := (a.length : Int) + 1) (by omega) (by omega)]
        simpa using hv
theorem szStr_v (l : List ByteArray) (m : Int) (h0 : 0 ≤ m) (h1 : m ≤ 1048576) (hl : (l.length : Int) ≤ 9223372036850000000) (hs : ∀ y ∈ l, y.size ≤ 140737488351232) : ∃ v, Tot (fun k => laws_szStringS.f k l m) v ∧ v ≤ 1048576 ∧ (0 ≤ v → (l.length : Int) ≤ 1048576) := by
  unfold laws_szStringS.f
  rw [wrap_in (by omega) (by omega)]
  by_cases h : m - (l.length : Int) < 0
  · exact ⟨-1, Tot.yes h (Tot.pure _), by omega, fun h => by omega⟩
  · obtain ⟨v, hv, hv2⟩ := szStr_l l [] (m - (l.length : Int)) (by omega) (by omega) (by simp; omega) hs
    exact ⟨v, Tot.no h (by simpa using hv), hv2, fun _ => by omega⟩
theorem toStr_l : ∀ (b a : List ByteArray), ((a ++ b).length : Int) ≤ 9223372036854775806 → Tot (fun k => laws_toStringS.l0 k (a ++ b) (a ++ List.replicate b.length (⟨#[]⟩ : ByteArray)) a.length) (a ++ b)
  | [], a, h => by
    refine Tot.step (fun k => laws_toStringS.l0.eq_2 ..) ?_
    simp only [List.append_nil, List.length_nil, List.replicate_zero]
    exact Tot.no (by omega) (Tot.pure _)
  | x :: b, a, h => by
    refine Tot.step (fun k => laws_toStringS.l0.eq_2 ..) ?_
    have hl : ((a ++ x :: b).length : Int) = a.length + b.length + 1 := by simp; omega
    have hl2 : ((a ++ List.replicate (x :: b).length (⟨#[]⟩ : ByteArray)).length : Int) = a.length + b.length + 1 := by simp; omega
    refine Tot.yes (by omega) (Tot.yes (by omega) (Tot.yes (by omega) ?_))
    rw [rdStr_at, wrap_in (x := (a.length : Int) + 1) (by omega) (by omega)]
    have e : (a ++ List.replicate (x :: b).length (⟨#[]⟩ : ByteArray)).set ((a.length : Int)).toNat x = (a ++ [x]) ++ List.replicate b.length (⟨#[]⟩ : ByteArray) := by simp [List.replicate_succ]
    rw [e]
    have := toStr_l b (a ++ [x]) (by simp at hl h ⊢; omega)
    simpa using this
theorem toStr_v (l : List ByteArray) (h : (l.length : Int) ≤ 1048576) : Tot (fun k => laws_toStringS.f k l) l := by
  unfold laws_toStringS.f
  refine Tot.yes (by omega) (Tot.yes (by omega) ?_)
  have := toStr_l l [] (by simp; omega)
  simpa using this
theorem eqStr_l (a : List ByteArray) (ha : (a.length : Int) ≤ 9223372036854775806) : ∀ (d : Nat) (i : Int), 0 ≤ i → i + d = a.length → Tot (fun k => laws_eqStringS.l0 k a a i) true
  | 0, i, h0, h => by
    refine Tot.step (fun k => laws_eqStringS.l0.eq_2 ..) ?_
    exact Tot.no (by omega) (Tot.pure _)
  | d + 1, i, h0, h => by
    refine Tot.step (fun k => laws_eqStringS.l0.eq_2 ..) ?_
    refine Tot.yes (by omega) (Tot.yes h0 (Tot.yes (by omega) (Tot.yes rfl ?_)))
    rw [wrap_in (by omega) (by omega)]
    exact eqStr_l a ha d (i + 1) (by omega) (by omega)
theorem eqStr_v (a : List ByteArray) (ha : (a.length : Int) ≤ 9223372036854775806) : Tot (fun k => laws_eqStringS.f k a a) true := by
  unfold laws_eqStringS.f
  exact Tot.yes rfl (eqStr_l a ha a.length 0 (by omega) (by omega))
theorem rdLRecord_at (a b : List S141) (x : S141) : rd_T141 (a ++ x :: b) (a.length : Int) = x := by simp [rd_T141, List.getD]
theorem szRecord_v (x : S141) (m : Int) (h0 : 0 ≤ m) (h1 : m ≤ 1048576) (hx : (x.f3.size : Int) ≤ 140737488351232) : ∃ v, Tot (fun (_ : Nat) => laws_szRecord.f x.f0 x.f1 x.f2 x.f3 m) v ∧ v ≤ 1048576 ∧ (0 ≤ v → True) := by
  unfold laws_szRecord.f
  rw [wrap_in (by omega) (by omega)]
  by_cases h : m - (x.f3.size : Int) < 0
  · exact ⟨-1, Tot.yes h (Tot.pure _), by omega, fun h => by omega⟩
  · exact ⟨_, Tot.no h (Tot.pure _), by omega, fun _ => trivial⟩
theorem szRecordS_l : ∀ (b a : List S141) (m : Int), 0 ≤ m → m ≤ 1048576 → ((a ++ b).length : Int) ≤ 1048576 → (∀ x ∈ b, (x.f3.size : Int) ≤ 140737488351232) → ∃ v, Tot (fun k => laws_szRecordS.l0 k (a ++ b) m a.length) v ∧ v ≤ 1048576 ∧ (0 ≤ v → ∀ y ∈ b, True)
  | [], a, m, h0, h1, hl, hs => ⟨m, by
    refine Tot.step (fun k => laws_szRecordS.l0.eq_2 ..) ?_
    simp only [List.append_nil]
    exact Tot.no (by omega) (Tot.pure _), h1, fun _ y hy => by simp at hy⟩
  | x :: b, a, m, h0, h1, hl, hs => by
    have hll : ((a ++ x :: b).length : Int) = a.length + b.length + 1 := by simp; omega
    obtain ⟨u, hu, hu1, hu2⟩ := szRecord_v x m h0 h1 (hs x (by simp))
    by_cases hc : u < 0
    · refine ⟨-1, Tot.step (fun k => laws_szRecordS.l0.eq_2 ..) (Tot.yes (by omega) (Tot.yes (by omega) ?_)), by omega, fun h => by omega⟩
      rw [rdLRecord_at]
      exact Tot.bind hu (Tot.yes hc (Tot.pure _))
    · obtain ⟨v, hv, hv1, hv2⟩ := szRecordS_l b (a ++ [x]) u (by omega) hu1 (by simp at hll hl ⊢; omega) (fun y hy => hs y (by simp [hy]))
      refine ⟨v, Tot.step (fun k => laws_szRecordS.l0.eq_2 ..) (Tot.yes (by omega) (Tot.yes (by omega) ?_)), hv1, fun h y hy => ?_⟩
      · rw [rdLRecord_at, wrap_in (x := (a.length : Int) + 1) (by omega) (by omega)]
        exact Tot.bind hu (Tot.no hc (by simpa using hv))
      · rcases List.mem_cons.1 hy with rfl | hy
        · exact hu2 (by omega)
        · exact hv2 h y hy
theorem szRecordS_v (l : List S141) (m : Int) (h0 : 0 ≤ m) (h1 : m ≤ 1048576) (hl : (l.length : Int) ≤ 9223372036850000000) (hs : ∀ x ∈ l, (x.f3.size : Int) ≤ 140737488351232) : ∃ v, Tot (fun k => laws_szRecordS.f k l m) v ∧ v ≤ 1048576 ∧ (0 ≤ v → (l.length : Int) ≤ 1048576 ∧ ∀ y ∈ l, True) := by
  unfold laws_szRecordS.f
  rw [wrap_in (by omega) (by omega)]
  by_cases h : m - (l.length : Int) < 0
  · exact ⟨-1, Tot.yes h (Tot.pure _), by omega, fun h => by omega⟩
  · obtain ⟨v, hv, hv1, hv2⟩ := szRecordS_l l [] (m - (l.length : Int)) (by omega) (by omega) (by simp; omega) hs
    exact ⟨v, Tot.no h (by simpa using hv), hv1, fun h3 => ⟨by omega, hv2 h3⟩⟩
def cvRecord (x : S141) : S113 := ⟨x.f0, x.f1, x.f2, x.f3⟩
theorem toRecord_v (x : S141) (hs : True) : Tot (fun (_ : Nat) => laws_toRecord.f x.f0 x.f1 x.f2 x.f3) (x.f0, x.f1, x.f2, x.f3) := Tot.of_eq fun _ => by simp [laws_toRecord.f]
theorem toRecordS_l : ∀ (b a : List S141), ((a ++ b).length : Int) ≤ 9223372036854775806 → (∀ y ∈ b, True) → Tot (fun k => laws_toRecordS.l0 k (a ++ b) (a.map cvRecord ++ List.replicate b.length z113) a.length) ((a ++ b).map cvRecord)
  | [], a, h, hs => by
    refine Tot.step (fun k => laws_toRecordS.l0.eq_2 ..) ?_
    simp only [List.append_nil, List.length_nil, List.replicate_zero]
    exact Tot.no (by omega) (Tot.pure _)
  | x :: b, a, h, hs => by
    refine Tot.step (fun k => laws_toRecordS.l0.eq_2 ..) ?_
    have hl : ((a ++ x :: b).length : Int) = a.length + b.length + 1 := by simp; omega
    have hl2 : ((a.map cvRecord ++ List.replicate (x :: b).length z113).length : Int) = a.length + b.length + 1 := by simp; omega
    refine Tot.yes (by omega) (Tot.yes (by omega) ?_)
    rw [rdLRecord_at, wrap_in (x := (a.length : Int) + 1) (by omega) (by omega)]
    refine Tot.bind (toRecord_v x (hs x (by simp))) (Tot.yes (by omega) ?_)
    have e : (a.map cvRecord ++ List.replicate (x :: b).length z113).set ((a.length : Int)).toNat (cvRecord x) = (a ++ [x]).map cvRecord ++ List.replicate b.length z113 := by
      rw [List.length_cons, List.replicate_succ, List.set_append_right _ _ (by simp)]
      simp
    have e2 : (⟨x.f0, x.f1, x.f2, x.f3⟩ : S113) = cvRecord x := rfl
    dsimp only
    rw [e2, e]
    have := toRecordS_l b (a ++ [x]) (by simp at hl h ⊢; omega) (fun y hy => hs y (by simp [hy]))
    simpa using this
theorem toRecordS_v (l : List S141) (h : (l.length : Int) ≤ 1048576) (hs : ∀ y ∈ l, True) : Tot (fun k => laws_toRecordS.f k l) (l.map cvRecord) := by
  unfold laws_toRecordS.f
  refine Tot.yes (by omega) (Tot.yes (by omega) ?_)
  have := toRecordS_l l [] (by simp; omega) hs
  simpa using this
theorem rdIRecord_at (a b : List S113) (x : S113) : rd_T113 (a ++ x :: b) (a.length : Int) = x := by simp [rd_T113, List.getD]
theorem eqRecord_v (x : S113) (hs : True) : Tot (fun (_ : Nat) => laws_eqRecord.f x.f0 x.f1 x.f2 x.f3 x.f0 x.f1 x.f2 x.f3) true := Tot.of_eq fun _ => by simp [laws_eqRecord.f]
theorem eqRecordS_l : ∀ (b a : List S113), ((a ++ b).length : Int) ≤ 9223372036854775806 → (∀ y ∈ b, True) → Tot (fun k => laws_eqRecordS.l0 k (a ++ b) (a ++ b) a.length) true
  | [], a, h, hs => by
    refine Tot.step (fun k => laws_eqRecordS.l0.eq_2 ..) ?_
    simp only [List.append_nil]
    exact Tot.no (by omega) (Tot.pure _)
  | x :: b, a, h, hs => by
    refine Tot.step (fun k => laws_eqRecordS.l0.eq_2 ..) ?_
    have hl : ((a ++ x :: b).length : Int) = a.length + b.length + 1 := by simp; omega
    refine Tot.yes (by omega) (Tot.yes (by omega) (Tot.yes (by omega) ?_))
    rw [rdIRecord_at, wrap_in (x := (a.length : Int) + 1) (by omega) (by omega)]
    refine Tot.bind (eqRecord_v x (hs x (by simp))) (Tot.yes rfl ?_)
    have := eqRecordS_l b (a ++ [x]) (by simp at hl h ⊢; omega) (fun y hy => hs y (by simp [hy]))
    simpa using this
theorem eqRecordS_v (l : List S113) (h : (l.length : Int) ≤ 9223372036854775806) (hs : ∀ y ∈ l, True) : Tot (fun k => laws_eqRecordS.f k l l) true := by
  unfold laws_eqRecordS.f
  refine Tot.yes rfl ?_
  have := eqRecordS_l l [] (by simpa using h) hs
  simpa using this
def dataB (s : ByteArray) : Bool := decide ((s.size : Int) = 2)
def recB (x : S113) : Bool := goodR x.f0 x.f1 x.f2 x.f3
/-- Marks count up by one. -/
def marksUp : Int → List S113 → Bool
  | _, [] => true
  | m, x :: r => if x.f0 = 3 then (if x.f1 = m + 1 then marksUp (m + 1) r else false) else marksUp m r
def volB (b : List ByteArray) (m : Int) (l : List S113) (s : Int) : Bool :=
  (decide ((b.length : Int) = 16) && b.all dataB) && (decide ((l.length : Int) ≤ 40) && (l.all recB && (decide (0 ≤ s ∧ s ≤ (l.length : Int)) && (decide (0 ≤ m ∧ m ≤ 200) && marksUp m l))))
theorem specBl_l : ∀ (b a : List ByteArray), ((a ++ b).length : Int) ≤ 9223372036850000000 → Tot (fun k => spec_l6Blocks.l0 k (a ++ b) (a ++ b) ((a ++ b).length : Int) a.length) (b.all dataB && decide (((a ++ b).length : Int) = 16))
  | [], a, h => by
    refine Tot.step (fun k => spec_l6Blocks.l0.eq_2 ..) (Tot.no (by simp) ?_)
    rw [List.all_nil, Bool.true_and]
    exact Tot.pure _
  | x :: b, a, h => by
    have hl : ((a ++ x :: b).length : Int) = a.length + b.length + 1 := by simp; omega
    refine Tot.step (fun k => spec_l6Blocks.l0.eq_2 ..) (Tot.yes (by omega) (Tot.yes (by omega) (Tot.yes (by omega) ?_)))
    rw [rdStr_at, wrap_in (x := (a.length : Int) + 1) (by omega) (by omega), List.all_cons]
    by_cases hx : (x.size : Int) = 2
    · have e : dataB x = true := decide_eq_true hx
      rw [e, Bool.true_and]
      refine Tot.yes hx ?_
      have := specBl_l b (a ++ [x]) (by simpa using h)
      simpa using this
    · have e : dataB x = false := decide_eq_false hx
      rw [e, Bool.false_and]
      exact Tot.no hx (Tot.pure _)
theorem specBl_v (l : List ByteArray) (h : (l.length : Int) ≤ 9223372036850000000) : Tot (fun k => spec_l6Blocks.f k l) (decide ((l.length : Int) = 16) && l.all dataB) := by
  have := specBl_l l [] (by simpa using h)
  unfold spec_l6Blocks.f
  rw [Bool.and_comm]
  simpa using this
theorem specRecs_l : ∀ (b a : List S113), ((a ++ b).length : Int) ≤ 9223372036850000000 → Tot (fun k => spec_l3Good.l0 k (a ++ b) ((a ++ b).length : Int) a.length) (b.all recB)
  | [], a, h => by
    refine Tot.step (fun k => spec_l3Good.l0.eq_2 ..) (Tot.no (by simp) ?_)
    exact Tot.pure _
  | x :: b, a, h => by
    have hl : ((a ++ x :: b).length : Int) = a.length + b.length + 1 := by simp; omega
    refine Tot.step (fun k => spec_l3Good.l0.eq_2 ..) (Tot.yes (by omega) (Tot.yes (by omega) (Tot.yes (by omega) ?_)))
    rw [rdIRecord_at, wrap_in (x := (a.length : Int) + 1) (by omega) (by omega), List.all_cons]
    simp only [specRecord_v, Option.bind_some]
    by_cases hx : recB x = true
    · rw [hx, Bool.true_and]
      refine Tot.yes hx ?_
      have := specRecs_l b (a ++ [x]) (by simpa using h)
      simpa using this
    · rw [Bool.eq_false_iff.2 hx, Bool.false_and]
      exact Tot.no hx (Tot.pure _)
theorem specRecs_v (l : List S113) (h : (l.length : Int) ≤ 9223372036850000000) : Tot (fun k => spec_l3Good.f k l) (l.all recB) := by
  have := specRecs_l l [] (by simpa using h)
  unfold spec_l3Good.f
  simpa using this
theorem specUp_l : ∀ (b a : List S113) (m : Int), 0 ≤ m → m ≤ 200 → (b.all recB = true) → ((a ++ b).length : Int) ≤ 9223372036850000000 → Tot (fun k => spec_GoodVolume.l0 k m (a ++ b) ((a ++ b).length : Int) a.length) (marksUp m b)
  | [], a, m, h0, h1, hb, h => by
    refine Tot.step (fun k => spec_GoodVolume.l0.eq_2 ..) (Tot.no (by simp) ?_)
    exact Tot.pure _
  | x :: b, a, m, h0, h1, hb, h => by
    have hl : ((a ++ x :: b).length : Int) = a.length + b.length + 1 := by simp; omega
    rw [List.all_cons, Bool.and_eq_true] at hb
    refine Tot.step (fun k => spec_GoodVolume.l0.eq_2 ..) (Tot.yes (by omega) (Tot.yes (by omega) (Tot.yes (by omega) ?_)))
    rw [rdIRecord_at, wrap_in (x := (a.length : Int) + 1) (by omega) (by omega), wrap_in (x := m + 1) (by omega) (by omega)]
    unfold marksUp
    by_cases c1 : x.f0 = 3
    · rw [if_pos c1]
      refine Tot.yes c1 ?_
      by_cases c2 : x.f1 = m + 1
      · rw [if_pos c2]
        have hr := hb.1
        unfold recB goodR at hr
        rw [if_neg (by omega), if_neg (by omega), if_pos c1, decide_eq_true_eq] at hr
        refine Tot.yes c2 ?_
        have := specUp_l b (a ++ [x]) (m + 1) (by omega) (by omega) hb.2 (by simpa using h)
        simpa using this
      · rw [if_neg c2]; exact Tot.no c2 (Tot.pure _)
    · rw [if_neg c1]
      refine Tot.no c1 ?_
      have := specUp_l b (a ++ [x]) m h0 h1 hb.2 (by simpa using h)
      simpa using this
theorem implUp_l : ∀ (b a : List S113) (m : Int), 0 ≤ m → m ≤ 200 → (b.all recB = true) → ((a ++ b).length : Int) ≤ 9223372036850000000 → Tot (fun k => impl_GoodVolume.l0 k m (a ++ b) ((a ++ b).length : Int) a.length) (marksUp m b)
  | [], a, m, h0, h1, hb, h => by
    refine Tot.step (fun k => impl_GoodVolume.l0.eq_2 ..) (Tot.no (by simp) ?_)
    exact Tot.pure _
  | x :: b, a, m, h0, h1, hb, h => by
    have hl : ((a ++ x :: b).length : Int) = a.length + b.length + 1 := by simp; omega
    rw [List.all_cons, Bool.and_eq_true] at hb
    refine Tot.step (fun k => impl_GoodVolume.l0.eq_2 ..) (Tot.yes (by omega) (Tot.yes (by omega) (Tot.yes (by omega) ?_)))
    rw [rdIRecord_at, wrap_in (x := (a.length : Int) + 1) (by omega) (by omega), wrap_in (x := m + 1) (by omega) (by omega)]
    unfold marksUp
    by_cases c1 : x.f0 = 3
    · rw [if_pos c1]
      refine Tot.yes c1 ?_
      by_cases c2 : x.f1 = m + 1
      · rw [if_pos c2]
        have hr := hb.1
        unfold recB goodR at hr
        rw [if_neg (by omega), if_neg (by omega), if_pos c1, decide_eq_true_eq] at hr
        refine Tot.yes c2 ?_
        have := implUp_l b (a ++ [x]) (m + 1) (by omega) (by omega) hb.2 (by simpa using h)
        simpa using this
      · rw [if_neg c2]; exact Tot.no c2 (Tot.pure _)
    · rw [if_neg c1]
      refine Tot.no c1 ?_
      have := implUp_l b (a ++ [x]) m h0 h1 hb.2 (by simpa using h)
      simpa using this
theorem specVol_v (b : List ByteArray) (m : Int) (l : List S113) (s : Int) (hb : (b.length : Int) ≤ 1048576) (hl : (l.length : Int) ≤ 1048576) : Tot (fun k => spec_GoodVolume.f k b m l s) (volB b m l s) := by
  have fin : ∀ x : Bool, Tot (fun k => spec_GoodVolume.j0 k true b m l s) (false && x) := fun x => Tot.step (fun k => spec_GoodVolume.j0.eq_2 ..) (Tot.yes rfl (Tot.pure _))
  unfold spec_GoodVolume.f volB
  refine Tot.bind (specBl_v b (by omega)) ?_
  cases (decide ((b.length : Int) = 16) && b.all dataB) with
  | false => exact Tot.no (by decide) (fin _)
  | true =>
    rw [Bool.true_and]
    refine Tot.yes rfl ?_
    by_cases c1 : (l.length : Int) ≤ 40
    · rw [decide_eq_true c1, Bool.true_and]
      refine Tot.no (by omega) (Tot.bind (specRecs_v l (by omega)) ?_)
      cases hr : l.all recB with
      | false => exact Tot.no (by decide) (fin _)
      | true =>
        rw [Bool.true_and]
        refine Tot.yes rfl ?_
        simp only [in_v, Option.bind_some]
        by_cases c2 : 0 ≤ s ∧ s ≤ (l.length : Int)
        · rw [decide_eq_true c2, Bool.true_and]
          refine Tot.yes rfl ?_
          by_cases c3 : 0 ≤ m ∧ m ≤ 200
          · rw [decide_eq_true c3, Bool.true_and]
            refine Tot.step (fun k => spec_GoodVolume.j0.eq_2 ..) (Tot.no (by decide) ?_)
            have := specUp_l l [] m c3.1 c3.2 hr (by simp; omega)
            simpa using this
          · rw [decide_eq_false c3]; exact fin _
        · rw [decide_eq_false c2]; exact Tot.no (by decide) (fin _)
    · rw [decide_eq_false c1]; exact Tot.yes (by omega) (fin _)
theorem areData_v (l : List ByteArray) : impl_areAll_string_at_impl_isData.f l = some (l.all dataB) :=
  Go.Proofs.Ytafkbhkikdndnaa.Open.allO_v fun x _ => by
    unfold impl_isData.f dataB
    congr 1
theorem areRecs_v (l : List S113) (h : ∀ x ∈ l, -9223372036854775808 ≤ x.f2 ∧ x.f2 ≤ 9223372036854775807) : impl_areAll_Record_at_impl_GoodRecord.f l = some (l.all recB) :=
  Go.Proofs.Ytafkbhkikdndnaa.Open.allO_v fun x hx => implRecord_v _ _ _ _ (h x hx)
theorem implVol_v (b : List ByteArray) (m : Int) (l : List S113) (s : Int) (hl : (l.length : Int) ≤ 1048576) (hx : ∀ x ∈ l, -9223372036854775808 ≤ x.f2 ∧ x.f2 ≤ 9223372036854775807) : Tot (fun k => impl_GoodVolume.f k b m l s) (volB b m l s) := by
  have fin : ∀ x : Bool, Tot (fun k => impl_GoodVolume.j0 k true b m l s) (false && x) := fun x => Tot.step (fun k => impl_GoodVolume.j0.eq_2 ..) (Tot.yes rfl (Tot.pure _))
  have hbl : impl_areBlocks.f b = some (decide ((b.length : Int) = 16) && b.all dataB) := by
    unfold impl_areBlocks.f
    simp only [areData_v, Option.bind_some]
    by_cases c : (b.length : Int) = 16
    · rw [if_pos c, decide_eq_true c, Bool.true_and]
    · rw [if_neg c, decide_eq_false c, Bool.false_and]
  unfold impl_GoodVolume.f volB
  simp only [hbl, areRecs_v l hx, within_v, Option.bind_some]
  cases (decide ((b.length : Int) = 16) && b.all dataB) with
  | false => exact Tot.no (by decide) (fin _)
  | true =>
    rw [Bool.true_and]
    refine Tot.yes rfl ?_
    by_cases c1 : (l.length : Int) ≤ 40
    · rw [decide_eq_true c1, Bool.true_and]
      refine Tot.no (by omega) ?_
      cases hr : l.all recB with
      | false => exact Tot.no (by decide) (fin _)
      | true =>
        rw [Bool.true_and]
        refine Tot.yes rfl ?_
        by_cases c2 : 0 ≤ s ∧ s ≤ (l.length : Int)
        · rw [decide_eq_true c2, Bool.true_and]
          refine Tot.yes rfl ?_
          by_cases c3 : 0 ≤ m ∧ m ≤ 200
          · rw [decide_eq_true c3, Bool.true_and]
            refine Tot.step (fun k => impl_GoodVolume.j0.eq_2 ..) (Tot.no (by decide) ?_)
            have := implUp_l l [] m c3.1 c3.2 hr (by simp; omega)
            simpa using this
          · rw [decide_eq_false c3]; exact fin _
        · rw [decide_eq_false c2]; exact Tot.no (by decide) (fin _)
    · rw [decide_eq_false c1]; exact Tot.yes (by omega) (fin _)
theorem toVolume_v (b : List ByteArray) (m : Int) (l : List S141) (s : Int) (hb : (b.length : Int) ≤ 1048576) (hl : (l.length : Int) ≤ 1048576) : Tot (fun k => laws_toVolume.f k b m l s) (b, m, l.map cvRecord, s) := by
  unfold laws_toVolume.f
  exact Tot.bind (toStr_v b hb) (Tot.bind (toRecordS_v l hl (fun _ _ => trivial)) (Tot.pure _))
theorem eqVolume_v (b : List ByteArray) (m : Int) (l : List S113) (s : Int) (hb : (b.length : Int) ≤ 1048576) (hl : (l.length : Int) ≤ 1048576) : Tot (fun k => laws_eqVolume.f k b m l s b m l s) true := by
  unfold laws_eqVolume.f
  exact Tot.bind (eqStr_v b (by omega)) (Tot.yes rfl (Tot.yes rfl (Tot.bind (eqRecordS_v l (by omega) (fun _ _ => trivial)) (Tot.yes rfl (Tot.yes rfl (Tot.pure _))))))
theorem szVolume_v (b : List ByteArray) (m : Int) (l : List S141) (s : Int) (hb : (b.length : Int) ≤ 9223372036850000000) (hbs : ∀ y ∈ b, y.size ≤ 140737488351232) (hl : (l.length : Int) ≤ 9223372036850000000) (hs : ∀ x ∈ l, (x.f3.size : Int) ≤ 140737488351232) :
    ∃ v, Tot (fun k => laws_szVolume.f k b m l s 1048576) v ∧ (0 ≤ v → (b.length : Int) ≤ 1048576 ∧ (l.length : Int) ≤ 1048576) := by
  unfold laws_szVolume.f
  obtain ⟨v, hv, hv1, hv2⟩ := szStr_v b 1048576 (by omega) (by omega) hb hbs
  by_cases h : v < 0
  · exact ⟨-1, Tot.bind hv (Tot.yes h (Tot.pure _)), fun h => by omega⟩
  · obtain ⟨u, hu, hu1, hu2⟩ := szRecordS_v l v (by omega) hv1 hl hs
    by_cases h2 : u < 0
    · exact ⟨-1, Tot.bind hv (Tot.no h (Tot.bind hu (Tot.yes h2 (Tot.pure _)))), fun h => by omega⟩
    · exact ⟨u, Tot.bind hv (Tot.no h (Tot.bind hu (Tot.no h2 (Tot.pure _)))), fun h3 => ⟨hv2 (by omega), (hu2 h3).1⟩⟩

def lastMark : Int → List S113 → Int
  | m, [] => m
  | m, x :: r => if x.f0 = 3 then lastMark x.f1 r else lastMark m r
theorem specMark_l : ∀ (b a : List S113) (m : Int), ((a ++ b).length : Int) ≤ 9223372036850000000 → Tot (fun k => spec_l6Mark.l0 k m (a ++ b) ((a ++ b).length : Int) a.length) (lastMark m b)
  | [], a, m, h => by
    refine Tot.step (fun k => spec_l6Mark.l0.eq_2 ..) (Tot.no (by simp) ?_)
    exact Tot.pure _
  | x :: b, a, m, h => by
    have hl : ((a ++ x :: b).length : Int) = a.length + b.length + 1 := by simp; omega
    refine Tot.step (fun k => spec_l6Mark.l0.eq_2 ..) (Tot.yes (by omega) (Tot.yes (by omega) (Tot.yes (by omega) ?_)))
    rw [rdIRecord_at, wrap_in (x := (a.length : Int) + 1) (by omega) (by omega)]
    unfold lastMark
    by_cases c1 : x.f0 = 3
    · rw [if_pos c1]
      have := specMark_l b (a ++ [x]) x.f1 (by simpa using h)
      exact Tot.yes c1 (by simpa using this)
    · rw [if_neg c1]
      have := specMark_l b (a ++ [x]) m (by simpa using h)
      exact Tot.no c1 (by simpa using this)
theorem implMark_l : ∀ (b a : List S113) (m : Int), ((a ++ b).length : Int) ≤ 9223372036850000000 → Tot (fun k => impl_markOf.l0 k m (a ++ b) ((a ++ b).length : Int) a.length) (lastMark m b)
  | [], a, m, h => by
    refine Tot.step (fun k => impl_markOf.l0.eq_2 ..) (Tot.no (by simp) ?_)
    exact Tot.pure _
  | x :: b, a, m, h => by
    have hl : ((a ++ x :: b).length : Int) = a.length + b.length + 1 := by simp; omega
    refine Tot.step (fun k => impl_markOf.l0.eq_2 ..) (Tot.yes (by omega) (Tot.yes (by omega) (Tot.yes (by omega) ?_)))
    rw [rdIRecord_at, wrap_in (x := (a.length : Int) + 1) (by omega) (by omega)]
    unfold lastMark
    by_cases c1 : x.f0 = 3
    · rw [if_pos c1]
      have := implMark_l b (a ++ [x]) x.f1 (by simpa using h)
      exact Tot.yes c1 (by simpa using this)
    · rw [if_neg c1]
      have := implMark_l b (a ++ [x]) m (by simpa using h)
      exact Tot.no c1 (by simpa using this)
def markR (b : List ByteArray) (m : Int) (l : List S113) (s : Int) : Int × Bool := if volB b m l s = true then (lastMark m l, true) else (0, false)
theorem FnExactMarkOf : laws_FnExactMarkOf.Pure := by
  intro b m l s ⟨hb, hbs⟩ _ ⟨hl, hok⟩ _
  obtain ⟨v, hv, hv2⟩ := szVolume_v b m l s (by omega) hbs (by omega) (fun x hx => by have := (hok x hx).2.2.2; omega)
  refine Tot.at_ ?_
  unfold laws_FnExactMarkOf.f
  refine Tot.bind hv ?_
  by_cases h0 : v < 0
  · exact Tot.yes h0 (Tot.pure _)
  · obtain ⟨h1, h2⟩ := hv2 (by omega)
    have hx : ∀ x ∈ l.map cvRecord, -9223372036854775808 ≤ x.f2 ∧ x.f2 ≤ 9223372036854775807 := fun y hy => by
      obtain ⟨x, hx, rfl⟩ := List.mem_map.1 hy
      exact wf_in (hok x hx).2.2.1
    have toV := toVolume_v b m l s h1 h2
    have hs' : ((l.map cvRecord).length : Int) ≤ 1048576 := by simpa using h2
    generalize l.map cvRecord = L at *
    have specR : Tot (fun k => spec_MarkOf.f k b m L s) (markR b m L s) := by
      unfold spec_MarkOf.f markR
      refine Tot.bind (specVol_v b m L s h1 hs') ?_
      by_cases c : volB b m L s = true
      · rw [if_pos c]
        refine Tot.yes c ?_
        unfold spec_l6Mark.f
        have := specMark_l L [] m (by simp; omega)
        exact Tot.bind (by simpa using this) (Tot.pure _)
      · rw [if_neg c]; exact Tot.no c (Tot.pure _)
    have implR : Tot (fun k => impl_MarkOf.f k b m L s) (markR b m L s) := by
      unfold impl_MarkOf.f markR
      refine Tot.bind (implVol_v b m L s hs' hx) ?_
      by_cases c : volB b m L s = true
      · rw [if_pos c]
        refine Tot.yes c ?_
        unfold impl_Volume_mark.f impl_markOf.f
        have := implMark_l L [] m (by simp; omega)
        exact Tot.bind (Tot.bind (by simpa using this) (Tot.pure _)) (Tot.pure _)
      · rw [if_neg c]; exact Tot.no c (Tot.pure _)
    refine Tot.no h0 (Tot.bind toV (Tot.bind specR (Tot.bind toV (Tot.bind implR (Tot.yes rfl ?_)))))
    refine Tot.step (fun k => laws_FnExactMarkOf.j0.eq_2 ..) (Tot.no (by simp) ?_)
    exact Tot.bind toV (Tot.bind (eqVolume_v b m L s h1 hs') (Tot.yes rfl (Tot.pure _)))

end Go.Proofs.Ytafkbhkikdndnaa.Pure

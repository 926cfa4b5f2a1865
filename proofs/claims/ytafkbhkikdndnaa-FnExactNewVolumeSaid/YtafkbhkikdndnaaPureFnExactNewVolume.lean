/- The plain law behind FnExactNewVolume: what the two sides compute is the same, for every input. No condition. -/
import Derived.Test.YtafkbhkikdndnaaPFnExactNewVolumex4
set_option linter.unusedVariables false
set_option linter.unusedSimpArgs false
namespace Go.Proofs.Ytafkbhkikdndnaa.Pure
open Go.RowKit Go.Proofs.Ytafkbhkikdndnaa.PFnExactNewVolume Go.Proofs.YtafkbhkikdndnaaW.PrintWords Go.Proofs.YtafkbhkikdndnaaW.PrintLast Go.Proofs.YtafkbhkikdndnaaW.PrintMore

theorem wrap_in {x : Int} (h0 : -9223372036854775808 ≤ x) (h1 : x ≤ 9223372036854775807) : wrap64 x = x := by unfold wrap64; omega
theorem wf_in {x : Int} (h : (Lit.int .i64 x).wf = true) : -9223372036854775808 ≤ x ∧ x ≤ 9223372036854775807 := by
  simp only [Lit.wf, IntKind.min, IntKind.max, IntKind.bits, IntKind.signed, Bool.and_eq_true, decide_eq_true_eq] at h
  exact ⟨by have := h.1; simpa using this, by have := h.2; simpa using this⟩
theorem toList_nil (s : ByteArray) : (s.toList == ([] : List UInt8)) = decide (s.size = 0) := by
  rw [Bool.eq_iff_iff]
  simp only [beq_iff_eq, decide_eq_true_eq, ByteArray.toList_eq]
  constructor
  · intro h
    have h2 : s.data.toList.length = 0 := by rw [h]; rfl
    rw [Array.length_toList] at h2
    exact h2
  · intro h
    have h2 : s.data.toList.length = 0 := by rw [Array.length_toList]; exact h
    exact List.eq_nil_of_length_eq_zero h2

/-- From some number of rounds on the answer is r. -/
def Tot {α : Type} (g : Nat → Option α) (r : α) : Prop := ∃ K, ∀ k, K ≤ k → g k = some r
theorem Tot.at_ {α : Type} {g : Nat → Option α} {r : α} (h : Tot g r) : ∃ k, g k = some r := by
  obtain ⟨K, hK⟩ := h
  exact ⟨K, hK K (Nat.le_refl _)⟩
theorem Tot.pure {α : Type} (r : α) : Tot (fun _ => some r) r := ⟨0, fun _ _ => rfl⟩
theorem Tot.of_eq {α : Type} {g : Nat → Option α} {r : α} (h : ∀ k, g k = some r) : Tot g r := ⟨0, fun k _ => h k⟩
theorem Tot.congr {α : Type} {g g' : Nat → Option α} {r : α} (he : ∀ k, g k = g' k) (h : Tot g' r) : Tot g r := by
  obtain ⟨K, hK⟩ := h
  exact ⟨K, fun k hk => (he k).trans (hK k hk)⟩
theorem Tot.bind {α β : Type} {g : Nat → Option α} {h : Nat → α → Option β} {a : α} {r : β} (hg : Tot g a) (hh : Tot (fun k => h k a) r) : Tot (fun k => (g k).bind (h k)) r := by
  obtain ⟨K, hK⟩ := hg
  obtain ⟨L, hL⟩ := hh
  refine ⟨max K L, fun k hk => ?_⟩
  show (g k).bind (h k) = some r
  rw [hK k (by omega)]
  exact hL k (by omega)
theorem Tot.step {α : Type} {F G : Nat → Option α} {r : α} (hF : ∀ k, F (k + 1) = G k) (h : Tot G r) : Tot F r := by
  obtain ⟨K, hK⟩ := h
  refine ⟨K + 1, fun k hk => ?_⟩
  obtain ⟨m, rfl⟩ : ∃ m, k = m + 1 := ⟨k - 1, by omega⟩
  rw [hF]
  exact hK m (by omega)
theorem Tot.yes {α : Type} {p : Prop} [Decidable p] {g h : Nat → Option α} {r : α} (hp : p) (hg : Tot g r) : Tot (fun k => if p then g k else h k) r := by
  simpa only [if_pos hp] using hg
theorem Tot.no {α : Type} {p : Prop} [Decidable p] {g h : Nat → Option α} {r : α} (hp : ¬ p) (hg : Tot h r) : Tot (fun k => if p then g k else h k) r := by
  simpa only [if_neg hp] using hg
theorem Tot.some_bind {α β : Type} {h : Nat → α → Option β} {a : α} {r : β} (hh : Tot (fun k => h k a) r) : Tot (fun k => (some a).bind (h k)) r := hh

theorem strOf_one (a : Int) : (strOfNums [a]).size = 1 := by simp [strOfNums]; rfl
theorem size_app (a b : ByteArray) : (a ++ b).size = a.size + b.size := by simp
theorem markText_l : ∀ (n : Nat) (m : Int) (t : ByteArray), 0 ≤ m → m.toNat ≤ n → n + t.size ≤ 4611686018427387904 → ∃ r, Tot (fun k => laws_markText.l0 k m t) r
  | 0, m, t, h0, hn, hb => ⟨_, Tot.step (fun k => laws_markText.l0.eq_2 ..) (Tot.no (by omega) (Tot.yes (by omega) (Tot.pure _)))⟩
  | n + 1, m, t, h0, hn, hb => by
    by_cases hp : m > 0
    · have e1 : Int.tdiv m 10 = m / 10 := Int.tdiv_eq_ediv_of_nonneg h0
      have e2 : wrap64 (Int.tdiv m 10) = m / 10 := by rw [e1]; exact wrap_in (by omega) (by omega)
      obtain ⟨r, hr⟩ := markText_l n (m / 10) (strOfNums [(wrap64 (48 + (Int.tmod m 10))) % 256] ++ t) (by omega) (by omega) (by rw [size_app, strOf_one]; omega)
      refine ⟨r, Tot.step (fun k => laws_markText.l0.eq_2 ..) (Tot.yes hp (Tot.some_bind (Tot.yes (by rw [strOf_one]; omega) ?_)))⟩
      rw [e2]; exact hr
    · exact ⟨_, Tot.step (fun k => laws_markText.l0.eq_2 ..) (Tot.no hp (Tot.yes (by omega) (Tot.pure _)))⟩
theorem markText_e (m : Int) (h0 : 0 ≤ m) (h1 : m ≤ 1125899906842624) : ∃ r, Tot (fun k => laws_markText.f k m) r := by
  unfold laws_markText.f
  by_cases h : m ≤ 0
  · exact ⟨_, Tot.yes h (Tot.pure _)⟩
  · have h00 : (⟨#[]⟩ : ByteArray).size = 0 := rfl
    obtain ⟨r, hr⟩ := markText_l m.toNat m ⟨#[]⟩ h0 (Nat.le_refl _) (by rw [h00]; omega)
    exact ⟨r, Tot.no h hr⟩
open Classical in
/-- The text of a mark. -/
noncomputable def mtxt (m : Int) : ByteArray := if h : ∃ r, Tot (fun k => laws_markText.f k m) r then Classical.choose h else ⟨#[]⟩
theorem markText_v (m : Int) (h0 : 0 ≤ m) (h1 : m ≤ 1125899906842624) : Tot (fun k => laws_markText.f k m) (mtxt m) := by
  unfold mtxt
  rw [dif_pos (markText_e m h0 h1)]
  exact Classical.choose_spec (markText_e m h0 h1)

theorem set_app {α : Type} (a b : List α) (x y : α) : (a ++ x :: b).set ((a.length : Int)).toNat y = a ++ y :: b := by simp

theorem eqStr_l (a : List ByteArray) (ha : (a.length : Int) ≤ 9223372036854775806) : ∀ (d : Nat) (i : Int), 0 ≤ i → i + d = a.length → Tot (fun k => laws_eqStringS.l0 k a a i) true
  | 0, i, h0, h => by
    refine Tot.step (fun k => laws_eqStringS.l0.eq_2 ..) ?_
    exact Tot.no (by omega) (Tot.pure _)
  | d + 1, i, h0, h => by
    refine Tot.step (fun k => laws_eqStringS.l0.eq_2 ..) ?_
    refine Tot.yes (by omega) (Tot.yes h0 (Tot.yes (by omega) (Tot.yes rfl ?_)))
    rw [wrap_in (by omega) (by omega)]
    exact eqStr_l a ha d (i + 1) (by omega) (by omega)
theorem eqStr_v (a : List ByteArray) (ha : (a.length : Int) ≤ 9223372036854775806) : Tot (fun k => laws_eqStringS.f k a a) true := by
  unfold laws_eqStringS.f
  exact Tot.yes rfl (eqStr_l a ha a.length 0 (by omega) (by omega))
theorem rdIRecord_at (a b : List S113) (x : S113) : rd_T113 (a ++ x :: b) (a.length : Int) = x := by simp [rd_T113, List.getD]
theorem eqRecord_v (x : S113) (hs : True) : Tot (fun (_ : Nat) => laws_eqRecord.f x.f0 x.f1 x.f2 x.f3 x.f0 x.f1 x.f2 x.f3) true := Tot.of_eq fun _ => by simp [laws_eqRecord.f]
theorem eqRecordS_l : ∀ (b a : List S113), ((a ++ b).length : Int) ≤ 9223372036854775806 → (∀ y ∈ b, True) → Tot (fun k => laws_eqRecordS.l0 k (a ++ b) (a ++ b) a.length) true
  | [], a, h, hs => by
    refine Tot.step (fun k => laws_eqRecordS.l0.eq_2 ..) ?_
    simp only [List.append_nil]
    exact Tot.no (by omega) (Tot.pure _)
  | x :: b, a, h, hs => by
    refine Tot.step (fun k => laws_eqRecordS.l0.eq_2 ..) ?_
    have hl : ((a ++ x :: b).length : Int) = a.length + b.length + 1 := by simp; omega
    refine Tot.yes (by omega) (Tot.yes (by omega) (Tot.yes (by omega) ?_))
    rw [rdIRecord_at, wrap_in (x := (a.length : Int) + 1) (by omega) (by omega)]
    refine Tot.bind (eqRecord_v x (hs x (by simp))) (Tot.yes rfl ?_)
    have := eqRecordS_l b (a ++ [x]) (by simp at hl h ⊢; omega) (fun y hy => hs y (by simp [hy]))
    simpa using this
theorem eqRecordS_v (l : List S113) (h : (l.length : Int) ≤ 9223372036854775806) (hs : ∀ y ∈ l, True) : Tot (fun k => laws_eqRecordS.f k l l) true := by
  unfold laws_eqRecordS.f
  refine Tot.yes rfl ?_
  have := eqRecordS_l l [] (by simpa using h) hs
  simpa using this
noncomputable def mkStr : List ByteArray → Int → List ByteArray
  | [], _ => []
  | _ :: l, m => mtxt m :: mkStr l (m + 1)
theorem mkStr_length : ∀ (l : List ByteArray) (m : Int), (mkStr l m).length = l.length
  | [], _ => rfl
  | _ :: l, m => by simp [mkStr, mkStr_length l]
theorem markStr_l : ∀ (b a : List ByteArray) (m : Int), 0 ≤ m → m + b.length ≤ 1125899906842624 → ((a ++ b).length : Int) ≤ 9223372036854775806 → Tot (fun k => laws_markStringS.l0 k (a ++ b) m a.length) (m + b.length, a ++ mkStr b m)
  | [], a, m, h0, h1, h => by
    refine Tot.step (fun k => laws_markStringS.l0.eq_2 ..) ?_
    simp only [List.append_nil, mkStr, List.length_nil, Int.natCast_zero, Int.add_zero]
    exact Tot.no (by omega) (Tot.pure _)
  | x :: b, a, m, h0, h1, h => by
    have hl : ((a ++ x :: b).length : Int) = a.length + b.length + 1 := by simp; omega
    simp only [List.length_cons] at h1
    refine Tot.step (fun k => laws_markStringS.l0.eq_2 ..) (Tot.yes (by omega) ?_)
    rw [wrap_in (x := (a.length : Int) + 1) (by omega) (by omega), wrap_in (x := m + 1) (by omega) (by omega)]
    repeat (first | refine Tot.yes (by omega) ?_ | refine Tot.bind (markText_v m h0 (by omega)) ?_)
    rw [set_app]
    have := markStr_l b (a ++ [mtxt m]) (m + 1) (by omega) (by omega) (by simp at hl h ⊢; omega)
    have e : m + ((x :: b).length : Int) = m + 1 + b.length := by simp; omega
    rw [e]
    simpa [mkStr] using this
theorem markStr_v (l : List ByteArray) (m : Int) (h0 : 0 ≤ m) (h1 : m + l.length ≤ 1125899906842624) : Tot (fun k => laws_markStringS.f k l m) (m + l.length, mkStr l m) := by
  have := markStr_l l [] m h0 h1 (by simp; omega)
  unfold laws_markStringS.f
  simpa using this
noncomputable def mkRecord : List S113 → Int → List S113
  | [], _ => []
  | _ :: l, m => ⟨m, (m + 1), (m + 2), mtxt (m + 3)⟩ :: mkRecord l (m + 4)
theorem mkRecord_length : ∀ (l : List S113) (m : Int), (mkRecord l m).length = l.length
  | [], _ => rfl
  | _ :: l, m => by simp [mkRecord, mkRecord_length l]
theorem markRecordS_l : ∀ (b a : List S113) (m : Int), 0 ≤ m → m + 4 * b.length ≤ 1125899906842624 → ((a ++ b).length : Int) ≤ 9223372036854775806 → Tot (fun k => laws_markRecordS.l0 k (a ++ b) m a.length) (m + 4 * b.length, a ++ mkRecord b m)
  | [], a, m, h0, h1, h => by
    refine Tot.step (fun k => laws_markRecordS.l0.eq_2 ..) ?_
    simp only [List.append_nil, mkRecord, List.length_nil, Int.natCast_zero, Int.mul_zero, Int.add_zero]
    exact Tot.no (by omega) (Tot.pure _)
  | x :: b, a, m, h0, h1, h => by
    have hl : ((a ++ x :: b).length : Int) = a.length + b.length + 1 := by simp; omega
    simp only [List.length_cons] at h1
    have hw1 : wrap64 (m + 1 + 1) = m + 2 := (wrap_in (by omega) (by omega)).trans (by omega); have hw2 : wrap64 (m + 2 + 1) = m + 3 := (wrap_in (by omega) (by omega)).trans (by omega); have hw3 : wrap64 (m + 3 + 1) = m + 4 := (wrap_in (by omega) (by omega)).trans (by omega)
    refine Tot.step (fun k => laws_markRecordS.l0.eq_2 ..) (Tot.yes (by omega) ?_)
    rw [wrap_in (x := (a.length : Int) + 1) (by omega) (by omega)]
    simp only [wrap_in (x := m + 1) (by omega) (by omega), hw1, hw2, hw3, rdIRecord_at, set_app]
    refine Tot.yes (by omega) ?_
    refine Tot.some_bind ?_
    try simp only [rdIRecord_at, set_app]
    refine Tot.some_bind ?_
    try simp only [rdIRecord_at, set_app]
    refine Tot.some_bind ?_
    try simp only [rdIRecord_at, set_app]
    refine Tot.bind (markText_v (m + 3) (by omega) (by omega)) ?_
    try simp only [rdIRecord_at, set_app]
    have := markRecordS_l b (a ++ [⟨m, (m + 1), (m + 2), mtxt (m + 3)⟩]) (m + 4) (by omega) (by omega) (by simp at hl h ⊢; omega)
    have e : m + 4 * ((x :: b).length : Int) = m + 4 + 4 * b.length := by simp; omega
    rw [e]
    simpa [mkRecord] using this
theorem markRecordS_v (l : List S113) (m : Int) (h0 : 0 ≤ m) (h1 : m + 4 * l.length ≤ 1125899906842624) : Tot (fun k => laws_markRecordS.f k l m) (m + 4 * l.length, mkRecord l m) := by
  have := markRecordS_l l [] m h0 h1 (by simp; omega)
  unfold laws_markRecordS.f
  simpa using this
theorem rdStr_at (a b : List ByteArray) (x : ByteArray) : (rdOf ByteArray.empty (a ++ x :: b) (a.length : Int)) = x := by simp [rdOf, List.getD]
theorem heldStr_l : ∀ (b a : List ByteArray) (m : Int), 0 ≤ m → m + b.length ≤ 1125899906842624 → ((a ++ b).length : Int) ≤ 9223372036854775806 → Tot (fun k => laws_heldStringS.l0 k (a ++ mkStr b m) m a.length) (m + b.length)
  | [], a, m, h0, h1, h => by
    refine Tot.step (fun k => laws_heldStringS.l0.eq_2 ..) ?_
    simp only [List.append_nil, mkStr, List.length_nil, Int.natCast_zero, Int.add_zero]
    exact Tot.no (by omega) (Tot.pure _)
  | x :: b, a, m, h0, h1, h => by
    have hl : ((a ++ x :: b).length : Int) = a.length + b.length + 1 := by simp; omega
    have hl2 : ((a ++ mkStr (x :: b) m).length : Int) = a.length + b.length + 1 := by simp [mkStr, mkStr_length]; omega
    simp only [List.length_cons] at h1
    refine Tot.step (fun k => laws_heldStringS.l0.eq_2 ..) (Tot.yes (by omega) (Tot.yes (by omega) ?_))
    simp only [mkStr, rdStr_at]
    rw [wrap_in (x := (a.length : Int) + 1) (by omega) (by omega), wrap_in (x := m + 1) (by omega) (by omega)]
    repeat (first | refine Tot.yes rfl ?_ | refine Tot.bind (markText_v m h0 (by omega)) ?_)
    have := heldStr_l b (a ++ [mtxt m]) (m + 1) (by omega) (by omega) (by simp at hl h ⊢; omega)
    have e : m + ((x :: b).length : Int) = m + 1 + b.length := by simp; omega
    rw [e]
    simpa [mkStr] using this
theorem heldStr_v (l : List ByteArray) (m : Int) (h0 : 0 ≤ m) (h1 : m + l.length ≤ 1125899906842624) : Tot (fun k => laws_heldStringS.f k (mkStr l m) m) (m + l.length) := by
  have := heldStr_l l [] m h0 h1 (by simp; omega)
  unfold laws_heldStringS.f
  simpa using this
theorem heldRecordS_l : ∀ (b a : List S113) (m : Int), 0 ≤ m → m + 4 * b.length ≤ 1125899906842624 → ((a ++ b).length : Int) ≤ 9223372036854775806 → Tot (fun k => laws_heldRecordS.l0 k (a ++ mkRecord b m) m a.length) (m + 4 * b.length)
  | [], a, m, h0, h1, h => by
    refine Tot.step (fun k => laws_heldRecordS.l0.eq_2 ..) ?_
    simp only [List.append_nil, mkRecord, List.length_nil, Int.natCast_zero, Int.mul_zero, Int.add_zero]
    exact Tot.no (by omega) (Tot.pure _)
  | x :: b, a, m, h0, h1, h => by
    have hl : ((a ++ x :: b).length : Int) = a.length + b.length + 1 := by simp; omega
    have hl2 : ((a ++ mkRecord (x :: b) m).length : Int) = a.length + b.length + 1 := by simp [mkRecord, mkRecord_length]; omega
    simp only [List.length_cons] at h1
    have hw1 : wrap64 (m + 1 + 1) = m + 2 := (wrap_in (by omega) (by omega)).trans (by omega); have hw2 : wrap64 (m + 2 + 1) = m + 3 := (wrap_in (by omega) (by omega)).trans (by omega); have hw3 : wrap64 (m + 3 + 1) = m + 4 := (wrap_in (by omega) (by omega)).trans (by omega)
    refine Tot.step (fun k => laws_heldRecordS.l0.eq_2 ..) (Tot.yes (by omega) (Tot.yes (by omega) ?_))
    rw [wrap_in (x := (a.length : Int) + 1) (by omega) (by omega)]
    simp only [mkRecord, wrap_in (x := m + 1) (by omega) (by omega), hw1, hw2, hw3, rdIRecord_at]
    refine Tot.yes (by first | rfl | trivial) ?_
    refine Tot.yes (by first | rfl | trivial) ?_
    refine Tot.yes (by first | rfl | trivial) ?_
    refine Tot.bind (markText_v (m + 3) (by omega) (by omega)) ?_
    refine Tot.yes (by first | rfl | trivial) ?_
    have := heldRecordS_l b (a ++ [⟨m, (m + 1), (m + 2), mtxt (m + 3)⟩]) (m + 4) (by omega) (by omega) (by simp at hl h ⊢; omega)
    have e : m + 4 * ((x :: b).length : Int) = m + 4 + 4 * b.length := by simp; omega
    rw [e]
    simpa [mkRecord] using this
theorem heldRecordS_v (l : List S113) (m : Int) (h0 : 0 ≤ m) (h1 : m + 4 * l.length ≤ 1125899906842624) : Tot (fun k => laws_heldRecordS.f k (mkRecord l m) m) (m + 4 * l.length) := by
  have := heldRecordS_l l [] m h0 h1 (by simp; omega)
  unfold laws_heldRecordS.f
  simpa using this
def blank : ByteArray := ⟨#[0, 0]⟩
theorem specBlank_l : ∀ (d : Nat) (out : List ByteArray) (i : Int), 0 ≤ i → i + d = 16 → (out.length : Int) = i → Tot (fun k => spec_l3Blank.l0 k out i) (out ++ List.replicate d blank)
  | 0, out, i, h0, h, ho => by
    refine Tot.step (fun k => spec_l3Blank.l0.eq_2 ..) (Tot.no (by omega) ?_)
    simp only [List.replicate_zero, List.append_nil]
    exact Tot.pure _
  | d + 1, out, i, h0, h, ho => by
    refine Tot.step (fun k => spec_l3Blank.l0.eq_2 ..) (Tot.yes (by omega) (Tot.yes (by omega) ?_))
    rw [wrap_in (x := i + 1) (by omega) (by omega)]
    have := specBlank_l d (out ++ [blank]) (i + 1) (by omega) (by omega) (by simp; omega)
    simpa [List.replicate_succ, blank] using this
theorem specNew_v : Tot (fun k => spec_NewVolume.f k) (List.replicate 16 blank, 0, [], 0) := by
  unfold spec_NewVolume.f spec_l3Blank.f
  exact Tot.bind (specBlank_l 16 [] 0 (by omega) (by omega) (by simp)) (Tot.pure _)
theorem implNew_v : impl_NewVolume.f = some (List.replicate 16 blank, 0, [], 0) := rfl
theorem FnExactNewVolume : laws_FnExactNewVolume.Pure := by
  have eqV : Tot (fun k => laws_eqVolume.f k (List.replicate 16 blank) 0 [] 0 (List.replicate 16 blank) 0 [] 0) true := by
    unfold laws_eqVolume.f
    exact Tot.bind (eqStr_v _ (by simp)) (Tot.yes rfl (Tot.yes rfl (Tot.bind (eqRecordS_v [] (by simp) (fun _ _ => trivial)) (Tot.yes rfl (Tot.yes rfl (Tot.pure _))))))
  have m1 := markStr_v (List.replicate 16 blank) 1 (by omega) (by simp)
  have m2 := markRecordS_v [] (1 + (List.replicate 16 blank).length) (by simp) (by simp)
  have h1 := heldStr_v (List.replicate 16 blank) 1 (by omega) (by simp)
  have h2 := heldRecordS_v [] (1 + (List.replicate 16 blank).length) (by simp) (by simp)
  have heldV : Tot (fun k => laws_heldVolume.f k (mkStr (List.replicate 16 blank) 1) 0 (mkRecord [] (1 + (List.replicate 16 blank).length)) 0 1) (1 + (List.replicate 16 blank).length + 4 * ([] : List S113).length) := by
    unfold laws_heldVolume.f
    exact Tot.bind h1 (Tot.no (by simp) (Tot.bind h2 (Tot.no (by simp) (Tot.pure _))))
  have markV : Tot (fun k => laws_markVolume.f k (List.replicate 16 blank) 0 [] 0 1) (1 + ((List.replicate 16 blank).length : Int) + 4 * (([] : List S113).length : Int), mkStr (List.replicate 16 blank) 1, mkRecord [] (1 + ((List.replicate 16 blank).length : Int))) := by
    unfold laws_markVolume.f
    exact Tot.bind m1 (Tot.bind m2 (Tot.pure _))
  refine Tot.at_ ?_
  unfold laws_FnExactNewVolume.f
  simp only [implNew_v, Option.bind_some]
  refine Tot.bind specNew_v (Tot.bind eqV (Tot.yes rfl ?_))
  refine Tot.bind markV (Tot.bind heldV (Tot.no (by simp) (Tot.yes rfl (Tot.bind eqV (Tot.yes rfl (Tot.bind heldV (Tot.no (by simp) (Tot.yes rfl (Tot.pure _)))))))))

end Go.Proofs.Ytafkbhkikdndnaa.Pure

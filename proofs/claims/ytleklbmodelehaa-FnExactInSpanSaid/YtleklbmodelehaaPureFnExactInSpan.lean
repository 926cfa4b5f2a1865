/- The plain law behind FnExactInSpan: what the two sides compute is the same, for every input. No condition. -/
import Derived.Test.YtleklbmodelehaaPFnExactInSpanx6
set_option linter.unusedVariables false
set_option linter.unusedSimpArgs false
namespace Go.Proofs.Ytleklbmodelehaa.Pure
open Go.RowKit Go.Proofs.Ytleklbmodelehaa.PFnExactInSpan Go.Proofs.YtleklbmodelehaaW.PrintWords Go.Proofs.YtleklbmodelehaaW.PrintLast Go.Proofs.YtleklbmodelehaaW.PrintMore

theorem wrap_in {x : Int} (h0 : -9223372036854775808 ≤ x) (h1 : x ≤ 9223372036854775807) : wrap64 x = x := by unfold wrap64; omega
theorem wf_in {x : Int} (h : (Lit.int .i64 x).wf = true) : -9223372036854775808 ≤ x ∧ x ≤ 9223372036854775807 := by
  simp only [Lit.wf, IntKind.min, IntKind.max, IntKind.bits, IntKind.signed, Bool.and_eq_true, decide_eq_true_eq] at h
  exact ⟨by have := h.1; simpa using this, by have := h.2; simpa using this⟩
theorem toList_nil (s : ByteArray) : (s.toList == ([] : List UInt8)) = decide (s.size = 0) := by
  rw [Bool.eq_iff_iff]
  simp only [beq_iff_eq, decide_eq_true_eq, ByteArray.toList_eq]
  constructor
  · intro h
    have h2 : s.data.toList.length = 0 := by rw [h]; rfl
    rw [Array.length_toList] at h2
    exact h2
  · intro h
    have h2 : s.data.toList.length = 0 := by rw [Array.length_toList]; exact h
    exact List.eq_nil_of_length_eq_zero h2

/-- From some number of rounds on the answer is r. -/
def Tot {α : Type} (g : Nat → Option α) (r : α) : Prop := ∃ K, ∀ k, K ≤ k → g k = some r
theorem Tot.at_ {α : Type} {g : Nat → Option α} {r : α} (h : Tot g r) : ∃ k, g k = some r := by
  obtain ⟨K, hK⟩ := h
  exact ⟨K, hK K (Nat.le_refl _)⟩
theorem Tot.pure {α : Type} (r : α) : Tot (fun _ => some r) r := ⟨0, fun _ _ => rfl⟩
theorem Tot.of_eq {α : Type} {g : Nat → Option α} {r : α} (h : ∀ k, g k = some r) : Tot g r := ⟨0, fun k _ => h k⟩
theorem Tot.congr {α : Type} {g g' : Nat → Option α} {r : α} (he : ∀ k, g k = g' k) (h : Tot g' r) : Tot g r := by
  obtain ⟨K, hK⟩ := h
  exact ⟨K, fun k hk => (he k).trans (hK k hk)⟩
theorem Tot.bind {α β : Type} {g : Nat → Option α} {h : Nat → α → Option β} {a : α} {r : β} (hg : Tot g a) (hh : Tot (fun k => h k a) r) : Tot (fun k => (g k).bind (h k)) r := by
  obtain ⟨K, hK⟩ := hg
  obtain ⟨L, hL⟩ := hh
  refine ⟨max K L, fun k hk => ?_⟩
  show (g k).bind (h k) = some r
  rw [hK k (by omega)]
  exact hL k (by omega)
theorem Tot.step {α : Type} {F G : Nat → Option α} {r : α} (hF : ∀ k, F (k + 1) = G k) (h : Tot G r) : Tot F r := by
  obtain ⟨K, hK⟩ := h
  refine ⟨K + 1, fun k hk => ?_⟩
  obtain ⟨m, rfl⟩ : ∃ m, k = m + 1 := ⟨k - 1, by omega⟩
  rw [hF]
  exact hK m (by omega)
theorem Tot.yes {α : Type} {p : Prop} [Decidable p] {g h : Nat → Option α} {r : α} (hp : p) (hg : Tot g r) : Tot (fun k => if p then g k else h k) r := by
  simpa only [if_pos hp] using hg
theorem Tot.no {α : Type} {p : Prop} [Decidable p] {g h : Nat → Option α} {r : α} (hp : ¬ p) (hg : Tot h r) : Tot (fun k => if p then g k else h k) r := by
  simpa only [if_neg hp] using hg
theorem Tot.some_bind {α β : Type} {h : Nat → α → Option β} {a : α} {r : β} (hh : Tot (fun k => h k a) r) : Tot (fun k => (some a).bind (h k)) r := hh

theorem in_v (a b c : Int) : spec_l1In.f a b c = some (decide (b ≤ a ∧ a ≤ c)) := by
  unfold spec_l1In.f
  by_cases h : a ≥ b
  · rw [if_pos h]; congr 1; rw [decide_eq_decide]; omega
  · rw [if_neg h]; congr 1; symm; rw [decide_eq_false_iff_not]; omega

theorem within_v (a b c : Int) : impl_within.f a b c = some (decide (b ≤ a ∧ a ≤ c)) := by
  unfold impl_within.f
  by_cases h : b ≤ a
  · rw [if_pos h]; congr 1; rw [decide_eq_decide]; omega
  · rw [if_neg h]; congr 1; symm; rw [decide_eq_false_iff_not]; omega


theorem all_l (lo hi : Int) : ∀ (b a : List Int), ((a ++ b).length : Int) ≤ 9223372036850000000 → Tot (fun k => spec_l1All.l0 k lo hi (a ++ b) ((a ++ b).length : Int) a.length) (b.all fun x => decide (lo ≤ x ∧ x ≤ hi))
  | [], a, h => by
    refine Tot.step (fun k => spec_l1All.l0.eq_2 ..) ?_
    exact Tot.no (by simp) (Tot.pure _)
  | x :: b, a, h => by
    have hl : ((a ++ x :: b).length : Int) = a.length + b.length + 1 := by simp; omega
    have hr : rd (a ++ x :: b) (a.length : Int) = x := by simp [rd, List.getD]
    refine Tot.step (fun k => spec_l1All.l0.eq_2 ..) (Tot.yes (by omega) (Tot.yes (by omega) (Tot.yes (by omega) ?_)))
    rw [hr, wrap_in (x := (a.length : Int) + 1) (by omega) (by omega)]
    simp only [in_v, Option.bind_some, List.all_cons]
    by_cases hx : lo ≤ x ∧ x ≤ hi
    · rw [decide_eq_true hx, Bool.true_and]
      refine Tot.yes rfl ?_
      have := all_l lo hi b (a ++ [x]) (by simp at hl h ⊢; omega)
      simpa using this
    · rw [decide_eq_false hx, Bool.false_and]
      exact Tot.no (by decide) (Tot.pure _)
theorem all_v (l : List Int) (lo hi : Int) (h : (l.length : Int) ≤ 9223372036850000000) : Tot (fun k => spec_l1All.f k l lo hi) (l.all fun x => decide (lo ≤ x ∧ x ≤ hi)) := by
  have := all_l lo hi l [] (by simpa using h)
  unfold spec_l1All.f
  simpa using this

theorem allO_tot {α : Type} {f : Nat → α → Option Bool} {p : α → Bool} : ∀ {l : List α}, (∀ x ∈ l, Tot (fun k => f k x) (p x)) → Tot (fun k => Open.allO (f k) l) (l.all p)
  | [], _ => Tot.pure _
  | x :: l, h => by
    show Tot (fun k => (f k x).bind fun b => (Open.allO (f k) l).bind fun c => some (b && c)) ((x :: l).all p)
    rw [List.all_cons]
    exact Tot.bind (h x (by simp)) (Tot.bind (allO_tot fun y hy => h y (by simp [hy])) (Tot.pure _))

def hiM (a : Int) : Int := wrap64 ((shl .i64 1 a) - 1)
def masksB (a : Int) (l : List Int) : Bool := decide (1 ≤ a ∧ a ≤ 10) && (decide ((l.length : Int) ≤ 20) && l.all fun x => decide (0 ≤ x ∧ x ≤ hiM a))
theorem u64_small {a : Int} (h : 1 ≤ a ∧ a ≤ 10) : IntKind.u64.wrap a = a := by
  have : a = 1 ∨ a = 2 ∨ a = 3 ∨ a = 4 ∨ a = 5 ∨ a = 6 ∨ a = 7 ∨ a = 8 ∨ a = 9 ∨ a = 10 := by omega
  rcases this with rfl | rfl | rfl | rfl | rfl | rfl | rfl | rfl | rfl | rfl <;> decide
theorem specMasks_v (a : Int) (l : List Int) : Tot (fun k => spec_l10Masks.f k a l) (masksB a l) := by
  unfold spec_l10Masks.f masksB
  simp only [in_v, Option.bind_some]
  by_cases c1 : 1 ≤ a ∧ a ≤ 10
  · rw [decide_eq_true c1, Bool.true_and, u64_small c1]
    refine Tot.yes rfl ?_
    by_cases c2 : (l.length : Int) ≤ 20
    · rw [decide_eq_true c2, Bool.true_and]
      exact Tot.yes c2 (Tot.yes (by omega) (Tot.bind (all_v l 0 (hiM a) (by omega)) (Tot.pure _)))
    · rw [decide_eq_false c2]; exact Tot.no c2 (Tot.pure _)
  · rw [decide_eq_false c1]; exact Tot.no (by decide) (Tot.pure _)
theorem implMask_v (a x : Int) (h : 0 ≤ a) : impl_isMask.f a x = some (decide (0 ≤ x ∧ x ≤ hiM a)) := by
  unfold impl_isMask.f
  rw [if_pos h, within_v]
  rfl
theorem implMasks_v (a : Int) (l : List Int) : impl_areMasks.f a l = some (masksB a l) := by
  have e1 : impl_isMany.f a = some (decide (1 ≤ a ∧ a ≤ 10)) := by unfold impl_isMany.f; rw [within_v]; rfl
  unfold impl_areMasks.f masksB
  rw [e1, Option.bind_some]
  by_cases c1 : 1 ≤ a ∧ a ≤ 10
  · rw [decide_eq_true c1, Bool.true_and, if_pos rfl]
    by_cases c2 : (l.length : Int) ≤ 20
    · rw [decide_eq_true c2, Bool.true_and, if_pos c2]
      exact Open.allO_v fun x _ => implMask_v a x (by omega)
    · rw [decide_eq_false c2, if_neg c2]; rfl
  · rw [decide_eq_false c1, if_neg (by decide)]; rfl

theorem rd_at {l : List Int} {i : Int} (h0 : 0 ≤ i) (h1 : i < (l.length : Int)) : rd l i = l[i.toNat]'(by omega) := by
  unfold rd
  rw [List.getD_eq_getElem?_getD, List.getElem?_eq_getElem (by omega : i.toNat < l.length)]
  rfl
theorem eqInt_l (a : List Int) (ha : (a.length : Int) ≤ 9223372036854775806) : ∀ (d : Nat) (i : Int), 0 ≤ i → i + d = a.length → Tot (fun k => laws_eqIntS.l0 k a a i) true
  | 0, i, h0, h => by
    refine Tot.step (fun k => laws_eqIntS.l0.eq_2 ..) ?_
    exact Tot.no (by omega) (Tot.pure _)
  | d + 1, i, h0, h => by
    refine Tot.step (fun k => laws_eqIntS.l0.eq_2 ..) ?_
    refine Tot.yes (by omega) (Tot.yes h0 (Tot.yes (by omega) (Tot.yes rfl ?_)))
    rw [wrap_in (by omega) (by omega)]
    exact eqInt_l a ha d (i + 1) (by omega) (by omega)
theorem eqInt_v (a : List Int) (ha : (a.length : Int) ≤ 9223372036854775806) : Tot (fun k => laws_eqIntS.f k a a) true := by
  unfold laws_eqIntS.f
  exact Tot.yes rfl (eqInt_l a ha a.length 0 (by omega) (by omega))

theorem rdIPacket_at (a b : List S112) (x : S112) : rd_T112 (a ++ x :: b) (a.length : Int) = x := by simp [rd_T112, List.getD]
theorem rdInt_at (a b : List Int) (x : Int) : (rd (a ++ x :: b) (a.length : Int)) = x := by simp [rd, List.getD]
theorem toInt_l : ∀ (b a : List Int), ((a ++ b).length : Int) ≤ 9223372036854775806 → Tot (fun k => laws_toIntS.l0 k (a ++ b) (a ++ List.replicate b.length 0) a.length) (a ++ b)
  | [], a, h => by
    refine Tot.step (fun k => laws_toIntS.l0.eq_2 ..) ?_
    simp only [List.append_nil, List.length_nil, List.replicate_zero]
    exact Tot.no (by omega) (Tot.pure _)
  | x :: b, a, h => by
    refine Tot.step (fun k => laws_toIntS.l0.eq_2 ..) ?_
    have hl : ((a ++ x :: b).length : Int) = a.length + b.length + 1 := by simp; omega
    have hl2 : ((a ++ List.replicate (x :: b).length 0).length : Int) = a.length + b.length + 1 := by simp; omega
    refine Tot.yes (by omega) (Tot.yes (by omega) (Tot.yes (by omega) ?_))
    rw [rdInt_at, wrap_in (x := (a.length : Int) + 1) (by omega) (by omega)]
    have e : (a ++ List.replicate (x :: b).length 0).set ((a.length : Int)).toNat x = (a ++ [x]) ++ List.replicate b.length 0 := by simp [List.replicate_succ]
    rw [e]
    have := toInt_l b (a ++ [x]) (by simp at hl h ⊢; omega)
    simpa using this
theorem toInt_v (l : List Int) (h : (l.length : Int) ≤ 1048576) : Tot (fun k => laws_toIntS.f k l) l := by
  unfold laws_toIntS.f
  refine Tot.yes (by omega) (Tot.yes (by omega) ?_)
  have := toInt_l l [] (by simp; omega)
  simpa using this
theorem parted_l : ∀ (b a : List S112), ((a ++ b).length : Int) ≤ 1048576 → Tot (fun k => impl_partedPackets.l0 k (a.map (·.f0)) (a.map (·.f1)) (a ++ b) ((a ++ b).length : Int) a.length) ((a ++ b).map (·.f0), (a ++ b).map (·.f1))
  | [], a, h => by
    refine Tot.step (fun k => impl_partedPackets.l0.eq_2 ..) (Tot.no (by simp) ?_)
    simp only [List.append_nil]
    exact Tot.pure _
  | x :: b, a, h => by
    have hl : ((a ++ x :: b).length : Int) = a.length + b.length + 1 := by simp; omega
    have h1 : (a.map (·.f0)).length = a.length := by simp
    have h2 : (a.map (·.f1)).length = a.length := by simp
    refine Tot.step (fun k => impl_partedPackets.l0.eq_2 ..) (Tot.yes (by omega) (Tot.yes (by omega) (Tot.yes (by omega) (Tot.some_bind ?_))))
    refine Tot.yes (by rw [h1]; simp; omega) (Tot.some_bind (Tot.yes (by rw [h2]; simp; omega) ?_))
    rw [rdIPacket_at, wrap_in (x := (a.length : Int) + 1) (by omega) (by omega)]
    have := parted_l b (a ++ [x]) (by simpa using h)
    simpa using this
theorem parted_v (l : List S112) (h : (l.length : Int) ≤ 1048576) : Tot (fun k => impl_partedPackets.f k l) (l.map (·.f0), l.map (·.f1)) := by
  have := parted_l l [] (by simpa using h)
  unfold impl_partedPackets.f
  simpa using this

theorem pk_and_one (n : Nat) (h : n < 16777216) : Go.bits .and .i64 (n : Int) 1 = ((n % 2 : Nat) : Int) := by
  unfold Go.bits
  show IntKind.i64.wrap ((BitVec.ofInt 64 (n : Int) &&& BitVec.ofInt 64 1).toNat : Int) = _
  rw [show BitVec.ofInt 64 (n : Int) = BitVec.ofNat 64 n by simp, show BitVec.ofInt 64 1 = BitVec.ofNat 64 1 by rfl, BitVec.toNat_and, BitVec.toNat_ofNat, BitVec.toNat_ofNat, Nat.mod_eq_of_lt (by omega), Nat.mod_eq_of_lt (by omega), Nat.and_one_is_mod]
  unfold IntKind.wrap; simp [IntKind.signed, IntKind.bits]; omega
theorem pk_xor (a b : Nat) (ha : a < 1024) (hb : b < 1024) : Go.bits .xor .i64 (a : Int) (b : Int) = ((a ^^^ b : Nat) : Int) := by
  have hx : a ^^^ b < 1024 := Nat.xor_lt_two_pow (n := 10) ha hb
  unfold Go.bits
  show IntKind.i64.wrap ((BitVec.ofInt 64 (a : Int) ^^^ BitVec.ofInt 64 (b : Int)).toNat : Int) = _
  rw [show BitVec.ofInt 64 (a : Int) = BitVec.ofNat 64 a by simp, show BitVec.ofInt 64 (b : Int) = BitVec.ofNat 64 b by simp, BitVec.toNat_xor, BitVec.toNat_ofNat, BitVec.toNat_ofNat, Nat.mod_eq_of_lt (by omega), Nat.mod_eq_of_lt (by omega)]
  unfold IntKind.wrap; simp [IntKind.signed, IntKind.bits]; omega
theorem pk_shr (a k : Nat) (hk : k ≤ 64) : shr .i64 (a : Int) (k : Int) = ((a / 2 ^ k : Nat) : Int) := by
  unfold shr
  have : min (k : Int).toNat IntKind.i64.bits = k := by simp [IntKind.bits]; omega
  rw [this]
  exact_mod_cast rfl
def pkM (m : Int) : S112 := ⟨m, ⟨#[]⟩⟩
def goodP (l : List S112) : Prop := ∀ y ∈ l, y.f1 = ⟨#[]⟩ ∧ 0 ≤ y.f0 ∧ y.f0 < 1024
theorem pk_bit {y : Int} (h : 0 ≤ y ∧ y < 1024) (k : Nat) (hk : k ≤ 64) : Go.bits .and .i64 (shr .i64 y (k : Int)) 1 = ((y.toNat / 2 ^ k % 2 : Nat) : Int) := by
  obtain ⟨a, rfl⟩ := Int.eq_ofNat_of_zero_le h.1
  rw [pk_shr a k hk, pk_and_one _ (Nat.lt_of_le_of_lt (Nat.div_le_self _ _) (by omega)), Int.toNat_natCast]
theorem pk_hasb {y : S112} (h : 0 ≤ y.f0 ∧ y.f0 < 1024) (k : Nat) (hk : k ≤ 64) : pk_has (k : Int) y = y.f0.toNat.testBit k := by
  unfold pk_has
  rw [pk_bit h k hk, Nat.testBit_eq_decide_div_mod_eq]
  have h2 : y.f0.toNat / 2 ^ k % 2 < 2 := Nat.mod_lt _ (by decide)
  generalize y.f0.toNat / 2 ^ k % 2 = d at *
  have : d = 0 ∨ d = 1 := by omega
  rcases this with rfl | rfl <;> decide
theorem pk_less_good {y x : S112} (k : Int) (hy : y.f1 = ⟨#[]⟩ ∧ 0 ≤ y.f0 ∧ y.f0 < 1024) (hx : x.f1 = ⟨#[]⟩ ∧ 0 ≤ x.f0 ∧ x.f0 < 1024) : (pk_less k x y).f1 = ⟨#[]⟩ ∧ 0 ≤ (pk_less k x y).f0 ∧ (pk_less k x y).f0 < 1024 := by
  unfold pk_less
  split
  · refine ⟨rfl, ?_⟩
    obtain ⟨a, ha⟩ := Int.eq_ofNat_of_zero_le hy.2.1
    obtain ⟨b, hb⟩ := Int.eq_ofNat_of_zero_le hx.2.1
    have h1 : a < 1024 := by have := hy.2.2; omega
    have h2 : b < 1024 := by have := hx.2.2; omega
    have h3 : a ^^^ b < 1024 := Nat.xor_lt_two_pow (n := 10) h1 h2
    show 0 ≤ Go.bits .xor .i64 y.f0 x.f0 ∧ Go.bits .xor .i64 y.f0 x.f0 < 1024
    rw [ha, hb, pk_xor a b h1 h2]
    omega
  · exact hy
theorem goodP_map {l : List S112} {x : S112} (k : Int) (h : goodP l) (hx : x.f1 = ⟨#[]⟩ ∧ 0 ≤ x.f0 ∧ x.f0 < 1024) : goodP (l.map (pk_less k x)) := by
  intro y hy
  obtain ⟨z, hz, rfl⟩ := List.mem_map.1 hy
  exact pk_less_good k (h z hz) hx
theorem pk_u64 (b : Nat) (hb : b ≤ 64) : IntKind.u64.wrap (b : Int) = (b : Int) := by
  have : IntKind.u64.wrap (b : Int) = (b : Int) % 18446744073709551616 := by simp [IntKind.wrap, IntKind.bits, IntKind.signed]
  rw [this]; omega
theorem pk_xun : spec_l10Xor.f ⟨#[]⟩ ⟨#[]⟩ = some ⟨#[]⟩ := by decide
theorem specLess_v {y x : S112} (b : Nat) (hb : b ≤ 64) (hy : y.f1 = ⟨#[]⟩ ∧ 0 ≤ y.f0 ∧ y.f0 < 1024) (hx : x.f1 = ⟨#[]⟩) : spec_l10Less.f y.f0 y.f1 x.f0 x.f1 (b : Int) = some ((pk_less b x y).f0, (pk_less b x y).f1) := by
  unfold spec_l10Less.f pk_less pk_has
  rw [pk_u64 b hb, if_pos (by omega), pk_bit hy.2 b hb]
  have h2 : y.f0.toNat / 2 ^ b % 2 < 2 := Nat.mod_lt _ (by decide)
  generalize y.f0.toNat / 2 ^ b % 2 = d at *
  have : d = 0 ∨ d = 1 := by omega
  rcases this with rfl | rfl
  · rfl
  · rw [if_neg (by decide), hy.1, hx, pk_xun, if_pos (by decide)]
    rfl
theorem goodP_erase {l : List S112} (i : Nat) (h : goodP l) : goodP (l.eraseIdx i) := fun y hy => h y (List.mem_of_mem_eraseIdx hy)
theorem goodP_rd {l : List S112} (i : Int) (h0 : 0 ≤ i) (h1 : i < l.length) (h : goodP l) : (rd_T112 l i).f1 = ⟨#[]⟩ ∧ 0 ≤ (rd_T112 l i).f0 ∧ (rd_T112 l i).f0 < 1024 := by
  obtain ⟨n, rfl⟩ := Int.eq_ofNat_of_zero_le h0
  exact h _ (pk_mem l n (by omega))
theorem red_l3 (b : Nat) (hb : b ≤ 64) (x : S112) (hx : x.f1 = ⟨#[]⟩ ∧ 0 ≤ x.f0 ∧ x.f0 < 1024) (l2 : List S112) (r : List S112 × List S112) :
    ∀ (rest a : List S112), goodP rest → ((a ++ rest).length : Int) ≤ 1048576 → Tot (fun k => spec_l10Reduce.l0 k ((a ++ rest.map (pk_less b x)) ++ [x]) l2 (wrap64 ((b : Int) - 1))) r → Tot (fun k => spec_l10Reduce.l3 k (a ++ rest) l2 b ((a ++ rest).length : Int) a.length x.f0 x.f1) r
  | [], a, hg, hl, h => by
    refine Tot.step (fun k => spec_l10Reduce.l3.eq_2 ..) (Tot.no (by simp) (Tot.yes (by omega) ?_))
    simpa using h
  | y :: rest, a, hg, hl, h => by
    have hl2 : ((a ++ y :: rest).length : Int) = a.length + rest.length + 1 := by simp; omega
    refine Tot.step (fun k => spec_l10Reduce.l3.eq_2 ..) (Tot.yes (by omega) (Tot.yes (by omega) (Tot.yes (by omega) ?_)))
    rw [rdIPacket_at]
    have hy := hg y (by simp)
    simp only [specLess_v b hb hy hx.1, Option.bind_some]
    rw [wrap_in (x := (a.length : Int) + 1) (by omega) (by omega)]
    have e : (a ++ y :: rest).set ((a.length : Int)).toNat (pk_less b x y) = (a ++ [pk_less b x y]) ++ rest := by simp
    have next := red_l3 b hb x hx l2 r rest (a ++ [pk_less b x y]) (fun z hz => hg z (by simp [hz])) (by simp at hl2 hl ⊢; omega) (by simpa using h)
    have e2 : (⟨(pk_less b x y).f0, (pk_less b x y).f1⟩ : S112) = pk_less b x y := rfl
    rw [e2, e]
    have e3 : ((a ++ y :: rest).length : Int) = (((a ++ [pk_less b x y]) ++ rest).length : Int) := by simp
    rw [e3]
    simpa using next
theorem red_l2 (b : Nat) (hb : b ≤ 64) (x : S112) (hx : x.f1 = ⟨#[]⟩ ∧ 0 ≤ x.f0 ∧ x.f0 < 1024) (i : Nat) (t l : List S112) (hll : (l.length : Int) ≤ 1048576) (r : List S112 × List S112)
    (h : Tot (fun k => spec_l10Reduce.l3 k t ((l.eraseIdx i).map (pk_less b x)) b (t.length : Int) 0 x.f0 x.f1) r) :
    ∀ (rest a : List S112), a ++ rest = l → goodP rest → Tot (fun k => spec_l10Reduce.l2 k t b (i : Int) ((a.eraseIdx i).map (pk_less b x)) l (l.length : Int) a.length x.f0 x.f1) r
  | [], a, ha, hg => by
    simp only [List.append_nil] at ha
    subst ha
    exact Tot.step (fun k => spec_l10Reduce.l2.eq_2 ..) (Tot.no (by omega) h)
  | y :: rest, a, ha, hg => by
    have hl2 : (l.length : Int) = a.length + rest.length + 1 := by rw [← ha]; simp; omega
    refine Tot.step (fun k => spec_l10Reduce.l2.eq_2 ..) (Tot.yes (by omega) (Tot.yes (by omega) (Tot.yes (by omega) ?_)))
    have er : rd_T112 l (a.length : Int) = y := by rw [← ha]; exact rdIPacket_at ..
    have next := red_l2 b hb x hx i t l hll r h rest (a ++ [y]) (by simpa using ha) (fun z hz => hg z (by simp [hz]))
    rw [wrap_in (x := (a.length : Int) + 1) (by omega) (by omega), er]
    by_cases hi : a.length = i
    · refine Tot.yes (by omega) ?_
      have e : (a ++ [y]).eraseIdx i = a.eraseIdx i := by
        have q2 : a.eraseIdx i = a := List.eraseIdx_of_length_le (by omega)
        rw [q2, List.eraseIdx_append_of_length_le (by omega), hi, Nat.sub_self]
        simp
      rw [e] at next
      simpa using next
    · refine Tot.no (by omega) ?_
      have hy := hg y (by simp)
      simp only [specLess_v b hb hy hx.1, Option.bind_some]
      have hle : (a.eraseIdx i).length ≤ a.length := List.length_eraseIdx_le ..
      refine Tot.yes (by rw [List.length_map]; omega) ?_
      have e : ((a ++ [y]).eraseIdx i).map (pk_less b x) = (a.eraseIdx i).map (pk_less b x) ++ [pk_less b x y] := by
        rcases Nat.lt_or_gt_of_ne hi with h1 | h1
        · have q1 : (a ++ [y]).eraseIdx i = a ++ [y] := List.eraseIdx_of_length_le (by simp; omega)
          have q2 : a.eraseIdx i = a := List.eraseIdx_of_length_le (by omega)
          rw [q1, q2]
          simp
        · rw [List.eraseIdx_append_of_lt_length (by omega)]
          simp
      rw [e] at next
      have e2 : (⟨(pk_less b x y).f0, (pk_less b x y).f1⟩ : S112) = pk_less b x y := rfl
      rw [e2]
      simpa using next
theorem red_l1 (b : Nat) (hb : b ≤ 64) (t l : List S112) (hll : (l.length : Int) ≤ 1048576) (fin : Int) (r : List S112 × List S112)
    (h : Tot (fun k => if fin < 0 then (spec_l10Reduce.l0 k t l (wrap64 ((b : Int) - 1))) else (if 0 ≤ fin then (if fin < (l.length : Int) then (spec_l10Reduce.l2 k t b fin ([] : List S112) l (l.length : Int) 0 ((rd_T112 l fin).f0) ((rd_T112 l fin).f1)) else (none)) else (none))) r) :
    ∀ (rest a : List S112) (at_ : Int), a ++ rest = l → goodP rest → fin = (if 0 ≤ at_ then at_ else if idxOf_Packet (pk_has b) rest < 0 then -1 else (a.length : Int) + idxOf_Packet (pk_has b) rest) → -1 ≤ at_ → Tot (fun k => spec_l10Reduce.l1 k t l b at_ l (l.length : Int) a.length) r
  | [], a, at_, ha, hg, hf, h1 => by
    simp only [List.append_nil] at ha
    subst ha
    refine Tot.step (fun k => spec_l10Reduce.l1.eq_2 ..) (Tot.no (by omega) ?_)
    have e : fin = at_ := by
      rw [hf]
      by_cases c : 0 ≤ at_
      · rw [if_pos c]
      · rw [if_neg c]
        simp [idxOf_Packet]
        omega
    rw [e] at h
    exact h
  | y :: rest, a, at_, ha, hg, hf, h1 => by
    have hl2 : (l.length : Int) = a.length + rest.length + 1 := by rw [← ha]; simp; omega
    refine Tot.step (fun k => spec_l10Reduce.l1.eq_2 ..) (Tot.yes (by omega) (Tot.yes (by omega) (Tot.yes (by omega) ?_)))
    have er : rd_T112 l (a.length : Int) = y := by rw [← ha]; exact rdIPacket_at ..
    rw [wrap_in (x := (a.length : Int) + 1) (by omega) (by omega), er]
    have hge := idxOf_Packet_ge (pk_has b) rest
    have next := fun (q : Int) (hq : fin = (if 0 ≤ q then q else if idxOf_Packet (pk_has b) rest < 0 then -1 else ((a ++ [y]).length : Int) + idxOf_Packet (pk_has b) rest)) (hq1 : -1 ≤ q) => red_l1 b hb t l hll fin r h rest (a ++ [y]) q (by simpa using ha) (fun z hz => hg z (by simp [hz])) hq hq1
    have en : (((a ++ [y]).length : Nat) : Int) = (a.length : Int) + 1 := by simp
    rw [en] at next
    by_cases c : at_ < 0
    · have c' : at_ = -1 := by omega
      subst c'
      refine Tot.yes c ?_
      rw [pk_u64 b hb]
      refine Tot.yes (by omega) ?_
      rw [if_neg (by decide)] at hf
      by_cases hp : pk_has b y = true
      · have hp' : Go.bits .and .i64 (shr .i64 y.f0 (b : Int)) 1 = 1 := by simpa [pk_has] using hp
        refine Tot.yes hp' (next (a.length : Int) ?_ (by omega))
        rw [if_pos (by omega), hf, idxOf_Packet, if_pos hp, if_neg (by decide)]
        omega
      · have hp' : ¬ Go.bits .and .i64 (shr .i64 y.f0 (b : Int)) 1 = 1 := by simpa [pk_has] using hp
        refine Tot.no hp' (next (-1) ?_ (by omega))
        rw [if_neg (by decide), hf, idxOf_Packet, if_neg hp]
        by_cases hr : idxOf_Packet (pk_has b) rest = -1
        · rw [if_pos hr, hr]; rfl
        · rw [if_neg hr, if_neg (by omega), if_neg (by omega)]; omega
    · refine Tot.no c (next at_ ?_ h1)
      rw [if_pos (by omega)] at hf ⊢
      exact hf
theorem pk_step_good (b : Nat) {t l : List S112} (ht : goodP t) (hl : goodP l) : goodP (pk_step b t l).1 ∧ goodP (pk_step b t l).2 ∧ (pk_step b t l).1.length ≤ t.length + 1 ∧ (pk_step b t l).2.length ≤ l.length := by
  unfold pk_step
  split
  · exact ⟨ht, hl, Nat.le_succ _, Nat.le_refl _⟩
  · next c =>
    have hx := goodP_rd (idxOf_Packet (pk_has b) l) (by omega) (pk_idx_lt _ _) hl
    refine ⟨fun y hy => ?_, goodP_map _ (goodP_erase _ hl) hx, by simp, by rw [List.length_map]; exact List.length_eraseIdx_le ..⟩
    rcases List.mem_append.1 hy with h | h
    · exact goodP_map _ ht hx y h
    · rw [List.mem_singleton.1 h]; exact hx
theorem red_l0 : ∀ (b : Nat), b ≤ 64 → ∀ (t l : List S112), goodP t → goodP l → t.length + b ≤ 1000 → (l.length : Int) ≤ 1000 → Tot (fun k => spec_l10Reduce.l0 k t l ((b : Int) - 1)) (pk_rounds b t l)
  | 0, _, t, l, _, _, _, _ => Tot.step (fun k => spec_l10Reduce.l0.eq_2 ..) (Tot.no (by omega) (Tot.pure _))
  | b + 1, hb, t, l, ht, hl, hlt, hll => by
    have e1 : (((b + 1 : Nat) : Int) - 1) = (b : Int) := by omega
    rw [e1]
    refine Tot.step (fun k => spec_l10Reduce.l0.eq_2 ..) (Tot.yes (by omega) ?_)
    have hg := pk_step_good b ht hl
    have next := red_l0 b (by omega) (pk_step b t l).1 (pk_step b t l).2 hg.1 hg.2.1 (by omega) (by omega)
    have hge := idxOf_Packet_ge (pk_has b) l
    have hlt2 := pk_idx_lt (pk_has b) l
    refine red_l1 b (by omega) t l (by omega) (idxOf_Packet (pk_has b) l) _ ?_ l [] (-1) rfl hl ?_ (by omega)
    · show Tot _ (pk_rounds b (pk_step b t l).1 (pk_step b t l).2)
      by_cases c : idxOf_Packet (pk_has b) l < 0
      · refine Tot.yes c ?_
        have es : pk_step b t l = (t, l) := by unfold pk_step; rw [if_pos c]
        rw [es] at next ⊢
        rw [wrap_in (x := (b : Int) - 1) (by omega) (by omega)]
        exact next
      · refine Tot.no c (Tot.yes (by omega) (Tot.yes hlt2 ?_))
        have hx := goodP_rd (idxOf_Packet (pk_has b) l) (by omega) hlt2 hl
        have es : pk_step b t l = (t.map (pk_less b (rd_T112 l (idxOf_Packet (pk_has b) l))) ++ [rd_T112 l (idxOf_Packet (pk_has b) l)], (l.eraseIdx (idxOf_Packet (pk_has b) l).toNat).map (pk_less b (rd_T112 l (idxOf_Packet (pk_has b) l)))) := by unfold pk_step; rw [if_neg c]
        rw [es] at next ⊢
        obtain ⟨i, hi⟩ := Int.eq_ofNat_of_zero_le (show 0 ≤ idxOf_Packet (pk_has b) l by omega)
        rw [hi] at next hx ⊢
        rw [Int.toNat_natCast] at next ⊢
        generalize rd_T112 l (i : Int) = x at *
        have h3 := red_l3 b (by omega) x hx ((l.eraseIdx i).map (pk_less b x)) _ t [] ht (by simp; omega) (by rw [wrap_in (x := (b : Int) - 1) (by omega) (by omega)]; simpa using next)
        have h2 := red_l2 b (by omega) x hx i t l (by omega) _ (by simpa using h3) l [] rfl hl
        simpa using h2
    · rw [if_neg (by decide)]
      split <;> (try simp) <;> omega
theorem goodP_of {n : Int} {l : List Int} (hn : 1 ≤ n ∧ n ≤ 10) (h : ∀ x ∈ l, 0 ≤ x ∧ x ≤ hiM n) : goodP (l.map pkM) := by
  have hM : hiM n < 1024 := by
    have : n = 1 ∨ n = 2 ∨ n = 3 ∨ n = 4 ∨ n = 5 ∨ n = 6 ∨ n = 7 ∨ n = 8 ∨ n = 9 ∨ n = 10 := by omega
    rcases this with rfl | rfl | rfl | rfl | rfl | rfl | rfl | rfl | rfl | rfl <;> (unfold hiM shl IntKind.wrap wrap64; simp [IntKind.bits, IntKind.signed])
  intro y hy
  obtain ⟨z, hz, rfl⟩ := List.mem_map.1 hy
  have := h z hz
  exact ⟨rfl, this.1, by show z < 1024; omega⟩
theorem specRed_v (n : Int) (hn : 1 ≤ n ∧ n ≤ 10) (l : List S112) (hl : goodP l) (hll : (l.length : Int) ≤ 1000) : Tot (fun k => spec_l10Reduce.f k n l) (pk_rounds n.toNat [] l) := by
  unfold spec_l10Reduce.f
  refine Tot.some_bind (Tot.yes (by simp; omega) ?_)
  have := red_l0 n.toNat (by omega) [] l (fun y hy => by simp at hy) hl (by simp; omega) hll
  rw [wrap_in (x := n - 1) (by omega) (by omega)]
  rw [show ((n.toNat : Nat) : Int) - 1 = n - 1 by omega] at this
  exact this
theorem implRed_v (n : Int) (hn : 1 ≤ n ∧ n ≤ 10) (l : List S112) (hl : goodP l) (hll : (l.length : Int) ≤ 1000) : impl_reduce.f n l = some (pk_rounds n.toNat [] l) := by
  unfold impl_reduce.f
  rw [if_pos ⟨by omega, by omega, by omega, List.all_eq_true.2 fun y hy => decide_eq_true (by rw [(hl y hy).1]; rfl)⟩]
theorem specOf_l : ∀ (b a : List Int), ((a ++ b).length : Int) ≤ 1048576 → Tot (fun k => spec_l10Of.l0 k (a.map pkM) (a ++ b) ((a ++ b).length : Int) a.length) ((a ++ b).map pkM)
  | [], a, h => by
    refine Tot.step (fun k => spec_l10Of.l0.eq_2 ..) (Tot.no (by simp) ?_)
    simp only [List.append_nil]
    exact Tot.pure _
  | x :: b, a, h => by
    have hl : ((a ++ x :: b).length : Int) = a.length + b.length + 1 := by simp; omega
    have hr : rd (a ++ x :: b) (a.length : Int) = x := by simp [rd, List.getD]
    refine Tot.step (fun k => spec_l10Of.l0.eq_2 ..) (Tot.yes (by omega) (Tot.yes (by omega) (Tot.yes (by omega) (Tot.yes (by simp; omega) ?_))))
    rw [hr, wrap_in (x := (a.length : Int) + 1) (by omega) (by omega)]
    have := specOf_l b (a ++ [x]) (by simpa using h)
    simpa [pkM] using this
theorem specOf_v (l : List Int) (h : (l.length : Int) ≤ 1048576) : Tot (fun k => spec_l10Of.f k l) (l.map pkM) := by
  have := specOf_l l [] (by simpa using h)
  unfold spec_l10Of.f
  simpa using this
theorem implOf_l : ∀ (b a : List Int), ((a ++ b).length : Int) ≤ 1048576 → Tot (fun k => impl_packetsOf.l0 k (a.map pkM) (a ++ b) ((a ++ b).length : Int) a.length) ((a ++ b).map pkM)
  | [], a, h => by
    refine Tot.step (fun k => impl_packetsOf.l0.eq_2 ..) (Tot.no (by simp) ?_)
    simp only [List.append_nil]
    exact Tot.pure _
  | x :: b, a, h => by
    have hl : ((a ++ x :: b).length : Int) = a.length + b.length + 1 := by simp; omega
    have hr : rd (a ++ x :: b) (a.length : Int) = x := by simp [rd, List.getD]
    refine Tot.step (fun k => impl_packetsOf.l0.eq_2 ..) (Tot.yes (by omega) (Tot.yes (by omega) (Tot.yes (by omega) (Tot.yes (by simp; omega) ?_))))
    rw [hr, wrap_in (x := (a.length : Int) + 1) (by omega) (by omega)]
    have := implOf_l b (a ++ [x]) (by simpa using h)
    simpa [pkM] using this
theorem implOf_v (l : List Int) (h : (l.length : Int) ≤ 1048576) : Tot (fun k => impl_packetsOf.f k l) (l.map pkM) := by
  have := implOf_l l [] (by simpa using h)
  unfold impl_packetsOf.f
  simpa using this
def toldR (n : Int) (l : List Int) : List S112 := (pk_rounds n.toNat [] (l.map pkM)).1
theorem pk_rounds_len : ∀ (b : Nat) (t l : List S112), (pk_rounds b t l).1.length ≤ t.length + b
  | 0, t, l => Nat.le_refl _
  | b + 1, t, l => by
    have h := pk_rounds_len b (pk_step b t l).1 (pk_step b t l).2
    have h2 : (pk_step b t l).1.length ≤ t.length + 1 := by
      unfold pk_step
      split
      · exact Nat.le_succ _
      · simp
    show (pk_rounds b (pk_step b t l).1 (pk_step b t l).2).1.length ≤ t.length + (b + 1)
    omega
theorem specRank_v (n : Int) (hn : 1 ≤ n ∧ n ≤ 10) (l : List Int) (h : ∀ x ∈ l, 0 ≤ x ∧ x ≤ hiM n) (hll : (l.length : Int) ≤ 1000) : Tot (fun k => spec_l10Rank.f k n l) ((toldR n l).length : Int) := by
  unfold spec_l10Rank.f
  exact Tot.bind (specOf_v l (by omega)) (Tot.bind (specRed_v n hn _ (goodP_of hn h) (by simpa using hll)) (Tot.pure _))
theorem implReduced_v (n : Int) (hn : 1 ≤ n ∧ n ≤ 10) (l : List Int) (h : ∀ x ∈ l, 0 ≤ x ∧ x ≤ hiM n) (hll : (l.length : Int) ≤ 1000) : Tot (fun k => impl_reduced.f k n l) ((toldR n l).map (·.f0)) := by
  unfold impl_reduced.f
  refine Tot.bind (implOf_v l (by omega)) ?_
  have hlen := pk_rounds_len n.toNat [] (l.map pkM)
  simp only [implRed_v n hn _ (goodP_of hn h) (by simpa using hll), Option.bind_some]
  exact Tot.bind (parted_v _ (by simp at hlen; omega)) (Tot.pure _)
theorem masksB_of {n : Int} {l : List Int} (h : masksB n l = true) : (1 ≤ n ∧ n ≤ 10) ∧ (l.length : Int) ≤ 20 ∧ ∀ x ∈ l, 0 ≤ x ∧ x ≤ hiM n := by
  unfold masksB at h
  simp only [Bool.and_eq_true, decide_eq_true_eq, List.all_eq_true] at h
  exact ⟨h.1, h.2.1, h.2.2⟩

def gN (a : Nat) (ts : List Nat) : Nat := ts.foldl (fun a t => if a ^^^ t < a then a ^^^ t else a) a
def val (y : S112) : Nat := y.f0.toNat
theorem top_bit {y i : Nat} (h0 : 2 ^ i ≤ y) (h1 : y < 2 ^ (i + 1)) : y.testBit i = true := by
  have hp : 0 < 2 ^ i := Nat.two_pow_pos i
  have h2 : y / 2 ^ i = 1 := by
    apply Nat.div_eq_of_lt_le
    · omega
    · rw [Nat.pow_succ] at h1; omega
  rw [Nat.testBit_eq_decide_div_mod_eq, h2]
  rfl
theorem no_bit {y i j : Nat} (h : y < 2 ^ i) (hj : i ≤ j) : y.testBit j = false := Nat.testBit_lt_two_pow (Nat.lt_of_lt_of_le h (Nat.pow_le_pow_right (by decide) hj))
theorem lt_bit {x y i : Nat} (hx : x.testBit i = false) (hy : y.testBit i = true) (h : ∀ j, i < j → x.testBit j = y.testBit j) : x < y := by
  have e : x / 2 ^ (i + 1) = y / 2 ^ (i + 1) := by
    apply Nat.eq_of_testBit_eq
    intro j
    rw [Nat.testBit_div_two_pow, Nat.testBit_div_two_pow]
    exact h _ (by omega)
  rw [Nat.pow_succ, ← Nat.div_div_eq_div_mul, ← Nat.div_div_eq_div_mul] at e
  rw [Nat.testBit_eq_decide_div_mod_eq] at hx hy
  have hx' : ¬ x / 2 ^ i % 2 = 1 := of_decide_eq_false hx
  have hy' : y / 2 ^ i % 2 = 1 := of_decide_eq_true hy
  rcases Nat.lt_or_ge x y with hl | hl
  · exact hl
  · have := Nat.div_le_div_right (c := 2 ^ i) hl
    omega
theorem xor_dec {a y i : Nat} (h0 : 2 ^ i ≤ y) (h1 : y < 2 ^ (i + 1)) : (a ^^^ y < a) ↔ a.testBit i = true := by
  have hb := top_bit h0 h1
  have hj : ∀ j, i < j → (a ^^^ y).testBit j = a.testBit j := fun j hj => by rw [Nat.testBit_xor, no_bit h1 hj, Bool.xor_false]
  cases c : a.testBit i with
  | true => exact ⟨fun _ => rfl, fun _ => lt_bit (by rw [Nat.testBit_xor, c, hb]; rfl) c hj⟩
  | false =>
    have : a < a ^^^ y := lt_bit c (by rw [Nat.testBit_xor, c, hb]; rfl) (fun j h => (hj j h).symm)
    exact ⟨fun h => by omega, fun h => by cases h⟩
theorem xor_big {a x i : Nat} (hx : x < 2 ^ i) (ha : 2 ^ i ≤ a) : 2 ^ i ≤ a ^^^ x := by
  rcases Nat.lt_or_ge (a ^^^ x) (2 ^ i) with h | h
  · have h2 : (a ^^^ x) ^^^ x < 2 ^ i := Nat.xor_lt_two_pow h hx
    rw [Nat.xor_assoc, Nat.xor_self, Nat.xor_zero] at h2
    omega
  · exact h
theorem xor_small {y x i : Nat} (hy : y < 2 ^ (i + 1)) (hx : x < 2 ^ (i + 1)) (by_ : y.testBit i = true) (bx : x.testBit i = true) : y ^^^ x < 2 ^ i := by
  apply Nat.lt_pow_two_of_testBit
  intro j hj
  rw [Nat.testBit_xor]
  rcases Nat.lt_or_eq_of_le hj with h | h
  · rw [no_bit hy h, no_bit hx h]; rfl
  · rw [← h, by_, bx]; rfl
theorem low_of {y i : Nat} (hy : y < 2 ^ (i + 1)) (hb : y.testBit i = false) : y < 2 ^ i := by
  rcases Nat.lt_or_ge y (2 ^ i) with h | h
  · exact h
  · rw [top_bit h hy] at hb; cases hb
theorem top_of {y i : Nat} (hb : y.testBit i = true) : 2 ^ i ≤ y := Nat.ge_two_pow_of_testBit hb
def hasTop (k : Nat) (y : S112) : Prop := ∃ i, k ≤ i ∧ 2 ^ i ≤ val y ∧ val y < 2 ^ (i + 1)
theorem val_less {k : Nat} (hk : k ≤ 64) {x y : S112} (hx : x.f1 = ⟨#[]⟩ ∧ 0 ≤ x.f0 ∧ x.f0 < 1024) (hy : y.f1 = ⟨#[]⟩ ∧ 0 ≤ y.f0 ∧ y.f0 < 1024) : val (pk_less k x y) = if (val y).testBit k = true then val y ^^^ val x else val y := by
  unfold pk_less
  rw [pk_hasb hy.2 k hk]
  show val _ = if y.f0.toNat.testBit k = true then val y ^^^ val x else val y
  split
  · obtain ⟨a, ha⟩ := Int.eq_ofNat_of_zero_le hy.2.1
    obtain ⟨b, hb⟩ := Int.eq_ofNat_of_zero_le hx.2.1
    have h1 := hy.2.2
    have h2 := hx.2.2
    show (Go.bits .xor .i64 y.f0 x.f0).toNat = y.f0.toNat ^^^ x.f0.toNat
    rw [ha, hb, pk_xor a b (by omega) (by omega)]
    rfl
  · rfl
structure Inv (k : Nat) (t l : List S112) : Prop where
  gt : goodP t
  gl : goodP l
  bl : ∀ y ∈ l, val y < 2 ^ k
  bt : ∀ y ∈ t, hasTop k y
theorem less_top {k : Nat} (hk : k ≤ 64) {x y : S112} (hx : x.f1 = ⟨#[]⟩ ∧ 0 ≤ x.f0 ∧ x.f0 < 1024) (hy : y.f1 = ⟨#[]⟩ ∧ 0 ≤ y.f0 ∧ y.f0 < 1024) (bx : val x < 2 ^ (k + 1)) {i : Nat} (hi : k + 1 ≤ i) (h0 : 2 ^ i ≤ val y) (h1 : val y < 2 ^ (i + 1)) : 2 ^ i ≤ val (pk_less k x y) ∧ val (pk_less k x y) < 2 ^ (i + 1) := by
  rw [val_less hk hx hy]
  have hx2 : val x < 2 ^ i := Nat.lt_of_lt_of_le bx (Nat.pow_le_pow_right (by decide) hi)
  split
  · exact ⟨xor_big hx2 h0, Nat.xor_lt_two_pow h1 (Nat.lt_of_lt_of_le hx2 (Nat.pow_le_pow_right (by decide) (by omega)))⟩
  · exact ⟨h0, h1⟩
theorem less_low {k : Nat} (hk : k ≤ 64) {x y : S112} (hx : x.f1 = ⟨#[]⟩ ∧ 0 ≤ x.f0 ∧ x.f0 < 1024) (hy : y.f1 = ⟨#[]⟩ ∧ 0 ≤ y.f0 ∧ y.f0 < 1024) (bx : val x < 2 ^ (k + 1)) (hbx : (val x).testBit k = true) (by_ : val y < 2 ^ (k + 1)) : val (pk_less k x y) < 2 ^ k := by
  rw [val_less hk hx hy]
  split
  · next c => exact xor_small by_ bx c hbx
  · next c => exact low_of by_ (by simpa using c)
theorem inv_step {k : Nat} (hk : k ≤ 64) {t l : List S112} (h : Inv (k + 1) t l) {x : S112} (hxl : x ∈ l) (hb : (val x).testBit k = true) (i : Nat) : Inv k (t.map (pk_less k x) ++ [x]) ((l.eraseIdx i).map (pk_less k x)) := by
  have hx := h.gl x hxl
  have bx := h.bl x hxl
  refine ⟨fun y hy => ?_, goodP_map _ (goodP_erase _ h.gl) hx, fun y hy => ?_, fun y hy => ?_⟩
  · rcases List.mem_append.1 hy with hm | hm
    · exact goodP_map _ h.gt hx y hm
    · rw [List.mem_singleton.1 hm]; exact hx
  · obtain ⟨z, hz, rfl⟩ := List.mem_map.1 hy
    have hz2 := List.mem_of_mem_eraseIdx hz
    exact less_low hk hx (h.gl z hz2) bx hb (h.bl z hz2)
  · rcases List.mem_append.1 hy with hm | hm
    · obtain ⟨z, hz, rfl⟩ := List.mem_map.1 hm
      obtain ⟨j, hj, h0, h1⟩ := h.bt z hz
      obtain ⟨q0, q1⟩ := less_top hk hx (h.gt z hz) bx hj h0 h1
      exact ⟨j, by omega, q0, q1⟩
    · rw [List.mem_singleton.1 hm]
      exact ⟨k, Nat.le_refl _, top_of hb, bx⟩
theorem inv_none {k : Nat} {t l : List S112} (h : Inv (k + 1) t l) (hn : ∀ y ∈ l, (val y).testBit k = false) : Inv k t l :=
  ⟨h.gt, h.gl, fun y hy => low_of (h.bl y hy) (hn y hy), fun y hy => by obtain ⟨j, hj, q⟩ := h.bt y hy; exact ⟨j, by omega, q⟩⟩
theorem g_map {k : Nat} (hk : k ≤ 64) {x : S112} (hx : x.f1 = ⟨#[]⟩ ∧ 0 ≤ x.f0 ∧ x.f0 < 1024) (bx : val x < 2 ^ (k + 1)) : ∀ (t : List S112) (a b : Nat), goodP t → (∀ y ∈ t, hasTop (k + 1) y) → (b = a ∨ b = a ^^^ val x) → (gN b ((t.map (pk_less k x)).map val) = gN a (t.map val) ∨ gN b ((t.map (pk_less k x)).map val) = gN a (t.map val) ^^^ val x)
  | [], a, b, _, _, h => h
  | y :: t, a, b, hg, ht, h => by
    obtain ⟨i, hi, h0, h1⟩ := ht y (by simp)
    have hy := hg y (by simp)
    obtain ⟨q0, q1⟩ := less_top hk hx hy bx hi h0 h1
    have d1 := xor_dec (a := a) h0 h1
    have d2 := xor_dec (a := b) q0 q1
    have hv := val_less hk hx hy
    have hxb : (val x).testBit i = false := no_bit bx hi
    have hab : b.testBit i = a.testBit i := by
      rcases h with rfl | rfl
      · rfl
      · rw [Nat.testBit_xor, hxb, Bool.xor_false]
    have next := fun (a b : Nat) => g_map hk hx bx t a b (fun z hz => hg z (by simp [hz])) (fun z hz => ht z (by simp [hz]))
    show gN (if b ^^^ val (pk_less k x y) < b then b ^^^ val (pk_less k x y) else b) ((t.map (pk_less k x)).map val) = gN (if a ^^^ val y < a then a ^^^ val y else a) (t.map val) ∨ gN (if b ^^^ val (pk_less k x y) < b then b ^^^ val (pk_less k x y) else b) ((t.map (pk_less k x)).map val) = gN (if a ^^^ val y < a then a ^^^ val y else a) (t.map val) ^^^ val x
    cases c : a.testBit i with
    | true =>
      rw [if_pos (d1.2 c), if_pos (d2.2 (hab.trans c))]
      apply next
      have e1 : ∀ p q r : Nat, (p ^^^ q) ^^^ r = (p ^^^ r) ^^^ q := fun p q r => by rw [Nat.xor_assoc, Nat.xor_assoc, Nat.xor_comm q r]
      have e2 : ∀ p q r : Nat, (p ^^^ q) ^^^ (r ^^^ q) = p ^^^ r := fun p q r => by rw [e1, ← Nat.xor_assoc, Nat.xor_assoc, Nat.xor_self, Nat.xor_zero]
      rw [hv]
      rcases h with rfl | rfl
      · split
        · right; rw [Nat.xor_assoc]
        · left; rfl
      · split
        · left; exact e2 ..
        · right; exact e1 ..
    | false =>
      have n1 : ¬ a ^^^ val y < a := fun hh => by rw [d1.1 hh] at c; cases c
      have n2 : ¬ b ^^^ val (pk_less k x y) < b := fun hh => by rw [← hab, d2.1 hh] at c; cases c
      rw [if_neg n1, if_neg n2]
      exact next _ _ h
theorem gN_snoc (a : Nat) (ts : List Nat) (x : Nat) : gN a (ts ++ [x]) = if gN a ts ^^^ x < gN a ts then gN a ts ^^^ x else gN a ts := by
  unfold gN
  rw [List.foldl_append]
  rfl
/-- One more row: what is left of a mask is left of it behind the step. -/
theorem g_step {k : Nat} (hk : k ≤ 64) {x : S112} (hx : x.f1 = ⟨#[]⟩ ∧ 0 ≤ x.f0 ∧ x.f0 < 1024) (bx : val x < 2 ^ (k + 1)) (hb : (val x).testBit k = true) (t : List S112) (hg : goodP t) (ht : ∀ y ∈ t, hasTop (k + 1) y) (m : Nat) :
    gN m ((t.map (pk_less k x) ++ [x]).map val) = if (gN m (t.map val)).testBit k = true then gN m (t.map val) ^^^ val x else gN m (t.map val) := by
  have h := g_map hk hx bx t m m hg ht (Or.inl rfl)
  rw [List.map_append]
  show gN m ((t.map (pk_less k x)).map val ++ [val x]) = _
  rw [gN_snoc]
  generalize gN m ((t.map (pk_less k x)).map val) = b at *
  generalize gN m (t.map val) = a at *
  have d := xor_dec (a := b) (top_of hb) bx
  rcases h with rfl | rfl
  · by_cases c : b.testBit k = true
    · rw [if_pos (d.2 c), if_pos c]
    · rw [if_neg (fun hh => c (d.1 hh)), if_neg c]
  · have e : (a ^^^ val x) ^^^ val x = a := by rw [Nat.xor_assoc, Nat.xor_self, Nat.xor_zero]
    have hf : (a ^^^ val x).testBit k = !a.testBit k := by rw [Nat.testBit_xor, hb, Bool.xor_true]
    rw [e] at d ⊢
    rw [hf] at d
    by_cases c : a.testBit k = true
    · rw [if_pos c, if_neg (fun hh => by have := d.1 hh; rw [c] at this; cases this)]
    · rw [if_neg c, if_pos (d.2 (by simpa using c))]
theorem idx_none {p : S112 → Bool} : ∀ {l : List S112}, idxOf_Packet p l < 0 → ∀ y ∈ l, p y = false
  | [], _, y, hy => by simp at hy
  | x :: l, h, y, hy => by
    have hge := idxOf_Packet_ge p l
    rw [idxOf_Packet] at h
    by_cases c : p x = true
    · rw [if_pos c] at h; omega
    · rw [if_neg c] at h
      by_cases c2 : idxOf_Packet p l = -1
      · rcases List.mem_cons.1 hy with rfl | hm
        · simpa using c
        · exact idx_none (by omega) y hm
      · rw [if_neg c2] at h; omega
theorem idx_has {p : S112 → Bool} : ∀ {l : List S112}, 0 ≤ idxOf_Packet p l → p (rd_T112 l (idxOf_Packet p l)) = true
  | [], h => by simp [idxOf_Packet] at h
  | x :: l, h => by
    have hge := idxOf_Packet_ge p l
    rw [idxOf_Packet] at h ⊢
    by_cases c : p x = true
    · rw [if_pos c]; exact c
    · rw [if_neg c] at h ⊢
      by_cases c2 : idxOf_Packet p l = -1
      · rw [if_pos c2] at h; omega
      · rw [if_neg c2] at h ⊢
        have := idx_has (p := p) (l := l) (by omega)
        obtain ⟨n, hn⟩ := Int.eq_ofNat_of_zero_le (show 0 ≤ idxOf_Packet p l by omega)
        rw [hn] at this ⊢
        have e : rd_T112 (x :: l) ((n : Int) + 1) = rd_T112 l (n : Int) := by
          unfold rd_T112
          rw [show ((n : Int) + 1).toNat = n + 1 by omega, Int.toNat_natCast]
          rfl
        rw [e]
        exact this
theorem idx_snoc {p : S112 → Bool} (m : S112) : ∀ (l : List S112), idxOf_Packet p (l ++ [m]) = if idxOf_Packet p l < 0 then (if p m = true then (l.length : Int) else -1) else idxOf_Packet p l
  | [] => by
    show (if p m = true then (0 : Int) else if (-1 : Int) = -1 then -1 else -1 + 1) = _
    simp [idxOf_Packet]
  | x :: l => by
    have ih := idx_snoc (p := p) m l
    have hge := idxOf_Packet_ge p l
    rw [List.cons_append, idxOf_Packet, idxOf_Packet, ih]
    by_cases c : p x = true
    · simp [c]
    · rw [if_neg c, if_neg c]
      by_cases c2 : idxOf_Packet p l < 0
      · have c3 : idxOf_Packet p l = -1 := by omega
        by_cases c4 : p m = true
        · simp only [if_pos c2, if_pos c3, if_pos c4]
          rw [if_neg (by omega), if_pos (by decide)]
          simp
        · simp only [if_pos c2, if_pos c3, if_neg c4]
          rw [if_pos trivial, if_pos (by decide)]
      · have c3 : ¬ idxOf_Packet p l = -1 := by omega
        rw [if_neg c2, if_neg c3, if_neg (by omega)]
theorem has_val {y : S112} (hy : y.f1 = ⟨#[]⟩ ∧ 0 ≤ y.f0 ∧ y.f0 < 1024) (k : Nat) (hk : k ≤ 64) : pk_has k y = (val y).testBit k := pk_hasb hy.2 k hk
theorem rounds2 : ∀ (k : Nat), k ≤ 64 → ∀ (t t2 l : List S112) (m : Nat), Inv k t l → t2.length = t.length + 1 → 2 ^ k ≤ gN m (t.map val) → (pk_rounds k t2 l).1.length = (pk_rounds k t l).1.length + 1 ∧ 1 ≤ gN m ((pk_rounds k t l).1.map val)
  | 0, _, t, t2, l, m, _, h2, hm => ⟨h2, hm⟩
  | k + 1, hk, t, t2, l, m, hi, h2, hm => by
    have hp : (2 : Nat) ^ k ≤ 2 ^ (k + 1) := Nat.pow_le_pow_right (by decide) (by omega)
    show (pk_rounds k (pk_step k t2 l).1 (pk_step k t2 l).2).1.length = (pk_rounds k (pk_step k t l).1 (pk_step k t l).2).1.length + 1 ∧ 1 ≤ gN m ((pk_rounds k (pk_step k t l).1 (pk_step k t l).2).1.map val)
    unfold pk_step
    by_cases c : idxOf_Packet (pk_has k) l < 0
    · rw [if_pos c, if_pos c]
      have hn := idx_none c
      exact rounds2 k (by omega) t t2 l m (inv_none hi (fun y hy => by rw [← has_val (hi.gl y hy) k (by omega)]; exact hn y hy)) h2 (by omega)
    · rw [if_neg c, if_neg c]
      have hx := idx_has (p := pk_has k) (l := l) (by omega)
      have hlt := pk_idx_lt (pk_has k) l
      obtain ⟨i, hin⟩ := Int.eq_ofNat_of_zero_le (show 0 ≤ idxOf_Packet (pk_has k) l by omega)
      rw [hin] at hx hlt ⊢
      rw [Int.toNat_natCast]
      have hxl := pk_mem l i (by omega)
      generalize rd_T112 l (i : Int) = x at *
      have hgx := hi.gl x hxl
      have hbx := hi.bl x hxl
      rw [has_val hgx k (by omega)] at hx
      refine rounds2 k (by omega) _ _ _ m (inv_step (by omega) hi hxl hx i) (by simp; omega) ?_
      rw [g_step (by omega) hgx hbx hx t hi.gt hi.bt m]
      have hb2 := xor_big hbx hm
      split <;> omega
theorem rounds1 : ∀ (k : Nat), k ≤ 64 → ∀ (t l : List S112) (x : S112) (m : Nat), Inv k t l → (x.f1 = ⟨#[]⟩ ∧ 0 ≤ x.f0 ∧ x.f0 < 1024) → val x < 2 ^ k → gN m (t.map val) = val x → ((pk_rounds k t (l ++ [x])).1.length = (pk_rounds k t l).1.length ↔ gN m ((pk_rounds k t l).1.map val) = 0)
  | 0, _, t, l, x, m, _, _, hx, hm => ⟨fun _ => by show gN m (t.map val) = 0; rw [hm]; omega, fun _ => rfl⟩
  | k + 1, hk, t, l, x, m, hi, hgx, hx, hm => by
    show ((pk_rounds k (pk_step k t (l ++ [x])).1 (pk_step k t (l ++ [x])).2).1.length = (pk_rounds k (pk_step k t l).1 (pk_step k t l).2).1.length ↔ gN m ((pk_rounds k (pk_step k t l).1 (pk_step k t l).2).1.map val) = 0)
    unfold pk_step
    rw [idx_snoc]
    by_cases c : idxOf_Packet (pk_has k) l < 0
    · have hn := idx_none c
      have hn2 : ∀ y ∈ l, (val y).testBit k = false := fun y hy => by rw [← has_val (hi.gl y hy) k (by omega)]; exact hn y hy
      have hi2 := inv_none hi hn2
      rw [if_pos c, if_pos c]
      by_cases c2 : pk_has k x = true
      · rw [if_pos c2, if_neg (show ¬ (l.length : Int) < 0 by omega), Int.toNat_natCast]
        have e1 : rd_T112 (l ++ [x]) (l.length : Int) = x := rdIPacket_at l [] x
        have e2 : (l ++ [x]).eraseIdx l.length = l := by
          rw [List.eraseIdx_append_of_length_le (Nat.le_refl _), Nat.sub_self]
          simp
        have e3 : l.map (pk_less k x) = l := by
          rw [List.map_congr_left (g := id) (fun y hy => by unfold pk_less; rw [if_neg (by rw [hn y hy]; simp)]; rfl)]
          simp
        rw [e1, e2, e3]
        have hb : (val x).testBit k = true := by rw [← has_val hgx k (by omega)]; exact c2
        obtain ⟨q1, q2⟩ := rounds2 k (by omega) t (t.map (pk_less k x) ++ [x]) l m hi2 (by simp) (by rw [hm]; exact top_of hb)
        constructor
        · intro h
          have h' : (pk_rounds k (t.map (pk_less k x) ++ [x]) l).1.length = (pk_rounds k t l).1.length := h
          omega
        · intro h
          have h' : gN m ((pk_rounds k t l).1.map val) = 0 := h
          omega
      · rw [if_neg c2, if_pos (by decide)]
        have hb : (val x).testBit k = false := by rw [← has_val hgx k (by omega)]; simpa using c2
        exact rounds1 k (by omega) t l x m hi2 hgx (low_of hx hb) hm
    · rw [if_neg c, if_neg c, if_neg c]
      have hp := idx_has (p := pk_has k) (l := l) (by omega)
      have hlt := pk_idx_lt (pk_has k) l
      obtain ⟨i, hin⟩ := Int.eq_ofNat_of_zero_le (show 0 ≤ idxOf_Packet (pk_has k) l by omega)
      rw [hin] at hp hlt ⊢
      rw [Int.toNat_natCast]
      have hyl := pk_mem l i (by omega)
      have e1 : rd_T112 (l ++ [x]) (i : Int) = rd_T112 l (i : Int) := pk_rd (List.getElem?_append_left (by omega))
      have e2 : (l ++ [x]).eraseIdx i = l.eraseIdx i ++ [x] := List.eraseIdx_append_of_lt_length (by omega) _
      rw [e1, e2, List.map_append]
      generalize rd_T112 l (i : Int) = y at *
      have hgy := hi.gl y hyl
      have hby := hi.bl y hyl
      rw [has_val hgy k (by omega)] at hp
      refine rounds1 k (by omega) _ _ (pk_less k y x) m (inv_step (by omega) hi hyl hp i) (pk_less_good _ hgx hgy) (less_low (by omega) hgy hgx hby hp hx) ?_
      rw [g_step (by omega) hgy hby hp t hi.gt hi.bt m, hm, val_less (by omega) hgy hgx]
def grI (m : Int) (ts : List Int) : Int := ts.foldl (fun m t => if Go.bits .xor .i64 m t < m then Go.bits .xor .i64 m t else m) m
theorem grI_nat : ∀ (ts : List S112) (a : Nat), a < 1024 → goodP ts → grI a (ts.map (·.f0)) = ((gN a (ts.map val) : Nat) : Int)
  | [], a, _, _ => rfl
  | y :: ts, a, ha, hg => by
    have hy := hg y (by simp)
    have hyv : y.f0 = ((val y : Nat) : Int) := by unfold val; omega
    have hv : val y < 1024 := by have := hy.2.2; omega
    have hx : a ^^^ val y < 1024 := Nat.xor_lt_two_pow (n := 10) ha hv
    have next := fun (b : Nat) (hb : b < 1024) => grI_nat ts b hb (fun z hz => hg z (by simp [hz]))
    show grI (if Go.bits .xor .i64 (a : Int) y.f0 < (a : Int) then Go.bits .xor .i64 (a : Int) y.f0 else (a : Int)) (ts.map (·.f0)) = ((gN (if a ^^^ val y < a then a ^^^ val y else a) (ts.map val) : Nat) : Int)
    rw [hyv, pk_xor a (val y) ha hv]
    by_cases c : a ^^^ val y < a
    · rw [if_pos c, if_pos (by omega)]; exact next _ hx
    · rw [if_neg c, if_neg (by omega)]; exact next _ ha
theorem span_l (L : List Int) (hL : (L.length : Int) ≤ 1048576) : ∀ (rest a : List Int) (m : Int), a ++ rest = L → Tot (fun k => impl_InSpan.l0 k m L (L.length : Int) a.length) (grI m rest == 0, true)
  | [], a, m, ha => by
    simp only [List.append_nil] at ha
    subst ha
    exact Tot.step (fun k => impl_InSpan.l0.eq_2 ..) (Tot.no (by omega) (Tot.pure _))
  | y :: rest, a, m, ha => by
    have hl : (L.length : Int) = a.length + rest.length + 1 := by rw [← ha]; simp; omega
    have hr : rd L (a.length : Int) = y := by rw [← ha]; simp [rd, List.getD]
    refine Tot.step (fun k => impl_InSpan.l0.eq_2 ..) (Tot.yes (by omega) (Tot.yes (by omega) (Tot.yes (by omega) ?_)))
    rw [hr, wrap_in (x := (a.length : Int) + 1) (by omega) (by omega)]
    have next := fun (q : Int) => span_l L hL rest (a ++ [y]) q (by simpa using ha)
    have en : (((a ++ [y]).length : Nat) : Int) = (a.length : Int) + 1 := by simp
    rw [en] at next
    show Tot _ (grI (if Go.bits .xor .i64 m y < m then Go.bits .xor .i64 m y else m) rest == 0, true)
    by_cases c : Go.bits .xor .i64 m y < m
    · rw [if_pos c]; exact Tot.yes c (next _)
    · rw [if_neg c]; exact Tot.no c (next _)
theorem hiM_pow {n : Int} (hn : 1 ≤ n ∧ n ≤ 10) {x : Int} (h : 0 ≤ x ∧ x ≤ hiM n) : x.toNat < 2 ^ n.toNat := by
  have e : hiM n = ((2 ^ n.toNat : Nat) : Int) - 1 := by
    have : n = 1 ∨ n = 2 ∨ n = 3 ∨ n = 4 ∨ n = 5 ∨ n = 6 ∨ n = 7 ∨ n = 8 ∨ n = 9 ∨ n = 10 := by omega
    rcases this with rfl | rfl | rfl | rfl | rfl | rfl | rfl | rfl | rfl | rfl <;> (unfold hiM shl IntKind.wrap wrap64; simp [IntKind.bits, IntKind.signed])
  omega
theorem told_good : ∀ (b : Nat) (t l : List S112), goodP t → goodP l → goodP (pk_rounds b t l).1
  | 0, t, l, ht, _ => ht
  | b + 1, t, l, ht, hl => told_good b _ _ (pk_step_good b ht hl).1 (pk_step_good b ht hl).2.1
theorem span_eq (n : Int) (hn : 1 ≤ n ∧ n ≤ 10) (l : List Int) (h : ∀ x ∈ l, 0 ≤ x ∧ x ≤ hiM n) (m : Int) (hm : 0 ≤ m ∧ m ≤ hiM n) :
    ((((toldR n (l ++ [m])).length : Int) == ((toldR n l).length : Int))) = (grI m ((toldR n l).map (·.f0)) == 0) := by
  have hg := goodP_of hn h
  have hgm : (pkM m).f1 = ⟨#[]⟩ ∧ 0 ≤ (pkM m).f0 ∧ (pkM m).f0 < 1024 := goodP_of (l := [m]) hn (fun x hx => by rw [List.mem_singleton.1 hx]; exact hm) (pkM m) (by simp)
  have hI : Inv n.toNat [] (l.map pkM) := ⟨fun y hy => by simp at hy, hg, fun y hy => by
    obtain ⟨z, hz, rfl⟩ := List.mem_map.1 hy
    exact hiM_pow hn (h z hz), fun y hy => by simp at hy⟩
  have hR := rounds1 n.toNat (by omega) [] (l.map pkM) (pkM m) m.toNat hI hgm (hiM_pow hn hm) rfl
  have hm2 : m < 1024 := hgm.2.2
  have hN := grI_nat (toldR n l) m.toNat (by omega) (told_good _ _ _ (fun y hy => by simp at hy) hg)
  rw [show ((m.toNat : Nat) : Int) = m by omega] at hN
  rw [hN]
  have e : toldR n (l ++ [m]) = (pk_rounds n.toNat [] (l.map pkM ++ [pkM m])).1 := by unfold toldR; rw [List.map_append]; rfl
  rw [e, Bool.eq_iff_iff, beq_iff_eq, beq_iff_eq]
  constructor
  · intro hh
    have := hR.1 (by exact_mod_cast hh)
    exact_mod_cast this
  · intro hh
    have := hR.2 (by exact_mod_cast hh)
    exact_mod_cast this
def spanR (n : Int) (l : List Int) (m : Int) : Bool × Bool := if masksB n l = true ∧ (0 ≤ m ∧ m ≤ hiM n) then (grI m ((toldR n l).map (·.f0)) == 0, true) else (false, false)
theorem specSpan_v (n : Int) (l : List Int) (m : Int) : Tot (fun k => spec_InSpan.f k n l m) (spanR n l m) := by
  unfold spec_InSpan.f
  refine Tot.bind (specMasks_v n l) ?_
  by_cases c : masksB n l = true
  · obtain ⟨hn, hl, hx⟩ := masksB_of c
    refine Tot.yes c ?_
    simp only [in_v, Option.bind_some]
    rw [u64_small hn]
    refine Tot.yes (by omega) ?_
    show Tot (fun k => spec_InSpan.j0 k n l m (!decide (0 ≤ m ∧ m ≤ hiM n))) _
    by_cases c2 : 0 ≤ m ∧ m ≤ hiM n
    · have e : spanR n l m = (grI m ((toldR n l).map (·.f0)) == 0, true) := if_pos ⟨c, c2⟩
      rw [e, ← span_eq n hn l hx m c2, decide_eq_true c2]
      refine Tot.step (fun k => spec_InSpan.j0.eq_2 ..) (Tot.no (by decide) (Tot.some_bind (Tot.yes (by simp; omega) (Tot.some_bind (Tot.yes (by simp; omega) ?_)))))
      simp only [List.nil_append]
      refine Tot.bind (specRank_v n hn (l ++ [m]) (fun x hx' => ?_) (by simp; omega)) (Tot.bind (specRank_v n hn l hx (by omega)) (Tot.pure _))
      rcases List.mem_append.1 hx' with h | h
      · exact hx x h
      · rw [List.mem_singleton.1 h]; exact c2
    · have e : spanR n l m = (false, false) := if_neg (fun hh => c2 hh.2)
      rw [e, decide_eq_false c2]
      exact Tot.step (fun k => spec_InSpan.j0.eq_2 ..) (Tot.yes rfl (Tot.pure _))
  · have e : spanR n l m = (false, false) := if_neg (fun hh => c hh.1)
    rw [e]
    exact Tot.no c (Tot.step (fun k => spec_InSpan.j0.eq_2 ..) (Tot.yes rfl (Tot.pure _)))
theorem implSpan_v (n : Int) (l : List Int) (m : Int) : Tot (fun k => impl_InSpan.f k n l m) (spanR n l m) := by
  unfold impl_InSpan.f
  simp only [implMasks_v, Option.bind_some]
  by_cases c : masksB n l = true
  · obtain ⟨hn, hl, hx⟩ := masksB_of c
    refine Tot.yes c ?_
    simp only [implMask_v n m (by omega), Option.bind_some]
    by_cases c2 : 0 ≤ m ∧ m ≤ hiM n
    · have e : spanR n l m = (grI m ((toldR n l).map (·.f0)) == 0, true) := if_pos ⟨c, c2⟩
      rw [e, decide_eq_true c2]
      refine Tot.step (fun k => impl_InSpan.j0.eq_2 ..) (Tot.no (by decide) (Tot.bind (implReduced_v n hn l hx (by omega)) ?_))
      have hlen := pk_rounds_len n.toNat [] (l.map pkM)
      have h1 : (((toldR n l).map (·.f0)).length : Int) ≤ 1048576 := by unfold toldR; simp at hlen ⊢; omega
      have := span_l ((toldR n l).map (·.f0)) h1 ((toldR n l).map (·.f0)) [] m rfl
      exact this
    · have e : spanR n l m = (false, false) := if_neg (fun hh => c2 hh.2)
      rw [e, decide_eq_false c2]
      exact Tot.step (fun k => impl_InSpan.j0.eq_2 ..) (Tot.yes rfl (Tot.pure _))
  · have e : spanR n l m = (false, false) := if_neg (fun hh => c hh.1)
    rw [e]
    exact Tot.no c (Tot.step (fun k => impl_InSpan.j0.eq_2 ..) (Tot.yes rfl (Tot.pure _)))
theorem FnExactInSpan : laws_FnExactInSpan.Pure := by
  intro n l m _ _ _ _ _
  refine Tot.at_ ?_
  unfold laws_FnExactInSpan.f
  by_cases hz : (l.length : Int) > 1048576
  · exact Tot.yes hz (Tot.pure _)
  · have toV := toInt_v l (by omega)
    refine Tot.no hz (Tot.bind toV (Tot.bind (specSpan_v n l m) (Tot.bind toV (Tot.bind (implSpan_v n l m) (Tot.no (by simp) ?_)))))
    refine Tot.step (fun k => laws_FnExactInSpan.j0.eq_2 ..) (Tot.no (by simp) ?_)
    exact Tot.bind toV (Tot.bind (eqInt_v l (by omega)) (Tot.yes rfl (Tot.pure _)))

end Go.Proofs.Ytleklbmodelehaa.Pure

/- The plain law behind FnExactRankOf: what the two sides compute is the same, for every input. No condition. -/
import Derived.Test.YtleklbmodelehaaPFnExactRankOfx6
set_option linter.unusedVariables false
set_option linter.unusedSimpArgs false
namespace Go.Proofs.Ytleklbmodelehaa.Pure
open Go.RowKit Go.Proofs.Ytleklbmodelehaa.PFnExactRankOf Go.Proofs.YtleklbmodelehaaW.PrintWords Go.Proofs.YtleklbmodelehaaW.PrintLast Go.Proofs.YtleklbmodelehaaW.PrintMore

theorem wrap_in {x : Int} (h0 : -9223372036854775808 ≤ x) (h1 : x ≤ 9223372036854775807) : wrap64 x = x := by unfold wrap64; omega
theorem wf_in {x : Int} (h : (Lit.int .i64 x).wf = true) : -9223372036854775808 ≤ x ∧ x ≤ 9223372036854775807 := by
  simp only [Lit.wf, IntKind.min, IntKind.max, IntKind.bits, IntKind.signed, Bool.and_eq_true, decide_eq_true_eq] at h
  exact ⟨by have := h.1; simpa using this, by have := h.2; simpa using this⟩
theorem toList_nil (s : ByteArray) : (s.toList == ([] : List UInt8)) = decide (s.size = 0) := by
  rw [Bool.eq_iff_iff]
  simp only [beq_iff_eq, decide_eq_true_eq, ByteArray.toList_eq]
  constructor
  · intro h
    have h2 : s.data.toList.length = 0 := by rw [h]; rfl
    rw [Array.length_toList] at h2
    exact h2
  · intro h
    have h2 : s.data.toList.length = 0 := by rw [Array.length_toList]; exact h
    exact List.eq_nil_of_length_eq_zero h2

/-- From some number of rounds on the answer is r. -/
def Tot {α : Type} (g : Nat → Option α) (r : α) : Prop := ∃ K, ∀ k, K ≤ k → g k = some r
theorem Tot.at_ {α : Type} {g : Nat → Option α} {r : α} (h : Tot g r) : ∃ k, g k = some r := by
  obtain ⟨K, hK⟩ := h
  exact ⟨K, hK K (Nat.le_refl _)⟩
theorem Tot.pure {α : Type} (r : α) : Tot (fun _ => some r) r := ⟨0, fun _ _ => rfl⟩
theorem Tot.of_eq {α : Type} {g : Nat → Option α} {r : α} (h : ∀ k, g k = some r) : Tot g r := ⟨0, fun k _ => h k⟩
theorem Tot.congr {α : Type} {g g' : Nat → Option α} {r : α} (he : ∀ k, g k = g' k) (h : Tot g' r) : Tot g r := by
  obtain ⟨K, hK⟩ := h
  exact ⟨K, fun k hk => (he k).trans (hK k hk)⟩
theorem Tot.bind {α β : Type} {g : Nat → Option α} {h : Nat → α → Option β} {a : α} {r : β} (hg : Tot g a) (hh : Tot (fun k => h k a) r) : Tot (fun k => (g k).bind (h k)) r := by
  obtain ⟨K, hK⟩ := hg
  obtain ⟨L, hL⟩ := hh
  refine ⟨max K L, fun k hk => ?_⟩
  show (g k).bind (h k) = some r
  rw [hK k (by omega)]
  exact hL k (by omega)
theorem Tot.step {α : Type} {F G : Nat → Option α} {r : α} (hF : ∀ k, F (k + 1) = G k) (h : Tot G r) : Tot F r := by
  obtain ⟨K, hK⟩ := h
  refine ⟨K + 1, fun k hk => ?_⟩
  obtain ⟨m, rfl⟩ : ∃ m, k = m + 1 := ⟨k - 1, by omega⟩
  rw [hF]
  exact hK m (by omega)
theorem Tot.yes {α : Type} {p : Prop} [Decidable p] {g h : Nat → Option α} {r : α} (hp : p) (hg : Tot g r) : Tot (fun k => if p then g k else h k) r := by
  simpa only [if_pos hp] using hg
theorem Tot.no {α : Type} {p : Prop} [Decidable p] {g h : Nat → Option α} {r : α} (hp : ¬ p) (hg : Tot h r) : Tot (fun k => if p then g k else h k) r := by
  simpa only [if_neg hp] using hg
theorem Tot.some_bind {α β : Type} {h : Nat → α → Option β} {a : α} {r : β} (hh : Tot (fun k => h k a) r) : Tot (fun k => (some a).bind (h k)) r := hh

theorem in_v (a b c : Int) : spec_l1In.f a b c = some (decide (b ≤ a ∧ a ≤ c)) := by
  unfold spec_l1In.f
  by_cases h : a ≥ b
  · rw [if_pos h]; congr 1; rw [decide_eq_decide]; omega
  · rw [if_neg h]; congr 1; symm; rw [decide_eq_false_iff_not]; omega

theorem within_v (a b c : Int) : impl_within.f a b c = some (decide (b ≤ a ∧ a ≤ c)) := by
  unfold impl_within.f
  by_cases h : b ≤ a
  · rw [if_pos h]; congr 1; rw [decide_eq_decide]; omega
  · rw [if_neg h]; congr 1; symm; rw [decide_eq_false_iff_not]; omega


theorem all_l (lo hi : Int) : ∀ (b a : List Int), ((a ++ b).length : Int) ≤ 9223372036850000000 → Tot (fun k => spec_l1All.l0 k lo hi (a ++ b) ((a ++ b).length : Int) a.length) (b.all fun x => decide (lo ≤ x ∧ x ≤ hi))
  | [], a, h => by
    refine Tot.step (fun k => spec_l1All.l0.eq_2 ..) ?_
    exact Tot.no (by simp) (Tot.pure _)
  | x :: b, a, h => by
    have hl : ((a ++ x :: b).length : Int) = a.length + b.length + 1 := by simp; omega
    have hr : rd (a ++ x :: b) (a.length : Int) = x := by simp [rd, List.getD]
    refine Tot.step (fun k => spec_l1All.l0.eq_2 ..) (Tot.yes (by omega) (Tot.yes (by omega) (Tot.yes (by omega) ?_)))
    rw [hr, wrap_in (x := (a.length : Int) + 1) (by omega) (by omega)]
    simp only [in_v, Option.bind_some, List.all_cons]
    by_cases hx : lo ≤ x ∧ x ≤ hi
    · rw [decide_eq_true hx, Bool.true_and]
      refine Tot.yes rfl ?_
      have := all_l lo hi b (a ++ [x]) (by simp at hl h ⊢; omega)
      simpa using this
    · rw [decide_eq_false hx, Bool.false_and]
      exact Tot.no (by decide) (Tot.pure _)
theorem all_v (l : List Int) (lo hi : Int) (h : (l.length : Int) ≤ 9223372036850000000) : Tot (fun k => spec_l1All.f k l lo hi) (l.all fun x => decide (lo ≤ x ∧ x ≤ hi)) := by
  have := all_l lo hi l [] (by simpa using h)
  unfold spec_l1All.f
  simpa using this

theorem allO_tot {α : Type} {f : Nat → α → Option Bool} {p : α → Bool} : ∀ {l : List α}, (∀ x ∈ l, Tot (fun k => f k x) (p x)) → Tot (fun k => Open.allO (f k) l) (l.all p)
  | [], _ => Tot.pure _
  | x :: l, h => by
    show Tot (fun k => (f k x).bind fun b => (Open.allO (f k) l).bind fun c => some (b && c)) ((x :: l).all p)
    rw [List.all_cons]
    exact Tot.bind (h x (by simp)) (Tot.bind (allO_tot fun y hy => h y (by simp [hy])) (Tot.pure _))

def hiM (a : Int) : Int := wrap64 ((shl .i64 1 a) - 1)
def masksB (a : Int) (l : List Int) : Bool := decide (1 ≤ a ∧ a ≤ 10) && (decide ((l.length : Int) ≤ 20) && l.all fun x => decide (0 ≤ x ∧ x ≤ hiM a))
theorem u64_small {a : Int} (h : 1 ≤ a ∧ a ≤ 10) : IntKind.u64.wrap a = a := by
  have : a = 1 ∨ a = 2 ∨ a = 3 ∨ a = 4 ∨ a = 5 ∨ a = 6 ∨ a = 7 ∨ a = 8 ∨ a = 9 ∨ a = 10 := by omega
  rcases this with rfl | rfl | rfl | rfl | rfl | rfl | rfl | rfl | rfl | rfl <;> decide
theorem specMasks_v (a : Int) (l : List Int) : Tot (fun k => spec_l10Masks.f k a l) (masksB a l) := by
  unfold spec_l10Masks.f masksB
  simp only [in_v, Option.bind_some]
  by_cases c1 : 1 ≤ a ∧ a ≤ 10
  · rw [decide_eq_true c1, Bool.true_and, u64_small c1]
    refine Tot.yes rfl ?_
    by_cases c2 : (l.length : Int) ≤ 20
    · rw [decide_eq_true c2, Bool.true_and]
      exact Tot.yes c2 (Tot.yes (by omega) (Tot.bind (all_v l 0 (hiM a) (by omega)) (Tot.pure _)))
    · rw [decide_eq_false c2]; exact Tot.no c2 (Tot.pure _)
  · rw [decide_eq_false c1]; exact Tot.no (by decide) (Tot.pure _)
theorem implMask_v (a x : Int) (h : 0 ≤ a) : impl_isMask.f a x = some (decide (0 ≤ x ∧ x ≤ hiM a)) := by
  unfold impl_isMask.f
  rw [if_pos h, within_v]
  rfl
theorem implMasks_v (a : Int) (l : List Int) : impl_areMasks.f a l = some (masksB a l) := by
  have e1 : impl_isMany.f a = some (decide (1 ≤ a ∧ a ≤ 10)) := by unfold impl_isMany.f; rw [within_v]; rfl
  unfold impl_areMasks.f masksB
  rw [e1, Option.bind_some]
  by_cases c1 : 1 ≤ a ∧ a ≤ 10
  · rw [decide_eq_true c1, Bool.true_and, if_pos rfl]
    by_cases c2 : (l.length : Int) ≤ 20
    · rw [decide_eq_true c2, Bool.true_and, if_pos c2]
      exact Open.allO_v fun x _ => implMask_v a x (by omega)
    · rw [decide_eq_false c2, if_neg c2]; rfl
  · rw [decide_eq_false c1, if_neg (by decide)]; rfl

theorem rd_at {l : List Int} {i : Int} (h0 : 0 ≤ i) (h1 : i < (l.length : Int)) : rd l i = l[i.toNat]'(by omega) := by
  unfold rd
  rw [List.getD_eq_getElem?_getD, List.getElem?_eq_getElem (by omega : i.toNat < l.length)]
  rfl
theorem eqInt_l (a : List Int) (ha : (a.length : Int) ≤ 9223372036854775806) : ∀ (d : Nat) (i : Int), 0 ≤ i → i + d = a.length → Tot (fun k => laws_eqIntS.l0 k a a i) true
  | 0, i, h0, h => by
    refine Tot.step (fun k => laws_eqIntS.l0.eq_2 ..) ?_
    exact Tot.no (by omega) (Tot.pure _)
  | d + 1, i, h0, h => by
    refine Tot.step (fun k => laws_eqIntS.l0.eq_2 ..) ?_
    refine Tot.yes (by omega) (Tot.yes h0 (Tot.yes (by omega) (Tot.yes rfl ?_)))
    rw [wrap_in (by omega) (by omega)]
    exact eqInt_l a ha d (i + 1) (by omega) (by omega)
theorem eqInt_v (a : List Int) (ha : (a.length : Int) ≤ 9223372036854775806) : Tot (fun k => laws_eqIntS.f k a a) true := by
  unfold laws_eqIntS.f
  exact Tot.yes rfl (eqInt_l a ha a.length 0 (by omega) (by omega))

theorem rdIPacket_at (a b : List S112) (x : S112) : rd_T112 (a ++ x :: b) (a.length : Int) = x := by simp [rd_T112, List.getD]
theorem rdInt_at (a b : List Int) (x : Int) : (rd (a ++ x :: b) (a.length : Int)) = x := by simp [rd, List.getD]
theorem toInt_l : ∀ (b a : List Int), ((a ++ b).length : Int) ≤ 9223372036854775806 → Tot (fun k => laws_toIntS.l0 k (a ++ b) (a ++ List.replicate b.length 0) a.length) (a ++ b)
  | [], a, h => by
    refine Tot.step (fun k => laws_toIntS.l0.eq_2 ..) ?_
    simp only [List.append_nil, List.length_nil, List.replicate_zero]
    exact Tot.no (by omega) (Tot.pure _)
  | x :: b, a, h => by
    refine Tot.step (fun k => laws_toIntS.l0.eq_2 ..) ?_
    have hl : ((a ++ x :: b).length : Int) = a.length + b.length + 1 := by simp; omega
    have hl2 : ((a ++ List.replicate (x :: b).length 0).length : Int) = a.length + b.length + 1 := by simp; omega
    refine Tot.yes (by omega) (Tot.yes (by omega) (Tot.yes (by omega) ?_))
    rw [rdInt_at, wrap_in (x := (a.length : Int) + 1) (by omega) (by omega)]
    have e : (a ++ List.replicate (x :: b).length 0).set ((a.length : Int)).toNat x = (a ++ [x]) ++ List.replicate b.length 0 := by simp [List.replicate_succ]
    rw [e]
    have := toInt_l b (a ++ [x]) (by simp at hl h ⊢; omega)
    simpa using this
theorem toInt_v (l : List Int) (h : (l.length : Int) ≤ 1048576) : Tot (fun k => laws_toIntS.f k l) l := by
  unfold laws_toIntS.f
  refine Tot.yes (by omega) (Tot.yes (by omega) ?_)
  have := toInt_l l [] (by simp; omega)
  simpa using this
theorem parted_l : ∀ (b a : List S112), ((a ++ b).length : Int) ≤ 1048576 → Tot (fun k => impl_partedPackets.l0 k (a.map (·.f0)) (a.map (·.f1)) (a ++ b) ((a ++ b).length : Int) a.length) ((a ++ b).map (·.f0), (a ++ b).map (·.f1))
  | [], a, h => by
    refine Tot.step (fun k => impl_partedPackets.l0.eq_2 ..) (Tot.no (by simp) ?_)
    simp only [List.append_nil]
    exact Tot.pure _
  | x :: b, a, h => by
    have hl : ((a ++ x :: b).length : Int) = a.length + b.length + 1 := by simp; omega
    have h1 : (a.map (·.f0)).length = a.length := by simp
    have h2 : (a.map (·.f1)).length = a.length := by simp
    refine Tot.step (fun k => impl_partedPackets.l0.eq_2 ..) (Tot.yes (by omega) (Tot.yes (by omega) (Tot.yes (by omega) (Tot.some_bind ?_))))
    refine Tot.yes (by rw [h1]; simp; omega) (Tot.some_bind (Tot.yes (by rw [h2]; simp; omega) ?_))
    rw [rdIPacket_at, wrap_in (x := (a.length : Int) + 1) (by omega) (by omega)]
    have := parted_l b (a ++ [x]) (by simpa using h)
    simpa using this
theorem parted_v (l : List S112) (h : (l.length : Int) ≤ 1048576) : Tot (fun k => impl_partedPackets.f k l) (l.map (·.f0), l.map (·.f1)) := by
  have := parted_l l [] (by simpa using h)
  unfold impl_partedPackets.f
  simpa using this

theorem pk_and_one (n : Nat) (h : n < 16777216) : Go.bits .and .i64 (n : Int) 1 = ((n % 2 : Nat) : Int) := by
  unfold Go.bits
  show IntKind.i64.wrap ((BitVec.ofInt 64 (n : Int) &&& BitVec.ofInt 64 1).toNat : Int) = _
  rw [show BitVec.ofInt 64 (n : Int) = BitVec.ofNat 64 n by simp, show BitVec.ofInt 64 1 = BitVec.ofNat 64 1 by rfl, BitVec.toNat_and, BitVec.toNat_ofNat, BitVec.toNat_ofNat, Nat.mod_eq_of_lt (by omega), Nat.mod_eq_of_lt (by omega), Nat.and_one_is_mod]
  unfold IntKind.wrap; simp [IntKind.signed, IntKind.bits]; omega
theorem pk_xor (a b : Nat) (ha : a < 1024) (hb : b < 1024) : Go.bits .xor .i64 (a : Int) (b : Int) = ((a ^^^ b : Nat) : Int) := by
  have hx : a ^^^ b < 1024 := Nat.xor_lt_two_pow (n := 10) ha hb
  unfold Go.bits
  show IntKind.i64.wrap ((BitVec.ofInt 64 (a : Int) ^^^ BitVec.ofInt 64 (b : Int)).toNat : Int) = _
  rw [show BitVec.ofInt 64 (a : Int) = BitVec.ofNat 64 a by simp, show BitVec.ofInt 64 (b : Int) = BitVec.ofNat 64 b by simp, BitVec.toNat_xor, BitVec.toNat_ofNat, BitVec.toNat_ofNat, Nat.mod_eq_of_lt (by omega), Nat.mod_eq_of_lt (by omega)]
  unfold IntKind.wrap; simp [IntKind.signed, IntKind.bits]; omega
theorem pk_shr (a k : Nat) (hk : k ≤ 64) : shr .i64 (a : Int) (k : Int) = ((a / 2 ^ k : Nat) : Int) := by
  unfold shr
  have : min (k : Int).toNat IntKind.i64.bits = k := by simp [IntKind.bits]; omega
  rw [this]
  exact_mod_cast rfl
def pkM (m : Int) : S112 := ⟨m, ⟨#[]⟩⟩
def goodP (l : List S112) : Prop := ∀ y ∈ l, y.f1 = ⟨#[]⟩ ∧ 0 ≤ y.f0 ∧ y.f0 < 1024
theorem pk_bit {y : Int} (h : 0 ≤ y ∧ y < 1024) (k : Nat) (hk : k ≤ 64) : Go.bits .and .i64 (shr .i64 y (k : Int)) 1 = ((y.toNat / 2 ^ k % 2 : Nat) : Int) := by
  obtain ⟨a, rfl⟩ := Int.eq_ofNat_of_zero_le h.1
  rw [pk_shr a k hk, pk_and_one _ (Nat.lt_of_le_of_lt (Nat.div_le_self _ _) (by omega)), Int.toNat_natCast]
theorem pk_hasb {y : S112} (h : 0 ≤ y.f0 ∧ y.f0 < 1024) (k : Nat) (hk : k ≤ 64) : pk_has (k : Int) y = y.f0.toNat.testBit k := by
  unfold pk_has
  rw [pk_bit h k hk, Nat.testBit_eq_decide_div_mod_eq]
  have h2 : y.f0.toNat / 2 ^ k % 2 < 2 := Nat.mod_lt _ (by decide)
  generalize y.f0.toNat / 2 ^ k % 2 = d at *
  have : d = 0 ∨ d = 1 := by omega
  rcases this with rfl | rfl <;> decide
theorem pk_less_good {y x : S112} (k : Int) (hy : y.f1 = ⟨#[]⟩ ∧ 0 ≤ y.f0 ∧ y.f0 < 1024) (hx : x.f1 = ⟨#[]⟩ ∧ 0 ≤ x.f0 ∧ x.f0 < 1024) : (pk_less k x y).f1 = ⟨#[]⟩ ∧ 0 ≤ (pk_less k x y).f0 ∧ (pk_less k x y).f0 < 1024 := by
  unfold pk_less
  split
  · refine ⟨rfl, ?_⟩
    obtain ⟨a, ha⟩ := Int.eq_ofNat_of_zero_le hy.2.1
    obtain ⟨b, hb⟩ := Int.eq_ofNat_of_zero_le hx.2.1
    have h1 : a < 1024 := by have := hy.2.2; omega
    have h2 : b < 1024 := by have := hx.2.2; omega
    have h3 : a ^^^ b < 1024 := Nat.xor_lt_two_pow (n := 10) h1 h2
    show 0 ≤ Go.bits .xor .i64 y.f0 x.f0 ∧ Go.bits .xor .i64 y.f0 x.f0 < 1024
    rw [ha, hb, pk_xor a b h1 h2]
    omega
  · exact hy
theorem goodP_map {l : List S112} {x : S112} (k : Int) (h : goodP l) (hx : x.f1 = ⟨#[]⟩ ∧ 0 ≤ x.f0 ∧ x.f0 < 1024) : goodP (l.map (pk_less k x)) := by
  intro y hy
  obtain ⟨z, hz, rfl⟩ := List.mem_map.1 hy
  exact pk_less_good k (h z hz) hx
theorem pk_u64 (b : Nat) (hb : b ≤ 64) : IntKind.u64.wrap (b : Int) = (b : Int) := by
  have : IntKind.u64.wrap (b : Int) = (b : Int) % 18446744073709551616 := by simp [IntKind.wrap, IntKind.bits, IntKind.signed]
  rw [this]; omega
theorem pk_xun : spec_l10Xor.f ⟨#[]⟩ ⟨#[]⟩ = some ⟨#[]⟩ := by decide
theorem specLess_v {y x : S112} (b : Nat) (hb : b ≤ 64) (hy : y.f1 = ⟨#[]⟩ ∧ 0 ≤ y.f0 ∧ y.f0 < 1024) (hx : x.f1 = ⟨#[]⟩) : spec_l10Less.f y.f0 y.f1 x.f0 x.f1 (b : Int) = some ((pk_less b x y).f0, (pk_less b x y).f1) := by
  unfold spec_l10Less.f pk_less pk_has
  rw [pk_u64 b hb, if_pos (by omega), pk_bit hy.2 b hb]
  have h2 : y.f0.toNat / 2 ^ b % 2 < 2 := Nat.mod_lt _ (by decide)
  generalize y.f0.toNat / 2 ^ b % 2 = d at *
  have : d = 0 ∨ d = 1 := by omega
  rcases this with rfl | rfl
  · rfl
  · rw [if_neg (by decide), hy.1, hx, pk_xun, if_pos (by decide)]
    rfl
theorem goodP_erase {l : List S112} (i : Nat) (h : goodP l) : goodP (l.eraseIdx i) := fun y hy => h y (List.mem_of_mem_eraseIdx hy)
theorem goodP_rd {l : List S112} (i : Int) (h0 : 0 ≤ i) (h1 : i < l.length) (h : goodP l) : (rd_T112 l i).f1 = ⟨#[]⟩ ∧ 0 ≤ (rd_T112 l i).f0 ∧ (rd_T112 l i).f0 < 1024 := by
  obtain ⟨n, rfl⟩ := Int.eq_ofNat_of_zero_le h0
  exact h _ (pk_mem l n (by omega))
theorem red_l3 (b : Nat) (hb : b ≤ 64) (x : S112) (hx : x.f1 = ⟨#[]⟩ ∧ 0 ≤ x.f0 ∧ x.f0 < 1024) (l2 : List S112) (r : List S112 × List S112) :
    ∀ (rest a : List S112), goodP rest → ((a ++ rest).length : Int) ≤ 1048576 → Tot (fun k => spec_l10Reduce.l0 k ((a ++ rest.map (pk_less b x)) ++ [x]) l2 (wrap64 ((b : Int) - 1))) r → Tot (fun k => spec_l10Reduce.l3 k (a ++ rest) l2 b ((a ++ rest).length : Int) a.length x.f0 x.f1) r
  | [], a, hg, hl, h => by
    refine Tot.step (fun k => spec_l10Reduce.l3.eq_2 ..) (Tot.no (by simp) (Tot.yes (by omega) ?_))
    simpa using h
  | y :: rest, a, hg, hl, h => by
    have hl2 : ((a ++ y :: rest).length : Int) = a.length + rest.length + 1 := by simp; omega
    refine Tot.step (fun k => spec_l10Reduce.l3.eq_2 ..) (Tot.yes (by omega) (Tot.yes (by omega) (Tot.yes (by omega) ?_)))
    rw [rdIPacket_at]
    have hy := hg y (by simp)
    simp only [specLess_v b hb hy hx.1, Option.bind_some]
    rw [wrap_in (x := (a.length : Int) + 1) (by omega) (by omega)]
    have e : (a ++ y :: rest).set ((a.length : Int)).toNat (pk_less b x y) = (a ++ [pk_less b x y]) ++ rest := by simp
    have next := red_l3 b hb x hx l2 r rest (a ++ [pk_less b x y]) (fun z hz => hg z (by simp [hz])) (by simp at hl2 hl ⊢; omega) (by simpa using h)
    have e2 : (⟨(pk_less b x y).f0, (pk_less b x y).f1⟩ : S112) = pk_less b x y := rfl
    rw [e2, e]
    have e3 : ((a ++ y :: rest).length : Int) = (((a ++ [pk_less b x y]) ++ rest).length : Int) := by simp
    rw [e3]
    simpa using next
theorem red_l2 (b : Nat) (hb : b ≤ 64) (x : S112) (hx : x.f1 = ⟨#[]⟩ ∧ 0 ≤ x.f0 ∧ x.f0 < 1024) (i : Nat) (t l : List S112) (hll : (l.length : Int) ≤ 1048576) (r : List S112 × List S112)
    (h : Tot (fun k => spec_l10Reduce.l3 k t ((l.eraseIdx i).map (pk_less b x)) b (t.length : Int) 0 x.f0 x.f1) r) :
    ∀ (rest a : List S112), a ++ rest = l → goodP rest → Tot (fun k => spec_l10Reduce.l2 k t b (i : Int) ((a.eraseIdx i).map (pk_less b x)) l (l.length : Int) a.length x.f0 x.f1) r
  | [], a, ha, hg => by
    simp only [List.append_nil] at ha
    subst ha
    exact Tot.step (fun k => spec_l10Reduce.l2.eq_2 ..) (Tot.no (by omega) h)
  | y :: rest, a, ha, hg => by
    have hl2 : (l.length : Int) = a.length + rest.length + 1 := by rw [← ha]; simp; omega
    refine Tot.step (fun k => spec_l10Reduce.l2.eq_2 ..) (Tot.yes (by omega) (Tot.yes (by omega) (Tot.yes (by omega) ?_)))
    have er : rd_T112 l (a.length : Int) = y := by rw [← ha]; exact rdIPacket_at ..
    have next := red_l2 b hb x hx i t l hll r h rest (a ++ [y]) (by simpa using ha) (fun z hz => hg z (by simp [hz]))
    rw [wrap_in (x := (a.length : Int) + 1) (by omega) (by omega), er]
    by_cases hi : a.length = i
    · refine Tot.yes (by omega) ?_
      have e : (a ++ [y]).eraseIdx i = a.eraseIdx i := by
        have q2 : a.eraseIdx i = a := List.eraseIdx_of_length_le (by omega)
        rw [q2, List.eraseIdx_append_of_length_le (by omega), hi, Nat.sub_self]
        simp
      rw [e] at next
      simpa using next
    · refine Tot.no (by omega) ?_
      have hy := hg y (by simp)
      simp only [specLess_v b hb hy hx.1, Option.bind_some]
      have hle : (a.eraseIdx i).length ≤ a.length := List.length_eraseIdx_le ..
      refine Tot.yes (by rw [List.length_map]; omega) ?_
      have e : ((a ++ [y]).eraseIdx i).map (pk_less b x) = (a.eraseIdx i).map (pk_less b x) ++ [pk_less b x y] := by
        rcases Nat.lt_or_gt_of_ne hi with h1 | h1
        · have q1 : (a ++ [y]).eraseIdx i = a ++ [y] := List.eraseIdx_of_length_le (by simp; omega)
          have q2 : a.eraseIdx i = a := List.eraseIdx_of_length_le (by omega)
          rw [q1, q2]
          simp
        · rw [List.eraseIdx_append_of_lt_length (by omega)]
          simp
      rw [e] at next
      have e2 : (⟨(pk_less b x y).f0, (pk_less b x y).f1⟩ : S112) = pk_less b x y := rfl
      rw [e2]
      simpa using next
theorem red_l1 (b : Nat) (hb : b ≤ 64) (t l : List S112) (hll : (l.length : Int) ≤ 1048576) (fin : Int) (r : List S112 × List S112)
    (h : Tot (fun k => if fin < 0 then (spec_l10Reduce.l0 k t l (wrap64 ((b : Int) - 1))) else (if 0 ≤ fin then (if fin < (l.length : Int) then (spec_l10Reduce.l2 k t b fin ([] : List S112) l (l.length : Int) 0 ((rd_T112 l fin).f0) ((rd_T112 l fin).f1)) else (none)) else (none))) r) :
    ∀ (rest a : List S112) (at_ : Int), a ++ rest = l → goodP rest → fin = (if 0 ≤ at_ then at_ else if idxOf_Packet (pk_has b) rest < 0 then -1 else (a.length : Int) + idxOf_Packet (pk_has b) rest) → -1 ≤ at_ → Tot (fun k => spec_l10Reduce.l1 k t l b at_ l (l.length : Int) a.length) r
  | [], a, at_, ha, hg, hf, h1 => by
    simp only [List.append_nil] at ha
    subst ha
    refine Tot.step (fun k => spec_l10Reduce.l1.eq_2 ..) (Tot.no (by omega) ?_)
    have e : fin = at_ := by
      rw [hf]
      by_cases c : 0 ≤ at_
      · rw [if_pos c]
      · rw [if_neg c]
        simp [idxOf_Packet]
        omega
    rw [e] at h
    exact h
  | y :: rest, a, at_, ha, hg, hf, h1 => by
    have hl2 : (l.length : Int) = a.length + rest.length + 1 := by rw [← ha]; simp; omega
    refine Tot.step (fun k => spec_l10Reduce.l1.eq_2 ..) (Tot.yes (by omega) (Tot.yes (by omega) (Tot.yes (by omega) ?_)))
    have er : rd_T112 l (a.length : Int) = y := by rw [← ha]; exact rdIPacket_at ..
    rw [wrap_in (x := (a.length : Int) + 1) (by omega) (by omega), er]
    have hge := idxOf_Packet_ge (pk_has b) rest
    have next := fun (q : Int) (hq : fin = (if 0 ≤ q then q else if idxOf_Packet (pk_has b) rest < 0 then -1 else ((a ++ [y]).length : Int) + idxOf_Packet (pk_has b) rest)) (hq1 : -1 ≤ q) => red_l1 b hb t l hll fin r h rest (a ++ [y]) q (by simpa using ha) (fun z hz => hg z (by simp [hz])) hq hq1
    have en : (((a ++ [y]).length : Nat) : Int) = (a.length : Int) + 1 := by simp
    rw [en] at next
    by_cases c : at_ < 0
    · have c' : at_ = -1 := by omega
      subst c'
      refine Tot.yes c ?_
      rw [pk_u64 b hb]
      refine Tot.yes (by omega) ?_
      rw [if_neg (by decide)] at hf
      by_cases hp : pk_has b y = true
      · have hp' : Go.bits .and .i64 (shr .i64 y.f0 (b : Int)) 1 = 1 := by simpa [pk_has] using hp
        refine Tot.yes hp' (next (a.length : Int) ?_ (by omega))
        rw [if_pos (by omega), hf, idxOf_Packet, if_pos hp, if_neg (by decide)]
        omega
      · have hp' : ¬ Go.bits .and .i64 (shr .i64 y.f0 (b : Int)) 1 = 1 := by simpa [pk_has] using hp
        refine Tot.no hp' (next (-1) ?_ (by omega))
        rw [if_neg (by decide), hf, idxOf_Packet, if_neg hp]
        by_cases hr : idxOf_Packet (pk_has b) rest = -1
        · rw [if_pos hr, hr]; rfl
        · rw [if_neg hr, if_neg (by omega), if_neg (by omega)]; omega
    · refine Tot.no c (next at_ ?_ h1)
      rw [if_pos (by omega)] at hf ⊢
      exact hf
theorem pk_step_good (b : Nat) {t l : List S112} (ht : goodP t) (hl : goodP l) : goodP (pk_step b t l).1 ∧ goodP (pk_step b t l).2 ∧ (pk_step b t l).1.length ≤ t.length + 1 ∧ (pk_step b t l).2.length ≤ l.length := by
  unfold pk_step
  split
  · exact ⟨ht, hl, Nat.le_succ _, Nat.le_refl _⟩
  · next c =>
    have hx := goodP_rd (idxOf_Packet (pk_has b) l) (by omega) (pk_idx_lt _ _) hl
    refine ⟨fun y hy => ?_, goodP_map _ (goodP_erase _ hl) hx, by simp, by rw [List.length_map]; exact List.length_eraseIdx_le ..⟩
    rcases List.mem_append.1 hy with h | h
    · exact goodP_map _ ht hx y h
    · rw [List.mem_singleton.1 h]; exact hx
theorem red_l0 : ∀ (b : Nat), b ≤ 64 → ∀ (t l : List S112), goodP t → goodP l → t.length + b ≤ 1000 → (l.length : Int) ≤ 1000 → Tot (fun k => spec_l10Reduce.l0 k t l ((b : Int) - 1)) (pk_rounds b t l)
  | 0, _, t, l, _, _, _, _ => Tot.step (fun k => spec_l10Reduce.l0.eq_2 ..) (Tot.no (by omega) (Tot.pure _))
  | b + 1, hb, t, l, ht, hl, hlt, hll => by
    have e1 : (((b + 1 : Nat) : Int) - 1) = (b : Int) := by omega
    rw [e1]
    refine Tot.step (fun k => spec_l10Reduce.l0.eq_2 ..) (Tot.yes (by omega) ?_)
    have hg := pk_step_good b ht hl
    have next := red_l0 b (by omega) (pk_step b t l).1 (pk_step b t l).2 hg.1 hg.2.1 (by omega) (by omega)
    have hge := idxOf_Packet_ge (pk_has b) l
    have hlt2 := pk_idx_lt (pk_has b) l
    refine red_l1 b (by omega) t l (by omega) (idxOf_Packet (pk_has b) l) _ ?_ l [] (-1) rfl hl ?_ (by omega)
    · show Tot _ (pk_rounds b (pk_step b t l).1 (pk_step b t l).2)
      by_cases c : idxOf_Packet (pk_has b) l < 0
      · refine Tot.yes c ?_
        have es : pk_step b t l = (t, l) := by unfold pk_step; rw [if_pos c]
        rw [es] at next ⊢
        rw [wrap_in (x := (b : Int) - 1) (by omega) (by omega)]
        exact next
      · refine Tot.no c (Tot.yes (by omega) (Tot.yes hlt2 ?_))
        have hx := goodP_rd (idxOf_Packet (pk_has b) l) (by omega) hlt2 hl
        have es : pk_step b t l = (t.map (pk_less b (rd_T112 l (idxOf_Packet (pk_has b) l))) ++ [rd_T112 l (idxOf_Packet (pk_has b) l)], (l.eraseIdx (idxOf_Packet (pk_has b) l).toNat).map (pk_less b (rd_T112 l (idxOf_Packet (pk_has b) l)))) := by unfold pk_step; rw [if_neg c]
        rw [es] at next ⊢
        obtain ⟨i, hi⟩ := Int.eq_ofNat_of_zero_le (show 0 ≤ idxOf_Packet (pk_has b) l by omega)
        rw [hi] at next hx ⊢
        rw [Int.toNat_natCast] at next ⊢
        generalize rd_T112 l (i : Int) = x at *
        have h3 := red_l3 b (by omega) x hx ((l.eraseIdx i).map (pk_less b x)) _ t [] ht (by simp; omega) (by rw [wrap_in (x := (b : Int) - 1) (by omega) (by omega)]; simpa using next)
        have h2 := red_l2 b (by omega) x hx i t l (by omega) _ (by simpa using h3) l [] rfl hl
        simpa using h2
    · rw [if_neg (by decide)]
      split <;> (try simp) <;> omega
theorem goodP_of {n : Int} {l : List Int} (hn : 1 ≤ n ∧ n ≤ 10) (h : ∀ x ∈ l, 0 ≤ x ∧ x ≤ hiM n) : goodP (l.map pkM) := by
  have hM : hiM n < 1024 := by
    have : n = 1 ∨ n = 2 ∨ n = 3 ∨ n = 4 ∨ n = 5 ∨ n = 6 ∨ n = 7 ∨ n = 8 ∨ n = 9 ∨ n = 10 := by omega
    rcases this with rfl | rfl | rfl | rfl | rfl | rfl | rfl | rfl | rfl | rfl <;> (unfold hiM shl IntKind.wrap wrap64; simp [IntKind.bits, IntKind.signed])
  intro y hy
  obtain ⟨z, hz, rfl⟩ := List.mem_map.1 hy
  have := h z hz
  exact ⟨rfl, this.1, by show z < 1024; omega⟩
theorem specRed_v (n : Int) (hn : 1 ≤ n ∧ n ≤ 10) (l : List S112) (hl : goodP l) (hll : (l.length : Int) ≤ 1000) : Tot (fun k => spec_l10Reduce.f k n l) (pk_rounds n.toNat [] l) := by
  unfold spec_l10Reduce.f
  refine Tot.some_bind (Tot.yes (by simp; omega) ?_)
  have := red_l0 n.toNat (by omega) [] l (fun y hy => by simp at hy) hl (by simp; omega) hll
  rw [wrap_in (x := n - 1) (by omega) (by omega)]
  rw [show ((n.toNat : Nat) : Int) - 1 = n - 1 by omega] at this
  exact this
theorem implRed_v (n : Int) (hn : 1 ≤ n ∧ n ≤ 10) (l : List S112) (hl : goodP l) (hll : (l.length : Int) ≤ 1000) : impl_reduce.f n l = some (pk_rounds n.toNat [] l) := by
  unfold impl_reduce.f
  rw [if_pos ⟨by omega, by omega, by omega, List.all_eq_true.2 fun y hy => decide_eq_true (by rw [(hl y hy).1]; rfl)⟩]
theorem specOf_l : ∀ (b a : List Int), ((a ++ b).length : Int) ≤ 1048576 → Tot (fun k => spec_l10Of.l0 k (a.map pkM) (a ++ b) ((a ++ b).length : Int) a.length) ((a ++ b).map pkM)
  | [], a, h => by
    refine Tot.step (fun k => spec_l10Of.l0.eq_2 ..) (Tot.no (by simp) ?_)
    simp only [List.append_nil]
    exact Tot.pure _
  | x :: b, a, h => by
    have hl : ((a ++ x :: b).length : Int) = a.length + b.length + 1 := by simp; omega
    have hr : rd (a ++ x :: b) (a.length : Int) = x := by simp [rd, List.getD]
    refine Tot.step (fun k => spec_l10Of.l0.eq_2 ..) (Tot.yes (by omega) (Tot.yes (by omega) (Tot.yes (by omega) (Tot.yes (by simp; omega) ?_))))
    rw [hr, wrap_in (x := (a.length : Int) + 1) (by omega) (by omega)]
    have := specOf_l b (a ++ [x]) (by simpa using h)
    simpa [pkM] using this
theorem specOf_v (l : List Int) (h : (l.length : Int) ≤ 1048576) : Tot (fun k => spec_l10Of.f k l) (l.map pkM) := by
  have := specOf_l l [] (by simpa using h)
  unfold spec_l10Of.f
  simpa using this
theorem implOf_l : ∀ (b a : List Int), ((a ++ b).length : Int) ≤ 1048576 → Tot (fun k => impl_packetsOf.l0 k (a.map pkM) (a ++ b) ((a ++ b).length : Int) a.length) ((a ++ b).map pkM)
  | [], a, h => by
    refine Tot.step (fun k => impl_packetsOf.l0.eq_2 ..) (Tot.no (by simp) ?_)
    simp only [List.append_nil]
    exact Tot.pure _
  | x :: b, a, h => by
    have hl : ((a ++ x :: b).length : Int) = a.length + b.length + 1 := by simp; omega
    have hr : rd (a ++ x :: b) (a.length : Int) = x := by simp [rd, List.getD]
    refine Tot.step (fun k => impl_packetsOf.l0.eq_2 ..) (Tot.yes (by omega) (Tot.yes (by omega) (Tot.yes (by omega) (Tot.yes (by simp; omega) ?_))))
    rw [hr, wrap_in (x := (a.length : Int) + 1) (by omega) (by omega)]
    have := implOf_l b (a ++ [x]) (by simpa using h)
    simpa [pkM] using this
theorem implOf_v (l : List Int) (h : (l.length : Int) ≤ 1048576) : Tot (fun k => impl_packetsOf.f k l) (l.map pkM) := by
  have := implOf_l l [] (by simpa using h)
  unfold impl_packetsOf.f
  simpa using this
def toldR (n : Int) (l : List Int) : List S112 := (pk_rounds n.toNat [] (l.map pkM)).1
theorem pk_rounds_len : ∀ (b : Nat) (t l : List S112), (pk_rounds b t l).1.length ≤ t.length + b
  | 0, t, l => Nat.le_refl _
  | b + 1, t, l => by
    have h := pk_rounds_len b (pk_step b t l).1 (pk_step b t l).2
    have h2 : (pk_step b t l).1.length ≤ t.length + 1 := by
      unfold pk_step
      split
      · exact Nat.le_succ _
      · simp
    show (pk_rounds b (pk_step b t l).1 (pk_step b t l).2).1.length ≤ t.length + (b + 1)
    omega
theorem specRank_v (n : Int) (hn : 1 ≤ n ∧ n ≤ 10) (l : List Int) (h : ∀ x ∈ l, 0 ≤ x ∧ x ≤ hiM n) (hll : (l.length : Int) ≤ 1000) : Tot (fun k => spec_l10Rank.f k n l) ((toldR n l).length : Int) := by
  unfold spec_l10Rank.f
  exact Tot.bind (specOf_v l (by omega)) (Tot.bind (specRed_v n hn _ (goodP_of hn h) (by simpa using hll)) (Tot.pure _))
theorem implReduced_v (n : Int) (hn : 1 ≤ n ∧ n ≤ 10) (l : List Int) (h : ∀ x ∈ l, 0 ≤ x ∧ x ≤ hiM n) (hll : (l.length : Int) ≤ 1000) : Tot (fun k => impl_reduced.f k n l) ((toldR n l).map (·.f0)) := by
  unfold impl_reduced.f
  refine Tot.bind (implOf_v l (by omega)) ?_
  have hlen := pk_rounds_len n.toNat [] (l.map pkM)
  simp only [implRed_v n hn _ (goodP_of hn h) (by simpa using hll), Option.bind_some]
  exact Tot.bind (parted_v _ (by simp at hlen; omega)) (Tot.pure _)
theorem masksB_of {n : Int} {l : List Int} (h : masksB n l = true) : (1 ≤ n ∧ n ≤ 10) ∧ (l.length : Int) ≤ 20 ∧ ∀ x ∈ l, 0 ≤ x ∧ x ≤ hiM n := by
  unfold masksB at h
  simp only [Bool.and_eq_true, decide_eq_true_eq, List.all_eq_true] at h
  exact ⟨h.1, h.2.1, h.2.2⟩

def rankR (n : Int) (l : List Int) : Int × Bool := if masksB n l = true then (((toldR n l).length : Int), true) else (0, false)
theorem specRankOf_v (n : Int) (l : List Int) : Tot (fun k => spec_RankOf.f k n l) (rankR n l) := by
  unfold spec_RankOf.f rankR
  refine Tot.bind (specMasks_v n l) ?_
  by_cases c : masksB n l = true
  · obtain ⟨hn, hl, hx⟩ := masksB_of c
    rw [if_pos c]
    exact Tot.yes c (Tot.bind (specRank_v n hn l hx (by omega)) (Tot.pure _))
  · rw [if_neg c]
    exact Tot.no c (Tot.pure _)
theorem implRankOf_v (n : Int) (l : List Int) : Tot (fun k => impl_RankOf.f k n l) (rankR n l) := by
  unfold impl_RankOf.f rankR
  simp only [implMasks_v, Option.bind_some]
  by_cases c : masksB n l = true
  · obtain ⟨hn, hl, hx⟩ := masksB_of c
    rw [if_pos c]
    refine Tot.yes c (Tot.bind (implReduced_v n hn l hx (by omega)) ?_)
    simp only [List.length_map]
    exact Tot.pure _
  · rw [if_neg c]
    exact Tot.no c (Tot.pure _)
theorem FnExactRankOf : laws_FnExactRankOf.Pure := by
  intro n l _ _ _ _
  refine Tot.at_ ?_
  unfold laws_FnExactRankOf.f
  by_cases hz : (l.length : Int) > 1048576
  · exact Tot.yes hz (Tot.pure _)
  · have toV := toInt_v l (by omega)
    refine Tot.no hz (Tot.bind toV (Tot.bind (specRankOf_v n l) (Tot.bind toV (Tot.bind (implRankOf_v n l) (Tot.yes rfl ?_)))))
    refine Tot.step (fun k => laws_FnExactRankOf.j0.eq_2 ..) (Tot.no (by simp) ?_)
    exact Tot.bind toV (Tot.bind (eqInt_v l (by omega)) (Tot.yes rfl (Tot.pure _)))

end Go.Proofs.Ytleklbmodelehaa.Pure

/- The plain law behind FnExactGoodPackets: what the two sides compute is the same, for every input. No condition. -/
import Derived.Test.YtleklbmodelehaaPFnExactGoodPacketsx3
set_option linter.unusedVariables false
set_option linter.unusedSimpArgs false
namespace Go.Proofs.Ytleklbmodelehaa.Pure
open Go.RowKit Go.Proofs.Ytleklbmodelehaa.PFnExactGoodPackets Go.Proofs.YtleklbmodelehaaW.PrintWords Go.Proofs.YtleklbmodelehaaW.PrintLast Go.Proofs.YtleklbmodelehaaW.PrintMore

theorem wrap_in {x : Int} (h0 : -9223372036854775808 ≤ x) (h1 : x ≤ 9223372036854775807) : wrap64 x = x := by unfold wrap64; omega
theorem wf_in {x : Int} (h : (Lit.int .i64 x).wf = true) : -9223372036854775808 ≤ x ∧ x ≤ 9223372036854775807 := by
  simp only [Lit.wf, IntKind.min, IntKind.max, IntKind.bits, IntKind.signed, Bool.and_eq_true, decide_eq_true_eq] at h
  exact ⟨by have := h.1; simpa using this, by have := h.2; simpa using this⟩
theorem toList_nil (s : ByteArray) : (s.toList == ([] : List UInt8)) = decide (s.size = 0) := by
  rw [Bool.eq_iff_iff]
  simp only [beq_iff_eq, decide_eq_true_eq, ByteArray.toList_eq]
  constructor
  · intro h
    have h2 : s.data.toList.length = 0 := by rw [h]; rfl
    rw [Array.length_toList] at h2
    exact h2
  · intro h
    have h2 : s.data.toList.length = 0 := by rw [Array.length_toList]; exact h
    exact List.eq_nil_of_length_eq_zero h2

/-- From some number of rounds on the answer is r. -/
def Tot {α : Type} (g : Nat → Option α) (r : α) : Prop := ∃ K, ∀ k, K ≤ k → g k = some r
theorem Tot.at_ {α : Type} {g : Nat → Option α} {r : α} (h : Tot g r) : ∃ k, g k = some r := by
  obtain ⟨K, hK⟩ := h
  exact ⟨K, hK K (Nat.le_refl _)⟩
theorem Tot.pure {α : Type} (r : α) : Tot (fun _ => some r) r := ⟨0, fun _ _ => rfl⟩
theorem Tot.of_eq {α : Type} {g : Nat → Option α} {r : α} (h : ∀ k, g k = some r) : Tot g r := ⟨0, fun k _ => h k⟩
theorem Tot.congr {α : Type} {g g' : Nat → Option α} {r : α} (he : ∀ k, g k = g' k) (h : Tot g' r) : Tot g r := by
  obtain ⟨K, hK⟩ := h
  exact ⟨K, fun k hk => (he k).trans (hK k hk)⟩
theorem Tot.bind {α β : Type} {g : Nat → Option α} {h : Nat → α → Option β} {a : α} {r : β} (hg : Tot g a) (hh : Tot (fun k => h k a) r) : Tot (fun k => (g k).bind (h k)) r := by
  obtain ⟨K, hK⟩ := hg
  obtain ⟨L, hL⟩ := hh
  refine ⟨max K L, fun k hk => ?_⟩
  show (g k).bind (h k) = some r
  rw [hK k (by omega)]
  exact hL k (by omega)
theorem Tot.step {α : Type} {F G : Nat → Option α} {r : α} (hF : ∀ k, F (k + 1) = G k) (h : Tot G r) : Tot F r := by
  obtain ⟨K, hK⟩ := h
  refine ⟨K + 1, fun k hk => ?_⟩
  obtain ⟨m, rfl⟩ : ∃ m, k = m + 1 := ⟨k - 1, by omega⟩
  rw [hF]
  exact hK m (by omega)
theorem Tot.yes {α : Type} {p : Prop} [Decidable p] {g h : Nat → Option α} {r : α} (hp : p) (hg : Tot g r) : Tot (fun k => if p then g k else h k) r := by
  simpa only [if_pos hp] using hg
theorem Tot.no {α : Type} {p : Prop} [Decidable p] {g h : Nat → Option α} {r : α} (hp : ¬ p) (hg : Tot h r) : Tot (fun k => if p then g k else h k) r := by
  simpa only [if_neg hp] using hg
theorem Tot.some_bind {α β : Type} {h : Nat → α → Option β} {a : α} {r : β} (hh : Tot (fun k => h k a) r) : Tot (fun k => (some a).bind (h k)) r := hh

theorem in_v (a b c : Int) : spec_l1In.f a b c = some (decide (b ≤ a ∧ a ≤ c)) := by
  unfold spec_l1In.f
  by_cases h : a ≥ b
  · rw [if_pos h]; congr 1; rw [decide_eq_decide]; omega
  · rw [if_neg h]; congr 1; symm; rw [decide_eq_false_iff_not]; omega

theorem within_v (a b c : Int) : impl_within.f a b c = some (decide (b ≤ a ∧ a ≤ c)) := by
  unfold impl_within.f
  by_cases h : b ≤ a
  · rw [if_pos h]; congr 1; rw [decide_eq_decide]; omega
  · rw [if_neg h]; congr 1; symm; rw [decide_eq_false_iff_not]; omega


theorem all_l (lo hi : Int) : ∀ (b a : List Int), ((a ++ b).length : Int) ≤ 9223372036850000000 → Tot (fun k => spec_l1All.l0 k lo hi (a ++ b) ((a ++ b).length : Int) a.length) (b.all fun x => decide (lo ≤ x ∧ x ≤ hi))
  | [], a, h => by
    refine Tot.step (fun k => spec_l1All.l0.eq_2 ..) ?_
    exact Tot.no (by simp) (Tot.pure _)
  | x :: b, a, h => by
    have hl : ((a ++ x :: b).length : Int) = a.length + b.length + 1 := by simp; omega
    have hr : rd (a ++ x :: b) (a.length : Int) = x := by simp [rd, List.getD]
    refine Tot.step (fun k => spec_l1All.l0.eq_2 ..) (Tot.yes (by omega) (Tot.yes (by omega) (Tot.yes (by omega) ?_)))
    rw [hr, wrap_in (x := (a.length : Int) + 1) (by omega) (by omega)]
    simp only [in_v, Option.bind_some, List.all_cons]
    by_cases hx : lo ≤ x ∧ x ≤ hi
    · rw [decide_eq_true hx, Bool.true_and]
      refine Tot.yes rfl ?_
      have := all_l lo hi b (a ++ [x]) (by simp at hl h ⊢; omega)
      simpa using this
    · rw [decide_eq_false hx, Bool.false_and]
      exact Tot.no (by decide) (Tot.pure _)
theorem all_v (l : List Int) (lo hi : Int) (h : (l.length : Int) ≤ 9223372036850000000) : Tot (fun k => spec_l1All.f k l lo hi) (l.all fun x => decide (lo ≤ x ∧ x ≤ hi)) := by
  have := all_l lo hi l [] (by simpa using h)
  unfold spec_l1All.f
  simpa using this

theorem allO_tot {α : Type} {f : Nat → α → Option Bool} {p : α → Bool} : ∀ {l : List α}, (∀ x ∈ l, Tot (fun k => f k x) (p x)) → Tot (fun k => Open.allO (f k) l) (l.all p)
  | [], _ => Tot.pure _
  | x :: l, h => by
    show Tot (fun k => (f k x).bind fun b => (Open.allO (f k) l).bind fun c => some (b && c)) ((x :: l).all p)
    rw [List.all_cons]
    exact Tot.bind (h x (by simp)) (Tot.bind (allO_tot fun y hy => h y (by simp [hy])) (Tot.pure _))

def hiM (a : Int) : Int := wrap64 ((shl .i64 1 a) - 1)
def masksB (a : Int) (l : List Int) : Bool := decide (1 ≤ a ∧ a ≤ 10) && (decide ((l.length : Int) ≤ 20) && l.all fun x => decide (0 ≤ x ∧ x ≤ hiM a))
theorem u64_small {a : Int} (h : 1 ≤ a ∧ a ≤ 10) : IntKind.u64.wrap a = a := by
  have : a = 1 ∨ a = 2 ∨ a = 3 ∨ a = 4 ∨ a = 5 ∨ a = 6 ∨ a = 7 ∨ a = 8 ∨ a = 9 ∨ a = 10 := by omega
  rcases this with rfl | rfl | rfl | rfl | rfl | rfl | rfl | rfl | rfl | rfl <;> decide
theorem specMasks_v (a : Int) (l : List Int) : Tot (fun k => spec_l10Masks.f k a l) (masksB a l) := by
  unfold spec_l10Masks.f masksB
  simp only [in_v, Option.bind_some]
  by_cases c1 : 1 ≤ a ∧ a ≤ 10
  · rw [decide_eq_true c1, Bool.true_and, u64_small c1]
    refine Tot.yes rfl ?_
    by_cases c2 : (l.length : Int) ≤ 20
    · rw [decide_eq_true c2, Bool.true_and]
      exact Tot.yes c2 (Tot.yes (by omega) (Tot.bind (all_v l 0 (hiM a) (by omega)) (Tot.pure _)))
    · rw [decide_eq_false c2]; exact Tot.no c2 (Tot.pure _)
  · rw [decide_eq_false c1]; exact Tot.no (by decide) (Tot.pure _)
theorem implMask_v (a x : Int) (h : 0 ≤ a) : impl_isMask.f a x = some (decide (0 ≤ x ∧ x ≤ hiM a)) := by
  unfold impl_isMask.f
  rw [if_pos h, within_v]
  rfl
theorem implMasks_v (a : Int) (l : List Int) : impl_areMasks.f a l = some (masksB a l) := by
  have e1 : impl_isMany.f a = some (decide (1 ≤ a ∧ a ≤ 10)) := by unfold impl_isMany.f; rw [within_v]; rfl
  unfold impl_areMasks.f masksB
  rw [e1, Option.bind_some]
  by_cases c1 : 1 ≤ a ∧ a ≤ 10
  · rw [decide_eq_true c1, Bool.true_and, if_pos rfl]
    by_cases c2 : (l.length : Int) ≤ 20
    · rw [decide_eq_true c2, Bool.true_and, if_pos c2]
      exact Open.allO_v fun x _ => implMask_v a x (by omega)
    · rw [decide_eq_false c2, if_neg c2]; rfl
  · rw [decide_eq_false c1, if_neg (by decide)]; rfl

theorem rdLPacket_at (a b : List S111) (x : S111) : rd_T111 (a ++ x :: b) (a.length : Int) = x := by simp [rd_T111, List.getD]
theorem szPacket_v (x : S111) (m : Int) (h0 : 0 ≤ m) (h1 : m ≤ 1048576) (hx : (x.f1.size : Int) ≤ 140737488351232) : ∃ v, Tot (fun (_ : Nat) => laws_szPacket.f x.f0 x.f1 m) v ∧ v ≤ 1048576 ∧ (0 ≤ v → True) := by
  unfold laws_szPacket.f
  rw [wrap_in (by omega) (by omega)]
  by_cases h : m - (x.f1.size : Int) < 0
  · exact ⟨-1, Tot.yes h (Tot.pure _), by omega, fun h => by omega⟩
  · exact ⟨_, Tot.no h (Tot.pure _), by omega, fun _ => trivial⟩
theorem szPacketS_l : ∀ (b a : List S111) (m : Int), 0 ≤ m → m ≤ 1048576 → ((a ++ b).length : Int) ≤ 1048576 → (∀ x ∈ b, (x.f1.size : Int) ≤ 140737488351232) → ∃ v, Tot (fun k => laws_szPacketS.l0 k (a ++ b) m a.length) v ∧ v ≤ 1048576 ∧ (0 ≤ v → ∀ y ∈ b, True)
  | [], a, m, h0, h1, hl, hs => ⟨m, by
    refine Tot.step (fun k => laws_szPacketS.l0.eq_2 ..) ?_
    simp only [List.append_nil]
    exact Tot.no (by omega) (Tot.pure _), h1, fun _ y hy => by simp at hy⟩
  | x :: b, a, m, h0, h1, hl, hs => by
    have hll : ((a ++ x :: b).length : Int) = a.length + b.length + 1 := by simp; omega
    obtain ⟨u, hu, hu1, hu2⟩ := szPacket_v x m h0 h1 (hs x (by simp))
    by_cases hc : u < 0
    · refine ⟨-1, Tot.step (fun k => laws_szPacketS.l0.eq_2 ..) (Tot.yes (by omega) (Tot.yes (by omega) ?_)), by omega, fun h => by omega⟩
      rw [rdLPacket_at]
      exact Tot.bind hu (Tot.yes hc (Tot.pure _))
    · obtain ⟨v, hv, hv1, hv2⟩ := szPacketS_l b (a ++ [x]) u (by omega) hu1 (by simp at hll hl ⊢; omega) (fun y hy => hs y (by simp [hy]))
      refine ⟨v, Tot.step (fun k => laws_szPacketS.l0.eq_2 ..) (Tot.yes (by omega) (Tot.yes (by omega) ?_)), hv1, fun h y hy => ?_⟩
      · rw [rdLPacket_at, wrap_in (x := (a.length : Int) + 1) (by omega) (by omega)]
        exact Tot.bind hu (Tot.no hc (by simpa using hv))
      · rcases List.mem_cons.1 hy with rfl | hy
        · exact hu2 (by omega)
        · exact hv2 h y hy
theorem szPacketS_v (l : List S111) (m : Int) (h0 : 0 ≤ m) (h1 : m ≤ 1048576) (hl : (l.length : Int) ≤ 9223372036850000000) (hs : ∀ x ∈ l, (x.f1.size : Int) ≤ 140737488351232) : ∃ v, Tot (fun k => laws_szPacketS.f k l m) v ∧ v ≤ 1048576 ∧ (0 ≤ v → (l.length : Int) ≤ 1048576 ∧ ∀ y ∈ l, True) := by
  unfold laws_szPacketS.f
  rw [wrap_in (by omega) (by omega)]
  by_cases h : m - (l.length : Int) < 0
  · exact ⟨-1, Tot.yes h (Tot.pure _), by omega, fun h => by omega⟩
  · obtain ⟨v, hv, hv1, hv2⟩ := szPacketS_l l [] (m - (l.length : Int)) (by omega) (by omega) (by simp; omega) hs
    exact ⟨v, Tot.no h (by simpa using hv), hv1, fun h3 => ⟨by omega, hv2 h3⟩⟩
def cvPacket (x : S111) : S112 := ⟨x.f0, x.f1⟩
theorem toPacket_v (x : S111) (hs : True) : Tot (fun (_ : Nat) => laws_toPacket.f x.f0 x.f1) (x.f0, x.f1) := Tot.of_eq fun _ => by simp [laws_toPacket.f]
theorem toPacketS_l : ∀ (b a : List S111), ((a ++ b).length : Int) ≤ 9223372036854775806 → (∀ y ∈ b, True) → Tot (fun k => laws_toPacketS.l0 k (a ++ b) (a.map cvPacket ++ List.replicate b.length z112) a.length) ((a ++ b).map cvPacket)
  | [], a, h, hs => by
    refine Tot.step (fun k => laws_toPacketS.l0.eq_2 ..) ?_
    simp only [List.append_nil, List.length_nil, List.replicate_zero]
    exact Tot.no (by omega) (Tot.pure _)
  | x :: b, a, h, hs => by
    refine Tot.step (fun k => laws_toPacketS.l0.eq_2 ..) ?_
    have hl : ((a ++ x :: b).length : Int) = a.length + b.length + 1 := by simp; omega
    have hl2 : ((a.map cvPacket ++ List.replicate (x :: b).length z112).length : Int) = a.length + b.length + 1 := by simp; omega
    refine Tot.yes (by omega) (Tot.yes (by omega) ?_)
    rw [rdLPacket_at, wrap_in (x := (a.length : Int) + 1) (by omega) (by omega)]
    refine Tot.bind (toPacket_v x (hs x (by simp))) (Tot.yes (by omega) ?_)
    have e : (a.map cvPacket ++ List.replicate (x :: b).length z112).set ((a.length : Int)).toNat (cvPacket x) = (a ++ [x]).map cvPacket ++ List.replicate b.length z112 := by
      rw [List.length_cons, List.replicate_succ, List.set_append_right _ _ (by simp)]
      simp
    have e2 : (⟨x.f0, x.f1⟩ : S112) = cvPacket x := rfl
    dsimp only
    rw [e2, e]
    have := toPacketS_l b (a ++ [x]) (by simp at hl h ⊢; omega) (fun y hy => hs y (by simp [hy]))
    simpa using this
theorem toPacketS_v (l : List S111) (h : (l.length : Int) ≤ 1048576) (hs : ∀ y ∈ l, True) : Tot (fun k => laws_toPacketS.f k l) (l.map cvPacket) := by
  unfold laws_toPacketS.f
  refine Tot.yes (by omega) (Tot.yes (by omega) ?_)
  have := toPacketS_l l [] (by simp; omega) hs
  simpa using this
theorem rdIPacket_at (a b : List S112) (x : S112) : rd_T112 (a ++ x :: b) (a.length : Int) = x := by simp [rd_T112, List.getD]
theorem eqPacket_v (x : S112) (hs : True) : Tot (fun (_ : Nat) => laws_eqPacket.f x.f0 x.f1 x.f0 x.f1) true := Tot.of_eq fun _ => by simp [laws_eqPacket.f]
theorem eqPacketS_l : ∀ (b a : List S112), ((a ++ b).length : Int) ≤ 9223372036854775806 → (∀ y ∈ b, True) → Tot (fun k => laws_eqPacketS.l0 k (a ++ b) (a ++ b) a.length) true
  | [], a, h, hs => by
    refine Tot.step (fun k => laws_eqPacketS.l0.eq_2 ..) ?_
    simp only [List.append_nil]
    exact Tot.no (by omega) (Tot.pure _)
  | x :: b, a, h, hs => by
    refine Tot.step (fun k => laws_eqPacketS.l0.eq_2 ..) ?_
    have hl : ((a ++ x :: b).length : Int) = a.length + b.length + 1 := by simp; omega
    refine Tot.yes (by omega) (Tot.yes (by omega) (Tot.yes (by omega) ?_))
    rw [rdIPacket_at, wrap_in (x := (a.length : Int) + 1) (by omega) (by omega)]
    refine Tot.bind (eqPacket_v x (hs x (by simp))) (Tot.yes rfl ?_)
    have := eqPacketS_l b (a ++ [x]) (by simp at hl h ⊢; omega) (fun y hy => hs y (by simp [hy]))
    simpa using this
theorem eqPacketS_v (l : List S112) (h : (l.length : Int) ≤ 9223372036854775806) (hs : ∀ y ∈ l, True) : Tot (fun k => laws_eqPacketS.f k l l) true := by
  unfold laws_eqPacketS.f
  refine Tot.yes rfl ?_
  have := eqPacketS_l l [] (by simpa using h) hs
  simpa using this
theorem parted_l : ∀ (b a : List S112), ((a ++ b).length : Int) ≤ 1048576 → Tot (fun k => impl_partedPackets.l0 k (a.map (·.f0)) (a.map (·.f1)) (a ++ b) ((a ++ b).length : Int) a.length) ((a ++ b).map (·.f0), (a ++ b).map (·.f1))
  | [], a, h => by
    refine Tot.step (fun k => impl_partedPackets.l0.eq_2 ..) (Tot.no (by simp) ?_)
    simp only [List.append_nil]
    exact Tot.pure _
  | x :: b, a, h => by
    have hl : ((a ++ x :: b).length : Int) = a.length + b.length + 1 := by simp; omega
    have h1 : (a.map (·.f0)).length = a.length := by simp
    have h2 : (a.map (·.f1)).length = a.length := by simp
    refine Tot.step (fun k => impl_partedPackets.l0.eq_2 ..) (Tot.yes (by omega) (Tot.yes (by omega) (Tot.yes (by omega) (Tot.some_bind ?_))))
    refine Tot.yes (by rw [h1]; simp; omega) (Tot.some_bind (Tot.yes (by rw [h2]; simp; omega) ?_))
    rw [rdIPacket_at, wrap_in (x := (a.length : Int) + 1) (by omega) (by omega)]
    have := parted_l b (a ++ [x]) (by simpa using h)
    simpa using this
theorem parted_v (l : List S112) (h : (l.length : Int) ≤ 1048576) : Tot (fun k => impl_partedPackets.f k l) (l.map (·.f0), l.map (·.f1)) := by
  have := parted_l l [] (by simpa using h)
  unfold impl_partedPackets.f
  simpa using this
def packsB (a : Int) (l : List S112) : Bool := alikeB (l.map (·.f1)) && masksB a (l.map (·.f0))
theorem specPk_l (n : Int) (L : List S112) (h0 : (L.length : Int) ≤ 1048576) : ∀ (b a : List S112), a ++ b = L → Tot (fun k => spec_GoodPackets.l0 k n L (a.map (·.f0)) L (L.length : Int) a.length) ((b.all fun x => alikeP x.f1 ((L.map (·.f1)).headD ByteArray.empty)) && masksB n (L.map (·.f0)))
  | [], a, h => by
    simp only [List.append_nil] at h
    subst h
    refine Tot.step (fun k => spec_GoodPackets.l0.eq_2 ..) (Tot.no (by omega) ?_)
    rw [List.all_nil, Bool.true_and]
    exact Tot.bind (specMasks_v n _) (Tot.pure _)
  | x :: b, a, h => by
    have hl : (L.length : Int) = a.length + b.length + 1 := by rw [← h]; simp; omega
    refine Tot.step (fun k => spec_GoodPackets.l0.eq_2 ..) (Tot.yes (by omega) (Tot.yes (by omega) (Tot.yes (by omega) (Tot.yes (by omega) ?_))))
    have e1 : rd_T112 L (a.length : Int) = x := by rw [← h]; exact rdIPacket_at ..
    have e2 : (rd_T112 L 0).f1 = (L.map (·.f1)).headD ByteArray.empty := by
      cases L with
      | nil => simp at hl; omega
      | cons y r => rfl
    rw [e1, e2, wrap_in (x := (a.length : Int) + 1) (by omega) (by omega), List.all_cons]
    have next := specPk_l n L h0 b (a ++ [x]) (by simpa using h)
    have next : Tot (fun k => spec_GoodPackets.l0 k n L (a.map (·.f0) ++ [x.f0]) L (L.length : Int) ((a.length : Int) + 1)) ((b.all fun x => alikeP x.f1 ((L.map (·.f1)).headD ByteArray.empty)) && masksB n (L.map (·.f0))) := by simpa using next
    have ea : alikeP x.f1 ((L.map (·.f1)).headD ByteArray.empty) = (decide ((x.f1.size : Int) = (((L.map (·.f1)).headD ByteArray.empty).size : Int)) && decide ((x.f1.size : Int) ≤ 20)) := rfl
    rw [ea]
    generalize (L.map (·.f1)).headD ByteArray.empty = z at *
    by_cases c1 : (x.f1.size : Int) = (z.size : Int)
    · refine Tot.yes c1 ?_
      rw [decide_eq_true c1, Bool.true_and]
      by_cases c2 : (x.f1.size : Int) > 20
      · have e : decide ((x.f1.size : Int) ≤ 20) = false := decide_eq_false (by omega)
        rw [e]
        exact Tot.yes c2 (Tot.pure _)
      · have e : decide ((x.f1.size : Int) ≤ 20) = true := decide_eq_true (by omega)
        rw [e, Bool.true_and]
        exact Tot.no c2 (Tot.yes (by simp; omega) next)
    · rw [decide_eq_false c1]
      exact Tot.no c1 (Tot.pure _)
theorem specPk_v (n : Int) (L : List S112) (h0 : (L.length : Int) ≤ 1048576) : Tot (fun k => spec_GoodPackets.f k n L) (packsB n L) := by
  have := specPk_l n L h0 L [] rfl
  unfold spec_GoodPackets.f packsB alikeB
  rw [List.all_map]
  simpa [Function.comp_def] using this
theorem implPk_v (n : Int) (L : List S112) (h0 : (L.length : Int) ≤ 1048576) : Tot (fun k => impl_GoodPackets.f k n L) (packsB n L) := by
  unfold impl_GoodPackets.f packsB
  refine Tot.bind (parted_v L h0) ?_
  simp only [implMasks_v, Option.bind_some, impl_areAlike.f]
  cases masksB n (L.map (·.f0)) with
  | false => rw [Bool.and_false]; exact Tot.no (by decide) (Tot.pure _)
  | true => rw [Bool.and_true]; exact Tot.yes rfl (Tot.pure _)
theorem FnExactGoodPackets : laws_FnExactGoodPackets.Pure := by
  intro n l _ ⟨hl, hok⟩
  obtain ⟨v, hv, hv1, hv2⟩ := szPacketS_v l 1048576 (by omega) (by omega) (by omega) (fun x hx => by have := (hok x hx).2; omega)
  refine Tot.at_ ?_
  unfold laws_FnExactGoodPackets.f
  refine Tot.bind hv ?_
  by_cases h0 : v < 0
  · exact Tot.yes h0 (Tot.pure _)
  · have h1 := (hv2 (by omega)).1
    have toV := toPacketS_v l h1 (fun _ _ => trivial)
    have hs : ((l.map cvPacket).length : Int) ≤ 1048576 := by simpa using h1
    generalize l.map cvPacket = L at *
    refine Tot.no h0 (Tot.bind toV (Tot.bind (specPk_v n L hs) (Tot.bind toV (Tot.bind (implPk_v n L hs) (Tot.no (by simp) ?_)))))
    exact Tot.bind toV (Tot.bind (eqPacketS_v L (by omega) (fun _ _ => trivial)) (Tot.yes rfl (Tot.pure _)))

end Go.Proofs.Ytleklbmodelehaa.Pure

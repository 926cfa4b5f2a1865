/- Lean functions with the same answers as the Go functions that one law reaches, and for each a proof that its call comes to just these answers. No condition. Written by pr.py, a program of this session. -/
import Derived.Test.YtleklbmodelehaaPFnExactInSpanx0
import Derived.Test.YtleklbmodelehaaPFnExactInSpanx1
import Derived.Test.YtleklbmodelehaaPFnExactInSpanx4
namespace Go.Proofs.Ytleklbmodelehaa.PFnExactInSpan
open Go.RowKit Go.Proofs.YtleklbmodelehaaW.PrintWords Go.Proofs.YtleklbmodelehaaW.PrintLast Go.Proofs.YtleklbmodelehaaW.PrintMore
attribute [local go_sem] max2_int min2_int max_two min_two max_three min_three max_four min_four   -- for this text's walks alone
set_option linter.unusedVariables false
set_option linter.unusedSimpArgs false

/-! ### impl_reduce: function 127 (ours) -/
theorem pk_beyond {W : World} {base g n c o : Nat} {xs : List S112} {ok : Nat → Prop} (HO : Kd.R k112 112 W base ok (.slice (some ⟨g, 0, none⟩) n c) xs) (vs : List Value) (ho : n * 2 ≤ o) (hc : o + vs.length ≤ c * 2) :
    Kd.R k112 112 (W.setCells g o vs) base ok (.slice (some ⟨g, 0, none⟩) n c) xs ∧ W.grownBy (W.setCells g o vs) (some g) := by
  obtain ⟨hn, hnc, _⟩ := Kd.R_reads' HO
  obtain ⟨hok, inner, hown, hr⟩ := HO
  rcases hown.2 with ⟨hv, _⟩ | ⟨g', cap', cur, hv, hb, hh, hnl, hcm, hcs, htake⟩
  · cases hv
  injection hv with ha _ hc'
  injection ha with ha
  injection ha with hg
  subst hg; subst hc'
  have hcs2 : cur.size = c * 2 := hcs
  obtain ⟨cur', h3, h4, h5⟩ := setCells_row vs o W cur hh (by omega)
  obtain ⟨s1, s2, s3, s4⟩ := setCells_same g vs o W
  have hfar : ∀ k', k' ≠ g → (W.setCells g o vs).heap[k']? = W.heap[k']? := fun k' hk' => setCells_far vs _ k' hk'
  have hgo : ∀ m, some g = (Value.slice (some ⟨g, 0, none⟩) m c).ownBlock := fun m => by simp [Value.ownBlock]
  refine ⟨⟨hok, inner, ⟨hown.1, .inr ⟨g, c, cur', by rw [hn], hb, h3, hnl, hcm, by rw [h4, hcs], ?_⟩⟩, ?_⟩, ⟨s1, s2, s3, by rw [s4]; exact Nat.le_refl _, fun k' _ hk' => hfar k' (fun he => hk' (by rw [he]))⟩⟩
  · rw [← htake, h5]
    have h6 : xs.length * k112.sz ≤ o := by rw [← hn]; exact ho
    have h7 : o ≤ cur.toList.length := by rw [Array.length_toList]; omega
    rw [List.append_assoc, List.take_append_of_le_length (by rw [List.length_take]; omega), List.take_take, Nat.min_eq_left h6]
  · exact hr.imp_ (fun p q hp => k112.M_mono (fun k' hk' => hk') (k112.M_move (fun k' hk' => hfar k' (fun he => hk'.2 (by rw [← hgo, he]))) hp))
theorem pk_clear (w : World) (ty : TypeId) (b o c : Nat) (u v : Value) (h0 : w.cell? ⟨b, o, none⟩ = some u) (h1 : w.cell? ⟨b, o + 1, none⟩ = some v) (f0 : w.frozen? ⟨b, o, none⟩ = false) (f1 : w.frozen? ⟨b, o + 1, none⟩ = false) :
    (Builtin.clear_ #[70] ty #[.slice (some ⟨b, o, none⟩) 1 c]).run Try.prog w = .ok (.tuple #[]) (w.setCells b o [.int .i64 0, .string ⟨#[]⟩]) := by
  have hv : (zeroValue 112).run Try.prog w = .ok (.agg #[.int .i64 0, .string ⟨#[]⟩]) w := by go_simp
  have hst := run_storeCells_cells (P := Try.prog) b o [.int .i64 0, .string ⟨#[]⟩] 0 w (by
    intro j hj
    match j, hj with
    | 0, _ => simp [h0]
    | 1, _ => simp [h1]) (by
    intro j hj
    match j, hj with
    | 0, _ => simpa using f0
    | 1, _ => simpa using f1) (by
    intro x hx
    simp at hx
    rcases hx with rfl | rfl <;> rfl)
  simp only [Nat.add_zero] at hst
  have hz : (Builtin.zeroCells (Value.agg #[.int .i64 0, .string ⟨#[]⟩]).cells 1).toList = [.int .i64 0, .string ⟨#[]⟩] := by first | kernel_rfl | (simp [Builtin.zeroCells, Value.cells]; done) | (simp [Builtin.zeroCells, Value.cells]; decide)
  simp [Builtin.clear_, run_underlying Try.underlying70, hv, hz, hst]
theorem pk_tail {W : World} {base g n c : Nat} {xs : List S112} {ok : Nat → Prop} (HO : Kd.R k112 112 W base ok (.slice (some ⟨g, 0, none⟩) n c) xs) (hc : n < c) :
    ∃ u v, W.cell? ⟨g, n * 2, none⟩ = some u ∧ W.cell? ⟨g, n * 2 + 1, none⟩ = some v ∧ W.frozen? ⟨g, n * 2, none⟩ = false ∧ W.frozen? ⟨g, n * 2 + 1, none⟩ = false := by
  obtain ⟨hn, hnc, _⟩ := Kd.R_reads' HO
  obtain ⟨hok, inner, hown, hr⟩ := HO
  rcases hown.2 with ⟨hv, _⟩ | ⟨g', cap', cur, hv, hb, hh, hnl, hcm, hcs, htake⟩
  · cases hv
  injection hv with ha _ hc'
  injection ha with ha
  injection ha with hg
  subst hg; subst hc'
  have hcs2 : cur.size = c * 2 := hcs
  have a0 : n * 2 < cur.size := by omega
  have a1 : n * 2 + 1 < cur.size := by omega
  exact ⟨_, _, (cell_of_row W g _ cur 112 (0, 0) hh).trans (Array.getElem?_eq_getElem a0), (cell_of_row W g _ cur 112 (0, 0) hh).trans (Array.getElem?_eq_getElem a1), blk_frozen hh _, blk_frozen hh _⟩
set_option maxHeartbeats 4000000 in
set_option maxRecDepth 100000 in
theorem pk_delete (g c m i : Nat) (xs : List S112) (ok : Nat → Prop) (w0 w : World) (hB : Below w0.heap.size w0 w) (ho : Kd.R k112 112 w w0.heap.size ok (.slice (some ⟨g, 0, none⟩) (m + 1) c) xs) (hi : i ≤ m) (hbig : m ≤ 1000000) :
    Calls Try.prog 141 #[.slice (some ⟨g, 0, none⟩) (m + 1) c, .int .i64 i, .int .i64 (i + 1)] w fun e w' => e = .returned (.slice (some ⟨g, 0, none⟩) m c) ∧ Kd.R k112 112 w' w0.heap.size ok (.slice (some ⟨g, 0, none⟩) m c) (xs.eraseIdx i) ∧ Kept w w' (fun k => k = g) ∧ Below w0.heap.size w0 w' := by
  have HO := Aside0.mk ho
  have HB := Aside0.mk hB
  have hcap : m + 1 ≤ c := (Kd.R_reads' ho).2.1
  have HBG := Aside0.mk hbig
  clear hB ho hbig
  have q1 : (i : Int) ≤ ((m + 1 : Nat) : Int) := by omega
  have q2 : (i : Int) + 1 ≤ ((m + 1 : Nat) : Int) := by omega
  have q3 : (i : Int) ≤ (i : Int) + 1 := by omega
  have q4 : 0 ≤ (i : Int) := by omega
  have q5 : 0 ≤ (i : Int) + 1 := by omega
  by_cases hci : c = i + 1
  · obtain rfl : m = i := by omega
    subst hci
    go_enter Try.func141, Try.ntmps141
    go_wp2
    have hmi : m + 1 - (m + 1) = m - m := by omega
    have hic : m ≤ m + 1 := by omega
    have hic1 : m + 1 ≤ m + 1 := by omega
    go_region_law (refine Kd.R_delete_step k112 (w0 := w0) w0.heap.size rfl (.tmp 22) (.tmp 25) 70 112 rfl Try.underlying70 (by kernel_rfl) (g := g) (n := m + 1) (c := (m + 1)) (k := m) (xs := xs) (ok := ok) rfl rfl ?hA ?hM ?hO (by omega) ?hB ?hS ?_; (case hA => (rw [if_pos rfl])); (case hM => omega); (case hO => exact Kd.R_drew HO.out); (case hB => exact below_drew HB.out); (case hS => exact HB.out.size); intro w1 ho1 hb1 hg1)
    all_goals
      replace ho1 : Kd.R k112 112 w1 w0.heap.size ok (.slice (some ⟨g, 0, none⟩) m (m + 1)) (xs.eraseIdx m) := ho1
      obtain ⟨u, v, z0, z1, f0, f1⟩ := pk_tail ho1 (by omega)
      have HO1 := Aside0.mk ho1
      have HB1 := Aside0.mk hb1
      have HG1 := Aside0.mk (Kept.of_grown hg1 (Kept.drew (Kept.refl w (fun k => k = g))) (fun k hk => .inl (Option.some.inj hk).symm))
      clear ho1 hb1 hg1
      have kc := fun (ty : TypeId) (c' : Nat) => pk_clear w1 ty g (m * 2) c' u v z0 z1 f0 f1
      have hmm : m ≤ m + 1 := by omega
      have hm1 : m + 1 - m = 1 := by omega
      have hcm : (m + 1 = m) = False := by simp; try omega
      go_wp2
      go_ret
      have hz := pk_beyond HO1.out [.int .i64 0, .string ⟨#[]⟩] (Nat.le_refl _) (by show m * 2 + 2 ≤ (m + 1) * 2; omega)
      exact ⟨rfl, hz.1, Kept.of_grown hz.2 HG1.out (fun k hk => .inl (Option.some.inj hk).symm), HB1.out.grown hz.2 HB1.out.size (fun k hk => by injection hk with hk; subst hk; exact Kd.R_base HO1.out _ (by simp [Value.ownBlock]))⟩
  · have hcf : (c = i + 1) = False := by simp; omega
    go_enter Try.func141, Try.ntmps141
    go_wp2
    have hmi : m + 1 - (i + 1) = m - i := by omega
    have hic : i ≤ c := by omega
    have hic1 : i + 1 ≤ c := by omega
    go_region_law (refine Kd.R_delete_step k112 (w0 := w0) w0.heap.size rfl (.tmp 22) (.tmp 25) 70 112 rfl Try.underlying70 (by kernel_rfl) (g := g) (n := m + 1) (c := c) (k := i) (xs := xs) (ok := ok) rfl rfl ?hA ?hM ?hO (by omega) ?hB ?hS ?_; (case hA => (rw [if_neg hci]; rw [show (some (⟨g, 0, none⟩ : Addr)).map (·.add ((i + 1) * k112.sz)) = some ⟨g, (i + 1) * 2, none⟩ from by rw [Option.map_some, Addr.add_lit, Nat.zero_add]; rfl])); (case hM => omega); (case hO => exact Kd.R_drew HO.out); (case hB => exact below_drew HB.out); (case hS => exact HB.out.size); intro w1 ho1 hb1 hg1)
    all_goals
      replace ho1 : Kd.R k112 112 w1 w0.heap.size ok (.slice (some ⟨g, 0, none⟩) m c) (xs.eraseIdx i) := ho1
      obtain ⟨u, v, z0, z1, f0, f1⟩ := pk_tail ho1 (by omega)
      have HO1 := Aside0.mk ho1
      have HB1 := Aside0.mk hb1
      have HG1 := Aside0.mk (Kept.of_grown hg1 (Kept.drew (Kept.refl w (fun k => k = g))) (fun k hk => .inl (Option.some.inj hk).symm))
      clear ho1 hb1 hg1
      have kc := fun (ty : TypeId) (c' : Nat) => pk_clear w1 ty g (m * 2) c' u v z0 z1 f0 f1
      have hmm : m ≤ m + 1 := by omega
      have hm1 : m + 1 - m = 1 := by omega
      have hcm : (c = m) = False := by simp; try omega
      go_wp2
      go_ret
      have hz := pk_beyond HO1.out [.int .i64 0, .string ⟨#[]⟩] (Nat.le_refl _) (by show m * 2 + 2 ≤ c * 2; omega)
      exact ⟨rfl, hz.1, Kept.of_grown hz.2 HG1.out (fun k hk => .inl (Option.some.inj hk).symm), HB1.out.grown hz.2 HB1.out.size (fun k hk => by injection hk with hk; subst hk; exact Kd.R_base HO1.out _ (by simp [Value.ownBlock]))⟩
def pk_has (k : Int) (y : S112) : Bool := ((Go.bits .and .i64 (shr .i64 y.f0 k) 1) == 1)
def pk_less (k : Int) (x y : S112) : S112 := if pk_has k y = true then ⟨Go.bits .xor .i64 y.f0 x.f0, ⟨#[]⟩⟩ else y
def pk_step (k : Int) (t l : List S112) : List S112 × List S112 := if idxOf_Packet (pk_has k) l < 0 then (t, l) else ((t.map (pk_less k (rd_T112 l (idxOf_Packet (pk_has k) l)))) ++ [rd_T112 l (idxOf_Packet (pk_has k) l)], (l.eraseIdx (idxOf_Packet (pk_has k) l).toNat).map (pk_less k (rd_T112 l (idxOf_Packet (pk_has k) l))))
def pk_rounds : Nat → List S112 → List S112 → List S112 × List S112
  | 0, t, l => (t, l)
  | n + 1, t, l => pk_rounds n (pk_step n t l).1 (pk_step n t l).2
def pk_ok (l : List S112) : Prop := ∀ y ∈ l, y.f1 = ⟨#[]⟩
theorem pk_keep {W W2 : World} {base : Nat} {v : Value} {xs : List S112} {S : Nat → Prop} (h : Kd.R k112 112 W base (fun _ => True) v xs) (hk : Kept W W2 S) (hn : ∀ q, v.ownBlock = some q → ¬ S q) : Kd.R k112 112 W2 base (fun _ => True) v xs :=
  Kd.R_reok rfl (Kd.R_kept (Kd.R_tight rfl h) hk (fun q hq => hn q hq.symm)) (fun _ _ => trivial)
theorem pk_at {W : World} {base g n c : Nat} {xs : List S112} {ok : Nat → Prop} (h : Kd.R k112 112 W base ok (.slice (some ⟨g, 0, none⟩) n c) xs) (j : Nat) (hj : j < n) :
    W.cell? ⟨g, j * 2, none⟩ = some (.int .i64 (rd_T112 xs j).f0) ∧ W.cell? ⟨g, j * 2 + 1, none⟩ = some (.string (rd_T112 xs j).f1) ∧ W.frozen? ⟨g, j * 2, none⟩ = false ∧ W.frozen? ⟨g, j * 2 + 1, none⟩ = false := by
  obtain ⟨ce, hcl, hM, hcc, hfr⟩ := Kd.R_elem h z112 (j : Int) (by omega) (by omega)
  obtain rfl := k112_openM hM
  exact ⟨hcc 0 _ rfl, hcc 1 _ rfl, hfr 0, hfr 1⟩
theorem pk_put {W : World} {base g n c : Nat} {xs : List S112} {ok : Nat → Prop} (h : Kd.R k112 112 W base ok (.slice (some ⟨g, 0, none⟩) n c) xs) (j : Nat) (hj : j < n) (a : Int) (s : ByteArray) :
    Kd.R k112 112 ((W.setCell ⟨g, j * 2, none⟩ (.int .i64 a)).setCell ⟨g, j * 2 + 1, none⟩ (.string s)) base ok (.slice (some ⟨g, 0, none⟩) n c) (xs.set j ⟨a, s⟩) ∧ W.grownBy ((W.setCell ⟨g, j * 2, none⟩ (.int .i64 a)).setCell ⟨g, j * 2 + 1, none⟩ (.string s)) (some g) := by
  obtain ⟨ce, hcl, hM, hcc, hfr⟩ := Kd.R_elem h z112 (j : Int) (by omega) (by omega)
  obtain rfl := k112_openM hM
  exact Kd.R_seg h (j : Int) (by omega) (by omega) (seg := [.int .i64 a, .string s]) (j := 0) hcl hcc (show 2 ≤ 2 from by decide) (x' := (⟨a, s⟩ : S112)) (okp := fun _ => False) (k112_mkM _ _ _ (⟨a, s⟩ : S112)) (fun _ hk => hk.elim)
structure PkMid (w W : World) (v6 v7 : Value) (t l : List S112) (gL gb g10 k : Nat) (x : S112) : Prop where
  r6 : Kd.R k112 112 W w.heap.size (fun _ => True) v6 t
  r7 : Kd.R k112 112 W w.heap.size (fun _ => True) v7 l
  ap : ∀ q, v6.ownBlock = some q → v7.ownBlock ≠ some q
  n6 : v6.ownBlock ≠ some g10
  n7 : v7.ownBlock ≠ some g10
  bL : W.heap[gL]? = some (.cells #[v6, v7] 70 (0, 0))
  bk : W.heap[gb]? = some (.cells #[.int .i64 (k : Int)] 3 (0, 0))
  bx : W.heap[g10]? = some (.cells #[.int .i64 x.f0, .string x.f1] 112 (0, 0))
  be : Below w.heap.size w W
theorem PkMid.same {w W W2 : World} {v6 v7 : Value} {t l : List S112} {gL gb g10 k : Nat} {x : S112} (h : PkMid w W v6 v7 t l gL gb g10 k x) (hb : Below W.heap.size W W2) : PkMid w W2 v6 v7 t l gL gb g10 k x :=
  ⟨Kd.R_below h.r6 hb, Kd.R_below h.r7 hb, h.ap, h.n6, h.n7, blk_below h.bL hb, blk_below h.bk hb, blk_below h.bx hb, below_step h.be hb⟩
theorem PkMid.put6 {w W : World} {g n c j : Nat} {a : Int} {s : ByteArray} {v7 : Value} {t l : List S112} {gL gb g10 k : Nat} {x : S112} (h : PkMid w W (.slice (some ⟨g, 0, none⟩) n c) v7 t l gL gb g10 k x) (hj : j < n) :
    PkMid w ((W.setCell ⟨g, j * 2, none⟩ (.int .i64 a)).setCell ⟨g, j * 2 + 1, none⟩ (.string s)) (.slice (some ⟨g, 0, none⟩) n c) v7 (t.set j ⟨a, s⟩) l gL gb g10 k x := by
  obtain ⟨hp, hg⟩ := pk_put h.r6 j hj a s
  have ho : (Value.slice (some ⟨g, 0, none⟩) n c).ownBlock = some g := by simp [Value.ownBlock]
  have hgb : w.heap.size ≤ g := Kd.R_base h.r6 g ho
  exact ⟨hp, pk_keep h.r7 (Kept.of_grown hg (Kept.refl W (fun q => q = g)) (fun q hq => .inl (Option.some.inj hq).symm)) (fun q hq e => h.ap g ho (by rw [← e]; exact hq)), h.ap, h.n6, h.n7,
    blk_grown h.bL hg (by rw [← ho]; exact Kd.R_ne h.r6 h.bL (by decide)), blk_grown h.bk hg (by rw [← ho]; exact Kd.R_ne h.r6 h.bk (by decide)), blk_grown h.bx hg (fun e => h.n6 (by rw [ho, e])), below_set (below_set h.be hgb) hgb⟩
theorem PkMid.put7 {w W : World} {g n c j : Nat} {a : Int} {s : ByteArray} {v6 : Value} {t l : List S112} {gL gb g10 k : Nat} {x : S112} (h : PkMid w W v6 (.slice (some ⟨g, 0, none⟩) n c) t l gL gb g10 k x) (hj : j < n) :
    PkMid w ((W.setCell ⟨g, j * 2, none⟩ (.int .i64 a)).setCell ⟨g, j * 2 + 1, none⟩ (.string s)) v6 (.slice (some ⟨g, 0, none⟩) n c) t (l.set j ⟨a, s⟩) gL gb g10 k x := by
  obtain ⟨hp, hg⟩ := pk_put h.r7 j hj a s
  have ho : (Value.slice (some ⟨g, 0, none⟩) n c).ownBlock = some g := by simp [Value.ownBlock]
  have hgb : w.heap.size ≤ g := Kd.R_base h.r7 g ho
  exact ⟨pk_keep h.r6 (Kept.of_grown hg (Kept.refl W (fun q => q = g)) (fun q hq => .inl (Option.some.inj hq).symm)) (fun q hq e => h.ap g (by rw [← e]; exact hq) ho), hp, h.ap, h.n6, h.n7,
    blk_grown h.bL hg (by rw [← ho]; exact Kd.R_ne h.r7 h.bL (by decide)), blk_grown h.bk hg (by rw [← ho]; exact Kd.R_ne h.r7 h.bk (by decide)), blk_grown h.bx hg (fun e => h.n7 (by rw [ho, e])), below_set (below_set h.be hgb) hgb⟩
structure PkCur (w : World) (A : Option Addr) (n c gb g10 k : Nat) (x : S112) (J : List S112 → World → Prop) : Prop where
  r : ∀ ys W, J ys W → Kd.R k112 112 W w.heap.size (fun _ => True) (.slice A n c) ys
  bk : ∀ ys W, J ys W → W.heap[gb]? = some (.cells #[.int .i64 (k : Int)] 3 (0, 0))
  bx : ∀ ys W, J ys W → W.heap[g10]? = some (.cells #[.int .i64 x.f0, .string x.f1] 112 (0, 0))
  same : ∀ ys W W2, J ys W → Below W.heap.size W W2 → J ys W2
  ne : ∀ g, A = some ⟨g, 0, none⟩ → g ≠ g10
  put : ∀ ys W g j a s, J ys W → A = some ⟨g, 0, none⟩ → j < n → J (ys.set j ⟨a, s⟩) ((W.setCell ⟨g, j * 2, none⟩ (.int .i64 a)).setCell ⟨g, j * 2 + 1, none⟩ (.string s))
theorem pk_cur {w W : World} {v6 v7 : Value} {t l : List S112} {gL gb g10 k : Nat} {x : S112} (f : S112 → S112) (q : Nat) (hq : q < 2) (hot : pk_ok t) (hol : pk_ok l) (hlt : t.length ≤ 1000) (hll : l.length ≤ 1000) (h : PkMid w W v6 v7 (if 1 ≤ q then t.map f else t) (if 2 ≤ q then l.map f else l) gL gb g10 k x) :
    ∃ (A : Option Addr) (n c : Nat) (ys : List S112) (J : List S112 → World → Prop), W.cell? ⟨gL, q, none⟩ = some (.slice A n c) ∧ PkCur w A n c gb g10 k x J ∧ J ys W ∧ pk_ok ys ∧ ys.length = n ∧ n ≤ 1000 ∧ ∀ W2, J (ys.map f) W2 → PkMid w W2 v6 v7 (if 1 ≤ q + 1 then t.map f else t) (if 2 ≤ q + 1 then l.map f else l) gL gb g10 k x := by
  obtain ⟨A6, c6, e6⟩ := Kd.R_slice h.r6
  obtain ⟨A7, c7, e7⟩ := Kd.R_slice h.r7
  match q, hq with
  | 0, _ =>
    simp only [show ¬ (1 ≤ 0) from by decide, show ¬ (2 ≤ 0) from by decide, if_false] at h e6 e7
    refine ⟨A6, t.length, c6, t, fun zs V => PkMid w V v6 v7 zs l gL gb g10 k x, ?_, ⟨fun ys V hv => by rw [← e6]; exact hv.r6, fun ys V hv => hv.bk, fun ys V hv => hv.bx, fun ys V V2 hv hb => hv.same hb, fun g hA e => h.n6 (by rw [e6, hA, e]; simp [Value.ownBlock]), fun ys V g j a s hv hA hj => ?_⟩, h, hot, rfl, hlt, fun W2 h2 => h2⟩
    · rw [blk_cell h.bL, e6]; rfl
    · subst e6
      subst hA
      exact hv.put6 hj
  | 1, _ =>
    simp only [Nat.le_refl, if_true, show ¬ (2 ≤ 1) from by decide, if_false] at h e6 e7
    refine ⟨A7, l.length, c7, l, fun zs V => PkMid w V v6 v7 (t.map f) zs gL gb g10 k x, ?_, ⟨fun ys V hv => by rw [← e7]; exact hv.r7, fun ys V hv => hv.bk, fun ys V hv => hv.bx, fun ys V V2 hv hb => hv.same hb, fun g hA e => h.n7 (by rw [e7, hA, e]; simp [Value.ownBlock]), fun ys V g j a s hv hA hj => ?_⟩, h, hol, rfl, hll, fun W2 h2 => h2⟩
    · rw [blk_cell h.bL, e7]; rfl
    · subst e7
      subst hA
      exact hv.put7 hj
theorem pk_idx_lt (p : S112 → Bool) : ∀ l : List S112, idxOf_Packet p l < l.length
  | [] => by simp [idxOf_Packet]
  | x :: l => by
    have ih := pk_idx_lt p l
    have hg := idxOf_Packet_ge p l
    simp only [idxOf_Packet]
    repeat' split
    all_goals (simp only [List.length_cons]; omega)
set_option maxHeartbeats 4000000 in
set_option maxRecDepth 100000 in
theorem pk_has1 (k : Nat) (x : S112) (gb : Nat) (W : World) (hB : W.cell? ⟨gb, 0, none⟩ = some (.int .i64 k)) :
    Calls Try.prog 139 #[.agg #[.int .i64 x.f0, .string x.f1], .pointer (some ⟨gb, 0, none⟩)] W fun e w' => e = .returned (.bool (pk_has k x)) ∧ Below W.heap.size W w' := by
  have hc := fun (W' : World) => impl_has.calls x.f0 k (pk_has k x) W' (by unfold impl_has.f; rw [if_pos (by omega)]; rfl)
  have hB' : (W.alloc (.cells #[.int .i64 x.f0, .string x.f1] 112)).cell? ⟨gb, 0, none⟩ = some (.int .i64 k) := pw_cell_below (below_alloc (Below.refl _ _) _) hB
  go_enter Try.func139, Try.ntmps139
  go_wp2_with (go_at_call 140; refine (hc _).mono ?_; rintro e w' ⟨rfl, hd⟩)
  go_ret
  exact ⟨rfl, below_then (below_alloc (Below.refl _ _) _) (by simp) hd.below⟩
theorem pk_index (k : Nat) (gb : Nat) (A : Option Addr) (c : Nat) (l : List S112) (w : World) (hC : Kd.C k112 w A l.length l) (hB : w.cell? ⟨gb, 0, none⟩ = some (.int .i64 k)) :
    Calls Try.prog 138 #[.slice A l.length c, .func (.func 139) #[] #[.pointer (some ⟨gb, 0, none⟩)]] w fun e w' => e = .returned (.int .i64 (idxOf_Packet (pk_has k) l)) ∧ Below w.heap.size w w' :=
  fx_index_Packet (pk_has k) 139 #[.pointer (some ⟨gb, 0, none⟩)] (enters_of Try.func139 (by kernel_rfl) rfl) A c l w hC (fun x hx W hW cs hk => by
    obtain rfl := k112_open hk
    exact pk_has1 k x gb W (pw_cell_below hW hB))
structure PkOut (w W : World) (v6 v7 : Value) (t l : List S112) : Prop where
  r6 : Kd.R k112 112 W w.heap.size (fun _ => True) v6 t
  r7 : Kd.R k112 112 W w.heap.size (fun _ => True) v7 l
  ap : ∀ q, v6.ownBlock = some q → v7.ownBlock ≠ some q
  be : Below w.heap.size w W
theorem PkOut.same {w W W2 : World} {v6 v7 : Value} {t l : List S112} (h : PkOut w W v6 v7 t l) (hb : Below W.heap.size W W2) : PkOut w W2 v6 v7 t l :=
  ⟨Kd.R_below h.r6 hb, Kd.R_below h.r7 hb, h.ap, below_step h.be hb⟩
theorem PkOut.kept {w W W2 : World} {v6 v7 : Value} {t l : List S112} {S : Nat → Prop} (h : PkOut w W v6 v7 t l) (hk : Kept W W2 S) (hS : ∀ q, q < W.heap.size → ¬ S q) (hb : Below w.heap.size w W2) : PkOut w W2 v6 v7 t l :=
  ⟨pk_keep h.r6 hk (fun q hq => hS q (Kd.R_lt h.r6 q hq)), pk_keep h.r7 hk (fun q hq => hS q (Kd.R_lt h.r7 q hq)), h.ap, hb⟩
theorem pk_own {W : World} {base m c : Nat} {A : Option Addr} {xs : List S112} {ok : Nat → Prop} (h : Kd.R k112 112 W base ok (.slice A m c) xs) (hm : 0 < m) : ∃ g, A = some ⟨g, 0, none⟩ := by
  obtain ⟨hn, _, hC⟩ := Kd.R_reads' h
  obtain ⟨_, inner, hown, _⟩ := h
  rcases hown.2 with ⟨hv, _⟩ | ⟨g', cap', cur, hv, _⟩
  · injection hv with ha hn2
    have : inner.length = xs.length * 2 := hown.1
    omega
  · injection hv with ha
    exact ⟨g', ha⟩
def pk_part (f : S112 → S112) (ys : List S112) (j : Nat) : List S112 := (ys.take j).map f ++ ys.drop j
theorem pk_part_0 (f : S112 → S112) (ys : List S112) : pk_part f ys 0 = ys := by simp [pk_part]
theorem pk_part_all (f : S112 → S112) (ys : List S112) : pk_part f ys ys.length = ys.map f := by simp [pk_part]
theorem pk_part_len (f : S112 → S112) (ys : List S112) (j : Nat) : (pk_part f ys j).length = ys.length := by simp [pk_part]; omega
theorem pk_part_at (f : S112 → S112) (ys : List S112) (j : Nat) (h : j < ys.length) : (pk_part f ys j)[j]? = ys[j]? := by
  unfold pk_part
  rw [List.getElem?_append_right (by simp; omega)]
  simp [Nat.min_eq_left (Nat.le_of_lt h)]
theorem pk_rd {xs ys : List S112} {j : Nat} (h : xs[j]? = ys[j]?) : rd_T112 xs (j : Int) = rd_T112 ys (j : Int) := by
  unfold rd_T112
  rw [Int.toNat_natCast, List.getD_eq_getElem?_getD, List.getD_eq_getElem?_getD, h]
theorem pk_part_set (f : S112 → S112) (ys : List S112) (j : Nat) (h : j < ys.length) : (pk_part f ys j).set j (f (rd_T112 ys (j : Int))) = pk_part f ys (j + 1) := by
  have e : rd_T112 ys (j : Int) = ys[j] := by
    unfold rd_T112
    rw [Int.toNat_natCast, List.getD_eq_getElem?_getD, List.getElem?_eq_getElem h]; rfl
  rw [e]
  unfold pk_part
  rw [List.set_append_right _ _ (by simp; omega)]
  have hl : ((ys.take j).map f).length = j := by simp; omega
  rw [hl, Nat.sub_self, List.drop_eq_getElem_cons h, List.set_cons_zero, List.take_add_one, List.getElem?_eq_getElem h]
  simp only [Option.toList_some, List.map_append, List.map_cons, List.map_nil, List.append_assoc, List.singleton_append]
theorem pk_part_same (f : S112 → S112) (ys : List S112) (j : Nat) (h : j < ys.length) (hf : f (rd_T112 ys (j : Int)) = rd_T112 ys (j : Int)) : pk_part f ys j = pk_part f ys (j + 1) := by
  rw [← pk_part_set f ys j h, hf]
  have e : rd_T112 ys (j : Int) = ys[j] := by
    unfold rd_T112
    rw [Int.toNat_natCast, List.getD_eq_getElem?_getD, List.getElem?_eq_getElem h]; rfl
  have hj : j < (pk_part f ys j).length := by rw [pk_part_len]; exact h
  have e2 : (pk_part f ys j)[j] = ys[j] := by
    have := pk_part_at f ys j h
    rw [List.getElem?_eq_getElem hj, List.getElem?_eq_getElem h] at this
    exact Option.some.inj this
  rw [e, ← e2, List.set_getElem_self]
theorem pk_mem (l : List S112) (i : Nat) (h : i < l.length) : rd_T112 l (i : Int) ∈ l := by
  unfold rd_T112
  rw [Int.toNat_natCast, List.getD_eq_getElem?_getD, List.getElem?_eq_getElem h]
  exact List.getElem_mem h
def pk_T17 : Bool × List (List Nat × List Nat) := (true, [([], []), ([], []), ([], []), ([2], [2]), ([], []), ([4], [4]), ([3, 5], [3, 5]), ([], []), ([7], [7]), ([], []), ([9], [9]), ([8, 10], [8, 10]), ([6, 11], [6, 11]), ([0, 1, 0, 1, 2, 3, 4, 5, 6, 7, 8, 9, 10, 11, 12], [0, 1]), ([13, 12, 11, 0, 1, 2, 3, 4, 5, 6, 7, 8, 9, 10, 11, 12], [12, 13])])
def pk_B17 : List Nat := [0, 0, 0, 4, 0, 16, 60, 0, 128, 0, 512, 1920, 4092, 8191, 16383]
theorem pk_tab17 : rtab .any (opsOf Try.f127 17) = pk_T17 := by kernel_rfl
theorem pk_bits17 : waitsOk pk_T17.2 pk_B17 = true := by kernel_rfl
theorem pk_ok_map {k : Int} {x : S112} {l : List S112} (h : pk_ok l) : pk_ok (l.map (pk_less k x)) := by
  intro y hy
  obtain ⟨z, hz, rfl⟩ := List.mem_map.1 hy
  unfold pk_less
  split
  · rfl
  · exact h z hz
theorem pk_un : impl_unlikeText.f ⟨#[]⟩ ⟨#[]⟩ = some ⟨#[]⟩ := by decide
set_option maxHeartbeats 8000000 in
set_option maxRecDepth 100000 in
theorem impl_reduce.walk (n : Nat) (A1 : Option Addr) (c1 : Nat) (l1 : List S112) (w : World) (hr1 : Kd.C k112 w A1 l1.length l1) (hc1 : l1.length ≤ c1) (hn : n ≤ 64) (hlen : l1.length ≤ 1000) (ht : pk_ok l1) :
    Calls Try.prog 127 #[.int .i64 n, .slice A1 l1.length c1] w fun e w' => ∃ v0_ v1_ : Value, e = .returned (.tuple #[v0_, v1_]) ∧ PkOut w w' v0_ v1_ (pk_rounds n [] l1).1 (pk_rounds n [] l1).2 := by
  have HR1 := Aside0.mk hr1
  have HC1 := Aside0.mk hc1
  have HN := Aside0.mk hn
  have HLEN := Aside0.mk hlen
  have HT := Aside0.mk ht
  have hcl := Aside0.mk (show impl_Packet_137.f l1 = some l1 from by unfold impl_Packet_137.f; simp; omega)
  have hbig : (n : Int) ≤ 64 := by omega
  clear hr1 hc1 hn hlen ht
  go_enter Try.func127, Try.ntmps127
  go_wp2_with (first
    | (go_at_call 137; refine (impl_Packet_137.calls A1 c1 l1 l1 _ HR1.out HC1.out hcl.out).mono ?_; rintro e w2 ⟨v7, rfl, ho7, hb2⟩; have HO7 := Aside0.mk (show PkOut w w2 (.slice none 0 0) v7 [] l1 from ⟨Kd.R_nil _ _ _ _ _, ho7, fun q hq => by simp [Value.ownBlock] at hq, hb2⟩); clear ho7 hb2)
    | ((with_reducible refine gate_dst (N := 8) rfl ?_); refine box_event ?hg (N := 8) ?hd (cs := #[.int .i64 0]) (t := 3) ?hr ?_; (case hd => rfl); (case hg => rfl); (case hr => first | (go_simp; done) | (go_simp; rfl)); intro gb hg w3 hbox hb; have HB3 := Aside0.mk hb; have HG3 := Aside0.mk hg; have BK := Aside0.mk hbox; have GE := Aside0.mk (show w.heap.size ≤ gb from by rw [hg]; exact below_size HO7.out.be); have hcz_0 : w3.cell? ⟨gb, 0, none⟩ = some (.int .i64 0) := (blk_cell hbox 0).trans rfl; have hfz_0 := blk_frozen hbox 0; clear hg hbox hb))
  have HO7b := Aside0.mk (HO7.out.kept (W2 := w3.setCell ⟨gb, 0, none⟩ (.int .i64 (n - 1))) (S := fun k => k = gb) (Kept.setCell (p := ⟨gb, 0, none⟩) (Kept.of_below HB3.out (fun k => k = gb)) (Or.inl rfl) _) (fun q hq e => by have e' : q = gb := e; have := HG3.out; omega) (below_set (below_step HO7.out.be HB3.out) GE.out))
  go_loopg [6, 7, 8] n (fun gk v6 v7 v8 wr => ∃ (t l : List S112) (gb : Nat), v8 = .pointer (some ⟨gb, 0, none⟩) ∧ Aside0 (pk_rounds gk t l = pk_rounds n [] l1) ∧ Aside0 (pk_ok t ∧ pk_ok l ∧ t.length + gk ≤ 64 ∧ l.length ≤ 1000) ∧ Aside0 (PkOut w wr v6 v7 t l) ∧ Aside0 (wr.heap[gb]? = some (.cells #[.int .i64 ((gk : Int) - 1)] 3 (0, 0))) ∧ Aside0 (w.heap.size ≤ gb))
  case atStart =>
    refine ⟨[], l1, gb, rfl, ⟨rfl⟩, ⟨fun y hy => by simp at hy, HT.out, by simpa using HN.out, HLEN.out⟩, HO7b, ⟨?_⟩, GE⟩
    exact blk_put (cs := #[.int .i64 0]) BK.out 0 _ rfl
  case round =>
    clear HO7 HO7b BK GE hcz_0 hfz_0 HB3 HG3
    obtain ⟨t, l, gb, rfl, HA, HOK, HO, BK, GE⟩ := hrel
    cases gk with
    | zero =>
      have hcz : wr.cell? ⟨gb, 0, none⟩ = some (.int .i64 (-1)) := (blk_cell BK.out 0).trans rfl
      go_wp2
      go_ret2
      have e : (t, l) = pk_rounds n [] l1 := HA.out
      rw [← e]
      exact ⟨_, _, rfl, HO.out⟩
    | succ k =>
      have hcz : wr.cell? ⟨gb, 0, none⟩ = some (.int .i64 k) := (blk_cell BK.out 0).trans (by show some (Value.int .i64 (((k + 1 : Nat) : Int) - 1)) = _; congr 2; omega)
      have hfz := blk_frozen BK.out 0
      have hk0 : decide (0 ≤ (k : Int)) = true := decide_eq_true (by omega)
      obtain ⟨A7, c7, rfl⟩ := Kd.R_slice HO.out.r7
      obtain ⟨A6, c6, rfl⟩ := Kd.R_slice HO.out.r6
      have hIX := Aside0.mk (fun (W : World) (hb : Below wr.heap.size wr W) => pk_index k gb A7 c7 l W (Kd.C_below (Kd.R_reads' HO.out.r7).2.2 hb) (pw_cell_below hb hcz))
      obtain ⟨ix, hix⟩ : ∃ ix, ix = idxOf_Packet (pk_has k) l := ⟨_, rfl⟩
      rw [← hix] at hIX
      have HIX := Aside0.mk hix
      clear hix
      by_cases hneg : ix < 0
      · have hng : decide (ix < 0) = true := decide_eq_true hneg
        clear hneg
        go_wp2_with (first | (go_at_call 138; refine (hIX.out _ (Below.refl _ _)).mono ?_; rintro e w2 ⟨rfl, hb2⟩; have HB2 := Aside0.mk hb2; have hcz2 := pw_cell_below hb2 hcz; clear hb2) | ((with_reducible refine gate_dst (N := 8) rfl ?_); refine box_event ?hg (N := 8) ?hd (cs := #[.int .i64 0]) (t := 3) ?hr ?_; (case hd => rfl); (case hg => rfl); (case hr => first | (go_simp; done) | (go_simp; rfl)); intro gx hgx wx hbox hbx; have BX := Aside0.mk hbox; have HGX := Aside0.mk hgx; have HBX := Aside0.mk hbx; have hcx_0 : wx.cell? ⟨gx, 0, none⟩ = some (.int .i64 0) := (blk_cell hbox 0).trans rfl; have hfx_0 := blk_frozen hbox 0; clear hgx hbox hbx))
        go_roundg k
        case measure => omega
        case rel =>
          have e64 : wrap64 ((k : Int) - 1) = (k : Int) - 1 := by have := HOK.out.2.2.1; unfold wrap64; omega
          rw [e64]
          have hgw : w.heap.size ≤ gx := by rw [HGX.out]; exact Nat.le_trans (below_size HO.out.be) HB2.out.size
          have hk3 : Kept wr ((wx.setCell ⟨gx, 0, none⟩ (.int .i64 k)).setCell ⟨gx, 0, none⟩ (.int .i64 (k - 1))) (fun _ => False) := (((Kept.of_below HB2.out _).below HBX.out).setCell (.inr (by rw [HGX.out]; exact HB2.out.size)) _).setCell (.inr (by rw [HGX.out]; exact HB2.out.size)) _
          refine ⟨t, l, gx, rfl, ⟨?_⟩, ⟨HOK.out.1, HOK.out.2.1, by have := HOK.out.2.2.1; omega, HOK.out.2.2.2⟩, ⟨HO.out.kept hk3 (fun _ _ h => h) (below_set (below_set (below_step (below_step HO.out.be HB2.out) HBX.out) hgw) hgw)⟩, ⟨blk_put (cs := #[.int .i64 k]) (blk_put (cs := #[.int .i64 0]) BX.out 0 _ rfl) 0 _ rfl⟩, ⟨hgw⟩⟩
          have e : pk_rounds k (pk_step k t l).1 (pk_step k t l).2 = pk_rounds n [] l1 := HA.out
          have hst : pk_step k t l = (t, l) := by unfold pk_step; rw [← HIX.out, if_pos (of_decide_eq_true hng)]
          rw [hst] at e
          exact e
      · have hng : decide (ix < 0) = false := decide_eq_false hneg
        obtain ⟨i, rfl⟩ : ∃ i : Nat, ix = (i : Int) := ⟨ix.toNat, by omega⟩
        have hil : (i : Int) < (l.length : Int) := by rw [HIX.out]; exact pk_idx_lt _ _
        obtain ⟨g7, rfl⟩ := pk_own HO.out.r7 (by omega)
        obtain ⟨m, hm⟩ : ∃ m, l.length = m + 1 := ⟨l.length - 1, by omega⟩
        obtain ⟨x, hx⟩ : ∃ x, rd_T112 l (i : Int) = x := ⟨_, rfl⟩
        have hIX2 := Aside0.mk (fun (W : World) (hb : Below wr.heap.size wr W) => at_T112 (Kd.C_below (Kd.R_reads' HO.out.r7).2.2 hb) (i : Int) (by omega) hil)
        rw [hx] at hIX2
        have HM := Aside0.mk hm
        have HX := Aside0.mk hx
        rw [hm] at hil
        have hO := HO.out
        have hOK := HOK.out
        have hI1 := hIX.out
        rw [hm] at hI1
        have hml : m + 1 ≤ 1000 := by have := hOK.2.2.2; omega
        have hlt0 : decide ((i : Int) < 0) = false := decide_eq_false (by omega)
        have hxt : x.f1 = ⟨#[]⟩ := hOK.2.1 x (by rw [← hx]; exact pk_mem l i (by omega))
        have hrep : Kd.R k112 112 wr w.heap.size (fun _ => True) (.slice (some ⟨g7, 0, none⟩) (m + 1) c7) l := by rw [← hm]; exact hO.r7
        have hpt := pk_at hrep i (by omega)
        rw [hx] at hpt
        have HR7 := Aside0.mk hrep
        have HPT := Aside0.mk hpt
        have HOO := Aside0.mk hO
        have HKK := Aside0.mk hOK
        have HII := Aside0.mk hI1
        have HIL := Aside0.mk hil
        clear hIX hIX2 HO HOK hO hOK hI1 hrep hpt HX
        rw [hm]
        have p1 : (0 ≤ (i : Int)) = True := eq_true (by omega)
        have q1 : ((i : Int) < ((m + 1 : Nat) : Int)) = True := eq_true (by omega)
        have p2 : (i : Int) < (m : Int) + 1 := by omega
        have p3 : i < m + 1 := by omega
        go_upto_region 9 with (first
          | (go_at_call 138; with_reducible refine (HII.out _ (Below.refl _ _)).mono ?_; rintro e w2 ⟨rfl, hb2⟩; have HB2 := Aside0.mk hb2; have hx0 := pw_cell_below hb2 HPT.out.1; have hx1 := pw_cell_below hb2 HPT.out.2.1; clear hb2)
          | ((with_reducible refine gate_dst (N := 10) rfl ?_); refine box_event ?hg (N := 10) ?hd (cs := #[.int .i64 0, .string (⟨#[]⟩ : ByteArray)]) (t := 112) ?hr ?_; (case hd => rfl); (case hg => rfl); (case hr => first | (go_simp; done) | (go_simp; rfl)); intro g10 hg10 w3 hbox hb3; have HB3 := Aside0.mk hb3; have HG10 := Aside0.mk hg10; have BX := Aside0.mk hbox; have hcx_0 : w3.cell? ⟨g10, 0, none⟩ = some (.int .i64 0) := (blk_cell hbox 0).trans rfl; have hcx_1 : w3.cell? ⟨g10, 1, none⟩ = some (.string ⟨#[]⟩) := (blk_cell hbox 1).trans rfl; have hfx_0 := blk_frozen hbox 0; have hfx_1 := blk_frozen hbox 1; clear hg10 hbox hb3))
        obtain ⟨W4, hW4⟩ : ∃ W4, W4 = (w3.setCell ⟨g10, 0, none⟩ (.int .i64 x.f0)).setCell ⟨g10, 1, none⟩ (.string ⟨#[]⟩) := ⟨_, rfl⟩
        rw [← hW4]
        have hw10 : w.heap.size ≤ g10 := by rw [HG10.out]; exact Nat.le_trans (below_size HOO.out.be) HB2.out.size
        have hk4 : Kept wr W4 (fun _ => False) := by
          rw [hW4]
          exact (((Kept.of_below HB2.out _).below HB3.out).setCell (.inr (by show _ ≤ g10; rw [HG10.out]; exact HB2.out.size)) _).setCell (.inr (by show _ ≤ g10; rw [HG10.out]; exact HB2.out.size)) _
        have hbe4 : Below w.heap.size w W4 := by
          rw [hW4]
          exact below_set (below_set (below_step (below_step HOO.out.be HB2.out) HB3.out) hw10) hw10
        have bx4 : W4.heap[g10]? = some (.cells #[.int .i64 x.f0, .string ⟨#[]⟩] 112 (0, 0)) := by
          rw [hW4]
          exact blk_put (cs := #[.int .i64 x.f0, .string ⟨#[]⟩]) (blk_put (cs := #[.int .i64 0, .string ⟨#[]⟩]) BX.out 0 _ rfl) 1 _ rfl
        have bk4 : W4.heap[gb]? = some (.cells #[.int .i64 ((k + 1 : Nat) - 1)] 3 (0, 0)) := blk_kept BK.out hk4 (fun h => h)
        rw [show (((k + 1 : Nat) : Int) - 1) = (k : Int) from by omega] at bk4
        have hlt10 : wr.heap.size ≤ g10 := by rw [HG10.out]; exact HB2.out.size
        have h4 : PkOut w W4 (.slice A6 t.length c6) (.slice (some ⟨g7, 0, none⟩) (m + 1) c7) t l := by rw [← HM.out]; exact HOO.out.kept hk4 (fun _ _ h => h) hbe4
        have n64 : (Value.slice A6 t.length c6).ownBlock ≠ some g10 := fun e => by have := Kd.R_lt HOO.out.r6 g10 e; omega
        have n74 : (Value.slice (some ⟨g7, 0, none⟩) (m + 1) c7).ownBlock ≠ some g10 := fun e => by have := Kd.R_lt HR7.out g10 e; omega
        clear hW4 HB2 HB3 HG10 BX hcx_0 hcx_1 hfx_0 hfx_1 hx0 hx1 hk4 HPT HR7 HII HOO BK hcz hfz hlt10
        have H4 := Aside0.mk h4
        have BX4 := Aside0.mk bx4
        have BK4 := Aside0.mk bk4
        have N64 := Aside0.mk n64
        have N74 := Aside0.mk n74
        have HW10 := Aside0.mk hw10
        clear h4 bx4 bk4 hbe4 n64 n74 hw10
        have hw64 : wrap64 ((i : Int) + 1) = (i : Int) + 1 := by unfold wrap64; omega
        go_upto_block 2 with (first
          | (go_at_call 141; with_reducible refine (pk_delete g7 c7 m i l (fun _ => True) w W4 H4.out.be H4.out.r7 (by omega) (by omega)).mono ?_; rintro e w5 ⟨rfl, ho5, hk5, hb5⟩; have HO5 := Aside0.mk ho5; have HK5 := Aside0.mk hk5; have HB5 := Aside0.mk hb5; clear ho5 hk5 hb5))
        obtain ⟨gL, hgL⟩ : ∃ gL, gL = w5.heap.size := ⟨_, rfl⟩
        obtain ⟨W6, hW6⟩ : ∃ W6, W6 = w5.alloc (.cells #[.slice A6 t.length c6, .slice (some ⟨g7, 0, none⟩) m c7] 70) := ⟨_, rfl⟩
        rw [← hgL, ← hW6]
        have hal : Below w5.heap.size w5 W6 := by rw [hW6]; exact below_alloc (Below.refl _ _) _
        have ho7 : (Value.slice (some ⟨g7, 0, none⟩) (m + 1) c7).ownBlock = some g7 := by simp [Value.ownBlock]
        have ho7' : (Value.slice (some ⟨g7, 0, none⟩) m c7).ownBlock = some g7 := by simp [Value.ownBlock]
        have h6 : PkMid w W6 (.slice A6 t.length c6) (.slice (some ⟨g7, 0, none⟩) m c7) t (l.eraseIdx i) gL gb g10 k x := by
          refine ⟨Kd.R_below (pk_keep H4.out.r6 HK5.out (fun q hq e => H4.out.ap q hq (by rw [show q = g7 from e]; exact ho7))) hal, Kd.R_below HO5.out hal, fun q hq => by rw [ho7', ← ho7]; exact H4.out.ap q hq, N64.out, by rw [ho7', ← ho7]; exact N74.out, ?_, blk_below (blk_kept BK4.out HK5.out (fun e => Kd.R_ne H4.out.r7 BK4.out (by decide) (by rw [ho7]; exact congrArg some e))) hal, blk_below (blk_kept (by rw [hxt]; exact BX4.out) HK5.out (fun e => N74.out (by rw [ho7]; exact congrArg some (show g10 = g7 from e).symm))) hal, below_step HB5.out hal⟩
          rw [hW6, hgL]
          exact blk_new _ _
        have H6 := Aside0.mk h6
        have hlm : (l.eraseIdx i).length = m := by rw [List.length_eraseIdx, if_pos (by omega), hm]; omega
        have HOKL := Aside0.mk (show pk_ok (l.eraseIdx i) from fun y hy => HKK.out.2.1 y (List.mem_of_mem_eraseIdx hy))
        have HLM := Aside0.mk hlm
        obtain ⟨l2, hl2⟩ : ∃ l2, l2 = l.eraseIdx i := ⟨_, rfl⟩
        rw [← hl2] at H6 HOKL HLM
        have HL2 := Aside0.mk hl2
        clear h6 hal hW6 hgL HO5 HK5 HB5 H4 BX4 BK4 N64 N74 hl2 hlm
        go_wp2
        go_loopg [41] 2 (fun gk s41 wr => ∃ q : Nat, q + gk = 2 ∧ s41 = .int .i64 q ∧ Aside0 (PkMid w wr (.slice A6 t.length c6) (.slice (some ⟨g7, 0, none⟩) m c7) (if 1 ≤ q then t.map (pk_less k x) else t) (if 2 ≤ q then l2.map (pk_less k x) else l2) gL gb g10 k x))
        case atStart => exact ⟨0, by omega, rfl, H6⟩
        case round =>
          clear H6
          obtain ⟨q, hq, rfl, H6⟩ := hrel
          by_cases hq2 : q < 2
          · have hqd : decide ((q : Int) < 2) = true := decide_eq_true (by omega)
            obtain ⟨A, nn, cc, ys, J, hcell, hcur, hJ, hoky, hlen, hnn, hback⟩ := pk_cur (pk_less k x) q hq2 HKK.out.1 HOKL.out (by have := HKK.out.2.2.1; omega) (by have := HLM.out; omega) H6.out
            have HCUR := Aside0.mk hcur
            have HJ := Aside0.mk hJ
            have HOKY := Aside0.mk hoky
            have HLEN2 := Aside0.mk hlen
            have HBACK := Aside0.mk hback
            clear hcur hJ hoky hback H6 hlen
            go_wp2
            go_loopg [47] nn (fun gk s47 wr => ∃ j : Nat, j + gk = nn ∧ s47 = .int .i64 j ∧ Aside0 (J (pk_part (pk_less k x) ys j) wr))
            case atStart => exact ⟨0, by omega, rfl, ⟨by rw [pk_part_0]; exact HJ.out⟩⟩
            case round =>
              clear HJ hcell
              obtain ⟨j, hj, rfl, HJ⟩ := hrel
              by_cases hjn : j < nn
              · have hjd : decide ((j : Int) < (nn : Int)) = true := decide_eq_true (by omega)
                have hR := HCUR.out.r _ _ HJ.out
                obtain ⟨g, rfl⟩ := pk_own hR (by omega)
                have hpt := pk_at hR j hjn
                have hat := pk_part_at (pk_less k x) ys j (by rw [HLEN2.out]; exact hjn)
                rw [pk_rd hat] at hpt
                obtain ⟨y, hy⟩ : ∃ y, rd_T112 ys (j : Int) = y := ⟨_, rfl⟩
                rw [hy] at hpt
                have hyt : y.f1 = ⟨#[]⟩ := HOKY.out y (by rw [← hy]; exact pk_mem ys j (by rw [HLEN2.out]; exact hjn))
                obtain ⟨hc0, hc1, hf0, hf1⟩ := hpt
                have HY := Aside0.mk hy
                have hglt : g < wr.heap.size := Kd.R_lt hR g (by simp [Value.ownBlock])
                have NG10 := Aside0.mk (HCUR.out.ne g rfl).symm
                have pj1 : (0 ≤ (j : Int)) = True := eq_true (by omega)
                have pj2 : ((j : Int) < (nn : Int)) = True := eq_true (by omega)
                clear hR hat hy
                go_upto_region 16 with (first
                  | ((with_reducible refine gate_dst (N := 14) rfl ?_); refine box_event ?hg (N := 14) ?hd (cs := #[.int .i64 0, .string (⟨#[]⟩ : ByteArray)]) (t := 112) ?hr ?_; (case hd => rfl); (case hg => rfl); (case hr => first | (go_simp; done) | (go_simp; rfl)); intro g14 hg14 wa hbox hba; have HBA := Aside0.mk hba; have HG14 := Aside0.mk hg14; have B14 := Aside0.mk hbox; have hca_0 : wa.cell? ⟨g14, 0, none⟩ = some (.int .i64 0) := (blk_cell hbox 0).trans rfl; have hca_1 : wa.cell? ⟨g14, 1, none⟩ = some (.string ⟨#[]⟩) := (blk_cell hbox 1).trans rfl; have hfa_0 := blk_frozen hbox 0; have hfa_1 := blk_frozen hbox 1; clear hg14 hbox hba))
                obtain ⟨W7, hW7⟩ : ∃ W7, W7 = (wa.setCell ⟨g14, 0, none⟩ (.int .i64 y.f0)).setCell ⟨g14, 1, none⟩ (.string ⟨#[]⟩) := ⟨_, rfl⟩
                rw [← hW7]
                have hge : wr.heap.size ≤ g14 := by rw [HG14.out]; exact Nat.le_refl _
                have NG14 := Aside0.mk (show g14 ≠ g by omega)
                have hb7 : Below wr.heap.size wr W7 := by rw [hW7]; exact below_set (below_set HBA.out hge) hge
                have b14 : W7.heap[g14]? = some (.cells #[.int .i64 y.f0, .string ⟨#[]⟩] 112 (0, 0)) := by
                  rw [hW7]
                  exact blk_put (cs := #[.int .i64 y.f0, .string ⟨#[]⟩]) (blk_put (cs := #[.int .i64 0, .string ⟨#[]⟩]) B14.out 0 _ rfl) 1 _ rfl
                have hJ7 := HCUR.out.same _ _ _ HJ.out hb7
                have c140 : W7.cell? ⟨g14, 0, none⟩ = some (.int .i64 y.f0) := (blk_cell b14 0).trans rfl
                have cgb : W7.cell? ⟨gb, 0, none⟩ = some (.int .i64 k) := (blk_cell (HCUR.out.bk _ _ hJ7) 0).trans rfl
                have BB14 := Aside0.mk b14
                have HJ7 := Aside0.mk hJ7
                clear hW7 hge hb7 b14 hJ7 HBA HG14 B14 hca_0 hca_1 hfa_0 hfa_1 hc0 hc1 hf0 hf1 HJ
                obtain ⟨hb, hhb⟩ : ∃ b, pk_has k y = b := ⟨_, rfl⟩
                have hhas := Aside0.mk (fun (W : World) => impl_has.calls y.f0 k hb W (by unfold impl_has.f; rw [if_pos (by omega), ← hhb]; rfl))
                have HHB := Aside0.mk hhb
                clear hhb
                cases hb with
                | false =>
                  go_wp2_with (first | (go_at_call 140; with_reducible refine (hhas.out _).mono ?_; rintro e w8 ⟨rfl, hd⟩; have HD := Aside0.mk hd.below; clear hd))
                  go_roundg (nn - (j + 1))
                  case measure => omega
                  case rel =>
                    refine ⟨j + 1, by omega, by go_num, ⟨?_⟩⟩
                    rw [← pk_part_same (pk_less k x) ys j (by rw [HLEN2.out]; exact hjn) (by rw [HY.out]; unfold pk_less; rw [HHB.out]; rfl)]
                    exact HCUR.out.same _ _ _ HJ7.out HD.out
                | true =>
                  go_upto_region 17 with (first | (go_at_call 140; with_reducible refine (hhas.out _).mono ?_; rintro e w8 ⟨rfl, hd⟩; have HD := Aside0.mk hd.below; clear hd))
                  have HJ9 := Aside0.mk (HCUR.out.same _ _ _ HJ7.out HD.out)
                  have BB9 := Aside0.mk (blk_below BB14.out HD.out)
                  have BX9 := Aside0.mk (show w8.heap[g10]? = some (.cells #[.int .i64 x.f0, .string ⟨#[]⟩] 112 (0, 0)) by rw [← hxt]; exact HCUR.out.bx _ _ HJ9.out)
                  refine start_ (n := 15) (S := fun w' => w'.cell? ⟨g14, 0, none⟩ = some (.int .i64 y.f0) ∧ w'.cell? ⟨g14, 1, none⟩ = some (.string ⟨#[]⟩) ∧ w'.cell? ⟨g10, 0, none⟩ = some (.int .i64 x.f0) ∧ w'.cell? ⟨g10, 1, none⟩ = some (.string ⟨#[]⟩)) (ds := []) #[false, false, false, false, false, false, false, false, false, false, false, false, false, false, false] (by kernel_rfl) rfl rfl ⟨(blk_cell (blk_drew BB9.out) 0).trans rfl, (blk_cell (blk_drew BB9.out) 1).trans rfl, (blk_cell (blk_drew BX9.out) 0).trans rfl, (blk_cell (blk_drew BX9.out) 1).trans rfl⟩ (fun hHeld => ?_); refine with_tabW pk_tab17 pk_bits17 (fun HT_ HW_ => ?_)
                  refine pure_ (i := 0) (N := some 56) (v := ?_) (a' := ?_) #[true, false, false, false, false, false, false, false, false, false, false, false, false, false, false] rfl rfl (any_of HT_.out (by kernel_rfl)) (fun _ _ _ h => h) (Or.inl ⟨by rfl, ?_⟩) ?_ ?_
                  rotate_left
                  · intro w'
                    go_simp
                    with_reducible rfl
                  rotate_left
                  · simp only [Act.put, List.setIfInBounds_toArray, List.set_cons_zero, List.set_cons_succ, i64_w, i32_w]
                    rfl
                  refine pure_ (i := 1) (N := some 57) (v := ?_) (a' := ?_) #[true, true, false, false, false, false, false, false, false, false, false, false, false, false, false] rfl rfl (any_of HT_.out (by kernel_rfl)) (fun _ _ _ h => h) (Or.inl ⟨by rfl, ?_⟩) ?_ ?_
                  rotate_left
                  · intro w'
                    go_simp
                    with_reducible rfl
                  rotate_left
                  · simp only [Act.put, List.setIfInBounds_toArray, List.set_cons_zero, List.set_cons_succ, i64_w, i32_w]
                    rfl
                  refine pure_ (i := 2) (N := some 58) (v := ?_) (a' := ?_) #[true, true, true, false, false, false, false, false, false, false, false, false, false, false, false] rfl rfl (any_of HT_.out (by kernel_rfl)) (fun _ _ _ h => h) (Or.inl ⟨by rfl, ?_⟩) ?_ ?_
                  rotate_left
                  · intro w'
                    go_simp
                    with_reducible rfl
                  rotate_left
                  · simp only [Act.put, List.setIfInBounds_toArray, List.set_cons_zero, List.set_cons_succ, i64_w, i32_w]
                    rfl
                  refine pure_ (i := 4) (N := some 60) (v := ?_) (a' := ?_) #[true, true, true, false, true, false, false, false, false, false, false, false, false, false, false] rfl rfl (any_of HT_.out (by kernel_rfl)) (fun _ _ _ h => h) (Or.inl ⟨by rfl, ?_⟩) ?_ ?_
                  rotate_left
                  · intro w'
                    go_simp
                    with_reducible rfl
                  rotate_left
                  · simp only [Act.put, List.setIfInBounds_toArray, List.set_cons_zero, List.set_cons_succ, i64_w, i32_w]
                    rfl
                  refine pure_ (i := 7) (N := some 63) (v := ?_) (a' := ?_) #[true, true, true, false, true, false, false, true, false, false, false, false, false, false, false] rfl rfl (any_of HT_.out (by kernel_rfl)) (fun _ _ _ h => h) (Or.inl ⟨by rfl, ?_⟩) ?_ ?_
                  rotate_left
                  · intro w'
                    go_simp
                    with_reducible rfl
                  rotate_left
                  · simp only [Act.put, List.setIfInBounds_toArray, List.set_cons_zero, List.set_cons_succ, i64_w, i32_w]
                    rfl
                  refine pure_ (i := 9) (N := some 65) (v := ?_) (a' := ?_) #[true, true, true, false, true, false, false, true, false, true, false, false, false, false, false] rfl rfl (any_of HT_.out (by kernel_rfl)) (fun _ _ _ h => h) (Or.inl ⟨by rfl, ?_⟩) ?_ ?_
                  rotate_left
                  · intro w'
                    go_simp
                    with_reducible rfl
                  rotate_left
                  · simp only [Act.put, List.setIfInBounds_toArray, List.set_cons_zero, List.set_cons_succ, i64_w, i32_w]
                    rfl
                  refine take_ (i := 3) (N := some 59) (v := ?_) (a' := ?_) #[true, true, true, true, true, false, false, true, false, true, false, false, false, false, false] rfl rfl (take_ofW HT_.out HW_.out (by kernel_rfl)) (fun _ _ _ h => h) (Or.inl ⟨by rfl, ?_⟩) hHeld ?_ ?_
                  rotate_left
                  · rintro w' ⟨s0, s1, s2, s3⟩
                    go_simp
                    with_reducible rfl
                  rotate_left
                  · simp only [Act.put, List.setIfInBounds_toArray, List.set_cons_zero, List.set_cons_succ, i64_w, i32_w]
                    rfl
                  refine take_ (i := 5) (N := some 61) (v := ?_) (a' := ?_) #[true, true, true, true, true, true, false, true, false, true, false, false, false, false, false] rfl rfl (take_ofW HT_.out HW_.out (by kernel_rfl)) (fun _ _ _ h => h) (Or.inl ⟨by rfl, ?_⟩) hHeld ?_ ?_
                  rotate_left
                  · rintro w' ⟨s0, s1, s2, s3⟩
                    go_simp
                    with_reducible rfl
                  rotate_left
                  · simp only [Act.put, List.setIfInBounds_toArray, List.set_cons_zero, List.set_cons_succ, i64_w, i32_w]
                    rfl
                  refine pure_ (i := 6) (N := some 62) (v := ?_) (a' := ?_) #[true, true, true, true, true, true, true, true, false, true, false, false, false, false, false] rfl rfl (any_of HT_.out (by kernel_rfl)) (fun _ _ _ h => h) (Or.inl ⟨by rfl, ?_⟩) ?_ ?_
                  rotate_left
                  · intro w'
                    go_simp
                    with_reducible rfl
                  rotate_left
                  · simp only [Act.put, List.setIfInBounds_toArray, List.set_cons_zero, List.set_cons_succ, i64_w, i32_w]
                    rfl
                  refine take_ (i := 8) (N := some 64) (v := ?_) (a' := ?_) #[true, true, true, true, true, true, true, true, true, true, false, false, false, false, false] rfl rfl (take_ofW HT_.out HW_.out (by kernel_rfl)) (fun _ _ _ h => h) (Or.inl ⟨by rfl, ?_⟩) hHeld ?_ ?_
                  rotate_left
                  · rintro w' ⟨s0, s1, s2, s3⟩
                    go_simp
                    with_reducible rfl
                  rotate_left
                  · simp only [Act.put, List.setIfInBounds_toArray, List.set_cons_zero, List.set_cons_succ, i64_w, i32_w]
                    rfl
                  refine take_ (i := 10) (N := some 66) (v := ?_) (a' := ?_) #[true, true, true, true, true, true, true, true, true, true, true, false, false, false, false] rfl rfl (take_ofW HT_.out HW_.out (by kernel_rfl)) (fun _ _ _ h => h) (Or.inl ⟨by rfl, ?_⟩) hHeld ?_ ?_
                  rotate_left
                  · rintro w' ⟨s0, s1, s2, s3⟩
                    go_simp
                    with_reducible rfl
                  rotate_left
                  · simp only [Act.put, List.setIfInBounds_toArray, List.set_cons_zero, List.set_cons_succ, i64_w, i32_w]
                    rfl
                  refine one_ (i := 11) (N := some 67) #[true, true, true, true, true, true, true, true, true, true, true, true, false, false, false] rfl rfl (one_of HT_.out (by kernel_rfl)) (by decide) (fun K hK => ?_)
                  refine goes_ Try.func142 (by kernel_rfl) rfl #[.string ⟨#[]⟩, .string ⟨#[]⟩] (by rfl) rfl rfl (by (try simp only [List.map_toArray, List.map_cons, List.map_nil]); first | done | rfl) ?_
                  with_reducible refine (impl_unlikeText.calls ⟨#[]⟩ ⟨#[]⟩ ⟨#[]⟩ _ pk_un).mono ?_
                  rintro e wc ⟨rfl, hbc⟩
                  refine ⟨_, rfl, ?_⟩
                  have HBC := Aside0.mk hbc
                  refine hK.out _ _ ⟨pw_cell_below hbc hHeld.1, pw_cell_below hbc hHeld.2.1, pw_cell_below hbc hHeld.2.2.1, pw_cell_below hbc hHeld.2.2.2⟩ (fun hHeld => ?_)
                  clear hK K hbc
                  refine norm_ (a' := ?_) ?_ ?_
                  rotate_left
                  · show Act.put _ (some 67) _ = _
                    simp only [Act.put, List.setIfInBounds_toArray, List.set_cons_zero, List.set_cons_succ, i64_w, i32_w]
                    rfl
                  refine pure_ (i := 12) (N := some 68) (v := ?_) (a' := ?_) #[true, true, true, true, true, true, true, true, true, true, true, true, true, false, false] rfl rfl (any_of HT_.out (by kernel_rfl)) (fun _ _ _ h => h) (Or.inl ⟨by rfl, ?_⟩) ?_ ?_
                  rotate_left
                  · intro w'
                    go_simp
                    with_reducible rfl
                  rotate_left
                  · simp only [Act.put, List.setIfInBounds_toArray, List.set_cons_zero, List.set_cons_succ, i64_w, i32_w]
                    rfl
                  refine pure_ (i := 13) (N := some 69) (v := ?_) (a' := ?_) #[true, true, true, true, true, true, true, true, true, true, true, true, true, true, false] rfl rfl (any_of HT_.out (by kernel_rfl)) (fun _ _ _ h => h) (Or.inl ⟨by rfl, ?_⟩) ?_ ?_
                  rotate_left
                  · intro w'
                    go_simp
                    with_reducible rfl
                  rotate_left
                  · simp only [Act.put, List.setIfInBounds_toArray, List.set_cons_zero, List.set_cons_succ, i64_w, i32_w]
                    rfl
                  have hJc := HCUR.out.same _ _ _ HJ9.out (show Below w8.heap.size w8 wc from below_step (below_drew (Below.refl _ _)) HBC.out)
                  have hRc := HCUR.out.r _ _ hJc
                  obtain ⟨hs0, hs1, hfs0, hfs1⟩ := pk_at hRc j hjn
                  have HJC := Aside0.mk hJc
                  clear hJc hRc
                  refine one_ (i := 14) (N := none) #[true, true, true, true, true, true, true, true, true, true, true, true, true, true, true] rfl rfl (one_of HT_.out (by kernel_rfl)) (by decide) (fun K hK => ?_)
                  refine skip_ (w1 := (wc.setCell ⟨g, j * 2, none⟩ (.int .i64 (Go.bits .xor .i64 y.f0 x.f0))).setCell ⟨g, j * 2 + 1, none⟩ (.string ⟨#[]⟩)) (by rfl) rfl ?_ ?_
                  · go_simp
                  refine hK.out _ _ ⟨(cell_far (p := ⟨g, _, none⟩) NG14.out _).trans ((cell_far (p := ⟨g, _, none⟩) NG14.out _).trans hHeld.1), (cell_far (p := ⟨g, _, none⟩) NG14.out _).trans ((cell_far (p := ⟨g, _, none⟩) NG14.out _).trans hHeld.2.1), (cell_far (p := ⟨g, _, none⟩) NG10.out _).trans ((cell_far (p := ⟨g, _, none⟩) NG10.out _).trans hHeld.2.2.1), (cell_far (p := ⟨g, _, none⟩) NG10.out _).trans ((cell_far (p := ⟨g, _, none⟩) NG10.out _).trans hHeld.2.2.2)⟩ (fun hHeld => ?_)
                  clear hK K
                  refine done_ (done_of HT_.out (by kernel_rfl)) ?_
                  clear hHeld hs0 hs1 hfs0 hfs1
                  go_wp2
                  go_roundg (nn - (j + 1))
                  case measure => omega
                  case rel =>
                    refine ⟨j + 1, by omega, by go_num, ⟨?_⟩⟩
                    have h := HCUR.out.put _ _ g j (Go.bits .xor .i64 y.f0 x.f0) ⟨#[]⟩ HJC.out rfl hjn
                    rw [show (⟨Go.bits .xor .i64 y.f0 x.f0, ⟨#[]⟩⟩ : S112) = pk_less k x (rd_T112 ys (j : Int)) from by rw [HY.out]; unfold pk_less; rw [if_pos HHB.out], pk_part_set _ _ _ (by rw [HLEN2.out]; exact hjn)] at h
                    exact h
              · have hjd : decide ((j : Int) < (nn : Int)) = false := decide_eq_false (by omega)
                obtain rfl : gk = 0 := by omega
                obtain rfl : j = nn := by omega
                go_wp2
                go_roundg (2 - (q + 1))
                case measure => omega
                case rel =>
                  refine ⟨q + 1, by omega, by go_num, ⟨HBACK.out _ ?_⟩⟩
                  have := HJ.out
                  rw [← HLEN2.out, pk_part_all] at this
                  exact this
          · have hqd : decide ((q : Int) < 2) = false := decide_eq_false (by omega)
            obtain rfl : gk = 0 := by omega
            obtain rfl : q = 2 := by omega
            have h6 : PkMid w wr (.slice A6 t.length c6) (.slice (some ⟨g7, 0, none⟩) m c7) (t.map (pk_less k x)) (l2.map (pk_less k x)) gL gb g10 k x := by
              have h := H6.out
              rw [if_pos (by decide), if_pos (by decide)] at h
              exact h
            obtain ⟨t2, ht2⟩ : ∃ t2, t2 = t.map (pk_less k x) := ⟨_, rfl⟩
            rw [← ht2] at h6
            have hlt2 : t.length = t2.length := by rw [ht2, List.length_map]
            rw [hlt2] at h6 ⊢
            have HT2 := Aside0.mk ht2
            have HLT2 := Aside0.mk hlt2
            have H6' := Aside0.mk h6
            have HCT := Aside0.mk (show t2.length < 5864062014805 by have := HKK.out.2.2.1; omega)
            have cx0 : wr.cell? ⟨g10, 0, none⟩ = some (.int .i64 x.f0) := (blk_cell h6.bx 0).trans rfl
            have cx1 : wr.cell? ⟨g10, 1, none⟩ = some (.string ⟨#[]⟩) := by rw [← hxt]; exact (blk_cell h6.bx 1).trans rfl
            clear H6 h6 ht2 hlt2
            go_upto_region 21 with (first | ((with_reducible refine gate_builtin (b := .append) (xs := #[.tmp 72, .tmp 74]) rfl ?_); at_builtin; refine Kd.R_append k112 (w0 := w) w.heap.size rfl (.tmp 72) (.tmp 74) 70 112 (.agg #[(.int .i64 0), (.string ⟨#[]⟩)]) 24 rfl Try.underlying70 info112 rfl (by decide) (by omega) (.slice A6 t2.length c6) t2 (⟨x.f0, ⟨#[]⟩⟩ : S112) [.int .i64 x.f0, .string ⟨#[]⟩] (fun k_ => some k_ ≠ (Value.slice (some ⟨g7, 0, none⟩) m c7).ownBlock) (fun _ => False) rfl rfl ?aP (fun _ hk => hk.elim) ?aF ?aO ?aB ?aS ?aL ?_; (case aP => exact k112_mkM _ _ _ (⟨x.f0, ⟨#[]⟩⟩ : S112)); (case aB => exact H6'.out.be); (case aF => exact Kd.fresh' (Kd.R_lt H6'.out.r7)); (case aO => exact Kd.R_reok rfl H6'.out.r6 (fun q hq e => H6'.out.ap q hq e.symm)); (case aS => exact below_size H6'.out.be); (case aL => have := HCT.out; omega); intro v6n w58 ho hb hg hat; have HO58 := Aside0.mk ho; have HB58 := Aside0.mk hb; have HG58 := Aside0.mk hg; clear ho hb hg hat))
            have h58 : PkOut w w58 v6n (.slice (some ⟨g7, 0, none⟩) m c7) (t2 ++ [⟨x.f0, ⟨#[]⟩⟩]) (l2.map (pk_less k x)) :=
              ⟨Kd.R_reok rfl HO58.out (fun _ _ => trivial), pk_keep H6'.out.r7 (Kept.of_grown HG58.out (Kept.refl wr (fun q => some q = (Value.slice A6 t2.length c6).ownBlock)) (fun q hq => .inl hq.symm)) (fun q hq e => H6'.out.ap q (show some q = _ from e).symm hq), fun q hq e => HO58.out.1 q hq e.symm, HB58.out⟩
            have hbk58 : w58.heap[gb]? = some (.cells #[.int .i64 (k : Int)] 3 (0, 0)) := blk_grown H6'.out.bk HG58.out (Kd.R_ne H6'.out.r6 H6'.out.bk (by decide))
            have hczk : w58.cell? ⟨gb, 0, none⟩ = some (.int .i64 k) := (blk_cell hbk58 0).trans rfl
            have H58 := Aside0.mk h58
            clear h58 hbk58 HO58 HB58 HG58 cx0 cx1 H6'
            go_wp2_with (first | ((with_reducible refine gate_dst (N := 8) rfl ?_); refine box_event ?hg (N := 8) ?hd (cs := #[.int .i64 0]) (t := 3) ?hr ?_; (case hd => rfl); (case hg => rfl); (case hr => first | (go_simp; done) | (go_simp; rfl)); intro gx hgx wx hbox hbx; have BX := Aside0.mk hbox; have HGX := Aside0.mk hgx; have HBX := Aside0.mk hbx; have hcx_0 : wx.cell? ⟨gx, 0, none⟩ = some (.int .i64 0) := (blk_cell hbox 0).trans rfl; have hfx_0 := blk_frozen hbox 0; clear hgx hbox hbx))
            go_roundg k
            case measure => omega
            case rel =>
              have e64 : wrap64 ((k : Int) - 1) = (k : Int) - 1 := by have := HKK.out.2.2.1; unfold wrap64; omega
              rw [e64]
              have hgw : w.heap.size ≤ gx := by rw [HGX.out]; exact below_size H58.out.be
              have hk3 : Kept w58 ((wx.setCell ⟨gx, 0, none⟩ (.int .i64 k)).setCell ⟨gx, 0, none⟩ (.int .i64 (k - 1))) (fun _ => False) := (((Kept.of_below HBX.out _)).setCell (.inr (by show _ ≤ gx; rw [HGX.out]; exact Nat.le_refl _)) _).setCell (.inr (by show _ ≤ gx; rw [HGX.out]; exact Nat.le_refl _)) _
              have ex : (⟨x.f0, ⟨#[]⟩⟩ : S112) = x := by rw [← hxt]
              refine ⟨t2 ++ [⟨x.f0, ⟨#[]⟩⟩], l2.map (pk_less k x), gx, rfl, ⟨?_⟩, ⟨?_, pk_ok_map HOKL.out, ?_, ?_⟩, ⟨H58.out.kept hk3 (fun _ _ h => h) (below_set (below_set (below_step H58.out.be HBX.out) hgw) hgw)⟩, ⟨blk_put (cs := #[.int .i64 k]) (blk_put (cs := #[.int .i64 0]) BX.out 0 _ rfl) 0 _ rfl⟩, ⟨hgw⟩⟩
              · have e : pk_rounds k (pk_step k t l).1 (pk_step k t l).2 = pk_rounds n [] l1 := HA.out
                have hst : pk_step k t l = (t2 ++ [⟨x.f0, ⟨#[]⟩⟩], l2.map (pk_less k x)) := by
                  unfold pk_step
                  rw [← HIX.out, if_neg (by omega), hx, ex, HT2.out, HL2.out, Int.toNat_natCast]
                rw [hst] at e
                exact e
              · intro y hy
                rcases List.mem_append.1 hy with h | h
                · rw [HT2.out] at h
                  exact pk_ok_map HKK.out.1 y h
                · rw [List.mem_singleton.1 h]
              · have := HKK.out.2.2.1
                rw [List.length_append, ← HLT2.out]
                simp
                omega
              · rw [List.length_map, HLM.out]; omega
theorem pk_empty {b : ByteArray} (h : b.size = 0) : b = ⟨#[]⟩ := by
  cases b with
  | mk d => rw [show d = #[] from Array.eq_empty_of_size_eq_zero h]
def impl_reduce.f (a0 : Int) (l1 : List S112) : Option (List S112 × List S112) := if 0 ≤ a0 ∧ a0 ≤ 64 ∧ l1.length ≤ 1000 ∧ (l1.all fun y => decide (y.f1.size = 0)) = true then some (pk_rounds a0.toNat [] l1) else none
theorem impl_reduce.calls (a0 : Int) (A1 : Option Addr) (c1 : Nat) (l1 : List S112) (r1 r2 : List S112) (w : World) (hr1 : Kd.C k112 w A1 l1.length l1) (hc1 : l1.length ≤ c1) (h : impl_reduce.f a0 l1 = some (r1, r2)) :
    Calls Try.prog 127 #[.int .i64 a0, .slice A1 l1.length c1] w fun e w' => ∃ v0_ v1_ : Value, e = .returned (.tuple #[v0_, v1_]) ∧ Kd.R k112 112 w' w.heap.size (fun k_ => some k_ ≠ (v1_ : Value).ownBlock) v0_ r1 ∧ Kd.R k112 112 w' w.heap.size (fun k_ => some k_ ≠ (v0_ : Value).ownBlock) v1_ r2 ∧ Below w.heap.size w w' := by
  unfold impl_reduce.f at h
  split at h
  · next hg =>
    obtain ⟨h0, h64, hl, hok⟩ := hg
    obtain ⟨n, rfl⟩ := Int.eq_ofNat_of_zero_le h0
    have ht : pk_ok l1 := fun y hy => pk_empty (of_decide_eq_true (List.all_eq_true.1 hok y hy))
    refine (impl_reduce.walk n A1 c1 l1 w hr1 hc1 (by omega) hl ht).mono ?_
    rintro e w' ⟨v6, v7, rfl, hp⟩
    have e : pk_rounds n [] l1 = (r1, r2) := Option.some.inj h
    rw [e] at hp
    exact ⟨v6, v7, rfl, Kd.R_reok rfl hp.r6 (fun q hq e => hp.ap q hq e.symm), Kd.R_reok rfl hp.r7 (fun q hq e => hp.ap q e.symm hq), hp.be⟩
  · cases h

/-! ### impl_packetsOf: function 128 -/
def impl_packetsOf.l0 : Nat → List (S112) → List Int → Int → Int → Option ((List (S112)))
  | 0, _, _, _, _ => none
  | k + 1, x3, x6, x7, x8 => if x8 < x7 then (if 0 ≤ x8 then (if x8 < (x6.length : Int) then (if x3.length < 5864062014805 then (impl_packetsOf.l0 k (x3 ++ [(⟨rd x6 x8, (⟨#[]⟩ : ByteArray)⟩ : S112)]) x6 x7 (wrap64 (x8 + 1))) else (none)) else (none)) else (none)) else (some x3)
def impl_packetsOf.f (k : Nat) (l0 : List Int) : Option ((List (S112))) := impl_packetsOf.l0 k ([] : List (S112)) l0 (l0.length : Int) 0
theorem impl_packetsOf.mono_l : ∀ k, (∀ y0 y1 y2 y3, LeO (impl_packetsOf.l0 k y0 y1 y2 y3) (impl_packetsOf.l0 (k + 1) y0 y1 y2 y3))
  | 0 => fun _ _ _ _ r h => by simp [impl_packetsOf.l0] at h
  | k + 1 => by
    have ih0 := impl_packetsOf.mono_l k
    · intro y0 y1 y2 y3
      unfold impl_packetsOf.l0
      repeat' first
      | (with_reducible exact ih0 _ _ _ _)
      | (with_reducible exact LeO.refl _)
      | (with_reducible exact LeO.none _)
      | (with_reducible refine LeO.ite ?_ ?_)
      | (with_reducible refine LeO.bind ?_ (fun _ => ?_))
      | exact ih0 _ _ _ _
      | exact LeO.none _
      | refine LeO.ite ?_ ?_
      | refine LeO.bind ?_ (fun _ => ?_)
theorem impl_packetsOf.mono : ∀ a0 k, LeO (impl_packetsOf.f k a0) (impl_packetsOf.f (k + 1) a0) := by
  intro a0 k
  have ih0 := impl_packetsOf.mono_l k
  unfold impl_packetsOf.f
  repeat' first
      | (with_reducible exact ih0 _ _ _ _)
      | (with_reducible exact LeO.refl _)
      | (with_reducible exact LeO.none _)
      | (with_reducible refine LeO.ite ?_ ?_)
      | (with_reducible refine LeO.bind ?_ (fun _ => ?_))
      | exact ih0 _ _ _ _
      | exact LeO.none _
      | refine LeO.ite ?_ ?_
      | refine LeO.bind ?_ (fun _ => ?_)
set_option maxHeartbeats 8000000 in
set_option maxRecDepth 100000 in
theorem impl_packetsOf.calls (k : Nat) (A0 : Option Addr) (c0 : Nat) (l0 : List Int) (r : List (S112)) (w : World) (hr0 : Kd.C (Kd.int .i64) w A0 l0.length l0) (hc0 : l0.length ≤ c0) (h : impl_packetsOf.f k l0 = some r) :
    Calls Try.prog 128 #[.slice A0 l0.length c0] w fun e w' => ∃ v0_ : Value, e = .returned (v0_) ∧ Kd.R k112 112 w' w.heap.size (fun _ => True) v0_ r ∧ Below w.heap.size w w' := by
  have hu112 := Try.underlying112
  have HR0 := Aside0.mk hr0
  have HC0 := Aside0.mk hc0
  clear hr0 hc0
  have HB := Aside0.mk (Below.refl w.heap.size w)
  have H : (impl_packetsOf.l0 k ([] : List (S112)) l0 (l0.length : Int) 0) = some r := h
  clear h
  have H' := Aside0.mk H
  clear H
  go_enter Try.func128, Try.ntmps128
  go_wp2
  go_loopg [3, 8] k (fun kq v3 v8 w' => ∃ (x3_1 : List (S112)) (x8_1 : Int), v8 = .int .i64 x8_1 ∧ Aside0 (impl_packetsOf.l0 kq x3_1 l0 (l0.length : Int) x8_1 = some r) ∧ Aside0 (kq ≤ k) ∧ Aside0 (Kd.R k112 112 w' w.heap.size (fun _ => True) v3 x3_1) ∧ Aside0 (Below w.heap.size w w'))
  case atStart => exact ⟨(([] : List (S112))), (0), (by first | rfl | (simp; done) | (simp [*]; done)), H', ⟨Nat.le_refl _⟩, ⟨by first | exact Kd.R_nil _ _ _ _ _ | exact Kd.N_nil _ _ _ _ _ | exact Kd.V_nil _ _ _ _ _ | exact Kd.Q_nil _ _ _ _ _ | exact Kd.S_nil _ _ _ _ _⟩, ⟨by repeat (first | (with_reducible first | exact HB.out | apply below_alloc | apply pw_below_drewN | apply below_drew1) | exact HB.out)⟩⟩
  case round =>
    clear H'
    try clear c1
    obtain ⟨x3_1, x8_1, rfl, HA, HK1, HO_3, HB⟩ := hrel
    cases gk with
    | zero => exact absurd HA.out (by simp [impl_packetsOf.l0])
    | succ k1 =>
      have H := HA.out
      clear HA
      simp only [impl_packetsOf.l0] at H
      by_cases c2 : x8_1 < (l0.length : Int)
      · rw [if_pos c2] at H
        have c2b0 : decide (x8_1 < (l0.length : Int)) = true := decide_eq_true c2
        clear c2
        by_cases c3 : 0 ≤ x8_1
        · rw [if_pos c3] at H
          have c3b0 : decide (0 ≤ x8_1) = true := decide_eq_true c3
          clear c3
          by_cases c4 : x8_1 < (l0.length : Int)
          · rw [if_pos c4] at H
            have c4b0 : decide (x8_1 < (l0.length : Int)) = true := decide_eq_true c4
            clear c4
            by_cases c5 : x3_1.length < 5864062014805
            · rw [if_pos c5] at H
              have LMc5 := Aside0.mk c5
              clear c5
              obtain ⟨y190, hy190⟩ : ∃ y_ : List (S112), y_ = (x3_1 ++ [(⟨rd l0 x8_1, (⟨#[]⟩ : ByteArray)⟩ : S112)]) := ⟨_, rfl⟩
              replace H : (impl_packetsOf.l0 k1 y190 l0 (l0.length : Int) (wrap64 (x8_1 + 1))) = some r := by first | (rw [hy190]; with_reducible exact H) | (have H2_ := (Option.bind_some _ _).symm.trans H; rw [hy190]; with_reducible exact H2_) | (have H2_ := (Option.bind_some _ _).symm.trans H; with_reducible exact H2_) | with_reducible exact H | (rw [hy190]; exact H) | exact H
              have Ny190 := Aside0.mk hy190
              clear hy190
              have H' := Aside0.mk H
              clear H
              have p189 : 0 ≤ (x8_1 : Int) := of_decide_eq_true (by first | (with_reducible assumption) | assumption)
              have q189 : x8_1 < (l0.length : Int) := of_decide_eq_true (by first | (with_reducible assumption) | assumption)
              obtain ⟨ad189, e189, hx189_0⟩ := Kd.at_int HR0.out x8_1 p189 q189
              cases e189
              replace hx189_0 := (HB.out.cell (World.block_lt_of_cell? w _ hx189_0)).trans hx189_0
              replace p189 := eq_true p189
              replace q189 := eq_true q189
              go_wp2_with (first | ((with_reducible refine gate_builtin (b := .append) (xs := #[.tmp 12, .tmp 15]) rfl ?_); at_builtin; refine Kd.R_append k112 (w0 := w) w.heap.size rfl (.tmp 12) (.tmp 15) 70 112 (.agg #[(.int .i64 0), (.string ⟨#[]⟩)]) 24 rfl Try.underlying70 info112 rfl (by decide) (by omega) u3 x3_1 (⟨rd l0 x8_1, (⟨#[]⟩ : ByteArray)⟩ : S112) [.int .i64 (rd l0 x8_1), .string (⟨#[]⟩ : ByteArray)] (fun _ => True) (fun _ => False) rfl rfl ?aP (fun _ hk => hk.elim) ?aF ?aO ?aB ?aS ?aL ?_; (case aP => exact k112_mkM _ _ _ (⟨rd l0 x8_1, (⟨#[]⟩ : ByteArray)⟩ : S112)); (case aB => exact (by repeat (first | (with_reducible first | exact HB.out | apply below_alloc | apply pw_below_drewN | apply below_drew1) | exact HB.out))); (case aF => exact (fun _ _ => trivial)); (case aO => exact (by (with_reducible repeat (first | apply Kd.R_alloc | apply Kd.R_drewN | apply Kd.R_drew)); exact HO_3.out)); (case aS => exact (below_size (by repeat (first | (with_reducible first | exact HB.out | apply below_alloc | apply pw_below_drewN | apply below_drew1) | exact HB.out)))); (case aL => have := LMc5.out; omega); intro v191 w6 ho hb hg hat; rw [← Ny190.out] at ho; have n0_ := Aside0.mk (hb); have n1_ := Aside0.mk (ho); clear HB; clear HO_3; have HB := n0_; have HO192 := n1_; clear n0_ n1_; clear ho hb hg hat))
              go_roundg k1
              case measure => have := HK1.out; omega
              case rel => exact ⟨(y190), (wrap64 (x8_1 + 1)), (by first | rfl | (simp; done) | (simp [*]; done)), H', ⟨by have := HK1.out; omega⟩, ⟨by (with_reducible repeat (first | apply Kd.R_alloc | apply Kd.R_drewN | apply Kd.R_drew)); exact HO192.out⟩, ⟨by repeat (first | (with_reducible first | exact HB.out | apply below_alloc | apply pw_below_drewN | apply below_drew1) | exact HB.out)⟩⟩
            · rw [if_neg c5] at H
              exact absurd H (by simp)
          · rw [if_neg c4] at H
            exact absurd H (by simp)
        · rw [if_neg c3] at H
          exact absurd H (by simp)
      · rw [if_neg c2] at H
        have c2b0 : decide (x8_1 < (l0.length : Int)) = false := decide_eq_false c2
        clear c2
        obtain rfl := Option.some.inj H
        go_wp2
        go_ret
        exact ⟨_, by first | rfl | (simp [errW_none, errW_some] <;> rfl) | (simp [*, errW_none, errW_some] <;> rfl), by (with_reducible repeat (first | apply Kd.R_alloc | apply Kd.R_drewN | apply Kd.R_drew)); exact HO_3.out, by repeat (first | (with_reducible first | exact HB.out | apply below_alloc | apply pw_below_drewN | apply below_drew1) | exact HB.out)⟩

/-! ### impl_reduced: function 99 -/
def impl_reduced.f (k : Nat) (a0 : Int) (l1 : List Int) : Option (List Int) := (impl_packetsOf.f k l1).bind fun t193 => ((impl_reduce.f a0 t193).bind fun bt196 => ((impl_partedPackets.f k bt196.1).bind fun bt202 => (some bt202.1)))
theorem impl_reduced.mono : ∀ a0 a1 k, LeO (impl_reduced.f k a0 a1) (impl_reduced.f (k + 1) a0 a1) := by
  intro a0 a1 k
  unfold impl_reduced.f
  repeat' first
      | (with_reducible exact impl_packetsOf.mono _ _)
      | (with_reducible exact impl_partedPackets.mono _ _)
      | (with_reducible exact LeO.refl _)
      | (with_reducible exact LeO.none _)
      | (with_reducible refine LeO.ite ?_ ?_)
      | (with_reducible refine LeO.bind ?_ (fun _ => ?_))
      | exact impl_packetsOf.mono _ _
      | exact impl_partedPackets.mono _ _
      | exact LeO.none _
      | refine LeO.ite ?_ ?_
      | refine LeO.bind ?_ (fun _ => ?_)
set_option maxHeartbeats 8000000 in
set_option maxRecDepth 100000 in
theorem impl_reduced.calls (k : Nat) (a0 : Int) (A1 : Option Addr) (c1 : Nat) (l1 : List Int) (r : List Int) (w : World) (hr1 : Kd.C (Kd.int .i64) w A1 l1.length l1) (hc1 : l1.length ≤ c1) (h : impl_reduced.f k a0 l1 = some r) :
    Calls Try.prog 99 #[.int .i64 a0, .slice A1 l1.length c1] w fun e w' => ∃ v0_ : Value, e = .returned (v0_) ∧ Kd.R (Kd.int .i64) 3 w' w.heap.size (fun _ => True) v0_ r ∧ Below w.heap.size w w' := by
  have HR1 := Aside0.mk hr1
  have HC1 := Aside0.mk hc1
  clear hr1 hc1
  have HB := Aside0.mk (Below.refl w.heap.size w)
  have H : ((impl_packetsOf.f k l1).bind fun t193 => ((impl_reduce.f a0 t193).bind fun bt196 => ((impl_partedPackets.f k bt196.1).bind fun bt202 => (some bt202.1)))) = some r := h
  clear h
  replace H := Option.bind_eq_some_iff.mp H
  obtain ⟨t193, A30, H⟩ := H
  replace H : ((impl_reduce.f a0 t193).bind fun bt196 => ((impl_partedPackets.f k bt196.1).bind fun bt202 => (some bt202.1))) = some r := H
  have A3 := Aside0.mk A30
  clear A30
  replace H := Option.bind_eq_some_iff.mp H
  obtain ⟨⟨t196, t197⟩, A40, H⟩ := H
  replace H : ((impl_partedPackets.f k t196).bind fun bt202 => (some bt202.1)) = some r := H
  have A4 := Aside0.mk A40
  clear A40
  replace H := Option.bind_eq_some_iff.mp H
  obtain ⟨⟨t202, t203⟩, A50, H⟩ := H
  replace H : (some t202) = some r := H
  have A5 := Aside0.mk A50
  clear A50
  obtain rfl := Option.some.inj H
  go_enter Try.func99, Try.ntmps99
  go_wp2_with (first | ((with_reducible refine gate_callee (f := 128) rfl ?_); refine goesL_ (some 12) rfl rfl Try.func128 (by kernel_rfl) rfl #[.slice A1 l1.length c1] rfl (by (try simp only [List.map_toArray, List.map_cons, List.map_nil]); first | done | rfl | (simp only [List.length_drop, List.length_take]; rfl)) ?_; (with_reducible refine (impl_packetsOf.calls k _ _ l1 t193 _ ?side1 ?side2 A3.out).mono ?_); (case side1 => repeat (first | exact HR1.out | (with_reducible refine Kd.C_alloc ?_ _) | (with_reducible refine Kd.C_drewN ?_ _) | (with_reducible refine Kd.C_drew ?_))); (case side2 => exact HC1.out); rintro e w6 ⟨v194, rfl, ho0, hb⟩; refine ⟨_, rfl, ?_⟩; have n0_ := Aside0.mk (Kd.R_lower ho0 (below_size (by repeat (first | (with_reducible first | exact HB.out | apply below_alloc | apply pw_below_drewN | apply below_drew1) | exact HB.out)))); have n1_ := Aside0.mk (below_step (by repeat (first | (with_reducible first | exact HB.out | apply below_alloc | apply pw_below_drewN | apply below_drew1) | exact HB.out)) hb); clear HB; have HO195 := n0_; have HB := n1_; clear n0_ n1_; (try clear hb); (try clear hb2); (try clear hk); (try clear hi); (try clear ho0); obtain ⟨Ao7, co7, eo7⟩ := Kd.R_slice HO195.out; subst eo7) | ((with_reducible refine gate_callee (f := 127) rfl ?_); refine goesL_ (some 13) rfl rfl Try.func127 (by kernel_rfl) rfl #[.int .i64 a0, .slice Ao7 t193.length co7] rfl (by (try simp only [List.map_toArray, List.map_cons, List.map_nil]); first | done | rfl | (simp only [List.length_drop, List.length_take]; rfl)) ?_; (with_reducible refine (impl_reduce.calls a0 _ _ t193 t196 t197 _ ?side1 ?side2 A4.out).mono ?_); (case side1 => repeat (first | exact (Kd.R_reads' HO195.out).2.2 | (with_reducible refine Kd.C_alloc ?_ _) | (with_reducible refine Kd.C_drewN ?_ _) | (with_reducible refine Kd.C_drew ?_))); (case side2 => exact (Kd.R_reads' HO195.out).2.1); rintro e w8 ⟨v198, v200, rfl, ho0, ho1, hb⟩; refine ⟨_, rfl, ?_⟩; have n0_ := Aside0.mk (Kd.R_mono (Kd.R_told (Kd.R_told (Kd.R_old (by (with_reducible repeat (first | apply Kd.R_alloc | apply Kd.R_drewN | apply Kd.R_drew)); exact HO195.out) hb) (Kd.R_base ho0)) (Kd.R_base ho1)) (fun _ h_ => h_.1)); have n1_ := Aside0.mk (Kd.R_lower (Kd.R_new' ho0 (Kd.R_lt (by (with_reducible repeat (first | apply Kd.R_alloc | apply Kd.R_drewN | apply Kd.R_drew)); exact HO195.out))) (below_size (by repeat (first | (with_reducible first | exact HB.out | apply below_alloc | apply pw_below_drewN | apply below_drew1) | exact HB.out)))); have n2_ := Aside0.mk (Kd.R_lower (Kd.R_new' ho1 (Kd.R_lt (by (with_reducible repeat (first | apply Kd.R_alloc | apply Kd.R_drewN | apply Kd.R_drew)); exact HO195.out))) (below_size (by repeat (first | (with_reducible first | exact HB.out | apply below_alloc | apply pw_below_drewN | apply below_drew1) | exact HB.out)))); have n3_ := Aside0.mk (below_step (by repeat (first | (with_reducible first | exact HB.out | apply below_alloc | apply pw_below_drewN | apply below_drew1) | exact HB.out)) hb); clear HO195; clear HB; have HO195 := n0_; have HO199 := n1_; have HO201 := n2_; have HB := n3_; clear n0_ n1_ n2_ n3_; (try clear hb); (try clear hb2); (try clear hk); (try clear hi); (try clear ho0); (try clear ho1); obtain ⟨Ao9, co9, eo9⟩ := Kd.R_slice HO199.out; subst eo9) | ((with_reducible refine gate_callee (f := 95) rfl ?_); refine goesL_ (some 18) rfl rfl Try.func95 (by kernel_rfl) rfl #[.slice Ao9 t196.length co9] rfl (by (try simp only [List.map_toArray, List.map_cons, List.map_nil]); first | done | rfl | (simp only [List.length_drop, List.length_take]; rfl)) ?_; (with_reducible refine (impl_partedPackets.calls k _ _ t196 t202 t203 _ ?side1 ?side2 A5.out).mono ?_); (case side1 => repeat (first | exact (Kd.R_reads' HO199.out).2.2 | (with_reducible refine Kd.C_alloc ?_ _) | (with_reducible refine Kd.C_drewN ?_ _) | (with_reducible refine Kd.C_drew ?_))); (case side2 => exact (Kd.R_reads' HO199.out).2.1); rintro e w10 ⟨v204, v206, rfl, ho0, ho1, hb⟩; refine ⟨_, rfl, ?_⟩; have n0_ := Aside0.mk (Kd.R_below (by (with_reducible repeat (first | apply Kd.R_alloc | apply Kd.R_drewN | apply Kd.R_drew)); exact HO195.out) hb); have n1_ := Aside0.mk (Kd.R_below (by (with_reducible repeat (first | apply Kd.R_alloc | apply Kd.R_drewN | apply Kd.R_drew)); exact HO199.out) hb); have n2_ := Aside0.mk (Kd.R_below (by (with_reducible repeat (first | apply Kd.R_alloc | apply Kd.R_drewN | apply Kd.R_drew)); exact HO201.out) hb); have n3_ := Aside0.mk (Kd.R_lower ho0 (below_size (by repeat (first | (with_reducible first | exact HB.out | apply below_alloc | apply pw_below_drewN | apply below_drew1) | exact HB.out)))); have n4_ := Aside0.mk (Kd.R_lower ho1 (below_size (by repeat (first | (with_reducible first | exact HB.out | apply below_alloc | apply pw_below_drewN | apply below_drew1) | exact HB.out)))); have n5_ := Aside0.mk (below_step (by repeat (first | (with_reducible first | exact HB.out | apply below_alloc | apply pw_below_drewN | apply below_drew1) | exact HB.out)) hb); clear HO195; clear HO199; clear HO201; clear HB; have HO195 := n0_; have HO199 := n1_; have HO201 := n2_; have HO205 := n3_; have HO207 := n4_; have HB := n5_; clear n0_ n1_ n2_ n3_ n4_ n5_; (try clear hb); (try clear hb2); (try clear hk); (try clear hi); (try clear ho0); (try clear ho1)))
  go_ret
  exact ⟨_, by first | rfl | (simp [errW_none, errW_some] <;> rfl) | (simp [*, errW_none, errW_some] <;> rfl), by (with_reducible repeat (first | apply Kd.R_alloc | apply Kd.R_drewN | apply Kd.R_drew)); exact HO205.out, by repeat (first | (with_reducible first | exact HB.out | apply below_alloc | apply pw_below_drewN | apply below_drew1) | exact HB.out)⟩

end Go.Proofs.Ytleklbmodelehaa.PFnExactInSpan

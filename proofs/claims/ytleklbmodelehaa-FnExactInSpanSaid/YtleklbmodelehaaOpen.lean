/- What a typed reading of data opens to: a plain Lean value, whatever the type (integers, bools, strings, slices, structs). This session's own text; conditions: none. -/
import Derived.Deep.Slices
import Derived.SizedLaws
import Derived.Test.YtleklbmodelehaaWWords
set_option linter.unusedVariables false
namespace Go.Proofs.Ytleklbmodelehaa.Open
open Go.RowKit Go.Proofs.YtleklbmodelehaaW.PrintWords

/-- Whatever reads as data of type t, and is no heavier than the reach, is the value of a plain x, of which ok holds. -/
def Opens {α : Type} (P : Program) (t : TypeId) (k : Kd α) (ok : α → Prop) : Prop :=
  ∀ {H : Type} (enc : TypeId × Value → H) (W : World) (base : Nat) (spare : Nat → Bool) (held : Bool) (fuel : Nat) (cs : List Value) (x : DataW H × List MemPlace),
    DataW.trod enc P W base spare held fuel t cs = some x → (∀ n ∈ x.1.weights P t, n ≤ reachBytes) → ∃ a, k.K W a cs ∧ ok a

theorem Opens.at_ {α : Type} {P : Program} {t : TypeId} {k : Kd α} {ok : α → Prop} (h : Opens P t k ok) {H : Type} {enc : TypeId × Value → H} {W : World} {base : Nat} {spare : Nat → Bool} {held : Bool} {v : Value} {d : DataW H} {ps : List MemPlace}
    (hr : DataW.Trod enc P W base spare held t v d ps) (hw : ∀ n ∈ d.weights P t, n ≤ reachBytes) : ∃ a, k.K W a v.cells.toList ∧ ok a := by
  obtain ⟨fuel, hf⟩ := hr
  exact h enc W base spare held fuel _ (d, ps) hf hw

theorem weights_of {H : Type} {P : Program} {ts : List TypeId} {ds : List (DataW H)} (hsz : (DataW.weightsEach P ts ds).all (· ≤ reachBytes) = true) {j : Nat} {t : TypeId} {d : DataW H} (ht : ts[j]? = some t) (hd : ds[j]? = some d) : ∀ n ∈ d.weights P t, n ≤ reachBytes :=
  fun n hn => by simpa using List.all_eq_true.1 hsz _ (DataW.weights_mem_each ht hd n hn)

theorem arr_of {cs : Array Value} {l : List Value} (h : cs.toList = l) : cs = l.toArray := by subst h; simp

theorem opens_int {P : Program} {t : TypeId} {k : IntKind} (hu : P.underlying t = some (.int k)) : Opens P t (Kd.int k) (fun x => (Lit.int k x).wf = true) := by
  intro H enc W base spare held fuel cs x h _
  obtain ⟨n, rfl, rfl, hw⟩ := DataW.trod_int hu h
  exact ⟨n, rfl, hw⟩

theorem opens_bool {P : Program} {t : TypeId} (hu : P.underlying t = some .bool) : Opens P t Kd.bool (fun _ => True) := by
  intro H enc W base spare held fuel cs x h _
  obtain ⟨b, rfl, rfl⟩ := DataW.trod_bool hu h
  exact ⟨b, rfl, trivial⟩

theorem opens_string {P : Program} {t : TypeId} (hu : P.underlying t = some .string) : Opens P t Kd.string (fun x => x.size ≤ 140737488351232) := by
  intro H enc W base spare held fuel cs x h hw
  obtain ⟨s, rfl, rfl, hs⟩ := DataW.trod_string hu h
  refine ⟨s, rfl, ?_⟩
  have := hw s.data.toList.length (by simp [DataW.weights])
  simpa [reachBytes] using this

/-- One list out of 'for each index there is one'. -/
theorem list_of {α : Type} {p : Nat → α → Prop} : ∀ n, (∀ i, i < n → ∃ x, p i x) → ∃ l : List α, l.length = n ∧ ∀ j x, l[j]? = some x → p j x
  | 0, _ => ⟨[], rfl, fun j x h => by simp at h⟩
  | n + 1, h => by
    obtain ⟨l, hl, hp⟩ := list_of n (fun i hi => h i (by omega))
    obtain ⟨x, hx⟩ := h n (by omega)
    refine ⟨l ++ [x], by simp [hl], fun j y hj => ?_⟩
    by_cases hlt : j < l.length
    · rw [List.getElem?_append_left hlt] at hj
      exact hp j y hj
    · rw [List.getElem?_append_right (by omega)] at hj
      have h0 : j - l.length = 0 := by
        rcases Nat.eq_zero_or_pos (j - l.length) with h0 | h0
        · exact h0
        · rw [List.getElem?_eq_none (by simp; omega)] at hj
          exact absurd hj (by simp)
      rw [h0] at hj
      simp only [List.getElem?_cons_zero, Option.some.injEq] at hj
      subst hj
      obtain rfl : j = n := by omega
      exact hx

theorem weights_all_mem {H : Type} {P : Program} {e : TypeId} : ∀ {l : List (DataW H)} {d : DataW H}, d ∈ l → ∀ n ∈ d.weights P e, n ∈ DataW.weightsAll P e l
  | d0 :: l, d, hd, n, hn => by
    simp only [DataW.weightsAll, List.mem_append]
    rcases List.mem_cons.1 hd with rfl | hd
    · exact .inl hn
    · exact .inr (weights_all_mem hd n hn)
  | [], _, hd, _, _ => by simp at hd

theorem opens_slice {α : Type} {P : Program} {t e : TypeId} {k : Kd α} {ok : α → Prop} {B : Nat} (hu : P.underlying t = some (.slice e)) (hk : Opens P e k ok) (hc : P.cellsOf e = k.sz) (hB : P.bytesOf e = B) :
    Opens P t (Kd.slice e k) (fun l => l.length * B ≤ 140737488351232 ∧ ∀ x ∈ l, ok x) := by
  intro H enc W base spare held fuel cs x h hw
  rcases Go.Deep.open_slice hu h with ⟨rfl, rfl⟩ | ⟨a, len, cap, m, n, D, Pl, rfl, _, hl, hm, hmm, hx, hel⟩
  · exact ⟨[], ⟨none, 0, rfl, Nat.le_refl _, rfl, by simp, fun h0 => absurd h0 (by simp)⟩, by simp, fun x hx => by simp at hx⟩
  · have hlm : len ≤ m := by rw [hmm]; split <;> omega
    have hx1 : x.1 = .slice ((List.range len).map D) ((List.range (m - len)).map fun j => D (len + j)) := by rw [hx]
    rw [hx1] at hw
    simp only [DataW.weights, hu] at hw
    have each : ∀ i, i < len → ∃ z : α, (∃ c, c.length = k.sz ∧ k.K W z c ∧ ∀ i' u, c[i']? = some u → W.cell? (a.add (i * k.sz + i')) = some u) ∧ ok z := by
      intro i hi
      obtain ⟨c, h1, h2⟩ := hel i (by omega)
      obtain ⟨_, hcl, hcell⟩ := World.cells?_some h1
      obtain ⟨z, hz, hok⟩ := hk enc W base spare held n c (D i, Pl i) h2 (fun q hq => hw q (by
        refine List.mem_cons_of_mem _ (List.mem_append_left _ (weights_all_mem (List.mem_map.2 ⟨i, List.mem_range.2 hi, rfl⟩) q hq))))
      refine ⟨z, ⟨c, by rw [hcl, hc], hz, fun i' u hu' => ?_⟩, hok⟩
      have hi' : i' < P.cellsOf e := by
        have := (List.getElem?_eq_some_iff.1 hu').1
        omega
      have := hcell i' hi'
      rw [Go.Deep.add_add, hc] at this
      rw [this, hu']
    obtain ⟨l, hll, hlp⟩ := list_of len each
    refine ⟨l, ⟨some a, cap, by rw [hll], by rw [hll]; exact hl, rfl, ?_, fun _ => ⟨a, rfl, fun j p hj => (hlp j p hj).1⟩⟩, ?_, ?_⟩
    · rw [hll]
      have : cap ≤ 9223372036854775807 := hm
      omega
    · have := hw _ (List.mem_cons_self)
      simp only [List.length_map, List.length_range, hB] at this
      have h2 : len * B ≤ (len + (m - len)) * B := Nat.mul_le_mul_right _ (by omega)
      have h3 : reachBytes = 140737488351232 := rfl
      rw [hll]
      omega
    · intro z hz
      obtain ⟨j, hj⟩ := List.getElem?_of_mem hz
      exact (hlp j z hj).2

/-- The fields of a struct from one offset on. -/
def OpensF {α : Type} (P : Program) (fs : List Field) (off : Nat) (k : Kd α) (ok : α → Prop) : Prop :=
  ∀ {H : Type} (enc : TypeId × Value → H) (W : World) (base : Nat) (spare : Nat → Bool) (held : Bool) (n : Nat) (cs : List Value) (xs : List (DataW H × List MemPlace)),
    xs.length = fs.length → (∀ (i : Nat) (f : Field), fs[i]? = some f → DataW.trod enc P W base spare held n f.type ((cs.drop f.offset).take (P.cellsOf f.type)) = xs[i]?) →
    (∀ m ∈ DataW.weightsEach P (fs.map (·.type)) (xs.map (·.1)), m ≤ reachBytes) → cs.length = off + k.sz → ∃ a, k.K W a (cs.drop off) ∧ ok a

theorem opensF_one {α : Type} {P : Program} {f : Field} {off : Nat} {k : Kd α} {ok : α → Prop} (hk : Opens P f.type k ok) (hc : P.cellsOf f.type = k.sz) (ho : f.offset = off) : OpensF P [f] off k ok := by
  intro H enc W base spare held n cs xs hl hx hw hlen
  match xs, hl with
  | [x], _ =>
    have h0 := hx 0 f rfl
    rw [ho, hc, List.take_of_length_le (by rw [List.length_drop]; omega)] at h0
    exact hk enc W base spare held n _ x h0 (fun m hm => hw m (by simp [DataW.weightsEach, hm]))

theorem opensF_cons {α β : Type} {P : Program} {f : Field} {fs : List Field} {off : Nat} {k : Kd α} {k' : Kd β} {ok : α → Prop} {ok' : β → Prop} (hk : Opens P f.type k ok) (hc : P.cellsOf f.type = k.sz) (ho : f.offset = off)
    (hr : OpensF P fs (off + k.sz) k' ok') : OpensF P (f :: fs) off (Kd.pair k k') (fun x => ok x.1 ∧ ok' x.2) := by
  intro H enc W base spare held n cs xs hl hx hw hlen
  match xs, hl with
  | x :: xs, hl =>
    have h0 := hx 0 f rfl
    rw [ho, hc] at h0
    obtain ⟨a, ha, hoka⟩ := hk enc W base spare held n _ x h0 (fun m hm => hw m (by simp [DataW.weightsEach, hm]))
    have hlen' : cs.length = off + (k.sz + k'.sz) := hlen
    obtain ⟨b, hb, hokb⟩ := hr enc W base spare held n cs xs (by simpa using hl) (fun i g hg => by have := hx (i + 1) g (by simpa using hg); simpa using this) (fun m hm => hw m (by simp [DataW.weightsEach, hm])) (by omega)
    refine ⟨(a, b), ⟨(cs.drop off).take k.sz, cs.drop (off + k.sz), ?_, ha, hb⟩, hoka, hokb⟩
    rw [← List.drop_drop, List.take_append_drop]

theorem opensF_iso {α β : Type} {P : Program} {fs : List Field} {off : Nat} {d : Kd α} {ok : α → Prop} {f : β → α} (h : OpensF P fs off d ok) (hf : ∀ x, ∃ y, f y = x) : OpensF P fs off (Kd.iso d f) (fun y => ok (f y)) := by
  intro H enc W base spare held n cs xs hl hx hw hlen
  obtain ⟨a, ha, hok⟩ := h enc W base spare held n cs xs hl hx hw hlen
  obtain ⟨y, rfl⟩ := hf a
  exact ⟨y, ha, hok⟩

theorem opens_struct {α : Type} {P : Program} {t : TypeId} {fs : Array Field} {k : Kd α} {ok : α → Prop} (hu : P.underlying t = some (.struct fs)) (hc : P.cellsOf t = k.sz) (h : OpensF P fs.toList 0 k ok) : Opens P t k ok := by
  intro H enc W base spare held fuel cs x hx hw
  obtain ⟨xs, n, _, rfl, hlen, hxl, hel⟩ := DataW.trod_struct hu hx
  have := h enc W base spare held n cs xs (by simpa using hxl) (fun i f hf => hel i f (by simpa using hf)) (fun m hm => hw m (by simpa [DataW.weights, hu] using hm)) (by rw [hlen, hc]; omega)
  simpa using this
end Go.Proofs.Ytleklbmodelehaa.Open

/- Contracts of Go's library at this program: the shelf's, applied to this program's own numbers. No condition. -/
import Derived.Maps.OwnOps
import Derived.Maps.OwnSet
import Derived.Maps.RangeWalk
import Derived.Maps.Ext
import Derived.Deep.RegionHeld3
import Derived.Test.YtafkbhkikdndnaaWWords
import Derived.Test.YtafkbhkikdndnaaWLast
import Derived.Test.YtafkbhkikdndnaaWMore
import Derived.Test.YtafkbhkikdndnaaProg
import Derived.Test.YtafkbhkikdndnaaProg
set_option linter.unusedVariables false
namespace Go.Proofs
set_option linter.unusedSimpArgs false
set_option linter.unusedVariables false
namespace Ytafkbhkikdndnaa.Heap
open Go.RowKit Go.Maps Go.Proofs.YtafkbhkikdndnaaW.PrintWords Go.Proofs.YtafkbhkikdndnaaW.PrintLast Go.Proofs.YtafkbhkikdndnaaW.PrintMore

theorem lawK : Keyed Try.prog 3 := int_keyed Try.underlying3
theorem zeroI (w : World) : (zeroValue 3).run Try.prog w = .ok (.int .i64 0) w := by kernel_rfl

theorem within_calls (a lo hi : Int) (w : World) : Calls Try.prog 70 #[.int .i64 a, .int .i64 lo, .int .i64 hi] w fun e w' => e = .returned (.bool (decide (lo ≤ a ∧ a ≤ hi))) ∧ w' = w := by
  by_cases h : lo ≤ a
  · by_cases h2 : a ≤ hi
    · have e : decide (lo ≤ a ∧ a ≤ hi) = true := decide_eq_true ⟨h, h2⟩
      rw [e]
      go_enter Try.func70, Try.ntmps70
      go_wp2
      go_ret
      exact ⟨by simp, rfl⟩
    · have e : decide (lo ≤ a ∧ a ≤ hi) = false := decide_eq_false (fun hh => h2 hh.2)
      rw [e]
      go_enter Try.func70, Try.ntmps70
      go_wp2
      go_ret
      exact ⟨by simp, rfl⟩
  · have e : decide (lo ≤ a ∧ a ≤ hi) = false := decide_eq_false (fun hh => h hh.1)
    rw [e]
    go_enter Try.func70, Try.ntmps70
    go_wp2
    go_ret
    exact ⟨by simp, rfl⟩

/-! ### what the two maps hold -/
/-- How often a block is told as live. -/
def cnt (P : List (Int × Bool)) (z : Int) : Int := ((P.filter fun p => decide (p.1 = z) && p.2).length : Int)
theorem cnt_nil (z : Int) : cnt [] z = 0 := rfl
theorem cnt_snoc (P : List (Int × Bool)) (x : Int) (b : Bool) (z : Int) : cnt (P ++ [(x, b)]) z = cnt P z + if x = z ∧ b = true then 1 else 0 := by
  unfold cnt
  rw [List.filter_append, List.length_append]
  by_cases h : x = z <;> cases b <;> simp [h]
theorem cnt_le (P : List (Int × Bool)) (z : Int) : 0 ≤ cnt P z ∧ cnt P z ≤ P.length := by
  unfold cnt
  have := List.length_filter_le (fun p : Int × Bool => decide (p.1 = z) && p.2) P
  omega
/-- Both maps, behind so many pairs. -/
def Two (W : World) (b1 b2 : Nat) (P : List (Int × Bool)) (P2 : List (Int × Bool)) : Prop :=
  ∃ D1 D2 : DataW Unit, W.ownsMap Try.prog 3 (plainElem Try.prog 4) b1 P.length D1 ∧ W.ownsMap Try.prog 3 (plainElem Try.prog 3) b2 P2.length D2 ∧
    (∀ z, has D1 (.int .i64 z) = P.any fun p => decide (p.1 = z)) ∧ ∀ z, D2.atKey (.int .i64 z) (.lit (.int .i64 0)) = .lit (.int .i64 (cnt P2 z))
theorem has1_step {D : DataW Unit} {P : List (Int × Bool)} (hm : IsMap D) (h : ∀ z, has D (.int .i64 z) = P.any fun p => decide (p.1 = z)) (x : Int) (b : Bool) (d : DataW Unit) :
    ∀ z, has (D.put (.int .i64 x) d) (.int .i64 z) = (P ++ [(x, b)]).any fun p => decide (p.1 = z) := by
  intro z
  rw [List.any_append]
  by_cases e : x = z
  · subst e
    rw [has_put_same hm (show WideAt.IsKeyLit (.int .i64 x) from trivial)]
    simp
  · rw [has_put_other (by intro h2; injection h2 with h3 h4; exact e h4.symm), h z]
    simp [e]
theorem at2_step {D : DataW Unit} {P : List (Int × Bool)} (hm : IsMap D) (h : ∀ z, D.atKey (.int .i64 z) (.lit (.int .i64 0)) = .lit (.int .i64 (cnt P z))) (x c : Int) (hc : c = cnt P x + 1) :
    ∀ z, (D.put (.int .i64 x) (.lit (.int .i64 c))).atKey (.int .i64 z) (.lit (.int .i64 0)) = .lit (.int .i64 (cnt (P ++ [(x, true)]) z)) := by
  intro z
  rw [cnt_snoc]
  by_cases e : x = z
  · subst e
    rw [atKey_put_same hm (show WideAt.IsKeyLit (.int .i64 x) from trivial), if_pos ⟨rfl, rfl⟩, hc]
  · rw [atKey_put_other (by intro h2; injection h2 with h3 h4; exact e h4.symm), h z, if_neg (fun hh => e hh.1), Int.add_zero]

/-! ### the segments and what is told of them -/
abbrev Sg := List Int × Int
def sg (l : List Sg) (k : Nat) : Sg := l.getD k ([], 0)
def lv (l : List (List Bool)) (k : Nat) : List Bool := l.getD k []
def SegsAt (W : World) (A0 : Option Addr) (l : List Sg) : Prop := ∀ k : Nat, k < l.length → ∃ ad A c, A0 = some ad ∧ W.cell? (ad.add (k * 2)) = some (.slice A (sg l k).1.length c) ∧ W.cell? ⟨(ad.add (k * 2)).block, (ad.add (k * 2)).off + 1, none⟩ = some (.int .i64 (sg l k).2) ∧ (sg l k).1.length ≤ c ∧ Kd.C (Kd.int .i64) W A (sg l k).1.length (sg l k).1
theorem SegsAt.below {w W : World} {A0 : Option Addr} {l : List Sg} (h : SegsAt w A0 l) (hb : Below w.heap.size w W) : SegsAt W A0 l := fun k hk => by
  obtain ⟨ad, A, c, e, h1, h2, h3, h4⟩ := h k hk
  exact ⟨ad, A, c, e, pw_cell_below hb h1, pw_cell_below hb h2, h3, Kd.C_below h4 hb⟩
theorem at_L {W : World} {A : Option Addr} {n : Nat} {L : List (List Bool)} (h : Kd.C (Kd.slice 4 Kd.bool) W A n L) (k : Nat) (hk : k < n) : ∃ ad A' c', A = some ad ∧ W.cell? (ad.add k) = some (.slice A' (lv L k).length c') ∧ Kd.C Kd.bool W A' (lv L k).length (lv L k) := by
  obtain ⟨ad, c, e, _, hK, hc⟩ := Kd.C_get h ([] : List Bool) (k : Int) (by omega) (by omega)
  obtain ⟨A', c', rfl, _, hC⟩ := hK
  refine ⟨ad, A', c', e, ?_, hC⟩
  have hq : W.cell? (ad.add ((k : Int).toNat * 1 + 0)) = _ := hc 0 _ rfl
  rwa [Nat.mul_one, Nat.add_zero, Int.toNat_natCast] at hq
theorem at_b {W : World} {A : Option Addr} {n : Nat} {v : List Bool} (h : Kd.C Kd.bool W A n v) (k : Nat) (hk : k < n) : ∃ ad, A = some ad ∧ W.cell? (ad.add k) = some (.bool (v.getD k false)) := by
  obtain ⟨ad, c, e, _, hK, hc⟩ := Kd.C_get h false (k : Int) (by omega) (by omega)
  obtain rfl : c = [.bool (v.getD (k : Int).toNat false)] := hK
  refine ⟨ad, e, ?_⟩
  have hq : W.cell? (ad.add ((k : Int).toNat * 1 + 0)) = _ := hc 0 _ rfl
  rwa [Nat.mul_one, Nat.add_zero, Int.toNat_natCast] at hq
def isB (x : Int) : Bool := decide (0 ≤ x ∧ x ≤ 15)
def fine (s : Sg) (v : List Bool) : Bool := decide (s.1.length ≤ 6) && s.1.all isB && decide (0 ≤ s.2 ∧ s.2 ≤ 1000) && decide (v.length = s.1.length)
/-- The pairs of the first k segments. -/
def pairs (l : List Sg) (L : List (List Bool)) : Nat → List (Int × Bool)
  | 0 => []
  | k + 1 => pairs l L k ++ (sg l k).1.zip (lv L k)
def goodHeap (l : List Sg) (L : List (List Bool)) : Bool :=
  decide (2 ≤ l.length ∧ l.length ≤ 8 ∧ L.length = l.length) && ((List.range l.length).all fun k => fine (sg l k) (lv L k)) && (pairs l L l.length).all fun p => decide (cnt (pairs l L l.length) p.1 = 1)

theorem pairs_len (l : List Sg) (L : List (List Bool)) : ∀ k, (∀ j, j < k → fine (sg l j) (lv L j) = true) → (pairs l L k).length ≤ 6 * k
  | 0, _ => Nat.le_refl _
  | k + 1, h => by
    have h1 := pairs_len l L k (fun j hj => h j (by omega))
    have h2 := h k (by omega)
    unfold fine at h2
    simp only [Bool.and_eq_true, decide_eq_true_eq] at h2
    obtain ⟨⟨⟨f1, _⟩, _⟩, _⟩ := h2
    show (pairs l L k ++ (sg l k).1.zip (lv L k)).length ≤ 6 * (k + 1)
    rw [List.length_append, List.length_zip]
    omega
theorem goodHeap_true (l : List Sg) (L : List (List Bool)) (h : 2 ≤ l.length ∧ l.length ≤ 8 ∧ L.length = l.length) (hf : ∀ j, j < l.length → fine (sg l j) (lv L j) = true) (hc : ∀ p ∈ pairs l L l.length, cnt (pairs l L l.length) p.1 = 1) : goodHeap l L = true := by
  unfold goodHeap
  rw [decide_eq_true h, Bool.true_and, Bool.and_eq_true]
  exact ⟨List.all_eq_true.2 fun j hj => hf j (List.mem_range.1 hj), List.all_eq_true.2 fun p hp => decide_eq_true (hc p hp)⟩
theorem goodHeap_false (l : List Sg) (L : List (List Bool)) (p : Int × Bool) (hp : p ∈ pairs l L l.length) (hc : cnt (pairs l L l.length) p.1 ≠ 1) : goodHeap l L = false := by
  unfold goodHeap
  have : ((pairs l L l.length).all fun p => decide (cnt (pairs l L l.length) p.1 = 1)) = false := List.all_eq_false.2 ⟨p, hp, by simpa using hc⟩
  rw [this, Bool.and_false]
theorem goodHeap_short (l : List Sg) (L : List (List Bool)) (h : ¬ (2 ≤ l.length ∧ l.length ≤ 8 ∧ L.length = l.length)) : goodHeap l L = false := by
  unfold goodHeap
  rw [decide_eq_false h, Bool.false_and, Bool.false_and]
def Inv (w : World) (A0 : Option Addr) (n c0 : Nat) (A1 : Option Addr) (n1 c1 : Nat) (wr : World) (P P2 : List (Int × Bool)) : Prop :=
  wr.cell? ⟨w.heap.size, 0, none⟩ = some (.slice A0 n c0) ∧ wr.cell? ⟨w.heap.size, 1, none⟩ = some (.slice A1 n1 c1) ∧ Two wr (w.heap.size + 1) (w.heap.size + 1 + 1) P P2 ∧ Below w.heap.size w wr ∧ w.heap.size + 3 ≤ wr.heap.size
theorem Inv.below {w : World} {A0 A1 : Option Addr} {n c0 n1 c1 : Nat} {wr W : World} {P P2 : List (Int × Bool)} (h : Inv w A0 n c0 A1 n1 c1 wr P P2) (hb : Below wr.heap.size wr W) : Inv w A0 n c0 A1 n1 c1 W P P2 := by
  obtain ⟨h1, h2, ⟨D1, D2, m1, m2, m3, m4⟩, h4, h5⟩ := h
  exact ⟨pw_cell_below hb h1, pw_cell_below hb h2, ⟨D1, D2, m1.kept (grown_of_below hb none) (by simp), m2.kept (grown_of_below hb none) (by simp), m3, m4⟩, h4.trans (hb.mono h4.size), Nat.le_trans h5 hb.size⟩

theorem Inv_start (w : World) (A0 : Option Addr) (n c0 : Nat) (A1 : Option Addr) (n1 c1 : Nat) : Inv w A0 n c0 A1 n1 c1 (((w.alloc (.cells #[.slice A0 n c0, .slice A1 n1 c1] 30)).alloc (.map #[] 0)).alloc (.map #[] 0)) [] [] := by
  have h1 : (w.alloc (.cells #[.slice A0 n c0, .slice A1 n1 c1] 30)).heap.size = w.heap.size + 1 := by simp
  have h2 : ((w.alloc (.cells #[.slice A0 n c0, .slice A1 n1 c1] 30)).alloc (.map #[] 0)).heap.size = w.heap.size + 1 + 1 := by simp
  have m1 := (World.ownsMap_made (H := Unit) (w.alloc (.cells #[.slice A0 n c0, .slice A1 n1 c1] 30)) Try.prog 3 (plainElem Try.prog 4)).alloc (.map #[] 0)
  have m2 := World.ownsMap_made (H := Unit) ((w.alloc (.cells #[.slice A0 n c0, .slice A1 n1 c1] 30)).alloc (.map #[] 0)) Try.prog 3 (plainElem Try.prog 3)
  rw [h1] at m1
  rw [h2] at m2
  have hb : Below (w.alloc (.cells #[.slice A0 n c0, .slice A1 n1 c1] 30)).heap.size (w.alloc (.cells #[.slice A0 n c0, .slice A1 n1 c1] 30)) (((w.alloc (.cells #[.slice A0 n c0, .slice A1 n1 c1] 30)).alloc (.map #[] 0)).alloc (.map #[] 0)) := ((Below.refl _ _).alloc (Nat.le_refl _) _).alloc (by simp) _
  have k0 : (w.alloc (.cells #[.slice A0 n c0, .slice A1 n1 c1] 30)).cell? ⟨w.heap.size, 0, none⟩ = some (.slice A0 n c0) := by simp
  have k1 : (w.alloc (.cells #[.slice A0 n c0, .slice A1 n1 c1] 30)).cell? ⟨w.heap.size, 1, none⟩ = some (.slice A1 n1 c1) := by simp
  refine ⟨pw_cell_below hb k0, pw_cell_below hb k1, ⟨.map [], .map [], m1, m2, fun _ => rfl, fun _ => rfl⟩, (((Below.refl _ _).alloc (Nat.le_refl _) _).alloc (by rw [h1]; omega) _).alloc (by rw [h2]; omega) _, by simp⟩

set_option maxHeartbeats 8000000 in
set_option maxRecDepth 100000 in
theorem goodHeap_calls (l : List Sg) (L : List (List Bool)) (A0 A1 : Option Addr) (c0 c1 : Nat) (w : World) (hS : SegsAt w A0 l) (hL : Kd.C (Kd.slice 4 Kd.bool) w A1 L.length L)
    (hall : ∀ W A (x : List Int) c, Kd.C (Kd.int .i64) W A x.length x → Calls Try.prog 71 #[.slice A x.length c, .func (.func 72) #[] #[]] W fun e w' => e = .returned (.bool (x.all isB)) ∧ Below W.heap.size W w') :
    Calls Try.prog 19 #[.agg #[.slice A0 l.length c0, .slice A1 L.length c1]] w fun e w' => e = .returned (.bool (goodHeap l L)) ∧ Below w.heap.size w w' := by
  have hmm := @run_makeMap Try.prog
  obtain ⟨R, hR⟩ : ∃ R, R = goodHeap l L := ⟨_, rfl⟩
  have HR := Aside0.mk hR
  rw [← hR]
  clear hR
  have HS := Aside0.mk hS
  have HL := Aside0.mk hL
  have HA := Aside0.mk hall
  clear hS hL hall
  obtain ⟨n, hN⟩ : ∃ n, l.length = n := ⟨_, rfl⟩
  obtain ⟨n1, hN1⟩ : ∃ n1, L.length = n1 := ⟨_, rfl⟩
  rw [hN, hN1]
  have HN := Aside0.mk hN
  have HN1 := Aside0.mk hN1
  clear hN hN1
  by_cases h1 : 2 ≤ n ∧ n ≤ 8
  · by_cases h2 : n1 = n
    · subst h2
      have hw : decide ((2 : Int) ≤ (n1 : Int) ∧ (n1 : Int) ≤ 8) = true := decide_eq_true (by omega)
      have HW := Aside0.mk hw
      obtain ⟨h1a, h1b⟩ := h1
      clear hw
      go_enter Try.func19, Try.ntmps19
      go_wp2_with (go_at_call 70; refine (within_calls _ _ _ _).mono ?_; rw [HW.out]; rintro e w' ⟨rfl, rfl⟩)
      go_loopg [29] n1 (fun gk v29 wr => ∃ k : Nat, k + gk = n1 ∧ v29 = .int .i64 k ∧ Aside0 (Inv w A0 n1 c0 A1 n1 c1 wr (pairs l L k) (pairs l L k)) ∧ Aside0 (∀ j, j < k → fine (sg l j) (lv L j) = true))
      case atStart =>
        refine ⟨0, by omega, rfl, ⟨?_⟩, ⟨fun j hj => by omega⟩⟩
        exact Inv_start _ _ _ _ _ _ _
      case round =>
        obtain ⟨k, hk, rfl, HI, HF⟩ := hrel
        have hi0 := HI.out.1
        have hi1 := HI.out.2.1
        have hsz := HI.out.2.2.2.2
        by_cases hlt : k < n1
        · have hlt' : decide ((k : Int) < (n1 : Int)) = true := decide_eq_true (by omega)
          obtain ⟨ad, A, c, eA, hs0w, hs1w, hlc, hblw⟩ := HS.out k (by rw [HN.out]; exact hlt)
          obtain ⟨ad1, A2, c2, eA1, hl0w, hbow⟩ := at_L HL.out k (by rw [HN1.out]; exact hlt)
          subst eA eA1
          have hbl := Kd.C_below hblw HI.out.2.2.2.1
          have hbo := Kd.C_below hbow HI.out.2.2.2.1
          have hs0 := pw_cell_below HI.out.2.2.2.1 hs0w
          have hs1 := pw_cell_below HI.out.2.2.2.1 hs1w
          have hl0 := pw_cell_below HI.out.2.2.2.1 hl0w
          have HBLw := Aside0.mk hblw
          have HBOw := Aside0.mk hbow
          have HL0w := Aside0.mk hl0w
          clear hs0w hs1w hl0w hblw hbow
          have HBL := Aside0.mk hbl
          have HBO := Aside0.mk hbo
          have HLC := Aside0.mk hlc
          clear hbl hbo hlc
          obtain ⟨bs, hbs⟩ : ∃ bs, bs = (sg l k).1 := ⟨_, rfl⟩
          obtain ⟨age, hage⟩ : ∃ age, age = (sg l k).2 := ⟨_, rfl⟩
          obtain ⟨vs, hvs⟩ : ∃ vs, vs = lv L k := ⟨_, rfl⟩
          have HBS := Aside0.mk hbs
          have HAGE := Aside0.mk hage
          have HVS := Aside0.mk hvs
          rw [← hbs] at hs0 HBL HLC HBLw
          rw [← hage] at hs1
          rw [← hvs] at hl0 HBO HBOw HL0w
          clear hbs hage hvs
          have HLT := Aside0.mk hlt
          go_upto_region 7 with (fail)
          have hbel : Below wr.heap.size wr (wr.alloc (.cells #[.slice A bs.length c, .int .i64 age] 88)) := (Below.refl _ _).alloc (Nat.le_refl _) _
          have hI0 := HI.out.below hbel
          have hb0 : (wr.alloc (.cells #[.slice A bs.length c, .int .i64 age] 88)).cell? ⟨wr.heap.size, 0, none⟩ = some (.slice A bs.length c) := by simp
          have hb1 : (wr.alloc (.cells #[.slice A bs.length c, .int .i64 age] 88)).cell? ⟨wr.heap.size, 1, none⟩ = some (.int .i64 age) := by simp
          have hl1 := pw_cell_below hbel hl0
          have hBL0 := Kd.C_below HBL.out hbel
          have hBO0 := Kd.C_below HBO.out hbel
          clear hs0 hs1 hl0 hi0 hi1 hbel
          generalize wr.alloc (.cells #[.slice A bs.length c, .int .i64 age] 88) = W0 at *
          generalize wr.heap.size = bq at *
          have hi1 := hI0.2.1
          have HI0 := Aside0.mk hI0
          have HBL0 := Aside0.mk hBL0
          have HBO0 := Aside0.mk hBO0
          clear hI0 hBL0 hBO0 HI HBL HBO
          go_cut [61] from 34 to 61 (fun v61 wx => v61 = .bool (!fine (bs, age) vs) ∧ Below W0.heap.size W0 wx)
          case first =>
            by_cases q1 : bs.length ≤ 6
            · have d1 : decide ((6 : Int) < (bs.length : Int)) = false := decide_eq_false (by omega)
              cases q2 : bs.all isB with
              | false =>
                have ca : ∀ W, Below W0.heap.size W0 W → Calls Try.prog 71 #[.slice A bs.length c, .func (.func 72) #[] #[]] W fun e w' => e = .returned (.bool false) ∧ Below W.heap.size W w' := fun W hW => by
                  have := HA.out W A bs c (Kd.C_below HBL0.out hW)
                  rw [q2] at this
                  exact this
                have CA := Aside0.mk ca
                clear ca
                have hf : fine (bs, age) vs = false := by simp [fine, q1, q2]
                have HF7 := Aside0.mk hf
                clear q1 q2 hf
                refine wp_region_held_drew (S := (fun w' => w'.cell? ⟨bq, 0, none⟩ = some (.slice A bs.length c) ∧ w'.cell? ⟨bq, 1, none⟩ = some (.int .i64 age) ∧ w'.cell? ⟨w.heap.size, 1, none⟩ = some (.slice (some ad1) n1 c1) ∧ w'.cell? (ad1.add k) = some (.slice A2 vs.length c2) ∧ Below W0.heap.size W0 w')) (by kernel_rfl) ?_ (fun hHeld => ?_)
                · (try dsimp only); (exact ⟨hb0, hb1, hi1, hl1, below_drew (Below.refl _ _)⟩)
                refine' wpAnyH_take (i := 0) (v := _) ?hi1 (by kernel_rfl) (by kernel_rfl) (by kernel_rfl) ?hQ1 ?hy1 (by assumption) ?rest1
                case hi1 => simp only [List.getElem?_toArray, List.getElem?_cons_succ, List.getElem?_cons_zero]; rfl
                case hQ1 => exact fun _ _ _ h => h
                case' hy1 => refine Or.inl ⟨by rfl, ?_⟩
                case hy1 => (intro w hSw; (try dsimp only at hSw); go_simp; try with_reducible rfl)
                try simp only [Act.put, List.setIfInBounds_toArray, List.set_cons_zero, List.set_cons_succ]
                refine' wpAnyH_take (i := 1) (v := _) ?hi2 (by kernel_rfl) (by kernel_rfl) (by kernel_rfl) ?hQ2 ?hy2 (by assumption) ?rest2
                case hi2 => simp only [List.getElem?_toArray, List.getElem?_cons_succ, List.getElem?_cons_zero]; rfl
                case hQ2 => exact fun _ _ _ h => h
                case' hy2 => refine Or.inl ⟨by rfl, ?_⟩
                case hy2 => (intro w hSw; (try dsimp only at hSw); go_simp; try with_reducible rfl)
                try simp only [Act.put, List.setIfInBounds_toArray, List.set_cons_zero, List.set_cons_succ]
                refine' wpAnyH_take (i := 2) (v := _) ?hi3 (by kernel_rfl) (by kernel_rfl) (by kernel_rfl) ?hQ3 ?hy3 (by assumption) ?rest3
                case hi3 => simp only [List.getElem?_toArray, List.getElem?_cons_succ, List.getElem?_cons_zero]; rfl
                case hQ3 => exact fun _ _ _ h => h
                case' hy3 => refine Or.inl ⟨by rfl, ?_⟩
                case hy3 => (intro w hSw; (try dsimp only at hSw); go_simp; try with_reducible rfl)
                try simp only [Act.put, List.setIfInBounds_toArray, List.set_cons_zero, List.set_cons_succ]
                refine' wpAnyH_take (i := 3) (v := _) ?hi4 (by kernel_rfl) (by kernel_rfl) (by kernel_rfl) ?hQ4 ?hy4 (by assumption) ?rest4
                case hi4 => simp only [List.getElem?_toArray, List.getElem?_cons_succ, List.getElem?_cons_zero]; rfl
                case hQ4 => exact fun _ _ _ h => h
                case' hy4 => refine Or.inl ⟨by rfl, ?_⟩
                case hy4 => (intro w hSw; (try dsimp only at hSw); go_simp; try with_reducible rfl)
                try simp only [Act.put, List.setIfInBounds_toArray, List.set_cons_zero, List.set_cons_succ]
                refine' wpAnyH_take (i := 4) (v := _) ?hi5 (by kernel_rfl) (by kernel_rfl) (by kernel_rfl) ?hQ5 ?hy5 (by assumption) ?rest5
                case hi5 => simp only [List.getElem?_toArray, List.getElem?_cons_succ, List.getElem?_cons_zero]; rfl
                case hQ5 => exact fun _ _ _ h => h
                case' hy5 => refine Or.inl ⟨by rfl, ?_⟩
                case hy5 => (intro w hSw; (try dsimp only at hSw); go_simp; try with_reducible rfl)
                try simp only [Act.put, List.setIfInBounds_toArray, List.set_cons_zero, List.set_cons_succ]
                refine' wpAnyH_take (i := 5) (v := _) ?hi6 (by kernel_rfl) (by kernel_rfl) (by kernel_rfl) ?hQ6 ?hy6 (by assumption) ?rest6
                case hi6 => simp only [List.getElem?_toArray, List.getElem?_cons_succ, List.getElem?_cons_zero]; rfl
                case hQ6 => exact fun _ _ _ h => h
                case' hy6 => refine Or.inl ⟨by rfl, ?_⟩
                case hy6 => (intro w hSw; (try dsimp only at hSw); go_simp; try with_reducible rfl)
                try simp only [Act.put, List.setIfInBounds_toArray, List.set_cons_zero, List.set_cons_succ]
                refine' wpAnyH_take (i := 6) (v := _) ?hi7 (by kernel_rfl) (by kernel_rfl) (by kernel_rfl) ?hQ7 ?hy7 (by assumption) ?rest7
                case hi7 => simp only [List.getElem?_toArray, List.getElem?_cons_succ, List.getElem?_cons_zero]; rfl
                case hQ7 => exact fun _ _ _ h => h
                case' hy7 => refine Or.inl ⟨by rfl, ?_⟩
                case hy7 => (intro w hSw; (try dsimp only at hSw); go_simp; try with_reducible rfl)
                try simp only [Act.put, List.setIfInBounds_toArray, List.set_cons_zero, List.set_cons_succ]
                refine wpAnyH_ready (rs := [7]) (by kernel_rfl) (by simp) ?_
                refine' AllReadyH.cons ?hi8 (fun K hK => ?rest8) AllReadyH.nil
                case hi8 => simp only [List.getElem?_toArray, List.getElem?_cons_succ, List.getElem?_cons_zero]; rfl
                go_simp
                (go_at_call 71; refine (CA.out _ (by go_split_ands; assumption)).mono ?_; rintro e w' ⟨rfl, hb⟩)
                refine hK.out _ _ ?_ (fun hHeld => ?_)
                · (try dsimp only); ((go_split_ands; refine ⟨?_, ?_, ?_, ?_, ?_⟩ <;> first | assumption | exact pw_cell_below hb (by assumption) | exact below_then (by assumption) (below_size (by assumption)) hb))
                clear hK K
                try simp only [Act.put, List.setIfInBounds_toArray, List.set_cons_zero, List.set_cons_succ]
                refine' wpAnyH_take (i := 8) (v := _) ?hi9 (by kernel_rfl) (by kernel_rfl) (by kernel_rfl) ?hQ9 ?hy9 (by assumption) ?rest9
                case hi9 => simp only [List.getElem?_toArray, List.getElem?_cons_succ, List.getElem?_cons_zero]; rfl
                case hQ9 => exact fun _ _ _ h => h
                case' hy9 => refine Or.inl ⟨by rfl, ?_⟩
                case hy9 => (intro w hSw; (try dsimp only at hSw); go_simp; try with_reducible rfl)
                try simp only [Act.put, List.setIfInBounds_toArray, List.set_cons_zero, List.set_cons_succ]
                refine' wpAnyH_take (i := 9) (v := _) ?hi10 (by kernel_rfl) (by kernel_rfl) (by kernel_rfl) ?hQ10 ?hy10 (by assumption) ?rest10
                case hi10 => simp only [List.getElem?_toArray, List.getElem?_cons_succ, List.getElem?_cons_zero]; rfl
                case hQ10 => exact fun _ _ _ h => h
                case' hy10 => refine Or.inl ⟨by rfl, ?_⟩
                case hy10 => (intro w hSw; (try dsimp only at hSw); go_simp; try with_reducible rfl)
                try simp only [Act.put, List.setIfInBounds_toArray, List.set_cons_zero, List.set_cons_succ]
                refine' wpAnyH_take (i := 10) (v := _) ?hi11 (by kernel_rfl) (by kernel_rfl) (by kernel_rfl) ?hQ11 ?hy11 (by assumption) ?rest11
                case hi11 => simp only [List.getElem?_toArray, List.getElem?_cons_succ, List.getElem?_cons_zero]; rfl
                case hQ11 => exact fun _ _ _ h => h
                case' hy11 => refine Or.inl ⟨by rfl, ?_⟩
                case hy11 => (intro w hSw; (try dsimp only at hSw); go_simp; try with_reducible rfl)
                try simp only [Act.put, List.setIfInBounds_toArray, List.set_cons_zero, List.set_cons_succ]
                refine' wpAnyH_take (i := 11) (v := undef) ?hi12 (by kernel_rfl) (by kernel_rfl) (by kernel_rfl) ?hQ12 ?hy12 (by assumption) ?rest12
                case hi12 => simp only [List.getElem?_toArray, List.getElem?_cons_succ, List.getElem?_cons_zero]; rfl
                case hQ12 => exact fun _ _ _ h => h
                case hy12 => exact Or.inr ⟨by rfl, rfl⟩
                try simp only [Act.put, List.setIfInBounds_toArray, List.set_cons_zero, List.set_cons_succ]
                refine' wpAnyH_take (i := 12) (v := undef) ?hi13 (by kernel_rfl) (by kernel_rfl) (by kernel_rfl) ?hQ13 ?hy13 (by assumption) ?rest13
                case hi13 => simp only [List.getElem?_toArray, List.getElem?_cons_succ, List.getElem?_cons_zero]; rfl
                case hQ13 => exact fun _ _ _ h => h
                case hy13 => exact Or.inr ⟨by rfl, rfl⟩
                try simp only [Act.put, List.setIfInBounds_toArray, List.set_cons_zero, List.set_cons_succ]
                refine' wpAnyH_take (i := 13) (v := undef) ?hi14 (by kernel_rfl) (by kernel_rfl) (by kernel_rfl) ?hQ14 ?hy14 (by assumption) ?rest14
                case hi14 => simp only [List.getElem?_toArray, List.getElem?_cons_succ, List.getElem?_cons_zero]; rfl
                case hQ14 => exact fun _ _ _ h => h
                case hy14 => exact Or.inr ⟨by rfl, rfl⟩
                try simp only [Act.put, List.setIfInBounds_toArray, List.set_cons_zero, List.set_cons_succ]
                refine' wpAnyH_take (i := 14) (v := undef) ?hi15 (by kernel_rfl) (by kernel_rfl) (by kernel_rfl) ?hQ15 ?hy15 (by assumption) ?rest15
                case hi15 => simp only [List.getElem?_toArray, List.getElem?_cons_succ, List.getElem?_cons_zero]; rfl
                case hQ15 => exact fun _ _ _ h => h
                case hy15 => exact Or.inr ⟨by rfl, rfl⟩
                try simp only [Act.put, List.setIfInBounds_toArray, List.set_cons_zero, List.set_cons_succ]
                refine' wpAnyH_take (i := 15) (v := _) ?hi16 (by kernel_rfl) (by kernel_rfl) (by kernel_rfl) ?hQ16 ?hy16 (by assumption) ?rest16
                case hi16 => simp only [List.getElem?_toArray, List.getElem?_cons_succ, List.getElem?_cons_zero]; rfl
                case hQ16 => exact fun _ _ _ h => h
                case' hy16 => refine Or.inl ⟨by rfl, ?_⟩
                case hy16 => (intro w hSw; (try dsimp only at hSw); go_simp; try with_reducible rfl)
                try simp only [Act.put, List.setIfInBounds_toArray, List.set_cons_zero, List.set_cons_succ]
                refine' wpAnyH_take (i := 16) (v := _) ?hi17 (by kernel_rfl) (by kernel_rfl) (by kernel_rfl) ?hQ17 ?hy17 (by assumption) ?rest17
                case hi17 => simp only [List.getElem?_toArray, List.getElem?_cons_succ, List.getElem?_cons_zero]; rfl
                case hQ17 => exact fun _ _ _ h => h
                case' hy17 => refine Or.inl ⟨by rfl, ?_⟩
                case hy17 => (intro w hSw; (try dsimp only at hSw); go_simp; try with_reducible rfl)
                try simp only [Act.put, List.setIfInBounds_toArray, List.set_cons_zero, List.set_cons_succ]
                refine' wpAnyH_take (i := 17) (v := undef) ?hi18 (by kernel_rfl) (by kernel_rfl) (by kernel_rfl) ?hQ18 ?hy18 (by assumption) ?rest18
                case hi18 => simp only [List.getElem?_toArray, List.getElem?_cons_succ, List.getElem?_cons_zero]; rfl
                case hQ18 => exact fun _ _ _ h => h
                case hy18 => exact Or.inr ⟨by rfl, rfl⟩
                try simp only [Act.put, List.setIfInBounds_toArray, List.set_cons_zero, List.set_cons_succ]
                refine' wpAnyH_take (i := 18) (v := undef) ?hi19 (by kernel_rfl) (by kernel_rfl) (by kernel_rfl) ?hQ19 ?hy19 (by assumption) ?rest19
                case hi19 => simp only [List.getElem?_toArray, List.getElem?_cons_succ, List.getElem?_cons_zero]; rfl
                case hQ19 => exact fun _ _ _ h => h
                case hy19 => exact Or.inr ⟨by rfl, rfl⟩
                try simp only [Act.put, List.setIfInBounds_toArray, List.set_cons_zero, List.set_cons_succ]
                refine' wpAnyH_take (i := 19) (v := undef) ?hi20 (by kernel_rfl) (by kernel_rfl) (by kernel_rfl) ?hQ20 ?hy20 (by assumption) ?rest20
                case hi20 => simp only [List.getElem?_toArray, List.getElem?_cons_succ, List.getElem?_cons_zero]; rfl
                case hQ20 => exact fun _ _ _ h => h
                case hy20 => exact Or.inr ⟨by rfl, rfl⟩
                try simp only [Act.put, List.setIfInBounds_toArray, List.set_cons_zero, List.set_cons_succ]
                refine' wpAnyH_take (i := 20) (v := undef) ?hi21 (by kernel_rfl) (by kernel_rfl) (by kernel_rfl) ?hQ21 ?hy21 (by assumption) ?rest21
                case hi21 => simp only [List.getElem?_toArray, List.getElem?_cons_succ, List.getElem?_cons_zero]; rfl
                case hQ21 => exact fun _ _ _ h => h
                case hy21 => exact Or.inr ⟨by rfl, rfl⟩
                try simp only [Act.put, List.setIfInBounds_toArray, List.set_cons_zero, List.set_cons_succ]
                refine' wpAnyH_take (i := 21) (v := undef) ?hi22 (by kernel_rfl) (by kernel_rfl) (by kernel_rfl) ?hQ22 ?hy22 (by assumption) ?rest22
                case hi22 => simp only [List.getElem?_toArray, List.getElem?_cons_succ, List.getElem?_cons_zero]; rfl
                case hQ22 => exact fun _ _ _ h => h
                case hy22 => exact Or.inr ⟨by rfl, rfl⟩
                try simp only [Act.put, List.setIfInBounds_toArray, List.set_cons_zero, List.set_cons_succ]
                refine' wpAnyH_take (i := 22) (v := undef) ?hi23 (by kernel_rfl) (by kernel_rfl) (by kernel_rfl) ?hQ23 ?hy23 (by assumption) ?rest23
                case hi23 => simp only [List.getElem?_toArray, List.getElem?_cons_succ, List.getElem?_cons_zero]; rfl
                case hQ23 => exact fun _ _ _ h => h
                case hy23 => exact Or.inr ⟨by rfl, rfl⟩
                try simp only [Act.put, List.setIfInBounds_toArray, List.set_cons_zero, List.set_cons_succ]
                refine' wpAnyH_take (i := 23) (v := undef) ?hi24 (by kernel_rfl) (by kernel_rfl) (by kernel_rfl) ?hQ24 ?hy24 (by assumption) ?rest24
                case hi24 => simp only [List.getElem?_toArray, List.getElem?_cons_succ, List.getElem?_cons_zero]; rfl
                case hQ24 => exact fun _ _ _ h => h
                case hy24 => exact Or.inr ⟨by rfl, rfl⟩
                try simp only [Act.put, List.setIfInBounds_toArray, List.set_cons_zero, List.set_cons_succ]
                refine' wpAnyH_take (i := 24) (v := undef) ?hi25 (by kernel_rfl) (by kernel_rfl) (by kernel_rfl) ?hQ25 ?hy25 (by assumption) ?rest25
                case hi25 => simp only [List.getElem?_toArray, List.getElem?_cons_succ, List.getElem?_cons_zero]; rfl
                case hQ25 => exact fun _ _ _ h => h
                case hy25 => exact Or.inr ⟨by rfl, rfl⟩
                try simp only [Act.put, List.setIfInBounds_toArray, List.set_cons_zero, List.set_cons_succ]
                refine' wpAnyH_take (i := 25) (v := undef) ?hi26 (by kernel_rfl) (by kernel_rfl) (by kernel_rfl) ?hQ26 ?hy26 (by assumption) ?rest26
                case hi26 => simp only [List.getElem?_toArray, List.getElem?_cons_succ, List.getElem?_cons_zero]; rfl
                case hQ26 => exact fun _ _ _ h => h
                case hy26 => exact Or.inr ⟨by rfl, rfl⟩
                try simp only [Act.put, List.setIfInBounds_toArray, List.set_cons_zero, List.set_cons_succ]
                refine' wpAnyH_take (i := 26) (v := undef) ?hi27 (by kernel_rfl) (by kernel_rfl) (by kernel_rfl) ?hQ27 ?hy27 (by assumption) ?rest27
                case hi27 => simp only [List.getElem?_toArray, List.getElem?_cons_succ, List.getElem?_cons_zero]; rfl
                case hQ27 => exact fun _ _ _ h => h
                case hy27 => exact Or.inr ⟨by rfl, rfl⟩
                try simp only [Act.put, List.setIfInBounds_toArray, List.set_cons_zero, List.set_cons_succ]
                refine' wpAnyH_take (i := 27) (v := _) ?hi28 (by kernel_rfl) (by kernel_rfl) (by kernel_rfl) ?hQ28 ?hy28 (by assumption) ?rest28
                case hi28 => simp only [List.getElem?_toArray, List.getElem?_cons_succ, List.getElem?_cons_zero]; rfl
                case hQ28 => exact fun _ _ _ h => h
                case' hy28 => refine Or.inl ⟨by rfl, ?_⟩
                case hy28 => (intro w hSw; (try dsimp only at hSw); go_simp; try with_reducible rfl)
                try simp only [Act.put, List.setIfInBounds_toArray, List.set_cons_zero, List.set_cons_succ]
                refine wpAnyH_done (by kernel_rfl) ?_ _
                all_goals
                  go_wp2_with fail
                  go_meet
                  go_split_ands
                  exact ⟨by rw [HF7.out]; rfl, by assumption⟩
              | true =>
                have ca : ∀ W, Below W0.heap.size W0 W → Calls Try.prog 71 #[.slice A bs.length c, .func (.func 72) #[] #[]] W fun e w' => e = .returned (.bool true) ∧ Below W.heap.size W w' := fun W hW => by
                  have := HA.out W A bs c (Kd.C_below HBL0.out hW)
                  rw [q2] at this
                  exact this
                have CA := Aside0.mk ca
                clear ca
                by_cases q3 : 0 ≤ age ∧ age ≤ 1000
                · have cw : ∀ W, Calls Try.prog 70 #[.int .i64 age, .int .i64 0, .int .i64 1000] W fun e w' => e = .returned (.bool true) ∧ w' = W := fun W => by
                    have := within_calls age 0 1000 W
                    rw [decide_eq_true q3] at this
                    exact this
                  have CW := Aside0.mk cw
                  clear cw
                  by_cases q4 : vs.length = bs.length
                  · have d4 : ((vs.length : Int) == (bs.length : Int)) = true := by simp [q4]
                    have d4' : ((vs.length : Int) != (bs.length : Int)) = false := by simp [q4]
                    have hf : fine (bs, age) vs = true := by simp [fine, q1, q2, q3, q4]
                    have HF7 := Aside0.mk hf
                    clear q1 q2 q3 q4 hf
                    first | (go_region_held3 (fun w' => w'.cell? ⟨bq, 0, none⟩ = some (.slice A bs.length c) ∧ w'.cell? ⟨bq, 1, none⟩ = some (.int .i64 age) ∧ w'.cell? ⟨w.heap.size, 1, none⟩ = some (.slice (some ad1) n1 c1) ∧ w'.cell? (ad1.add k) = some (.slice A2 vs.length c2) ∧ Below W0.heap.size W0 w') (first | exact ⟨hb0, hb1, hi1, hl1, below_drew (Below.refl _ _)⟩ | (go_split_ands; refine ⟨?_, ?_, ?_, ?_, ?_⟩ <;> first | assumption | exact pw_cell_below hb (by assumption) | exact below_then (by assumption) (below_size (by assumption)) hb) | go_keep) (first | (go_at_call 71; refine (CA.out _ (by go_split_ands; assumption)).mono ?_; rintro e w' ⟨rfl, hb⟩) | (go_at_call 70; refine (CW.out _).mono ?_; rintro e w' ⟨rfl, rfl⟩))) | fail
                    all_goals
                      go_wp2_with fail
                      go_meet
                      go_split_ands
                      exact ⟨by rw [HF7.out]; rfl, by assumption⟩
                  · have d4 : ((vs.length : Int) == (bs.length : Int)) = false := by simp; omega
                    have d4' : ((vs.length : Int) != (bs.length : Int)) = true := by simp; omega
                    have hf : fine (bs, age) vs = false := by simp [fine, q4]
                    have HF7 := Aside0.mk hf
                    clear q1 q2 q3 q4 hf
                    first | (go_region_held3 (fun w' => w'.cell? ⟨bq, 0, none⟩ = some (.slice A bs.length c) ∧ w'.cell? ⟨bq, 1, none⟩ = some (.int .i64 age) ∧ w'.cell? ⟨w.heap.size, 1, none⟩ = some (.slice (some ad1) n1 c1) ∧ w'.cell? (ad1.add k) = some (.slice A2 vs.length c2) ∧ Below W0.heap.size W0 w') (first | exact ⟨hb0, hb1, hi1, hl1, below_drew (Below.refl _ _)⟩ | (go_split_ands; refine ⟨?_, ?_, ?_, ?_, ?_⟩ <;> first | assumption | exact pw_cell_below hb (by assumption) | exact below_then (by assumption) (below_size (by assumption)) hb) | go_keep) (first | (go_at_call 71; refine (CA.out _ (by go_split_ands; assumption)).mono ?_; rintro e w' ⟨rfl, hb⟩) | (go_at_call 70; refine (CW.out _).mono ?_; rintro e w' ⟨rfl, rfl⟩))) | fail
                    all_goals
                      go_wp2_with fail
                      go_meet
                      go_split_ands
                      exact ⟨by rw [HF7.out]; rfl, by assumption⟩
                · have cw : ∀ W, Calls Try.prog 70 #[.int .i64 age, .int .i64 0, .int .i64 1000] W fun e w' => e = .returned (.bool false) ∧ w' = W := fun W => by
                    have := within_calls age 0 1000 W
                    rw [decide_eq_false q3] at this
                    exact this
                  have CW := Aside0.mk cw
                  clear cw
                  have hf : fine (bs, age) vs = false := by simp [fine, q3]
                  have HF7 := Aside0.mk hf
                  clear q1 q2 q3 hf
                  refine wp_region_held_drew (S := (fun w' => w'.cell? ⟨bq, 0, none⟩ = some (.slice A bs.length c) ∧ w'.cell? ⟨bq, 1, none⟩ = some (.int .i64 age) ∧ w'.cell? ⟨w.heap.size, 1, none⟩ = some (.slice (some ad1) n1 c1) ∧ w'.cell? (ad1.add k) = some (.slice A2 vs.length c2) ∧ Below W0.heap.size W0 w')) (by kernel_rfl) ?_ (fun hHeld => ?_)
                  · (try dsimp only); (exact ⟨hb0, hb1, hi1, hl1, below_drew (Below.refl _ _)⟩)
                  refine' wpAnyH_take (i := 0) (v := _) ?hi29 (by kernel_rfl) (by kernel_rfl) (by kernel_rfl) ?hQ29 ?hy29 (by assumption) ?rest29
                  case hi29 => simp only [List.getElem?_toArray, List.getElem?_cons_succ, List.getElem?_cons_zero]; rfl
                  case hQ29 => exact fun _ _ _ h => h
                  case' hy29 => refine Or.inl ⟨by rfl, ?_⟩
                  case hy29 => (intro w hSw; (try dsimp only at hSw); go_simp; try with_reducible rfl)
                  try simp only [Act.put, List.setIfInBounds_toArray, List.set_cons_zero, List.set_cons_succ]
                  refine' wpAnyH_take (i := 1) (v := _) ?hi30 (by kernel_rfl) (by kernel_rfl) (by kernel_rfl) ?hQ30 ?hy30 (by assumption) ?rest30
                  case hi30 => simp only [List.getElem?_toArray, List.getElem?_cons_succ, List.getElem?_cons_zero]; rfl
                  case hQ30 => exact fun _ _ _ h => h
                  case' hy30 => refine Or.inl ⟨by rfl, ?_⟩
                  case hy30 => (intro w hSw; (try dsimp only at hSw); go_simp; try with_reducible rfl)
                  try simp only [Act.put, List.setIfInBounds_toArray, List.set_cons_zero, List.set_cons_succ]
                  refine' wpAnyH_take (i := 2) (v := _) ?hi31 (by kernel_rfl) (by kernel_rfl) (by kernel_rfl) ?hQ31 ?hy31 (by assumption) ?rest31
                  case hi31 => simp only [List.getElem?_toArray, List.getElem?_cons_succ, List.getElem?_cons_zero]; rfl
                  case hQ31 => exact fun _ _ _ h => h
                  case' hy31 => refine Or.inl ⟨by rfl, ?_⟩
                  case hy31 => (intro w hSw; (try dsimp only at hSw); go_simp; try with_reducible rfl)
                  try simp only [Act.put, List.setIfInBounds_toArray, List.set_cons_zero, List.set_cons_succ]
                  refine' wpAnyH_take (i := 3) (v := _) ?hi32 (by kernel_rfl) (by kernel_rfl) (by kernel_rfl) ?hQ32 ?hy32 (by assumption) ?rest32
                  case hi32 => simp only [List.getElem?_toArray, List.getElem?_cons_succ, List.getElem?_cons_zero]; rfl
                  case hQ32 => exact fun _ _ _ h => h
                  case' hy32 => refine Or.inl ⟨by rfl, ?_⟩
                  case hy32 => (intro w hSw; (try dsimp only at hSw); go_simp; try with_reducible rfl)
                  try simp only [Act.put, List.setIfInBounds_toArray, List.set_cons_zero, List.set_cons_succ]
                  refine' wpAnyH_take (i := 4) (v := _) ?hi33 (by kernel_rfl) (by kernel_rfl) (by kernel_rfl) ?hQ33 ?hy33 (by assumption) ?rest33
                  case hi33 => simp only [List.getElem?_toArray, List.getElem?_cons_succ, List.getElem?_cons_zero]; rfl
                  case hQ33 => exact fun _ _ _ h => h
                  case' hy33 => refine Or.inl ⟨by rfl, ?_⟩
                  case hy33 => (intro w hSw; (try dsimp only at hSw); go_simp; try with_reducible rfl)
                  try simp only [Act.put, List.setIfInBounds_toArray, List.set_cons_zero, List.set_cons_succ]
                  refine' wpAnyH_take (i := 5) (v := _) ?hi34 (by kernel_rfl) (by kernel_rfl) (by kernel_rfl) ?hQ34 ?hy34 (by assumption) ?rest34
                  case hi34 => simp only [List.getElem?_toArray, List.getElem?_cons_succ, List.getElem?_cons_zero]; rfl
                  case hQ34 => exact fun _ _ _ h => h
                  case' hy34 => refine Or.inl ⟨by rfl, ?_⟩
                  case hy34 => (intro w hSw; (try dsimp only at hSw); go_simp; try with_reducible rfl)
                  try simp only [Act.put, List.setIfInBounds_toArray, List.set_cons_zero, List.set_cons_succ]
                  refine' wpAnyH_take (i := 6) (v := _) ?hi35 (by kernel_rfl) (by kernel_rfl) (by kernel_rfl) ?hQ35 ?hy35 (by assumption) ?rest35
                  case hi35 => simp only [List.getElem?_toArray, List.getElem?_cons_succ, List.getElem?_cons_zero]; rfl
                  case hQ35 => exact fun _ _ _ h => h
                  case' hy35 => refine Or.inl ⟨by rfl, ?_⟩
                  case hy35 => (intro w hSw; (try dsimp only at hSw); go_simp; try with_reducible rfl)
                  try simp only [Act.put, List.setIfInBounds_toArray, List.set_cons_zero, List.set_cons_succ]
                  refine wpAnyH_ready (rs := [7]) (by kernel_rfl) (by simp) ?_
                  refine' AllReadyH.cons ?hi36 (fun K hK => ?rest36) AllReadyH.nil
                  case hi36 => simp only [List.getElem?_toArray, List.getElem?_cons_succ, List.getElem?_cons_zero]; rfl
                  go_simp
                  (go_at_call 71; refine (CA.out _ (by go_split_ands; assumption)).mono ?_; rintro e w' ⟨rfl, hb⟩)
                  refine hK.out _ _ ?_ (fun hHeld => ?_)
                  · (try dsimp only); ((go_split_ands; refine ⟨?_, ?_, ?_, ?_, ?_⟩ <;> first | assumption | exact pw_cell_below hb (by assumption) | exact below_then (by assumption) (below_size (by assumption)) hb))
                  clear hK K
                  try simp only [Act.put, List.setIfInBounds_toArray, List.set_cons_zero, List.set_cons_succ]
                  refine' wpAnyH_take (i := 8) (v := _) ?hi37 (by kernel_rfl) (by kernel_rfl) (by kernel_rfl) ?hQ37 ?hy37 (by assumption) ?rest37
                  case hi37 => simp only [List.getElem?_toArray, List.getElem?_cons_succ, List.getElem?_cons_zero]; rfl
                  case hQ37 => exact fun _ _ _ h => h
                  case' hy37 => refine Or.inl ⟨by rfl, ?_⟩
                  case hy37 => (intro w hSw; (try dsimp only at hSw); go_simp; try with_reducible rfl)
                  try simp only [Act.put, List.setIfInBounds_toArray, List.set_cons_zero, List.set_cons_succ]
                  refine' wpAnyH_take (i := 9) (v := _) ?hi38 (by kernel_rfl) (by kernel_rfl) (by kernel_rfl) ?hQ38 ?hy38 (by assumption) ?rest38
                  case hi38 => simp only [List.getElem?_toArray, List.getElem?_cons_succ, List.getElem?_cons_zero]; rfl
                  case hQ38 => exact fun _ _ _ h => h
                  case' hy38 => refine Or.inl ⟨by rfl, ?_⟩
                  case hy38 => (intro w hSw; (try dsimp only at hSw); go_simp; try with_reducible rfl)
                  try simp only [Act.put, List.setIfInBounds_toArray, List.set_cons_zero, List.set_cons_succ]
                  refine' wpAnyH_take (i := 10) (v := _) ?hi39 (by kernel_rfl) (by kernel_rfl) (by kernel_rfl) ?hQ39 ?hy39 (by assumption) ?rest39
                  case hi39 => simp only [List.getElem?_toArray, List.getElem?_cons_succ, List.getElem?_cons_zero]; rfl
                  case hQ39 => exact fun _ _ _ h => h
                  case' hy39 => refine Or.inl ⟨by rfl, ?_⟩
                  case hy39 => (intro w hSw; (try dsimp only at hSw); go_simp; try with_reducible rfl)
                  try simp only [Act.put, List.setIfInBounds_toArray, List.set_cons_zero, List.set_cons_succ]
                  refine' wpAnyH_take (i := 11) (v := _) ?hi40 (by kernel_rfl) (by kernel_rfl) (by kernel_rfl) ?hQ40 ?hy40 (by assumption) ?rest40
                  case hi40 => simp only [List.getElem?_toArray, List.getElem?_cons_succ, List.getElem?_cons_zero]; rfl
                  case hQ40 => exact fun _ _ _ h => h
                  case' hy40 => refine Or.inl ⟨by rfl, ?_⟩
                  case hy40 => (intro w hSw; (try dsimp only at hSw); go_simp; try with_reducible rfl)
                  try simp only [Act.put, List.setIfInBounds_toArray, List.set_cons_zero, List.set_cons_succ]
                  refine' wpAnyH_take (i := 12) (v := _) ?hi41 (by kernel_rfl) (by kernel_rfl) (by kernel_rfl) ?hQ41 ?hy41 (by assumption) ?rest41
                  case hi41 => simp only [List.getElem?_toArray, List.getElem?_cons_succ, List.getElem?_cons_zero]; rfl
                  case hQ41 => exact fun _ _ _ h => h
                  case' hy41 => refine Or.inl ⟨by rfl, ?_⟩
                  case hy41 => (intro w hSw; (try dsimp only at hSw); go_simp; try with_reducible rfl)
                  try simp only [Act.put, List.setIfInBounds_toArray, List.set_cons_zero, List.set_cons_succ]
                  refine wpAnyH_ready (rs := [13]) (by kernel_rfl) (by simp) ?_
                  refine' AllReadyH.cons ?hi42 (fun K hK => ?rest42) AllReadyH.nil
                  case hi42 => simp only [List.getElem?_toArray, List.getElem?_cons_succ, List.getElem?_cons_zero]; rfl
                  go_simp
                  (go_at_call 70; refine (CW.out _).mono ?_; rintro e w' ⟨rfl, rfl⟩)
                  refine hK.out _ _ ?_ (fun hHeld => ?_)
                  · (try dsimp only); ((go_split_ands; refine ⟨?_, ?_, ?_, ?_, ?_⟩ <;> first | assumption | exact pw_cell_below hb (by assumption) | exact below_then (by assumption) (below_size (by assumption)) hb))
                  clear hK K
                  try simp only [Act.put, List.setIfInBounds_toArray, List.set_cons_zero, List.set_cons_succ]
                  refine' wpAnyH_take (i := 14) (v := _) ?hi43 (by kernel_rfl) (by kernel_rfl) (by kernel_rfl) ?hQ43 ?hy43 (by assumption) ?rest43
                  case hi43 => simp only [List.getElem?_toArray, List.getElem?_cons_succ, List.getElem?_cons_zero]; rfl
                  case hQ43 => exact fun _ _ _ h => h
                  case' hy43 => refine Or.inl ⟨by rfl, ?_⟩
                  case hy43 => (intro w hSw; (try dsimp only at hSw); go_simp; try with_reducible rfl)
                  try simp only [Act.put, List.setIfInBounds_toArray, List.set_cons_zero, List.set_cons_succ]
                  refine' wpAnyH_take (i := 15) (v := _) ?hi44 (by kernel_rfl) (by kernel_rfl) (by kernel_rfl) ?hQ44 ?hy44 (by assumption) ?rest44
                  case hi44 => simp only [List.getElem?_toArray, List.getElem?_cons_succ, List.getElem?_cons_zero]; rfl
                  case hQ44 => exact fun _ _ _ h => h
                  case' hy44 => refine Or.inl ⟨by rfl, ?_⟩
                  case hy44 => (intro w hSw; (try dsimp only at hSw); go_simp; try with_reducible rfl)
                  try simp only [Act.put, List.setIfInBounds_toArray, List.set_cons_zero, List.set_cons_succ]
                  refine' wpAnyH_take (i := 16) (v := _) ?hi45 (by kernel_rfl) (by kernel_rfl) (by kernel_rfl) ?hQ45 ?hy45 (by assumption) ?rest45
                  case hi45 => simp only [List.getElem?_toArray, List.getElem?_cons_succ, List.getElem?_cons_zero]; rfl
                  case hQ45 => exact fun _ _ _ h => h
                  case' hy45 => refine Or.inl ⟨by rfl, ?_⟩
                  case hy45 => (intro w hSw; (try dsimp only at hSw); go_simp; try with_reducible rfl)
                  try simp only [Act.put, List.setIfInBounds_toArray, List.set_cons_zero, List.set_cons_succ]
                  refine' wpAnyH_take (i := 17) (v := undef) ?hi46 (by kernel_rfl) (by kernel_rfl) (by kernel_rfl) ?hQ46 ?hy46 (by assumption) ?rest46
                  case hi46 => simp only [List.getElem?_toArray, List.getElem?_cons_succ, List.getElem?_cons_zero]; rfl
                  case hQ46 => exact fun _ _ _ h => h
                  case hy46 => exact Or.inr ⟨by rfl, rfl⟩
                  try simp only [Act.put, List.setIfInBounds_toArray, List.set_cons_zero, List.set_cons_succ]
                  refine' wpAnyH_take (i := 18) (v := undef) ?hi47 (by kernel_rfl) (by kernel_rfl) (by kernel_rfl) ?hQ47 ?hy47 (by assumption) ?rest47
                  case hi47 => simp only [List.getElem?_toArray, List.getElem?_cons_succ, List.getElem?_cons_zero]; rfl
                  case hQ47 => exact fun _ _ _ h => h
                  case hy47 => exact Or.inr ⟨by rfl, rfl⟩
                  try simp only [Act.put, List.setIfInBounds_toArray, List.set_cons_zero, List.set_cons_succ]
                  refine' wpAnyH_take (i := 19) (v := undef) ?hi48 (by kernel_rfl) (by kernel_rfl) (by kernel_rfl) ?hQ48 ?hy48 (by assumption) ?rest48
                  case hi48 => simp only [List.getElem?_toArray, List.getElem?_cons_succ, List.getElem?_cons_zero]; rfl
                  case hQ48 => exact fun _ _ _ h => h
                  case hy48 => exact Or.inr ⟨by rfl, rfl⟩
                  try simp only [Act.put, List.setIfInBounds_toArray, List.set_cons_zero, List.set_cons_succ]
                  refine' wpAnyH_take (i := 20) (v := undef) ?hi49 (by kernel_rfl) (by kernel_rfl) (by kernel_rfl) ?hQ49 ?hy49 (by assumption) ?rest49
                  case hi49 => simp only [List.getElem?_toArray, List.getElem?_cons_succ, List.getElem?_cons_zero]; rfl
                  case hQ49 => exact fun _ _ _ h => h
                  case hy49 => exact Or.inr ⟨by rfl, rfl⟩
                  try simp only [Act.put, List.setIfInBounds_toArray, List.set_cons_zero, List.set_cons_succ]
                  refine' wpAnyH_take (i := 21) (v := undef) ?hi50 (by kernel_rfl) (by kernel_rfl) (by kernel_rfl) ?hQ50 ?hy50 (by assumption) ?rest50
                  case hi50 => simp only [List.getElem?_toArray, List.getElem?_cons_succ, List.getElem?_cons_zero]; rfl
                  case hQ50 => exact fun _ _ _ h => h
                  case hy50 => exact Or.inr ⟨by rfl, rfl⟩
                  try simp only [Act.put, List.setIfInBounds_toArray, List.set_cons_zero, List.set_cons_succ]
                  refine' wpAnyH_take (i := 22) (v := undef) ?hi51 (by kernel_rfl) (by kernel_rfl) (by kernel_rfl) ?hQ51 ?hy51 (by assumption) ?rest51
                  case hi51 => simp only [List.getElem?_toArray, List.getElem?_cons_succ, List.getElem?_cons_zero]; rfl
                  case hQ51 => exact fun _ _ _ h => h
                  case hy51 => exact Or.inr ⟨by rfl, rfl⟩
                  try simp only [Act.put, List.setIfInBounds_toArray, List.set_cons_zero, List.set_cons_succ]
                  refine' wpAnyH_take (i := 23) (v := undef) ?hi52 (by kernel_rfl) (by kernel_rfl) (by kernel_rfl) ?hQ52 ?hy52 (by assumption) ?rest52
                  case hi52 => simp only [List.getElem?_toArray, List.getElem?_cons_succ, List.getElem?_cons_zero]; rfl
                  case hQ52 => exact fun _ _ _ h => h
                  case hy52 => exact Or.inr ⟨by rfl, rfl⟩
                  try simp only [Act.put, List.setIfInBounds_toArray, List.set_cons_zero, List.set_cons_succ]
                  refine' wpAnyH_take (i := 24) (v := undef) ?hi53 (by kernel_rfl) (by kernel_rfl) (by kernel_rfl) ?hQ53 ?hy53 (by assumption) ?rest53
                  case hi53 => simp only [List.getElem?_toArray, List.getElem?_cons_succ, List.getElem?_cons_zero]; rfl
                  case hQ53 => exact fun _ _ _ h => h
                  case hy53 => exact Or.inr ⟨by rfl, rfl⟩
                  try simp only [Act.put, List.setIfInBounds_toArray, List.set_cons_zero, List.set_cons_succ]
                  refine' wpAnyH_take (i := 25) (v := undef) ?hi54 (by kernel_rfl) (by kernel_rfl) (by kernel_rfl) ?hQ54 ?hy54 (by assumption) ?rest54
                  case hi54 => simp only [List.getElem?_toArray, List.getElem?_cons_succ, List.getElem?_cons_zero]; rfl
                  case hQ54 => exact fun _ _ _ h => h
                  case hy54 => exact Or.inr ⟨by rfl, rfl⟩
                  try simp only [Act.put, List.setIfInBounds_toArray, List.set_cons_zero, List.set_cons_succ]
                  refine' wpAnyH_take (i := 26) (v := undef) ?hi55 (by kernel_rfl) (by kernel_rfl) (by kernel_rfl) ?hQ55 ?hy55 (by assumption) ?rest55
                  case hi55 => simp only [List.getElem?_toArray, List.getElem?_cons_succ, List.getElem?_cons_zero]; rfl
                  case hQ55 => exact fun _ _ _ h => h
                  case hy55 => exact Or.inr ⟨by rfl, rfl⟩
                  try simp only [Act.put, List.setIfInBounds_toArray, List.set_cons_zero, List.set_cons_succ]
                  refine' wpAnyH_take (i := 27) (v := _) ?hi56 (by kernel_rfl) (by kernel_rfl) (by kernel_rfl) ?hQ56 ?hy56 (by assumption) ?rest56
                  case hi56 => simp only [List.getElem?_toArray, List.getElem?_cons_succ, List.getElem?_cons_zero]; rfl
                  case hQ56 => exact fun _ _ _ h => h
                  case' hy56 => refine Or.inl ⟨by rfl, ?_⟩
                  case hy56 => (intro w hSw; (try dsimp only at hSw); go_simp; try with_reducible rfl)
                  try simp only [Act.put, List.setIfInBounds_toArray, List.set_cons_zero, List.set_cons_succ]
                  refine wpAnyH_done (by kernel_rfl) ?_ _
                  all_goals
                    go_wp2_with fail
                    go_meet
                    go_split_ands
                    exact ⟨by rw [HF7.out]; rfl, by assumption⟩
            · have d1 : decide ((6 : Int) < (bs.length : Int)) = true := decide_eq_true (by omega)
              have hf : fine (bs, age) vs = false := by simp [fine, q1]
              have HF7 := Aside0.mk hf
              clear q1 hf
              refine wp_region_held_drew (S := (fun w' => w'.cell? ⟨bq, 0, none⟩ = some (.slice A bs.length c) ∧ w'.cell? ⟨bq, 1, none⟩ = some (.int .i64 age) ∧ w'.cell? ⟨w.heap.size, 1, none⟩ = some (.slice (some ad1) n1 c1) ∧ w'.cell? (ad1.add k) = some (.slice A2 vs.length c2) ∧ Below W0.heap.size W0 w')) (by kernel_rfl) ?_ (fun hHeld => ?_)
              · (try dsimp only); (exact ⟨hb0, hb1, hi1, hl1, below_drew (Below.refl _ _)⟩)
              refine' wpAnyH_take (i := 0) (v := _) ?hi57 (by kernel_rfl) (by kernel_rfl) (by kernel_rfl) ?hQ57 ?hy57 (by assumption) ?rest57
              case hi57 => simp only [List.getElem?_toArray, List.getElem?_cons_succ, List.getElem?_cons_zero]; rfl
              case hQ57 => exact fun _ _ _ h => h
              case' hy57 => refine Or.inl ⟨by rfl, ?_⟩
              case hy57 => (intro w hSw; (try dsimp only at hSw); go_simp; try with_reducible rfl)
              try simp only [Act.put, List.setIfInBounds_toArray, List.set_cons_zero, List.set_cons_succ]
              refine' wpAnyH_take (i := 1) (v := _) ?hi58 (by kernel_rfl) (by kernel_rfl) (by kernel_rfl) ?hQ58 ?hy58 (by assumption) ?rest58
              case hi58 => simp only [List.getElem?_toArray, List.getElem?_cons_succ, List.getElem?_cons_zero]; rfl
              case hQ58 => exact fun _ _ _ h => h
              case' hy58 => refine Or.inl ⟨by rfl, ?_⟩
              case hy58 => (intro w hSw; (try dsimp only at hSw); go_simp; try with_reducible rfl)
              try simp only [Act.put, List.setIfInBounds_toArray, List.set_cons_zero, List.set_cons_succ]
              refine' wpAnyH_take (i := 2) (v := _) ?hi59 (by kernel_rfl) (by kernel_rfl) (by kernel_rfl) ?hQ59 ?hy59 (by assumption) ?rest59
              case hi59 => simp only [List.getElem?_toArray, List.getElem?_cons_succ, List.getElem?_cons_zero]; rfl
              case hQ59 => exact fun _ _ _ h => h
              case' hy59 => refine Or.inl ⟨by rfl, ?_⟩
              case hy59 => (intro w hSw; (try dsimp only at hSw); go_simp; try with_reducible rfl)
              try simp only [Act.put, List.setIfInBounds_toArray, List.set_cons_zero, List.set_cons_succ]
              refine' wpAnyH_take (i := 3) (v := _) ?hi60 (by kernel_rfl) (by kernel_rfl) (by kernel_rfl) ?hQ60 ?hy60 (by assumption) ?rest60
              case hi60 => simp only [List.getElem?_toArray, List.getElem?_cons_succ, List.getElem?_cons_zero]; rfl
              case hQ60 => exact fun _ _ _ h => h
              case' hy60 => refine Or.inl ⟨by rfl, ?_⟩
              case hy60 => (intro w hSw; (try dsimp only at hSw); go_simp; try with_reducible rfl)
              try simp only [Act.put, List.setIfInBounds_toArray, List.set_cons_zero, List.set_cons_succ]
              refine' wpAnyH_take (i := 4) (v := _) ?hi61 (by kernel_rfl) (by kernel_rfl) (by kernel_rfl) ?hQ61 ?hy61 (by assumption) ?rest61
              case hi61 => simp only [List.getElem?_toArray, List.getElem?_cons_succ, List.getElem?_cons_zero]; rfl
              case hQ61 => exact fun _ _ _ h => h
              case' hy61 => refine Or.inl ⟨by rfl, ?_⟩
              case hy61 => (intro w hSw; (try dsimp only at hSw); go_simp; try with_reducible rfl)
              try simp only [Act.put, List.setIfInBounds_toArray, List.set_cons_zero, List.set_cons_succ]
              refine' wpAnyH_take (i := 5) (v := undef) ?hi62 (by kernel_rfl) (by kernel_rfl) (by kernel_rfl) ?hQ62 ?hy62 (by assumption) ?rest62
              case hi62 => simp only [List.getElem?_toArray, List.getElem?_cons_succ, List.getElem?_cons_zero]; rfl
              case hQ62 => exact fun _ _ _ h => h
              case hy62 => exact Or.inr ⟨by rfl, rfl⟩
              try simp only [Act.put, List.setIfInBounds_toArray, List.set_cons_zero, List.set_cons_succ]
              refine' wpAnyH_take (i := 6) (v := undef) ?hi63 (by kernel_rfl) (by kernel_rfl) (by kernel_rfl) ?hQ63 ?hy63 (by assumption) ?rest63
              case hi63 => simp only [List.getElem?_toArray, List.getElem?_cons_succ, List.getElem?_cons_zero]; rfl
              case hQ63 => exact fun _ _ _ h => h
              case hy63 => exact Or.inr ⟨by rfl, rfl⟩
              try simp only [Act.put, List.setIfInBounds_toArray, List.set_cons_zero, List.set_cons_succ]
              refine' wpAnyH_take (i := 7) (v := undef) ?hi64 (by kernel_rfl) (by kernel_rfl) (by kernel_rfl) ?hQ64 ?hy64 (by assumption) ?rest64
              case hi64 => simp only [List.getElem?_toArray, List.getElem?_cons_succ, List.getElem?_cons_zero]; rfl
              case hQ64 => exact fun _ _ _ h => h
              case hy64 => exact Or.inr ⟨by rfl, rfl⟩
              try simp only [Act.put, List.setIfInBounds_toArray, List.set_cons_zero, List.set_cons_succ]
              refine' wpAnyH_take (i := 8) (v := undef) ?hi65 (by kernel_rfl) (by kernel_rfl) (by kernel_rfl) ?hQ65 ?hy65 (by assumption) ?rest65
              case hi65 => simp only [List.getElem?_toArray, List.getElem?_cons_succ, List.getElem?_cons_zero]; rfl
              case hQ65 => exact fun _ _ _ h => h
              case hy65 => exact Or.inr ⟨by rfl, rfl⟩
              try simp only [Act.put, List.setIfInBounds_toArray, List.set_cons_zero, List.set_cons_succ]
              refine' wpAnyH_take (i := 9) (v := _) ?hi66 (by kernel_rfl) (by kernel_rfl) (by kernel_rfl) ?hQ66 ?hy66 (by assumption) ?rest66
              case hi66 => simp only [List.getElem?_toArray, List.getElem?_cons_succ, List.getElem?_cons_zero]; rfl
              case hQ66 => exact fun _ _ _ h => h
              case' hy66 => refine Or.inl ⟨by rfl, ?_⟩
              case hy66 => (intro w hSw; (try dsimp only at hSw); go_simp; try with_reducible rfl)
              try simp only [Act.put, List.setIfInBounds_toArray, List.set_cons_zero, List.set_cons_succ]
              refine' wpAnyH_take (i := 10) (v := _) ?hi67 (by kernel_rfl) (by kernel_rfl) (by kernel_rfl) ?hQ67 ?hy67 (by assumption) ?rest67
              case hi67 => simp only [List.getElem?_toArray, List.getElem?_cons_succ, List.getElem?_cons_zero]; rfl
              case hQ67 => exact fun _ _ _ h => h
              case' hy67 => refine Or.inl ⟨by rfl, ?_⟩
              case hy67 => (intro w hSw; (try dsimp only at hSw); go_simp; try with_reducible rfl)
              try simp only [Act.put, List.setIfInBounds_toArray, List.set_cons_zero, List.set_cons_succ]
              refine' wpAnyH_take (i := 11) (v := undef) ?hi68 (by kernel_rfl) (by kernel_rfl) (by kernel_rfl) ?hQ68 ?hy68 (by assumption) ?rest68
              case hi68 => simp only [List.getElem?_toArray, List.getElem?_cons_succ, List.getElem?_cons_zero]; rfl
              case hQ68 => exact fun _ _ _ h => h
              case hy68 => exact Or.inr ⟨by rfl, rfl⟩
              try simp only [Act.put, List.setIfInBounds_toArray, List.set_cons_zero, List.set_cons_succ]
              refine' wpAnyH_take (i := 12) (v := undef) ?hi69 (by kernel_rfl) (by kernel_rfl) (by kernel_rfl) ?hQ69 ?hy69 (by assumption) ?rest69
              case hi69 => simp only [List.getElem?_toArray, List.getElem?_cons_succ, List.getElem?_cons_zero]; rfl
              case hQ69 => exact fun _ _ _ h => h
              case hy69 => exact Or.inr ⟨by rfl, rfl⟩
              try simp only [Act.put, List.setIfInBounds_toArray, List.set_cons_zero, List.set_cons_succ]
              refine' wpAnyH_take (i := 13) (v := undef) ?hi70 (by kernel_rfl) (by kernel_rfl) (by kernel_rfl) ?hQ70 ?hy70 (by assumption) ?rest70
              case hi70 => simp only [List.getElem?_toArray, List.getElem?_cons_succ, List.getElem?_cons_zero]; rfl
              case hQ70 => exact fun _ _ _ h => h
              case hy70 => exact Or.inr ⟨by rfl, rfl⟩
              try simp only [Act.put, List.setIfInBounds_toArray, List.set_cons_zero, List.set_cons_succ]
              refine' wpAnyH_take (i := 14) (v := undef) ?hi71 (by kernel_rfl) (by kernel_rfl) (by kernel_rfl) ?hQ71 ?hy71 (by assumption) ?rest71
              case hi71 => simp only [List.getElem?_toArray, List.getElem?_cons_succ, List.getElem?_cons_zero]; rfl
              case hQ71 => exact fun _ _ _ h => h
              case hy71 => exact Or.inr ⟨by rfl, rfl⟩
              try simp only [Act.put, List.setIfInBounds_toArray, List.set_cons_zero, List.set_cons_succ]
              refine' wpAnyH_take (i := 15) (v := _) ?hi72 (by kernel_rfl) (by kernel_rfl) (by kernel_rfl) ?hQ72 ?hy72 (by assumption) ?rest72
              case hi72 => simp only [List.getElem?_toArray, List.getElem?_cons_succ, List.getElem?_cons_zero]; rfl
              case hQ72 => exact fun _ _ _ h => h
              case' hy72 => refine Or.inl ⟨by rfl, ?_⟩
              case hy72 => (intro w hSw; (try dsimp only at hSw); go_simp; try with_reducible rfl)
              try simp only [Act.put, List.setIfInBounds_toArray, List.set_cons_zero, List.set_cons_succ]
              refine' wpAnyH_take (i := 16) (v := _) ?hi73 (by kernel_rfl) (by kernel_rfl) (by kernel_rfl) ?hQ73 ?hy73 (by assumption) ?rest73
              case hi73 => simp only [List.getElem?_toArray, List.getElem?_cons_succ, List.getElem?_cons_zero]; rfl
              case hQ73 => exact fun _ _ _ h => h
              case' hy73 => refine Or.inl ⟨by rfl, ?_⟩
              case hy73 => (intro w hSw; (try dsimp only at hSw); go_simp; try with_reducible rfl)
              try simp only [Act.put, List.setIfInBounds_toArray, List.set_cons_zero, List.set_cons_succ]
              refine' wpAnyH_take (i := 17) (v := undef) ?hi74 (by kernel_rfl) (by kernel_rfl) (by kernel_rfl) ?hQ74 ?hy74 (by assumption) ?rest74
              case hi74 => simp only [List.getElem?_toArray, List.getElem?_cons_succ, List.getElem?_cons_zero]; rfl
              case hQ74 => exact fun _ _ _ h => h
              case hy74 => exact Or.inr ⟨by rfl, rfl⟩
              try simp only [Act.put, List.setIfInBounds_toArray, List.set_cons_zero, List.set_cons_succ]
              refine' wpAnyH_take (i := 18) (v := undef) ?hi75 (by kernel_rfl) (by kernel_rfl) (by kernel_rfl) ?hQ75 ?hy75 (by assumption) ?rest75
              case hi75 => simp only [List.getElem?_toArray, List.getElem?_cons_succ, List.getElem?_cons_zero]; rfl
              case hQ75 => exact fun _ _ _ h => h
              case hy75 => exact Or.inr ⟨by rfl, rfl⟩
              try simp only [Act.put, List.setIfInBounds_toArray, List.set_cons_zero, List.set_cons_succ]
              refine' wpAnyH_take (i := 19) (v := undef) ?hi76 (by kernel_rfl) (by kernel_rfl) (by kernel_rfl) ?hQ76 ?hy76 (by assumption) ?rest76
              case hi76 => simp only [List.getElem?_toArray, List.getElem?_cons_succ, List.getElem?_cons_zero]; rfl
              case hQ76 => exact fun _ _ _ h => h
              case hy76 => exact Or.inr ⟨by rfl, rfl⟩
              try simp only [Act.put, List.setIfInBounds_toArray, List.set_cons_zero, List.set_cons_succ]
              refine' wpAnyH_take (i := 20) (v := undef) ?hi77 (by kernel_rfl) (by kernel_rfl) (by kernel_rfl) ?hQ77 ?hy77 (by assumption) ?rest77
              case hi77 => simp only [List.getElem?_toArray, List.getElem?_cons_succ, List.getElem?_cons_zero]; rfl
              case hQ77 => exact fun _ _ _ h => h
              case hy77 => exact Or.inr ⟨by rfl, rfl⟩
              try simp only [Act.put, List.setIfInBounds_toArray, List.set_cons_zero, List.set_cons_succ]
              refine' wpAnyH_take (i := 21) (v := undef) ?hi78 (by kernel_rfl) (by kernel_rfl) (by kernel_rfl) ?hQ78 ?hy78 (by assumption) ?rest78
              case hi78 => simp only [List.getElem?_toArray, List.getElem?_cons_succ, List.getElem?_cons_zero]; rfl
              case hQ78 => exact fun _ _ _ h => h
              case hy78 => exact Or.inr ⟨by rfl, rfl⟩
              try simp only [Act.put, List.setIfInBounds_toArray, List.set_cons_zero, List.set_cons_succ]
              refine' wpAnyH_take (i := 22) (v := undef) ?hi79 (by kernel_rfl) (by kernel_rfl) (by kernel_rfl) ?hQ79 ?hy79 (by assumption) ?rest79
              case hi79 => simp only [List.getElem?_toArray, List.getElem?_cons_succ, List.getElem?_cons_zero]; rfl
              case hQ79 => exact fun _ _ _ h => h
              case hy79 => exact Or.inr ⟨by rfl, rfl⟩
              try simp only [Act.put, List.setIfInBounds_toArray, List.set_cons_zero, List.set_cons_succ]
              refine' wpAnyH_take (i := 23) (v := undef) ?hi80 (by kernel_rfl) (by kernel_rfl) (by kernel_rfl) ?hQ80 ?hy80 (by assumption) ?rest80
              case hi80 => simp only [List.getElem?_toArray, List.getElem?_cons_succ, List.getElem?_cons_zero]; rfl
              case hQ80 => exact fun _ _ _ h => h
              case hy80 => exact Or.inr ⟨by rfl, rfl⟩
              try simp only [Act.put, List.setIfInBounds_toArray, List.set_cons_zero, List.set_cons_succ]
              refine' wpAnyH_take (i := 24) (v := undef) ?hi81 (by kernel_rfl) (by kernel_rfl) (by kernel_rfl) ?hQ81 ?hy81 (by assumption) ?rest81
              case hi81 => simp only [List.getElem?_toArray, List.getElem?_cons_succ, List.getElem?_cons_zero]; rfl
              case hQ81 => exact fun _ _ _ h => h
              case hy81 => exact Or.inr ⟨by rfl, rfl⟩
              try simp only [Act.put, List.setIfInBounds_toArray, List.set_cons_zero, List.set_cons_succ]
              refine' wpAnyH_take (i := 25) (v := undef) ?hi82 (by kernel_rfl) (by kernel_rfl) (by kernel_rfl) ?hQ82 ?hy82 (by assumption) ?rest82
              case hi82 => simp only [List.getElem?_toArray, List.getElem?_cons_succ, List.getElem?_cons_zero]; rfl
              case hQ82 => exact fun _ _ _ h => h
              case hy82 => exact Or.inr ⟨by rfl, rfl⟩
              try simp only [Act.put, List.setIfInBounds_toArray, List.set_cons_zero, List.set_cons_succ]
              refine' wpAnyH_take (i := 26) (v := undef) ?hi83 (by kernel_rfl) (by kernel_rfl) (by kernel_rfl) ?hQ83 ?hy83 (by assumption) ?rest83
              case hi83 => simp only [List.getElem?_toArray, List.getElem?_cons_succ, List.getElem?_cons_zero]; rfl
              case hQ83 => exact fun _ _ _ h => h
              case hy83 => exact Or.inr ⟨by rfl, rfl⟩
              try simp only [Act.put, List.setIfInBounds_toArray, List.set_cons_zero, List.set_cons_succ]
              refine' wpAnyH_take (i := 27) (v := _) ?hi84 (by kernel_rfl) (by kernel_rfl) (by kernel_rfl) ?hQ84 ?hy84 (by assumption) ?rest84
              case hi84 => simp only [List.getElem?_toArray, List.getElem?_cons_succ, List.getElem?_cons_zero]; rfl
              case hQ84 => exact fun _ _ _ h => h
              case' hy84 => refine Or.inl ⟨by rfl, ?_⟩
              case hy84 => (intro w hSw; (try dsimp only at hSw); go_simp; try with_reducible rfl)
              try simp only [Act.put, List.setIfInBounds_toArray, List.set_cons_zero, List.set_cons_succ]
              refine wpAnyH_done (by kernel_rfl) ?_ _
              all_goals
                go_wp2_with fail
                go_meet
                go_split_ands
                exact ⟨by rw [HF7.out]; rfl, by assumption⟩
          case rest =>
            obtain ⟨rfl, hb7⟩ := hcut
            have hI7 := HI0.out.below hb7
            have hb07 := pw_cell_below hb7 hb0
            have HI7 := Aside0.mk hI7
            clear hb0 hb1 hl1 hi1 hb7 hI7
            cases hf : fine (bs, age) vs with
            | false =>
              have hres : R = false := by
                rw [HR.out]
                unfold goodHeap
                have h1 : ((List.range l.length).all fun k => fine (sg l k) (lv L k)) = false := by
                  rw [List.all_eq_false]
                  refine ⟨k, by rw [List.mem_range, HN.out]; exact HLT.out, ?_⟩
                  rw [show sg l k = (bs, age) by rw [HBS.out, HAGE.out], show lv L k = vs from HVS.out.symm, hf]
                  decide
                rw [h1]
                simp
              have HRES := Aside0.mk hres
              clear hf hres
              go_wp2
              go_ret
              exact ⟨by rw [HRES.out]; rfl, HI7.out.2.2.2.1⟩
            | true =>
              have hfx := hf
              unfold fine at hfx
              simp only [Bool.and_eq_true, decide_eq_true_eq] at hfx
              obtain ⟨⟨⟨f1, f2⟩, f3⟩, f4⟩ := hfx
              have HF2 := Aside0.mk f2
              have HF4 := Aside0.mk f4
              have HFF := Aside0.mk hf
              have hplen : (pairs l L k).length ≤ 6 * k := pairs_len l L k HF.out
              have HPL := Aside0.mk hplen
              clear f2 f3 f4 hf hplen
              have hmap := HI7.out.2.2.1
              obtain ⟨m, hm⟩ : ∃ m, bs.length = m := ⟨_, rfl⟩
              have hm0 : ∃ u, u = bs ∧ u.length = m := ⟨bs, rfl, hm⟩
              rw [hm] at *
              have hm1 : bs.length = m := by
                obtain ⟨u, e1, e2⟩ := hm0
                rw [← e1]
                exact e2
              have HM := Aside0.mk hm1
              clear hm hm0 hm1 hmap
              go_wp2
              go_loopg [65] m (fun gk v65 wr => ∃ i : Nat, i + gk = m ∧ v65 = .int .i64 i ∧ Aside0 (Inv w (some ad) n1 c0 (some ad1) n1 c1 wr (pairs l L k ++ (bs.zip vs).take i) (pairs l L k ++ (bs.zip vs).take i)))
              case atStart => exact ⟨0, by omega, rfl, ⟨by simpa using HI7.out⟩⟩
              case round =>
                obtain ⟨i, hi, rfl, HI⟩ := hrel
                by_cases hli : i < m
                · have hli' : decide ((i : Int) < (m : Int)) = true := decide_eq_true (by omega)
                  obtain ⟨hq0, hq1, ⟨D1, D2, m1, m2, k1, k2⟩, hbw, hszw⟩ := HI.out
                  obtain ⟨adx, ex, hcx⟩ := Kd.at_int (Kd.C_below HBLw.out hbw) (i : Int) (by omega) (by have := HM.out; omega)
                  obtain ⟨ady, ey, hcy⟩ := at_b (Kd.C_below HBOw.out hbw) i (by have := HF4.out; have := HM.out; omega)
                  have hiv : i < vs.length := by have := HF4.out; have := HM.out; omega
                  have hib : i < bs.length := by have := HM.out; omega
                  have hlb : decide ((i : Int) < (bs.length : Int)) = true := decide_eq_true (by omega)
                  have hl0 := pw_cell_below hbw HL0w.out
                  have b1 : (ad1.add k).block < w.heap.size := World.block_lt_of_cell? w _ HL0w.out
                  subst ex ey
                  have b2 : (ady.add i).block < w.heap.size := by
                    obtain ⟨a3, e3, h3⟩ := at_b HBOw.out i (by have := HF4.out; have := HM.out; omega)
                    cases e3
                    exact World.block_lt_of_cell? w _ h3
                  obtain ⟨x, hx⟩ : ∃ x, bs[i]? = some x := ⟨_, List.getElem?_eq_getElem (by have := HM.out; omega)⟩
                  obtain ⟨y, hy⟩ : ∃ y, vs[i]? = some y := ⟨_, List.getElem?_eq_getElem (by have := HF4.out; have := HM.out; omega)⟩
                  have hrx : YtafkbhkikdndnaaW.PrintWords.rd bs (i : Int) = x := by
                    show bs.getD (i : Int).toNat 0 = x
                    simp [List.getD_eq_getElem?_getD, hx]
                  have hry : vs.getD i false = y := by simp [List.getD_eq_getElem?_getD, hy]
                  rw [hrx, Int.toNat_natCast] at hcx
                  rw [hry] at hcy
                  have hxb : 0 ≤ x ∧ x ≤ 15 := by
                    have := List.all_eq_true.1 HF2.out x (List.mem_of_getElem? hx)
                    exact of_decide_eq_true this
                  have hwf : (Lit.int .i64 x).wf = true := WalkArith.wf_i64 (by omega)
                  have htk : (bs.zip vs).take (i + 1) = (bs.zip vs).take i ++ [(x, y)] := by
                    have hz : (bs.zip vs)[i]? = some (x, y) := by rw [List.getElem?_zip_eq_some]; exact ⟨hx, hy⟩
                    obtain ⟨h3, h4⟩ := List.getElem?_eq_some_iff.1 hz
                    rw [List.take_succ_eq_append_getElem h3, h4]
                  have hlen : (pairs l L k ++ (bs.zip vs).take i).length ≤ 1000 := by
                    have := HPL.out
                    rw [List.length_append, List.length_take, List.length_zip]
                    have := HLT.out
                    have := HM.out
                    omega
                  have hgrow : ∀ W1, wr.grownBy W1 (some (w.heap.size + 1)) → W1.cell? ⟨w.heap.size, 1, none⟩ = some (.slice (some ad1) n1 c1) ∧ W1.cell? (ad1.add k) = some (.slice (some ady) vs.length c2) ∧ W1.cell? (ady.add i) = some (.bool y) ∧ W1.cell? ⟨w.heap.size, 0, none⟩ = some (.slice (some ad) n1 c0) ∧ W1.ownsMap Try.prog 3 (plainElem Try.prog 3) (w.heap.size + 1 + 1) (pairs l L k ++ (bs.zip vs).take i).length D2 ∧ Below w.heap.size w W1 ∧ w.heap.size + 3 ≤ W1.heap.size := fun W1 hg =>
                    ⟨cell_grown hg hq1 (by simp), cell_grown hg hl0 (by intro e; have := Option.some.inj e; omega), cell_grown hg hcy (by intro e; have := Option.some.inj e; omega), cell_grown hg hq0 (by simp), m2.kept hg (by simp), hbw.grown hg hbw.size (fun j hj => by cases hj; omega), Nat.le_trans hszw hg.size⟩
                  have HG := Aside0.mk hgrow
                  have HTK := Aside0.mk htk
                  have HK1 := Aside0.mk k1
                  have HK2 := Aside0.mk k2
                  have HXB := Aside0.mk hxb
                  have HI2 := Aside0.mk hi
                  have hgk : gk = (m - (i + 1)) + 1 := by omega
                  have HGK := Aside0.mk hgk
                  generalize hPP : pairs l L k ++ (bs.zip vs).take i = P at *
                  have HPP := Aside0.mk hPP
                  clear hgrow htk k1 k2 hxb hi hgk hPP hrx hry hx hy m2 HI hq0 b1 b2
                  cases y with
                  | false =>
                    go_wp2_with (first | (at_mapUpdate; refine wpList_mapUpdate_own _ rfl _ _ _ 92 rfl 3 4 lawK Try.underlying92 _ (w.heap.size + 1) P.length _ rfl m1 (by unfold maxLen; omega) _ _ _ rfl rfl (keyOf_int_mk Try.underlying3 hwf) _ [] (plainElem_bool Try.underlying4 true) ?_; intro w1 hown1 hgrow1; obtain ⟨g1, g2, g3, g4, g5, g6, g7⟩ := HG.out _ hgrow1))
                    go_roundg (m - (i + 1))
                    case measure => have := HGK.out; omega
                    case rel =>
                      refine ⟨i + 1, by have := HI2.out; omega, by go_num, ⟨?_⟩⟩
                      rw [HTK.out, ← List.append_assoc, HPP.out]
                      exact ⟨g4, g1, ⟨_, D2, by rw [List.length_append]; exact hown1, g5.mono (by simp), has1_step m1.isMap HK1.out x false _, fun z => by rw [cnt_snoc, if_neg (by simp), Int.add_zero]; exact HK2.out z⟩, g6, g7⟩
                  | true =>
                    obtain ⟨c0_, hc0_⟩ : ∃ c0_, c0_ = cnt P x := ⟨_, rfl⟩
                    have hcb : 0 ≤ c0_ ∧ c0_ ≤ 1000 := by have := cnt_le P x; omega
                    have HC0 := Aside0.mk hc0_
                    have hat0 : D2.atKey (.int .i64 x) (.lit (.int .i64 0)) = .lit (.int .i64 c0_) := by rw [HK2.out x, hc0_]
                    have HAT := Aside0.mk hat0
                    obtain ⟨hcb1, hcb2⟩ := hcb
                    clear hc0_ hat0
                    go_wp2_with (first | (at_mapUpdate; refine wpList_mapUpdate_own _ rfl _ _ _ 92 rfl 3 4 lawK Try.underlying92 _ (w.heap.size + 1) P.length _ rfl m1 (by unfold maxLen; omega) _ _ _ rfl rfl (keyOf_int_mk Try.underlying3 hwf) _ [] (plainElem_bool Try.underlying4 true) ?_; intro w1 hown1 hgrow1; obtain ⟨g1, g2, g3, g4, g5, g6, g7⟩ := HG.out _ hgrow1) | (at_lookup; refine wpList_lookup_own_int _ rfl _ _ 93 rfl 3 3 .i64 lawK Try.underlying93 Try.underlying3 (zeroI _) (w.heap.size + 1 + 1) P.length _ rfl g5 _ _ rfl (keyOf_int_mk Try.underlying3 hwf) ?_; intro c3 hat hwc; obtain rfl : c3 = c0_ := by (rw [HAT.out] at hat; injection hat with hat; injection hat with _ hat; exact hat.symm)) | (at_mapUpdate; refine wpList_mapUpdate_own _ rfl _ _ _ 93 rfl 3 3 lawK Try.underlying93 _ (w.heap.size + 1 + 1) P.length _ rfl g5 (by unfold maxLen; omega) _ _ _ rfl rfl (keyOf_int_mk Try.underlying3 hwf) _ [] (plainElem_int Try.underlying3 (by first | exact WalkArith.wf_i64 (by omega) | exact wrap64_wf _)) ?_; intro w2 hown2 hgrow2))
                    go_roundg (m - (i + 1))
                    case measure => have := HGK.out; omega
                    case rel =>
                      refine ⟨i + 1, by have := HI2.out; omega, by go_num, ⟨?_⟩⟩
                      rw [HTK.out, ← List.append_assoc, HPP.out]
                      exact ⟨cell_grown hgrow2 g4 (by intro e; have := Option.some.inj e; simp at this; omega), cell_grown hgrow2 g1 (by intro e; have := Option.some.inj e; simp at this; omega), ⟨_, _, by rw [List.length_append]; exact hown1.kept hgrow2 (by simp), by rw [List.length_append]; exact hown2, has1_step m1.isMap HK1.out x true _, at2_step g5.isMap HK2.out x _ (by rw [HC0.out])⟩, g6.grown hgrow2 g6.size (fun j hj => by cases hj; omega), Nat.le_trans g7 hgrow2.size⟩
                · have hli' : decide ((i : Int) < (m : Int)) = false := decide_eq_false (by omega)
                  have hib : ¬ i < bs.length := by have := HM.out; omega
                  have hlb : decide ((i : Int) < (bs.length : Int)) = false := decide_eq_false (by omega)
                  have htk : (bs.zip vs).take i = bs.zip vs := List.take_of_length_le (by rw [List.length_zip]; have := HM.out; omega)
                  have HTK := Aside0.mk htk
                  clear htk
                  go_wp2
                  go_roundg (n1 - (k + 1))
                  case measure => omega
                  case rel =>
                    refine ⟨k + 1, by omega, by go_num, ⟨?_⟩, ⟨?_⟩⟩
                    · have := HI.out
                      rw [HTK.out, HBS.out, HVS.out] at this
                      exact this
                    · intro j hj
                      by_cases e : j < k
                      · exact HF.out j e
                      · obtain rfl : j = k := by omega
                        rw [show sg l j = (bs, age) by rw [HBS.out, HAGE.out], show lv L j = vs from HVS.out.symm]
                        exact HFF.out
        · have hlt' : decide ((k : Int) < (n1 : Int)) = false := decide_eq_false (by omega)
          obtain rfl : k = n1 := by omega
          obtain ⟨hq0, hq1, ⟨D1, D2, m1, m2, k1, k2⟩, hbw, hszw⟩ := HI.out
          have HK1 := Aside0.mk k1
          have HK2 := Aside0.mk k2
          have HM2 := Aside0.mk m2
          have HBW := Aside0.mk hbw
          have HSZ := Aside0.mk hszw
          have hplen := pairs_len l L k HF.out
          generalize hPP : pairs l L k = P at *
          have HPP := Aside0.mk hPP
          clear k1 k2 m2 hbw hq0 hq1 hszw HI hPP hi0 hi1
          go_wp2_with (at_range; refine wpList_range_own _ rfl _ 92 rfl 3 4 lawK Try.underlying92 _ (w.heap.size + 1) P.length _ rfl m1 ?_; intro w0 hrg0 hg0 hs0)
          go_frame
          have hm0 := HM2.out.kept hg0 (by simp)
          have hb0 := HBW.out.grown hg0 HBW.out.size (fun j hj => by cases hj)
          generalize wr.heap.size = rr at *
          go_loopw [9] (fun _ wx => ∃ (left : Lit → Bool) (cn : Nat), wx.ranges Try.prog 3 (plainElem Try.prog 4) (w.heap.size + 1) rr P.length D1 left cn ∧ Aside0 (∀ z, has D1 (.int .i64 z) = true → left (.int .i64 z) = false → cnt P z = 1) ∧ wx.ownsMap Try.prog 3 (plainElem Try.prog 3) (w.heap.size + 1 + 1) P.length D2 ∧ Below w.heap.size w wx) (fun _ wx => wx.rangeLeft (w.heap.size + 1) rr)
          case atStart => exact ⟨_, _, hrg0, ⟨fun z h1 h2 => by rw [h1] at h2; cases h2⟩, hm0, hb0⟩
          case round =>
            obtain ⟨left, cn, hrg, HL1, hm2, hbx⟩ := hrel
            go_wp2_with (at_next; refine wpList_next_ranges _ rfl _ rfl 3 lawK (plainElem Try.prog 4) (Value.int .i64) (id : Value → Value) (fun key kl hkey => by obtain ⟨x, rfl, _⟩ := Maps.keyOf_int_inv Try.underlying3 hkey; exact ⟨x, rfl⟩) (fun v y hv => ⟨v, rfl⟩) (w.heap.size + 1) rr P.length _ _ _ rfl hrg ?_ ?_)
            · intro hc0 hl0
              have hres : R = true := by
                rw [HR.out]
                refine goodHeap_true l L (by rw [HN.out, HN1.out]; omega) (by rw [HN.out]; exact HF.out) ?_
                rw [HN.out, HPP.out]
                intro p hp
                refine HL1.out _ ?_ (hl0 _)
                rw [HK1.out]
                exact List.any_eq_true.2 ⟨p, hp, by simp⟩
              have HRES := Aside0.mk hres
              clear hres hl0
              go_wp2
              go_ret
              exact ⟨by rw [HRES.out]; rfl, hbx⟩
            · intro x c kl y y2 w1 cn1 hkey hlx hvy hat hrg1 hlt1 hg1 hs1 hen
              obtain ⟨x', ex, rfl, hwx⟩ := Maps.keyOf_int_inv Try.underlying3 hkey
              cases ex
              have hasx : has D1 (.int .i64 x) = true := has_true_of_atKey hat
              have hbw1 := HBW.out.size
              have hszr := HSZ.out
              have hm21 := hm2.kept hg1 (by intro e; have := Option.some.inj e; omega)
              have hbx1 := hbx.grown hg1 hbx.size (fun j hj => by cases hj; omega)
              have hat0 : D2.atKey (.int .i64 x) (.lit (.int .i64 0)) = .lit (.int .i64 (cnt P x)) := HK2.out x
              by_cases h1c : cnt P x = 1
              · rw [h1c] at hat0
                have HAT := Aside0.mk hat0
                have HH := Aside0.mk hasx
                have HC1 := Aside0.mk h1c
                have HHAT := Aside0.mk hat
                clear hat0 hasx h1c hat
                go_wp2_with (at_lookup; refine wpList_lookup_own_int _ rfl _ _ 93 rfl 3 3 .i64 lawK Try.underlying93 Try.underlying3 (zeroI _) (w.heap.size + 1 + 1) P.length _ rfl hm21 _ _ rfl (keyOf_int_mk Try.underlying3 hwx) ?_; intro c3 hat hwc; obtain rfl : c3 = 1 := by (rw [HAT.out] at hat; injection hat with hat; injection hat with _ hat; exact hat.symm))
                go_roundw
                case rel =>
                  refine ⟨_, cn1, hrg1, ⟨fun z hz hlz => ?_⟩, hm21, hbx1⟩
                  by_cases e : z = x
                  · rw [e]
                    exact HC1.out
                  · refine HL1.out z hz ?_
                    have e2 : (Lit.int .i64 z).sameKey (.int .i64 x) = false := sameKey_ne (by intro h2; injection h2 with h3 h4; exact e h4)
                    rw [e2] at hlz
                    simpa using hlz
                case measure => rw [hrg1.left_eq, hrg.left_eq]; exact hlt1
              · have hres : R = false := by
                  rw [HR.out]
                  rw [HK1.out x] at hasx
                  obtain ⟨p, hp, hpx⟩ := List.any_eq_true.1 hasx
                  have hpx := of_decide_eq_true hpx
                  refine goodHeap_false l L p (by rw [HN.out, HPP.out]; exact hp) ?_
                  rw [HN.out, HPP.out, hpx]
                  exact h1c
                have HRES := Aside0.mk hres
                have HAT := Aside0.mk hat0
                obtain ⟨cc, hcc⟩ : ∃ cc, cc = cnt P x := ⟨_, rfl⟩
                have hcn : (cc == 1) = false := by simpa [hcc] using h1c
                have hcn' : (cc != 1) = true := by simpa [hcc] using h1c
                have HCC := Aside0.mk hcc
                clear hat0 hasx h1c hat hres hcc
                go_wp2_with (at_lookup; refine wpList_lookup_own_int _ rfl _ _ 93 rfl 3 3 .i64 lawK Try.underlying93 Try.underlying3 (zeroI _) (w.heap.size + 1 + 1) P.length _ rfl hm21 _ _ rfl (keyOf_int_mk Try.underlying3 hwx) ?_; intro c3 hat hwc; obtain rfl : c3 = cc := by (rw [HAT.out, ← HCC.out] at hat; injection hat with hat; injection hat with _ hat; exact hat.symm))
                go_ret
                exact ⟨by rw [HRES.out]; rfl, hbx1⟩
    · have hres : R = false := by
        rw [HR.out]
        exact goodHeap_short l L (by rw [HN.out, HN1.out]; omega)
      have HRES := Aside0.mk hres
      have hw : decide ((2 : Int) ≤ (n : Int) ∧ (n : Int) ≤ 8) = true := decide_eq_true (by omega)
      have hne : ((n1 : Int) == (n : Int)) = false := by simp; omega
      have hne' : ((n1 : Int) != (n : Int)) = true := by simp; omega
      have HW := Aside0.mk hw
      clear hw hres
      go_enter Try.func19, Try.ntmps19
      go_wp2_with (go_at_call 70; refine (within_calls _ _ _ _).mono ?_; rw [HW.out]; rintro e w' ⟨rfl, rfl⟩)
      go_ret
      exact ⟨by rw [HRES.out]; rfl, (Below.refl _ _).alloc (Nat.le_refl _) _⟩
  · have hres : R = false := by
      rw [HR.out]
      exact goodHeap_short l L (by rw [HN.out, HN1.out]; omega)
    have HRES := Aside0.mk hres
    have hw : decide ((2 : Int) ≤ (n : Int) ∧ (n : Int) ≤ 8) = false := decide_eq_false (by omega)
    have HW := Aside0.mk hw
    clear hw hres
    go_enter Try.func19, Try.ntmps19
    go_wp2_with (go_at_call 70; refine (within_calls _ _ _ _).mono ?_; rw [HW.out]; rintro e w' ⟨rfl, rfl⟩)
    go_ret
    exact ⟨by rw [HRES.out]; rfl, (Below.refl _ _).alloc (Nat.le_refl _) _⟩
end Ytafkbhkikdndnaa.Heap

end Go.Proofs

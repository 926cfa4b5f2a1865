/- Contracts of Go's library at this program: the shelf's, applied to this program's own numbers. No condition. -/
import Derived.Test.YtdjekgeoaekplaaSort
import Derived.Test.YtdjekgeoaekplaaWWords
import Derived.Test.YtdjekgeoaekplaaWLast
import Derived.Test.YtdjekgeoaekplaaWMore
import Derived.Test.YtdjekgeoaekplaaProg
set_option linter.unusedVariables false
namespace Go.Proofs
open Go.Shelf
namespace Ytdjekgeoaekplaa.Ord
open Go.RowKit Go.Maps Go.Sort Go.Shelf Go.Proofs.YtdjekgeoaekplaaW.PrintWords Go.Proofs.YtdjekgeoaekplaaW.PrintLast Go.Proofs.YtdjekgeoaekplaaW.PrintMore
open Ytdjekgeoaekplaa.Sort
set_option maxHeartbeats 4000000 in
set_option maxRecDepth 100000 in
/-- impl.parted: the sorted numbers as told, and the others, each in a row of its own. -/
theorem parted (p : Int → Bool) (g : Nat) (lb : Array Value) (eg : ∀ args w, (callFunc g args).run Try.prog w = .ok (.enter g args) w) (A : Option Addr) (c : Nat) (l : List Int) (w : World) (hr : Kd.C (Kd.int .i64) w A l.length l) (hl : l.length ≤ 1000)
    (hp : ∀ x W, Below w.heap.size w W → Calls Try.prog g (#[.int .i64 x] ++ lb) W fun e w' => e = .returned (.bool (p x)) ∧ Below W.heap.size W w') :
    Calls Try.prog 53 #[.slice A l.length c, .func (.func g) #[] lb] w fun e w' => ∃ v1 v2, e = .returned (.tuple #[v1, v2]) ∧ Kd.R (Kd.int .i64) 3 w' w.heap.size (fun k => some k ≠ (v2 : Value).ownBlock) v1 ((sortI l).filter p) ∧ Kd.R (Kd.int .i64) 3 w' w.heap.size (fun k => some k ≠ (v1 : Value).ownBlock) v2 ((sortI l).filter fun x => !p x) ∧ Below w.heap.size w w' := by
  have hcs : ∀ W, Below w.heap.size w W → W.cell? ⟨w.heap.size, 0, none⟩ = some (.slice A l.length c) → w.heap.size < W.heap.size → Calls Try.prog 59 #[.func (.func 77) #[] #[.pointer (some ⟨w.heap.size, 0, none⟩)]] W fun e w' =>
      ∃ v, e = .returned v ∧ (Kd.int .i64).R 3 w' W.heap.size (fun _ => True) v (sortI l) ∧ Below W.heap.size W w' := fun W hW hc hlt => sorted_calls w.heap.size c A l W hlt hc (Kd.C_below hr hW) (by omega)
  have hsl : (sortI l).length ≤ 1000 := by rw [show (sortI l).length = l.length from List.length_mergeSort _]; exact hl
  have HCS := Aside0.mk hcs
  have HP := Aside0.mk hp
  clear hcs hp hr
  generalize sortI l = s at *
  generalize l.length = n0 at *
  obtain ⟨n, hN⟩ : ∃ n, s.length = n := ⟨_, rfl⟩
  have hn : n ≤ 1000 := by omega
  clear hsl hl
  go_enter Try.func53, Try.ntmps53
  go_wp2_with (first | (go_at_call 60; refine (values_calls A n0 c _).mono ?_; rintro e w' ⟨rfl, rfl⟩) | (go_at_call 59; refine (HCS.out _ ((Below.refl _ _).alloc (Nat.le_refl _) _) (by simp) (by simp)).mono ?_; rintro e w1 ⟨v, rfl, ho, hb⟩; have HB := Aside0.mk (((Below.refl _ _).alloc (Nat.le_refl _) _ : Below w.heap.size w (w.alloc (.cells #[.slice A n0 c] 22))).trans (hb.mono (by simp))); have HO := Aside0.mk (Kd.R_lower ho (show w.heap.size ≤ _ by simp)); clear ho hb; obtain ⟨As, cs, eo⟩ := Kd.R_slice HO.out; rw [hN] at eo; subst eo))
  go_loopg [6, 7, 14] n (fun gk v6 v7 v14 wr => ∃ i : Nat, i + gk = n ∧ v14 = .int .i64 i ∧ Aside0 (Kd.R (Kd.int .i64) 3 wr w.heap.size (fun k_ => some k_ ≠ (v7 : Value).ownBlock ∧ some k_ ≠ ((.slice As n cs) : Value).ownBlock) v6 ((s.take i).filter p)) ∧ Aside0 (Kd.R (Kd.int .i64) 3 wr w.heap.size (fun k_ => some k_ ≠ (v6 : Value).ownBlock ∧ some k_ ≠ ((.slice As n cs) : Value).ownBlock) v7 ((s.take i).filter fun x => !p x)) ∧ Aside0 (Kd.R (Kd.int .i64) 3 wr w.heap.size (fun k_ => some k_ ≠ (v6 : Value).ownBlock ∧ some k_ ≠ (v7 : Value).ownBlock) (.slice As n cs) s) ∧ Aside0 (Below w.heap.size w wr))
  case atStart => exact ⟨0, by omega, rfl, ⟨by simpa using Kd.R_nil _ _ _ _ _⟩, ⟨by simpa using Kd.R_nil _ _ _ _ _⟩, ⟨Kd.R_mono HO.out (fun _ _ => ⟨by simp [Value.ownBlock], by simp [Value.ownBlock]⟩)⟩, HB⟩
  case round =>
    obtain ⟨i, hi, rfl, H6, H7, HS, HB⟩ := hrel
    by_cases hlt : i < n
    · have hlt' : decide ((i : Int) < (n : Int)) = true := decide_eq_true (by omega)
      obtain ⟨x, hx⟩ : ∃ x, s[i]? = some x := ⟨_, List.getElem?_eq_getElem (by omega)⟩
      have hq1 : ∀ q : Int → Bool, q x = true → (s.take (i + 1)).filter q = (s.take i).filter q ++ [x] := fun q h => by
        obtain ⟨h2, hg⟩ := List.getElem?_eq_some_iff.1 hx
        rw [List.take_succ_eq_append_getElem h2, List.filter_append, hg]
        simp [h]
      have hq2 : ∀ q : Int → Bool, q x = false → (s.take (i + 1)).filter q = (s.take i).filter q := fun q h => by
        obtain ⟨h2, hg⟩ := List.getElem?_eq_some_iff.1 hx
        rw [List.take_succ_eq_append_getElem h2, List.filter_append, hg]
        simp [h]
      have HQ1 := Aside0.mk hq1
      have HQ2 := Aside0.mk hq2
      have hlen : ∀ q : Int → Bool, ((s.take i).filter q).length ≤ 1000 := fun q => by
        have h1 := List.length_filter_le q (s.take i)
        rw [List.length_take] at h1
        omega
      have HLEN := Aside0.mk hlen
      obtain ⟨ad, e1, hcell⟩ := Kd.at_int (Kd.R_reads' HS.out).2.2 (i : Int) (by omega) (by omega)
      cases e1
      have hx2 : YtdjekgeoaekplaaW.PrintWords.rd s (i : Int) = x := by
        show s.getD (i : Int).toNat 0 = x
        simp [List.getD_eq_getElem?_getD, hx]
      rw [hx2] at hcell
      have hcell' : wr.cell? (ad.add i) = some (.int .i64 x) := by simpa using hcell
      have hcall := HP.out x wr HB.out
      have hgk : gk = (n - (i + 1)) + 1 := by omega
      have HGK := Aside0.mk hgk
      have HI := Aside0.mk hi
      clear hq1 hq2 hlen hcell hx2 hx hgk hi
      cases hq : p x with
      | true =>
        rw [hq] at hcall
        have HQ := Aside0.mk hq
        clear hq
        obtain ⟨ys, hys⟩ : ∃ ys, ys = (s.take (i + 1)).filter p := ⟨_, rfl⟩
        have HY := Aside0.mk (hys.trans (HQ1.out p HQ.out))
        clear hys
        go_wp2_with (first | (go_at_fn g; refine hcall.mono ?_; rintro e w' ⟨rfl, hb'⟩; have n6 := Aside0.mk (Kd.R_below H6.out hb'); have n7 := Aside0.mk (Kd.R_below H7.out hb'); have nS := Aside0.mk (Kd.R_below HS.out hb'); have nB := Aside0.mk (HB.out.trans (hb'.mono HB.out.size)); clear H6 H7 HS HB hb'; have H6 := n6; have H7 := n7; have HS := nS; have HB := nB; clear n6 n7 nS nB) | ((with_reducible refine gate_builtin (b := .append) (xs := #[.tmp 21, .tmp 23]) rfl ?_); at_builtin; refine Kd.R_append (Kd.int .i64) (w0 := w) w.heap.size rfl (.tmp 21) (.tmp 23) 22 3 (.int .i64 0) 8 rfl Try.underlying22 infoI rfl (by decide) (by omega) u6 ((s.take i).filter p) x [.int .i64 x] (fun k_ => some k_ ≠ (u7 : Value).ownBlock ∧ some k_ ≠ (.slice (some ad) n cs : Value).ownBlock) (fun _ => False) rfl rfl ?aP (fun _ hk => hk.elim) ?aF ?aO ?aB ?aS ?aL ?_; (case aP => exact rfl); (case aB => exact HB.out); (case aF => exact (fun k_ hk => ⟨Kd.fresh' (Kd.R_lt H7.out) k_ hk, Kd.fresh' (Kd.R_lt HS.out) k_ hk⟩)); (case aO => exact H6.out); (case aS => exact below_size HB.out); (case aL => have := HLEN.out p; omega); intro v284 w13 ho hb hg hat; rw [← HY.out] at ho; have n0_ := Aside0.mk (Kd.R_after (ok := (fun k_ => some k_ ≠ (.slice (some ad) n cs : Value).ownBlock)) (Kd.R_mono H7.out (fun _ hk => ⟨hk.2, hk.1⟩)) hg hat); have n1_ := Aside0.mk (Kd.R_after (ok := (fun k_ => some k_ ≠ (u7 : Value).ownBlock)) (Kd.R_mono HS.out (fun _ hk => ⟨hk.2, hk.1⟩)) hg hat); have n2_ := Aside0.mk hb; have n3_ := Aside0.mk ho; clear H7 HS HB H6; have H7 := n0_; have HS := n1_; have HB := n2_; have H6 := n3_; clear n0_ n1_ n2_ n3_; clear ho hb hg hat))
        go_roundg (n - (i + 1))
        case measure => have := HGK.out; omega
        case rel => exact ⟨i + 1, by have := HI.out; omega, by go_num, ⟨by rw [← (show ys = _ from HY.out.trans (HQ1.out p HQ.out).symm)]; exact H6.out⟩, ⟨by rw [HQ2.out (fun x => !p x) (by rw [HQ.out]; rfl)]; exact Kd.R_mono H7.out (fun _ hk => ⟨hk.2, hk.1⟩)⟩, ⟨Kd.R_mono HS.out (fun _ hk => ⟨hk.2, hk.1⟩)⟩, HB⟩
      | false =>
        rw [hq] at hcall
        have HQ := Aside0.mk hq
        clear hq
        obtain ⟨ys, hys⟩ : ∃ ys, ys = (s.take (i + 1)).filter fun x => !p x := ⟨_, rfl⟩
        have HY := Aside0.mk (hys.trans (HQ1.out (fun x => !p x) (by rw [HQ.out]; rfl)))
        clear hys
        go_wp2_with (first | (go_at_fn g; refine hcall.mono ?_; rintro e w' ⟨rfl, hb'⟩; have n6 := Aside0.mk (Kd.R_below H6.out hb'); have n7 := Aside0.mk (Kd.R_below H7.out hb'); have nS := Aside0.mk (Kd.R_below HS.out hb'); have nB := Aside0.mk (HB.out.trans (hb'.mono HB.out.size)); clear H6 H7 HS HB hb'; have H6 := n6; have H7 := n7; have HS := nS; have HB := nB; clear n6 n7 nS nB) | ((with_reducible refine gate_builtin (b := .append) (xs := #[.tmp 25, .tmp 27]) rfl ?_); at_builtin; refine Kd.R_append (Kd.int .i64) (w0 := w) w.heap.size rfl (.tmp 25) (.tmp 27) 22 3 (.int .i64 0) 8 rfl Try.underlying22 infoI rfl (by decide) (by omega) u7 ((s.take i).filter fun x => !p x) x [.int .i64 x] (fun k_ => some k_ ≠ (u6 : Value).ownBlock ∧ some k_ ≠ (.slice (some ad) n cs : Value).ownBlock) (fun _ => False) rfl rfl ?aP (fun _ hk => hk.elim) ?aF ?aO ?aB ?aS ?aL ?_; (case aP => exact rfl); (case aB => exact HB.out); (case aF => exact (fun k_ hk => ⟨Kd.fresh' (Kd.R_lt H6.out) k_ hk, Kd.fresh' (Kd.R_lt HS.out) k_ hk⟩)); (case aO => exact H7.out); (case aS => exact below_size HB.out); (case aL => have := HLEN.out (fun x => !p x); omega); intro v284 w13 ho hb hg hat; rw [← HY.out] at ho; have n0_ := Aside0.mk (Kd.R_after (ok := (fun k_ => some k_ ≠ (.slice (some ad) n cs : Value).ownBlock)) (Kd.R_mono H6.out (fun _ hk => ⟨hk.2, hk.1⟩)) hg hat); have n1_ := Aside0.mk (Kd.R_after (ok := (fun k_ => some k_ ≠ (u6 : Value).ownBlock)) HS.out hg hat); have n2_ := Aside0.mk hb; have n3_ := Aside0.mk ho; clear H7 HS HB H6; have H6 := n0_; have HS := n1_; have HB := n2_; have H7 := n3_; clear n0_ n1_ n2_ n3_; clear ho hb hg hat))
        go_roundg (n - (i + 1))
        case measure => have := HGK.out; omega
        case rel => exact ⟨i + 1, by have := HI.out; omega, by go_num, ⟨by rw [HQ2.out p HQ.out]; exact Kd.R_mono H6.out (fun _ hk => ⟨hk.2, hk.1⟩)⟩, ⟨by rw [← (show ys = _ from HY.out.trans (HQ1.out (fun x => !p x) (by rw [HQ.out]; rfl)).symm)]; exact H7.out⟩, ⟨HS.out⟩, HB⟩
    · have hlt' : decide ((i : Int) < (n : Int)) = false := decide_eq_false (by omega)
      obtain rfl : gk = 0 := by omega
      have hall : s.take i = s := List.take_of_length_le (by omega)
      rw [hall] at H6 H7
      go_wp2
      go_ret2
      exact ⟨_, _, rfl, Kd.R_mono H6.out (fun _ hk => hk.1), Kd.R_mono H7.out (fun _ hk => hk.1), HB.out⟩

theorem ge_closure1 (a0 x : Int) (B : Nat) (W : World) (h : W.cell? ⟨B, 0, none⟩ = some (.int .i64 a0)) : Calls Try.prog 54 (#[.int .i64 x] ++ #[.pointer (some ⟨B, 0, none⟩)]) W fun e w' => e = .returned (.bool (decide (a0 ≤ x))) ∧ Below W.heap.size W w' := by
  go_enter Try.func54, Try.ntmps54
  go_wp2
  go_ret
  exact ⟨rfl, Below.refl _ _⟩
theorem ge_closure2 (a0 x : Int) (B : Nat) (W : World) (h : W.cell? ⟨B, 0, none⟩ = some (.int .i64 a0)) : Calls Try.prog 66 (#[.int .i64 x] ++ #[.pointer (some ⟨B, 0, none⟩)]) W fun e w' => e = .returned (.bool (decide (a0 ≤ x))) ∧ Below W.heap.size W w' := by
  go_enter Try.func66, Try.ntmps66
  go_wp2
  go_ret
  exact ⟨rfl, Below.refl _ _⟩
theorem le_closure (a0 x : Int) (B : Nat) (W : World) (h : W.cell? ⟨B, 0, none⟩ = some (.int .i64 a0)) : Calls Try.prog 68 (#[.int .i64 x] ++ #[.pointer (some ⟨B, 0, none⟩)]) W fun e w' => e = .returned (.bool (decide (x ≤ a0))) ∧ Below W.heap.size W w' := by
  go_enter Try.func68, Try.ntmps68
  go_wp2
  go_ret
  exact ⟨rfl, Below.refl _ _⟩

/-- slices.Reverse at a row of the call's own. -/
theorem reverse_calls {base : Nat} {ok : Nat → Prop} (v : Value) (xs : List Int) (W : World) (h : Kd.R (Kd.int .i64) 3 W base ok v xs) :
    Calls Try.prog 67 #[v] W fun e w' => e = .returned (.tuple #[]) ∧ Kd.R (Kd.int .i64) 3 w' base ok v xs.reverse ∧ W.grownBy w' v.ownBlock := by
  have hok := h.1
  have ho := Kd.own_of_R (enc := Value.int .i64) (h1 := fun _ => rfl) h
  rcases ho.2 with ⟨rfl, hz⟩ | ⟨gb, cp, cur, rfl, hbase, hgb, r1, r2, r3, r4⟩
  · obtain rfl : xs = [] := List.eq_nil_of_length_eq_zero hz
    refine (AnyE.slices_Reverse_empty Try.revL none 0 W).mono ?_
    rintro e w' ⟨rfl, rfl⟩
    exact ⟨rfl, h, World.grownBy.refl _ _⟩
  · have hH : Holds (Value.int .i64) W gb 0 xs.toArray := holds_of_block_i (ss := xs) hgb (by simpa [encs, encZ] using r4)
    have hmax : xs.length ≤ 9223372036854775807 := by simp only [maxLen] at r2; omega
    refine (AnyE.slices_Reverse Try.revL (Value.int .i64) (fun _ => rfl) gb 0 cp xs W hH hmax).mono ?_
    rintro e w' ⟨rfl, nn, rfl⟩
    have hl : xs.reverse.length = xs.length := List.length_reverse
    have h1 := ownsRow_sorted_i (n := nn) (os := #[]) (ts := xs.reverse) (ss := xs) hl hbase hgb r1 r2 r3
    have h2 := grownBy_sorted_i (w := W) (g := gb) (n := nn) (os := #[]) xs.reverse.toArray
    rw [grow_empty] at h1 h2
    refine ⟨rfl, Kd.R_of_own (enc := Value.int .i64) (h1 := fun _ => rfl) ?_ hok, h2⟩
    rw [hl]
    exact h1

def roundI (a0 : Int) (l : List Int) : List Int := ((sortI l).filter fun x => decide (a0 ≤ x)) ++ ((sortI l).filter fun x => !decide (a0 ≤ x))
def sweepI (a0 : Int) (l : List Int) (up : Bool) : List Int := if up = true then ((sortI l).filter fun x => decide (a0 ≤ x)) ++ ((sortI l).filter fun x => !decide (a0 ≤ x)).reverse else ((sortI l).filter fun x => decide (x ≤ a0)).reverse ++ ((sortI l).filter fun x => !decide (x ≤ a0))
theorem sort_len (l : List Int) : (sortI l).length = l.length := List.length_mergeSort _

set_option maxHeartbeats 4000000 in
set_option maxRecDepth 100000 in
theorem sweep_calls (a0 : Int) (A : Option Addr) (c : Nat) (l : List Int) (up : Bool) (w : World) (hr : Kd.C (Kd.int .i64) w A l.length l) (hl : l.length ≤ 1000) :
    Calls Try.prog 43 #[.int .i64 a0, .slice A l.length c, .bool up] w fun e w' => ∃ v, e = .returned v ∧ Kd.R (Kd.int .i64) 3 w' w.heap.size (fun _ => True) v (sweepI a0 l up) ∧ Below w.heap.size w w' := by
  have hB1 : Below w.heap.size w (w.alloc (.cells #[.int .i64 a0] 3)) := (Below.refl _ _).alloc (Nat.le_refl _) _
  have hcell : (w.alloc (.cells #[.int .i64 a0] 3)).cell? ⟨w.heap.size, 0, none⟩ = some (.int .i64 a0) := by simp
  have hlen : ∀ q : Int → Bool, ((sortI l).filter q).length ≤ 1000 := fun q => by
    have h1 := List.length_filter_le q (sortI l)
    rw [sort_len] at h1
    omega
  have HLEN := Aside0.mk hlen
  cases up with
  | true =>
    have hp := parted (fun x => decide (a0 ≤ x)) 66 #[.pointer (some ⟨w.heap.size, 0, none⟩)] (enters_of Try.func66 (by kernel_rfl) rfl) A c l (w.alloc (.cells #[.int .i64 a0] 3)) (Kd.C_below hr hB1) hl
      (fun x W hW => ge_closure2 a0 x w.heap.size W ((hW.cell (p := ⟨w.heap.size, 0, none⟩) (by simp)).trans hcell))
    rw [show sweepI a0 l true = ((sortI l).filter fun x => decide (a0 ≤ x)) ++ ((sortI l).filter fun x => !decide (a0 ≤ x)).reverse from rfl]
    have HL1 := Aside0.mk (hlen fun x => decide (a0 ≤ x))
    have HL2 := Aside0.mk (hlen fun x => !decide (a0 ≤ x))
    have HP := Aside0.mk hp
    have HB1 := Aside0.mk hB1
    clear hlen HLEN hr hcell hp hB1
    generalize ((sortI l).filter fun x => decide (a0 ≤ x)) = xs at *
    generalize ((sortI l).filter fun x => !decide (a0 ≤ x)) = ys at *
    generalize l.length = n at *
    go_enter Try.func43, Try.ntmps43
    go_wp2_with (first | (go_at_call 53; refine HP.out.mono ?_; rintro e w1 ⟨v1, v2, rfl, h1, h2, hb⟩; have H1 := Aside0.mk (Kd.R_lower h1 (show w.heap.size ≤ _ by simp)); have H2 := Aside0.mk (Kd.R_lower h2 (show w.heap.size ≤ _ by simp)); have HB := Aside0.mk (HB1.out.trans (hb.mono (by simp))); clear h1 h2 hb) | (go_at_call 67; refine (reverse_calls _ ys _ H2.out).mono ?_; rintro e w2 ⟨rfl, h2, hg⟩; have n1 := Aside0.mk (Kd.R_grown H1.out hg (fun k hk => hk)); have n2 := Aside0.mk h2; have nB := Aside0.mk (HB.out.grown hg HB.out.size (fun k hk => Kd.R_base h2 k hk)); clear H1 H2 HB h2 hg; have H1 := n1; have H2 := n2; have HB := nB; clear n1 n2 nB; obtain ⟨A2, c2, e2⟩ := Kd.R_slice H2.out; rw [List.length_reverse] at e2; subst e2) | ((with_reducible refine gate_builtin (b := .append) (xs := #[.tmp 20, .tmp 21]) rfl ?_); at_builtin; refine Kd.R_append_rows (Kd.int .i64) (w0 := w) w.heap.size rfl (.tmp 20) (.tmp 21) 22 3 (.int .i64 0) 8 rfl Try.underlying22 infoI rfl (by decide) (by omega) v1 xs ys.reverse _ _ _ (fun _ => True) (fun _ => False) rfl rfl ?aO ?aR (fun _ _ h => h) (fun _ h => h.elim) (fun _ _ => trivial) ?aB ?aS ?aL ?_; (case aR => have := (Kd.R_reads' H2.out).2.2; rw [List.length_reverse] at this; exact this); (case aB => exact HB.out); (case aO => exact Kd.R_mono H1.out (fun _ _ => trivial)); (case aS => exact below_size HB.out); (case aL => have := HL1.out; have := HL2.out; omega); intro v3 w3 ho hb hg hat; have HO := Aside0.mk ho; have HB3 := Aside0.mk hb; clear ho hb hg hat))
    go_ret
    exact ⟨_, rfl, HO.out, HB3.out⟩
  | false =>
    have hp := parted (fun x => decide (x ≤ a0)) 68 #[.pointer (some ⟨w.heap.size, 0, none⟩)] (enters_of Try.func68 (by kernel_rfl) rfl) A c l (w.alloc (.cells #[.int .i64 a0] 3)) (Kd.C_below hr hB1) hl
      (fun x W hW => le_closure a0 x w.heap.size W ((hW.cell (p := ⟨w.heap.size, 0, none⟩) (by simp)).trans hcell))
    rw [show sweepI a0 l false = ((sortI l).filter fun x => decide (x ≤ a0)).reverse ++ ((sortI l).filter fun x => !decide (x ≤ a0)) from rfl]
    have HL1 := Aside0.mk (hlen fun x => decide (x ≤ a0))
    have HL2 := Aside0.mk (hlen fun x => !decide (x ≤ a0))
    have HP := Aside0.mk hp
    have HB1 := Aside0.mk hB1
    clear hlen HLEN hr hcell hp hB1
    generalize ((sortI l).filter fun x => decide (x ≤ a0)) = xs at *
    generalize ((sortI l).filter fun x => !decide (x ≤ a0)) = ys at *
    generalize l.length = n at *
    go_enter Try.func43, Try.ntmps43
    go_wp2_with (first | (go_at_call 53; refine HP.out.mono ?_; rintro e w1 ⟨v1, v2, rfl, h1, h2, hb⟩; have H1 := Aside0.mk (Kd.R_lower h1 (show w.heap.size ≤ _ by simp)); have H2 := Aside0.mk (Kd.R_lower h2 (show w.heap.size ≤ _ by simp)); have HB := Aside0.mk (HB1.out.trans (hb.mono (by simp))); clear h1 h2 hb) | (go_at_call 67; refine (reverse_calls _ xs _ H1.out).mono ?_; rintro e w2 ⟨rfl, h1, hg⟩; have n2 := Aside0.mk (Kd.R_grown H2.out hg (fun k hk => hk)); have n1 := Aside0.mk h1; have nB := Aside0.mk (HB.out.grown hg HB.out.size (fun k hk => Kd.R_base h1 k hk)); clear H1 H2 HB h1 hg; have H1 := n1; have H2 := n2; have HB := nB; clear n1 n2 nB; obtain ⟨A2, c2, e2⟩ := Kd.R_slice H2.out; subst e2) | ((with_reducible refine gate_builtin (b := .append) (xs := #[.tmp 31, .tmp 32]) rfl ?_); at_builtin; refine Kd.R_append_rows (Kd.int .i64) (w0 := w) w.heap.size rfl (.tmp 31) (.tmp 32) 22 3 (.int .i64 0) 8 rfl Try.underlying22 infoI rfl (by decide) (by omega) v1 xs.reverse ys _ _ _ (fun _ => True) (fun _ => False) rfl rfl ?aO ?aR (fun _ _ h => h) (fun _ h => h.elim) (fun _ _ => trivial) ?aB ?aS ?aL ?_; (case aR => exact (Kd.R_reads' H2.out).2.2); (case aB => exact HB.out); (case aO => exact Kd.R_mono H1.out (fun _ _ => trivial)); (case aS => exact below_size HB.out); (case aL => have := HL1.out; have := HL2.out; rw [List.length_reverse]; omega); intro v3 w3 ho hb hg hat; have HO := Aside0.mk ho; have HB3 := Aside0.mk hb; clear ho hb hg hat))
    go_ret
    exact ⟨_, rfl, HO.out, HB3.out⟩

end Ytdjekgeoaekplaa.Ord

end Go.Proofs

/- Lean functions with the same answers as the Go functions that one law reaches, and for each a proof that its call comes to just these answers. No condition. Written by pr.py, a program of this session. -/
import Derived.Test.YtafkbhkikdndnaaPFnExactAllBlocksx0
import Derived.Test.YtafkbhkikdndnaaPFnExactAllBlocksx6
namespace Go.Proofs.Ytafkbhkikdndnaa.PFnExactAllBlocks
open Go.RowKit Go.Proofs.YtafkbhkikdndnaaW.PrintWords Go.Proofs.YtafkbhkikdndnaaW.PrintLast Go.Proofs.YtafkbhkikdndnaaW.PrintMore
attribute [local go_sem] max2_int min2_int max_two min_two max_three min_three max_four min_four   -- for this text's walks alone
set_option linter.unusedVariables false
set_option linter.unusedSimpArgs false

/-! ### laws_markHeap: function 32 (ours) -/
def laws_markHeap.f (k : Nat) (l0_0 : List S88) (l0_1 : List (List Bool)) (a1 : Int) : Option Int := (laws_markSegS.f k l0_0 a1).bind fun t => (laws_markBoolSS.f k l0_1 t.1).bind fun u => some u.1
theorem laws_markHeap.mono : ∀ a0 a1 a2 k, LeO (laws_markHeap.f k a0 a1 a2) (laws_markHeap.f (k + 1) a0 a1 a2) := by
  intro a0 a1 a2 k
  unfold laws_markHeap.f laws_markSegS.f laws_markBoolSS.f
  exact LeO.bind (laws_markSegS.mono_l k _ _ _) (fun _ => LeO.bind (laws_markBoolSS.mono_l k _ _ _) (fun _ => LeO.refl _))
/-- The blocks of a row of rows, as they stand in a world. -/
def laws_markHeap.In {α : Type} (d : Kd α) (e : Nat) (w : World) (base : Nat) (ok : Nat → Prop) (k : Nat) : Prop := ok k ∧ base ≤ k ∧ k < w.heap.size ∧ ∃ q, q ∈ e :: d.E ∧ ∃ cells, w.heap[k]? = some (.cells cells q (0, 0))
theorem laws_markHeap.In_not {α : Type} {d : Kd α} {e : Nat} {w : World} {base : Nat} {ok : Nat → Prop} {k q : Nat} {cells : Array Value} (h : laws_markHeap.In d e w base ok k) (hw : w.heap[k]? = some (.cells cells q (0, 0))) (hq : ∀ x, x ∈ e :: d.E → x ≠ q) : False := by
  obtain ⟨_, _, _, x, hx, c, hc⟩ := h
  rw [hw] at hc
  injection hc with hc
  injection hc with _ hc _
  exact hq x hx hc.symm
theorem laws_markHeap.keepR {W W2 : World} {base base0 : Nat} {ok P0 P1 : Nat → Prop} {v : Value} {xs : List Int} (h : Kd.R (Kd.int .i64) 3 W base ok v xs) (hk : Kept W W2 (fun k_ => laws_markHeap.In k88 88 W base0 P0 k_ ∨ laws_markHeap.In (Kd.slice 4 Kd.bool) 63 W base0 P1 k_)) (hne : ∀ k, P0 k → some k ≠ v.ownBlock) : Kd.R (Kd.int .i64) 3 W2 base ok v xs :=
  Kd.R_reok rfl (Kd.R_kept (Kd.R_tight rfl h) hk (fun k_ e_ h_ => by
    rcases h_ with h_ | h_
    · exact hne k_ h_.1 e_
    · obtain ⟨c, hc⟩ := Kd.R_typed h k_ e_.symm
      exact laws_markHeap.In_not h_ hc (by decide))) (fun k_ e_ => h.1 k_ e_)
theorem laws_markHeap.keepB {W W2 : World} {base0 g q : Nat} {P0 P1 : Nat → Prop} {c : Array Value} (h : W.heap[g]? = some (.cells c q (0, 0))) (hk : Kept W W2 (fun k_ => laws_markHeap.In k88 88 W base0 P0 k_ ∨ laws_markHeap.In (Kd.slice 4 Kd.bool) 63 W base0 P1 k_)) (h0 : ∀ x, x ∈ 88 :: (k88).E → x ≠ q) (h1 : ∀ x, x ∈ 63 :: (Kd.slice 4 Kd.bool).E → x ≠ q) : W2.heap[g]? = some (.cells c q (0, 0)) :=
  blk_kept h hk (fun h_ => by
    rcases h_ with h_ | h_
    · exact laws_markHeap.In_not h_ h h0
    · exact laws_markHeap.In_not h_ h h1)
set_option maxHeartbeats 8000000 in
set_option maxRecDepth 100000 in
theorem laws_markHeap.calls (k : Nat) (P0 P1 : Nat → Prop) (A0 : Option Addr) (c0 : Nat) (l0 : List S88) (A1 : Option Addr) (c1 : Nat) (l1 : List (List Bool)) (a1 r1 : Int) (w0 w : World) (hB : Below w0.heap.size w0 w) (h0 : Kd.S k88 88 w w0.heap.size P0 (.slice A0 l0.length c0) l0) (h1 : Kd.S (Kd.slice 4 Kd.bool) 63 w w0.heap.size P1 (.slice A1 l1.length c1) l1) (h : laws_markHeap.f k l0 l1 a1 = some r1) :
    Calls Try.prog 32 #[.agg #[.slice A0 l0.length c0, .slice A1 l1.length c1], .int .i64 a1] w fun e w' => e = .returned (.int .i64 r1) ∧ Below w0.heap.size w0 w' ∧ (∃ m0, Kd.S k88 88 w' w0.heap.size P0 (.slice A0 l0.length c0) m0) ∧ (∃ m1, Kd.S (Kd.slice 4 Kd.bool) 63 w' w0.heap.size P1 (.slice A1 l1.length c1) m1) ∧
      Kept w w' (fun k_ => laws_markHeap.In k88 88 w w0.heap.size P0 k_ ∨ laws_markHeap.In (Kd.slice 4 Kd.bool) 63 w w0.heap.size P1 k_) := by
  have hu30 := Try.underlying30
  unfold laws_markHeap.f at h
  obtain ⟨⟨t1, t2⟩, hA, h⟩ := Option.bind_eq_some_iff.mp h
  obtain ⟨⟨u1, u2⟩, hC, h⟩ := Option.bind_eq_some_iff.mp h
  obtain rfl := Option.some.inj h
  have A3 := Aside0.mk hA
  have A4 := Aside0.mk hC
  clear hA hC h
  have HS0 := Aside0.mk (show Kd.S k88 88 w w0.heap.size (laws_markHeap.In k88 88 w w0.heap.size P0) (.slice A0 l0.length c0) l0 from Kd.S_bound h0)
  have HS1 := Aside0.mk (show Kd.S (Kd.slice 4 Kd.bool) 63 w w0.heap.size (laws_markHeap.In (Kd.slice 4 Kd.bool) 63 w w0.heap.size P1) (.slice A1 l1.length c1) l1 from Kd.S_bound h1)
  have HB := Aside0.mk hB
  clear h0 h1 hB
  have HX := Aside0.mk (show ∀ k_, laws_markHeap.In k88 88 w w0.heap.size P0 k_ → ¬ laws_markHeap.In (Kd.slice 4 Kd.bool) 63 w w0.heap.size P1 k_ from fun k_ h1 h2 => by
    obtain ⟨_, _, _, x, hx, c, hc⟩ := h2
    exact laws_markHeap.In_not h1 hc (fun y hy e => by
      subst e
      exact absurd hx ((by decide : ∀ z, z ∈ 88 :: (k88).E → z ∉ 63 :: (Kd.slice 4 Kd.bool).E) y hy)))
  generalize l0.length = n0 at *
  generalize l1.length = n1 at *
  go_enter Try.func32, Try.ntmps32
  go_wp2_with (first
    | ((with_reducible refine gate_dst (N := 2) rfl ?_); refine box_event ?hg (N := 2) ?hd (cs := #[.slice A0 n0 c0, .slice A1 n1 c1]) (t := 30) ?hr ?_; (case hd => rfl); (case hg => rfl); (case hr => first | (go_simp; done) | (go_simp; rfl)); intro gb hg w5 hbox hb; have HS0' := Aside0.mk (Kd.S_below HS0.out hb); have HS1' := Aside0.mk (Kd.S_below HS1.out hb); have HB' := Aside0.mk (below_step HB.out hb); have BK := Aside0.mk hbox; have HG := Aside0.mk (show w.heap.size ≤ gb by rw [hg]; exact Nat.le_refl _); have HK := Aside0.mk (Kept.of_below hb (fun k_ => laws_markHeap.In k88 88 w w0.heap.size P0 k_ ∨ laws_markHeap.In (Kd.slice 4 Kd.bool) 63 w w0.heap.size P1 k_)); clear hb hbox hg; have hcz0 : w5.cell? ⟨gb, 0, none⟩ = some (.slice A0 n0 c0) := (blk_cell BK.out 0).trans rfl; have hcz1 : w5.cell? ⟨gb, 1, none⟩ = some (.slice A1 n1 c1) := (blk_cell BK.out 1).trans rfl)
    | (go_at_call 84; refine (laws_markSegS.calls k _ A0 n0 c0 l0 a1 t1 t2 w0 _ HB'.out HS0'.out A3.out).mono ?_; rintro e w7 ⟨rfl, hb, hs, hkp⟩; have HB7 := Aside0.mk hb; have HS07 := Aside0.mk hs; have HS17 := Aside0.mk (Kd.S_kept HS1'.out hkp (fun k_ h1_ h0_ => HX.out k_ h0_ h1_)); have BK7 := Aside0.mk (blk_kept BK.out hkp (fun hs_ => Nat.not_le.2 hs_.2.2.1 HG.out)); have HK7 := Aside0.mk (HK.out.then_ hkp (fun k_ h_ => .inl (.inl h_))); clear hb hs hkp; have hcz7 : w7.cell? ⟨gb, 1, none⟩ = some (.slice A1 n1 c1) := (blk_cell BK7.out 1).trans rfl)
    | (go_at_call 85; refine (laws_markBoolSS.calls k _ A1 n1 c1 l1 t1 u1 u2 w0 _ HB7.out HS17.out A4.out).mono ?_; rintro e w9 ⟨rfl, hb, hs, hkp⟩; have HB9 := Aside0.mk hb; have HS19 := Aside0.mk hs; have HS09 := Aside0.mk (Kd.S_kept HS07.out hkp (fun k_ h1_ h0_ => HX.out k_ h1_ h0_)); have HK9 := Aside0.mk (HK7.out.then_ hkp (fun k_ h_ => .inl (.inr h_))); clear hb hs hkp))
  go_ret
  exact ⟨rfl, HB9.out, ⟨_, Kd.S_mono HS09.out (fun _ h_ => h_.1)⟩, ⟨_, Kd.S_mono HS19.out (fun _ h_ => h_.1)⟩, HK9.out⟩

/-! ### laws_heldIntS: function 34 -/
def laws_heldIntS.l0 : Nat → List Int → Int → Int → Option (Int)
  | 0, _, _, _ => none
  | k + 1, x0, x1, x5 => if x5 < (x0.length : Int) then (if 0 ≤ x5 then (if (rd x0 x5) = x1 then (laws_heldIntS.l0 k x0 (wrap64 (x1 + 1)) (wrap64 (x5 + 1))) else (some (-1))) else (none)) else (some x1)
def laws_heldIntS.f (k : Nat) (l0 : List Int) (a1 : Int) : Option (Int) := laws_heldIntS.l0 k l0 a1 0
theorem laws_heldIntS.mono_l : ∀ k, (∀ y0 y1 y2, LeO (laws_heldIntS.l0 k y0 y1 y2) (laws_heldIntS.l0 (k + 1) y0 y1 y2))
  | 0 => fun _ _ _ r h => by simp [laws_heldIntS.l0] at h
  | k + 1 => by
    have ih0 := laws_heldIntS.mono_l k
    · intro y0 y1 y2
      unfold laws_heldIntS.l0
      repeat' first
      | (with_reducible exact ih0 _ _ _)
      | (with_reducible exact LeO.refl _)
      | (with_reducible exact LeO.none _)
      | (with_reducible refine LeO.ite ?_ ?_)
      | (with_reducible refine LeO.bind ?_ (fun _ => ?_))
      | exact ih0 _ _ _
      | exact LeO.none _
      | refine LeO.ite ?_ ?_
      | refine LeO.bind ?_ (fun _ => ?_)
theorem laws_heldIntS.mono : ∀ a0 a1 k, LeO (laws_heldIntS.f k a0 a1) (laws_heldIntS.f (k + 1) a0 a1) := by
  intro a0 a1 k
  have ih0 := laws_heldIntS.mono_l k
  unfold laws_heldIntS.f
  repeat' first
      | (with_reducible exact ih0 _ _ _)
      | (with_reducible exact LeO.refl _)
      | (with_reducible exact LeO.none _)
      | (with_reducible refine LeO.ite ?_ ?_)
      | (with_reducible refine LeO.bind ?_ (fun _ => ?_))
      | exact ih0 _ _ _
      | exact LeO.none _
      | refine LeO.ite ?_ ?_
      | refine LeO.bind ?_ (fun _ => ?_)
set_option maxHeartbeats 8000000 in
set_option maxRecDepth 100000 in
theorem laws_heldIntS.calls (k : Nat) (A0 : Option Addr) (c0 : Nat) (l0 : List Int) (a1 : Int) (r : Int) (w : World) (hr0 : Kd.C (Kd.int .i64) w A0 l0.length l0) (hc0 : l0.length ≤ c0) (h : laws_heldIntS.f k l0 a1 = some r) :
    Calls Try.prog 34 #[.slice A0 l0.length c0, .int .i64 a1] w fun e w' => e = .returned (.int .i64 r) ∧ Drawn0 w w' := by
  have HR0 := Aside0.mk hr0
  have HC0 := Aside0.mk hc0
  clear hr0 hc0
  have H : (laws_heldIntS.l0 k l0 a1 0) = some r := h
  clear h
  have H' := Aside0.mk H
  clear H
  go_enter Try.func34, Try.ntmps34
  go_wp2
  go_loopg [1, 5] k (fun kq v1 v5 w' => ∃ (x1_1 : Int) (x5_1 : Int), v1 = .int .i64 x1_1 ∧ v5 = .int .i64 x5_1 ∧ Aside0 (laws_heldIntS.l0 kq l0 x1_1 x5_1 = some r) ∧ Aside0 (kq ≤ k) ∧ Drawn0 w w')
  case atStart => exact ⟨(a1), (0), (by first | rfl | (simp; done) | (simp [*]; done)), (by first | rfl | (simp; done) | (simp [*]; done)), H', ⟨Nat.le_refl _⟩, by repeat (first | exact Drawn0.refl _ | apply Drawn0.step)⟩
  case round =>
    clear H'
    try clear p2
    obtain ⟨x1_1, x5_1, rfl, rfl, HA, HK1, ⟨m1, rfl⟩⟩ := hrel
    cases gk with
    | zero => exact absurd HA.out (by simp [laws_heldIntS.l0])
    | succ k1 =>
      have H := HA.out
      clear HA
      simp only [laws_heldIntS.l0] at H
      by_cases c3 : x5_1 < (l0.length : Int)
      · rw [if_pos c3] at H
        have c3b0 : decide (x5_1 < (l0.length : Int)) = true := decide_eq_true c3
        clear c3
        by_cases c4 : 0 ≤ x5_1
        · rw [if_pos c4] at H
          have c4b0 : decide (0 ≤ x5_1) = true := decide_eq_true c4
          clear c4
          by_cases c5 : (rd l0 x5_1) = x1_1
          · rw [if_pos c5] at H
            have c5b0 : ((rd l0 x5_1) == x1_1) = true := beq_iff_eq.mpr c5
            have c5b1 : ((rd l0 x5_1) != x1_1) = false := bne_eq_false_iff_eq.mpr c5
            clear c5
            have H' := Aside0.mk H
            clear H
            have p262 : 0 ≤ (x5_1 : Int) := of_decide_eq_true (by first | (with_reducible assumption) | assumption)
            have q262 : x5_1 < (l0.length : Int) := of_decide_eq_true (by first | (with_reducible assumption) | assumption)
            obtain ⟨ad262, e262, hx262_0⟩ := Kd.at_int HR0.out x5_1 p262 q262
            cases e262
            replace p262 := eq_true p262
            replace q262 := eq_true q262
            go_wp2
            go_roundg k1
            case measure => have := HK1.out; omega
            case rel => exact ⟨(wrap64 (x1_1 + 1)), (wrap64 (x5_1 + 1)), (by first | rfl | (simp; done) | (simp [*]; done)), (by first | rfl | (simp; done) | (simp [*]; done)), H', ⟨by have := HK1.out; omega⟩, by repeat (first | exact Drawn0.refl _ | apply Drawn0.step)⟩
          · rw [if_neg c5] at H
            have c5b0 : ((rd l0 x5_1) == x1_1) = false := beq_eq_false_iff_ne.mpr c5
            have c5b1 : ((rd l0 x5_1) != x1_1) = true := bne_iff_ne.mpr c5
            obtain rfl := Option.some.inj H
            have p262 : 0 ≤ (x5_1 : Int) := of_decide_eq_true (by first | (with_reducible assumption) | assumption)
            have q262 : x5_1 < (l0.length : Int) := of_decide_eq_true (by first | (with_reducible assumption) | assumption)
            obtain ⟨ad262, e262, hx262_0⟩ := Kd.at_int HR0.out x5_1 p262 q262
            cases e262
            replace p262 := eq_true p262
            replace q262 := eq_true q262
            go_wp2
            go_ret
            exact ⟨by first | rfl | (simp; done) | (simp [*]; done), by repeat (first | exact Drawn0.refl _ | apply Drawn0.step)⟩
        · rw [if_neg c4] at H
          exact absurd H (by simp)
      · rw [if_neg c3] at H
        have c3b0 : decide (x5_1 < (l0.length : Int)) = false := decide_eq_false c3
        clear c3
        obtain rfl := Option.some.inj H
        go_wp2
        go_ret
        exact ⟨by first | rfl | (simp; done) | (simp [*]; done), by repeat (first | exact Drawn0.refl _ | apply Drawn0.step)⟩

end Go.Proofs.Ytafkbhkikdndnaa.PFnExactAllBlocks

/- Contracts of Go's library at this program: the shelf's, applied to this program's own numbers. No condition. -/
import Derived.Test.YtdjekgeoaekplaaOrd
import Derived.Test.YtdjekgeoaekplaaProg
set_option linter.unusedVariables false
namespace Go.Proofs
open Go.Shelf
namespace Ytdjekgeoaekplaa.Near
open Go.RowKit Go.Maps Go.Sort Go.Shelf Go.Proofs.YtdjekgeoaekplaaW.PrintWords Go.Proofs.YtdjekgeoaekplaaW.PrintLast Go.Proofs.YtdjekgeoaekplaaW.PrintMore
open Ytdjekgeoaekplaa.Sort Ytdjekgeoaekplaa.Ord

def wayI (a b : Int) : Int := if a < b then b - a else a - b
theorem wayI_in (a b : Int) (ha : 0 ≤ a ∧ a ≤ 200) (hb : 0 ≤ b ∧ b ≤ 200) : 0 ≤ wayI a b ∧ wayI a b ≤ 200 := by unfold wayI; split <;> omega
section
attribute [local go_sem] max2_int min2_int max_two min_two
theorem apart_calls (a b : Int) (w : World) (ha : 0 ≤ a ∧ a ≤ 200) (hb : 0 ≤ b ∧ b ≤ 200) : Calls Try.prog 61 #[.int .i64 a, .int .i64 b] w fun e w' => e = .returned (.int .i64 (wayI a b)) ∧ w' = w := by
  obtain ⟨a0, a1⟩ := ha
  obtain ⟨b0, b1⟩ := hb
  have e1 : IntKind.i64.wrap (a - b) = a - b := by rw [i64_w]; unfold wrap64; omega
  have e2 : IntKind.i64.wrap (b - a) = b - a := by rw [i64_w]; unfold wrap64; omega
  have E1 := Aside0.mk e1
  have E2 := Aside0.mk e2
  clear e1 e2
  by_cases h : a < b
  · have hd : a - b < b - a := by omega
    go_enter Try.func61, Try.ntmps61
    go_wp2
    go_ret
    exact ⟨by unfold wayI; rw [if_pos h]; rfl, rfl⟩
  · have hd : ¬ (a - b < b - a) := by omega
    go_enter Try.func61, Try.ntmps61
    go_wp2
    go_ret
    exact ⟨by unfold wayI; rw [if_neg (by omega)]; rfl, rfl⟩
end
/-- slices.Delete of one element, at a row of the call's own. -/
theorem delete_calls {base : Nat} {ok : Nat → Prop} (v : Value) (xs : List Int) (W : World) (h : Kd.R (Kd.int .i64) 3 W base ok v xs) (i : Nat) (hi : i < xs.length) :
    Calls Try.prog 62 #[v, .int .i64 (i : Int), .int .i64 ((i : Int) + 1)] W fun e w' => ∃ v', e = .returned v' ∧ Kd.R (Kd.int .i64) 3 w' base ok v' (xs.eraseIdx i) ∧ W.grownBy w' v.ownBlock ∧ v'.ownBlock = v.ownBlock := by
  have hok := h.1
  have ho := Kd.own_of_R (enc := Value.int .i64) (h1 := fun _ => rfl) h
  obtain ⟨i0, hi0, hz0, hz1, hz2⟩ := info_parts infoI
  rcases ho.2 with ⟨rfl, hz⟩ | ⟨gb, cp, cur, rfl, hbase, hgb, r1, r2, r3, r4⟩
  · omega
  · have hH : Holds (Value.int .i64) W gb 0 xs.toArray := holds_of_block_i (ss := xs) hgb (by simpa [encs, encZ] using r4)
    have hmax : cp ≤ 9223372036854775807 := by simp only [maxLen] at r2; exact r2
    have hc := AnyE.slices_Delete Try.delL (Value.int .i64) (fun _ => rfl) 0 Try.zeroValue3 i0 hi0 hz1 gb 0 cp i (i + 1) xs.toArray W hH (by simpa using r1) hmax (by omega) (by simp; omega)
    have e3 : ((i + 1 : Nat) : Int) = (i : Int) + 1 := by omega
    rw [e3] at hc
    simp only [List.size_toArray] at hc
    refine hc.mono ?_
    rintro e w' ⟨rfl, nn, rfl⟩
    have hts : (xs.take i ++ xs.drop (i + 1) ++ List.replicate (i + 1 - i) 0).length = xs.length := by simp; omega
    have h1 := ownsRow_sorted_i (n := nn) (os := #[]) (ts := xs.take i ++ xs.drop (i + 1) ++ List.replicate (i + 1 - i) 0) (ss := xs) hts hbase hgb r1 r2 r3
    have h2 := grownBy_sorted_i (w := W) (g := gb) (n := nn) (os := #[]) (xs.take i ++ xs.drop (i + 1) ++ List.replicate (i + 1 - i) 0).toArray
    rw [grow_empty] at h1 h2
    have hel : (xs.eraseIdx i).length = xs.length - 1 := List.length_eraseIdx_of_lt hi
    have hee : xs.take i ++ xs.drop (i + 1) = xs.eraseIdx i := (List.eraseIdx_eq_take_drop_succ xs i).symm
    refine ⟨_, rfl, Kd.R_of_own (enc := Value.int .i64) (h1 := fun _ => rfl) ?_ hok, h2, rfl⟩
    rcases h1.2 with ⟨h3, _⟩ | ⟨g3, c3, cur3, h3, hb3, hg3, s1, s2, s3, s4⟩
    · cases h3
    · obtain ⟨rfl, rfl⟩ : g3 = gb ∧ c3 = cp := by injection h3 with q1 q2 q3; injection q1 with q1; injection q1 with q1; exact ⟨q1.symm, q3.symm⟩
      rw [hel]
      refine ⟨by simp [encs, hel], .inr ⟨g3, c3, cur3, by rw [show i + 1 - i = 1 by omega], hb3, hg3, by omega, s2, s3, ?_⟩⟩
      have s5 : (cur3.toList.take (xs.length * 1)).take ((xs.length - 1) * 1) = ((xs.take i ++ xs.drop (i + 1) ++ List.replicate (i + 1 - i) 0).map encZ).take ((xs.length - 1) * 1) := by rw [s4]
      rw [List.take_take, show min ((xs.length - 1) * 1) (xs.length * 1) = (xs.length - 1) * 1 by omega] at s5
      rw [s5, hee, ← List.map_take]
      unfold encs encZ
      congr 1
      rw [List.take_append_of_le_length (by rw [hel]; omega), List.take_of_length_le (by rw [hel]; omega)]

def nearI (s : Int) (L : List Int) : Nat → Nat
  | 0 => 0
  | i + 1 => if wayI s (L.getD i 0) < wayI s (L.getD (nearI s L i) 0) then i else nearI s L i
theorem nearI_lt (s : Int) (L : List Int) (h : 0 < L.length) : ∀ i, i ≤ L.length → nearI s L i < L.length
  | 0, _ => h
  | i + 1, hi => by
    have := nearI_lt s L h i (by omega)
    unfold nearI
    split <;> omega
def greedyI : Nat → Int → List Int → List Int
  | 0, _, _ => []
  | n + 1, s, L => L.getD (nearI s L L.length) 0 :: greedyI n (L.getD (nearI s L L.length) 0) (L.eraseIdx (nearI s L L.length))

set_option maxHeartbeats 4000000 in
set_option maxRecDepth 100000 in
/-- impl.NearestOrder at good asks. -/
theorem nearest_calls (a0 : Int) (A : Option Addr) (c : Nat) (l : List Int) (w : World) (hr : Kd.C (Kd.int .i64) w A l.length l) (hs : 0 ≤ a0 ∧ a0 ≤ 200) (hl : l.length ≤ 8) (hb : ∀ x ∈ l, 0 ≤ x ∧ x ≤ 200)
    (hca : Calls Try.prog 42 #[.int .i64 a0, .slice A l.length c] w fun e w' => e = .returned (.bool true) ∧ Below w.heap.size w w') :
    Calls Try.prog 36 #[.int .i64 a0, .slice A l.length c] w fun e w' => ∃ v, e = .returned (.tuple #[v, .bool true]) ∧ Kd.R (Kd.int .i64) 3 w' w.heap.size (fun _ => True) v (greedyI l.length a0 (sortI l)) ∧ Below w.heap.size w w' := by
  have hcs : ∀ W Bs, Below w.heap.size w W → W.cell? ⟨Bs, 0, none⟩ = some (.slice A l.length c) → Bs < W.heap.size → Calls Try.prog 59 #[.func (.func 77) #[] #[.pointer (some ⟨Bs, 0, none⟩)]] W fun e w' =>
      ∃ v, e = .returned v ∧ (Kd.int .i64).R 3 w' W.heap.size (fun _ => True) v (sortI l) ∧ Below W.heap.size W w' := fun W Bs hW hc hlt => sorted_calls Bs c A l W hlt hc (Kd.C_below hr hW) (by omega)
  have hsb : ∀ x ∈ sortI l, 0 ≤ x ∧ x ≤ 200 := fun x hx => hb x ((List.mergeSort_perm l _).mem_iff.1 hx)
  have hsl := sort_len l
  have HCS := Aside0.mk hcs
  have HCA := Aside0.mk hca
  have HSB := Aside0.mk hsb
  clear hcs hca hsb hr hb
  generalize sortI l = srt at *
  generalize l.length = n0 at *
  obtain ⟨RES, hRES⟩ : ∃ RES, RES = greedyI n0 a0 srt := ⟨_, rfl⟩
  rw [← hRES]
  have HRES := Aside0.mk hRES
  have HS := Aside0.mk hs
  have HSL := Aside0.mk hsl
  clear hRES hs hsl
  go_enter Try.func36, Try.ntmps36
  go_wp2_with (first | (go_at_call 42; refine HCA.out.mono ?_; rintro e w1 ⟨rfl, hb1⟩; have HB1 := Aside0.mk hb1; clear hb1) | (go_at_call 60; refine (values_calls A n0 c _).mono ?_; rintro e w' ⟨rfl, rfl⟩) | (go_at_call 59; refine (HCS.out _ _ (HB1.out.alloc HB1.out.size _) (by simp) (by simp)).mono ?_; rintro e w2 ⟨v, rfl, ho, hb2⟩; have HB := Aside0.mk ((HB1.out.alloc HB1.out.size _).trans (hb2.mono (by have := HB1.out.size; simp; omega))); have HO := Aside0.mk (Kd.R_lower ho (show w.heap.size ≤ _ by have := HB1.out.size; simp; omega)); clear ho hb2))
  go_loopg [0, 6, 7] n0 (fun gk v0 v6 v7 wr => ∃ (s : Int) (L out : List Int), L.length = gk ∧ v0 = .int .i64 s ∧ Aside0 (0 ≤ s ∧ s ≤ 200) ∧ Aside0 (∀ x ∈ L, 0 ≤ x ∧ x ≤ 200) ∧ Aside0 (out ++ greedyI gk s L = RES) ∧ Aside0 (gk + out.length ≤ 8) ∧ Aside0 (Kd.R (Kd.int .i64) 3 wr w.heap.size (fun k_ => some k_ ≠ (v7 : Value).ownBlock) v6 L) ∧ Aside0 (Kd.R (Kd.int .i64) 3 wr w.heap.size (fun k_ => some k_ ≠ (v6 : Value).ownBlock) v7 out) ∧ Aside0 (Below w.heap.size w wr))
  case atStart => exact ⟨a0, srt, [], HSL.out, rfl, HS, HSB, ⟨by rw [HRES.out]; rfl⟩, ⟨by simp; omega⟩, ⟨Kd.R_mono HO.out (fun _ _ => by simp [Value.ownBlock])⟩, ⟨Kd.R_nil _ _ _ _ _⟩, HB⟩
  case round =>
    obtain ⟨s, L, out, hgk, rfl, HS1, HL1, HG, HN, H6, H7, HB⟩ := hrel
    obtain ⟨A6, c6, e6⟩ := Kd.R_slice H6.out
    rw [hgk] at e6
    subst e6
    cases gk with
    | zero =>
      have hd : decide ((0 : Int) < ((0 : Nat) : Int)) = false := rfl
      have hz : L = [] := List.eq_nil_of_length_eq_zero hgk
      have hfin : out = RES := by
        have := HG.out
        rw [hz] at this
        simpa [greedyI] using this
      have HF := Aside0.mk hfin
      clear hfin hz
      go_wp2
      go_ret2
      exact ⟨_, rfl, by rw [← HF.out]; exact Kd.R_mono H7.out (fun _ _ => trivial), HB.out⟩
    | succ g1 =>
      have hd : decide ((0 : Int) < ((g1 + 1 : Nat) : Int)) = true := decide_eq_true (by omega)
      have HGK := Aside0.mk hgk
      have hg8 : g1 ≤ 8 := by have := HN.out; omega
      obtain ⟨ad, e1, _⟩ := Kd.at_int (Kd.R_reads' H6.out).2.2 0 (by omega) (by omega)
      subst e1
      have hrd : ∀ W : World, Kd.R (Kd.int .i64) 3 W w.heap.size (fun k_ => some k_ ≠ (u7 : Value).ownBlock) (.slice (some ad) (g1 + 1) c6) L → ∀ i : Nat, i < g1 + 1 → W.cell? (ad.add i) = some (.int .i64 (L.getD i 0)) := fun W hW i hi => by
        obtain ⟨ad', e2, hc⟩ := Kd.at_int (Kd.R_reads' hW).2.2 (i : Int) (by omega) (by omega)
        cases e2
        simpa [YtdjekgeoaekplaaW.PrintWords.rd] using hc
      have HRD := Aside0.mk hrd
      clear hrd hgk
      go_wp2
      go_loopg [8, 23] (g1 + 1) (fun gk2 v8 v23 wr2 => ∃ (i : Nat), i + gk2 = g1 + 1 ∧ v23 = .int .i64 i ∧ v8 = .int .i64 (nearI s L i : Nat) ∧ Aside0 (Kd.R (Kd.int .i64) 3 wr2 w.heap.size (fun k_ => some k_ ≠ (u7 : Value).ownBlock) (.slice (some ad) (g1 + 1) c6) L) ∧ Aside0 (Kd.R (Kd.int .i64) 3 wr2 w.heap.size (fun k_ => some k_ ≠ ((.slice (some ad) (g1 + 1) c6) : Value).ownBlock) u7 out) ∧ Aside0 (Below w.heap.size w wr2))
      case atStart => exact ⟨0, by omega, rfl, rfl, H6, H7, HB⟩
      case round =>
        obtain ⟨i, hi, rfl, rfl, H6, H7, HB⟩ := hrel
        have hbl : nearI s L i < g1 + 1 := by
          have := nearI_lt s L (by have := HGK.out; omega) i (by have := HGK.out; omega)
          have := HGK.out
          omega
        by_cases hlt : i < g1 + 1
        · have hlt' : decide ((i : Int) < ((g1 + 1 : Nat) : Int)) = true := decide_eq_true (by omega)
          have hx : wr.cell? (ad.add i) = some (.int .i64 (L.getD i 0)) := HRD.out _ H6.out i hlt
          have hy : wr.cell? (ad.add (nearI s L i)) = some (.int .i64 (L.getD (nearI s L i) 0)) := HRD.out _ H6.out (nearI s L i) hbl
          have hxb : 0 ≤ L.getD i 0 ∧ L.getD i 0 ≤ 200 := HL1.out _ (by
            rw [List.getD_eq_getElem?_getD, List.getElem?_eq_getElem (by have := HGK.out; omega)]
            exact List.getElem_mem _)
          have hyb : 0 ≤ L.getD (nearI s L i) 0 ∧ L.getD (nearI s L i) 0 ≤ 200 := HL1.out _ (by
            rw [List.getD_eq_getElem?_getD, List.getElem?_eq_getElem (by have := HGK.out; omega)]
            exact List.getElem_mem _)
          have hstep : nearI s L (i + 1) = if wayI s (L.getD i 0) < wayI s (L.getD (nearI s L i) 0) then i else nearI s L i := rfl
          have HST := Aside0.mk hstep
          have HXB := Aside0.mk hxb
          have HYB := Aside0.mk hyb
          clear hstep hxb hyb
          generalize nearI s L i = b at *
          generalize L.getD i 0 = x at *
          generalize L.getD b 0 = y at *
          by_cases hc : wayI s x < wayI s y
          · have hc' : decide (wayI s x < wayI s y) = true := decide_eq_true hc
            have hnb : nearI s L (i + 1) = i := by have := HST.out; rw [if_pos hc] at this; exact this
            have HNB := Aside0.mk hnb
            have hgk2 : gk = (g1 + 1 - (i + 1)) + 1 := by omega
            have HGK2 := Aside0.mk hgk2
            have HI := Aside0.mk hi
            clear hc hnb hgk2 hi
            go_wp2
            go_quiet ((go_at_call 61; exact Calls.quiet_of_same (apart_calls _ _ _ (by exact HS1.out) (by first | exact HXB.out | exact HYB.out))))
            go_wp2
            go_roundg (g1 + 1 - (i + 1))
            case measure => have := HGK2.out; omega
            case rel => exact ⟨i + 1, by have := HI.out; omega, by go_num, by rw [HNB.out], ⟨Kd.R_drewN H6.out _⟩, ⟨Kd.R_drewN H7.out _⟩, ⟨pw_below_drewN HB.out _⟩⟩
          · have hc' : decide (wayI s x < wayI s y) = false := decide_eq_false hc
            have hnb : nearI s L (i + 1) = b := by have := HST.out; rw [if_neg hc] at this; exact this
            have HNB := Aside0.mk hnb
            have hgk2 : gk = (g1 + 1 - (i + 1)) + 1 := by omega
            have HGK2 := Aside0.mk hgk2
            have HI := Aside0.mk hi
            clear hc hnb hgk2 hi
            go_wp2
            go_quiet ((go_at_call 61; exact Calls.quiet_of_same (apart_calls _ _ _ (by exact HS1.out) (by first | exact HXB.out | exact HYB.out))))
            go_wp2
            go_roundg (g1 + 1 - (i + 1))
            case measure => have := HGK2.out; omega
            case rel => exact ⟨i + 1, by have := HI.out; omega, by go_num, by rw [HNB.out], ⟨Kd.R_drewN H6.out _⟩, ⟨Kd.R_drewN H7.out _⟩, ⟨pw_below_drewN HB.out _⟩⟩
        · have hlt' : decide ((i : Int) < ((g1 + 1 : Nat) : Int)) = false := decide_eq_false (by omega)
          obtain rfl : i = g1 + 1 := by omega
          have hx := HRD.out _ H6.out (nearI s L (g1 + 1)) hbl
          have hxb : 0 ≤ L.getD (nearI s L (g1 + 1)) 0 ∧ L.getD (nearI s L (g1 + 1)) 0 ≤ 200 := HL1.out _ (by
            rw [List.getD_eq_getElem?_getD, List.getElem?_eq_getElem (by have := HGK.out; omega)]
            exact List.getElem_mem _)
          have hgr : (out ++ [L.getD (nearI s L (g1 + 1)) 0]) ++ greedyI g1 (L.getD (nearI s L (g1 + 1)) 0) (L.eraseIdx (nearI s L (g1 + 1))) = RES := by
            have h1 := HG.out
            rw [show greedyI (g1 + 1) s L = L.getD (nearI s L L.length) 0 :: greedyI g1 (L.getD (nearI s L L.length) 0) (L.eraseIdx (nearI s L L.length)) from rfl, HGK.out] at h1
            rw [← h1]
            simp
          have hel : (L.eraseIdx (nearI s L (g1 + 1))).length = g1 := by
            rw [List.length_eraseIdx_of_lt (by rw [HGK.out]; exact hbl), HGK.out]
            omega
          have hmem : ∀ y ∈ L.eraseIdx (nearI s L (g1 + 1)), 0 ≤ y ∧ y ≤ 200 := fun y hy => HL1.out y (List.mem_of_mem_eraseIdx hy)
          have HXB := Aside0.mk hxb
          have HGR := Aside0.mk hgr
          have HEL := Aside0.mk hel
          have HME := Aside0.mk hmem
          have hlo : out.length ≤ 8 := by have := HN.out; omega
          have HLO := Aside0.mk hlo
          have hgk0 : gk = 0 := by omega
          have HBL := Aside0.mk hbl
          clear hxb hgr hel hmem hlo
          generalize nearI s L (g1 + 1) = b at *
          generalize L.getD b 0 = x at *
          obtain ⟨ys, hys⟩ : ∃ ys, ys = out ++ [x] := ⟨_, rfl⟩
          have HY := Aside0.mk hys
          clear hys
          go_wp2_with (first | ((with_reducible refine gate_builtin (b := .append) (xs := #[.tmp 44, .tmp 46]) rfl ?_); at_builtin; refine Kd.R_append (Kd.int .i64) (w0 := w) w.heap.size rfl (.tmp 44) (.tmp 46) 22 3 (.int .i64 0) 8 rfl Try.underlying22 infoI rfl (by decide) (by omega) u7 out x [.int .i64 x] (fun k_ => some k_ ≠ (.slice (some ad) (g1 + 1) c6 : Value).ownBlock) (fun _ => False) rfl rfl ?aP (fun _ hk => hk.elim) ?aF ?aO ?aB ?aS ?aL ?_; (case aP => exact rfl); (case aB => exact HB.out); (case aF => exact (fun k_ hk => Kd.fresh' (Kd.R_lt H6.out) k_ hk)); (case aO => exact H7.out); (case aS => exact below_size HB.out); (case aL => have := HLO.out; omega); intro v284 w13 ho hb hg hat; rw [← HY.out] at ho; have n0_ := Aside0.mk (Kd.R_after (ok := (fun _ => True)) (Kd.R_mono H6.out (fun _ hk => ⟨trivial, hk⟩)) hg hat); have n2_ := Aside0.mk hb; have n3_ := Aside0.mk ho; clear H6 H7 HB; have H6 := n0_; have HB := n2_; have H7 := n3_; clear n0_ n2_ n3_; clear ho hb hg hat) | (go_at_call 62; refine (delete_calls _ L _ H6.out b (by rw [HGK.out]; exact HBL.out)).mono ?_; rintro e w14 ⟨v', rfl, h1, hg, hob⟩; have n7 := Aside0.mk (Kd.R_grown H7.out hg (fun k hk => hk)); have n6 := Aside0.mk h1; have nB := Aside0.mk (HB.out.grown hg HB.out.size (fun k hk => Kd.R_base h1 k (hob.trans hk))); have HOB := Aside0.mk hob; clear H6 H7 HB h1 hg hob; have H6 := n6; have H7 := n7; have HB := nB; clear n6 n7 nB))
          go_roundg g1
          case measure => omega
          case rel => exact ⟨x, L.eraseIdx b, ys, HEL.out, rfl, HXB, HME, ⟨by rw [HY.out]; exact HGR.out⟩, ⟨by rw [HY.out]; have := HN.out; simp; omega⟩, ⟨Kd.R_mono H6.out (fun _ hk => hk.2)⟩, ⟨Kd.R_mono H7.out (fun _ hk => by rw [HOB.out]; exact hk)⟩, HB⟩
end Ytdjekgeoaekplaa.Near

end Go.Proofs

/- Lean functions with the same answers as the Go functions that one law reaches, and for each a proof that its call comes to just these answers. No condition. Written by pr.py, a program of this session. -/
import Derived.Test.YtknngaomlfdhiaaPFnExactUnlikeBitsx0
namespace Go.Proofs.Ytknngaomlfdhiaa.PFnExactUnlikeBits
open Go.RowKit Go.Proofs.YtknngaomlfdhiaaW.PrintWords Go.Proofs.YtknngaomlfdhiaaW.PrintLast Go.Proofs.YtknngaomlfdhiaaW.PrintMore
attribute [local go_sem] max2_int min2_int max_two min_two max_three min_three max_four min_four   -- for this text's walks alone
set_option linter.unusedVariables false
set_option linter.unusedSimpArgs false

/-! ### spec_UnlikeBits: function 14 (ours) -/
theorem bt_cell (w : World) (e : TypeId) (s : ByteArray) (j : Nat) (hj : j < s.size) : (Lib.bytesWorld w e s).cell? ⟨w.heap.size, j, none⟩ = some (.int .u8 (bt s j)) := by
  rw [Lib.bytesWorld_cell w e s j hj]
  unfold bt
  rw [dif_pos (by simpa using hj)]
  congr 2
  simp [List.getD, hj]
  rfl
theorem bt_below (w : World) (e : TypeId) (s : ByteArray) : Below w.heap.size w (Lib.bytesWorld w e s) := by
  refine ⟨rfl, rfl, rfl, ?_, fun j hj => Lib.bytesWorld_at_old w e s j hj⟩
  rw [Lib.bytesWorld_size]; omega
theorem bt_frozen (w : World) (e : TypeId) (s : ByteArray) (j : Nat) (hj : j < s.size) : (Lib.bytesWorld w e s).frozen? ⟨w.heap.size, j, none⟩ = false := by
  have h1 : s.size ≤ (Lib.bytesCells w e s).size := by
    unfold Lib.bytesCells
    rw [Array.size_append, Array.size_map]
    exact Nat.le_add_right _ _
  unfold World.frozen?
  rw [Lib.bytesWorld_at_new]
  simp
  omega
def xorB (a b : ByteArray) (i : Nat) : Int := Go.bits .xor .u8 (bt a i) (bt b i)
def unlikeL (a b : ByteArray) (n : Nat) : List Int := (List.range n).map (xorB a b)
set_option maxHeartbeats 4000000 in
set_option maxRecDepth 100000 in
theorem spec_UnlikeBits.walk (a0 a1 : ByteArray) (w : World) (hs : a1.size = a0.size) (h4 : a0.size ≤ 400) :
    Calls Try.prog 14 #[.string a0, .string a1] w fun e w' => e = .returned (.tuple #[.string (strOfNums (unlikeL a0 a1 a0.size)), .bool true]) ∧ Below w.heap.size w w' := by
  have h1 : ((a0.size : Int) == (a1.size : Int)) = true := beq_iff_eq.mpr (by omega)
  have h2 : ((a0.size : Int) != (a1.size : Int)) = false := bne_eq_false_iff_eq.mpr (by omega)
  have h3 : decide ((a0.size : Int) > 400) = false := decide_eq_false (by omega)
  have h5 : decide ((400 : Int) < (a0.size : Int)) = false := decide_eq_false (by omega)
  have kc := fun (w : World) => Lib.run_convert_string_bytes (P := Try.prog) w 9 57 5 a0 Try.underlying9 Try.underlying57 Try.underlying5
  go_enter Try.func14, Try.ntmps14
  go_wp2
  clear kc
  have HB0 := Aside0.mk (bt_below w 5 a0)
  have HC0 := Aside0.mk (fun (j : Nat) (hj : j < a0.size) => bt_cell w 5 a0 j hj)
  have HF0 := Aside0.mk (fun (j : Nat) (hj : j < a0.size) => bt_frozen w 5 a0 j hj)
  generalize Lib.bytesWorld w 5 a0 = W at *
  generalize grownCap w a0.size 0 5 = cp
  have HSZ := Aside0.mk (show a1.size = a0.size by omega)
  have hn4 : a0.size ≤ 400 := by omega
  clear h1 h2 h3 h5 hs h4
  go_loopg [7, 22] a0.size (fun gk s7 s22 wr => ∃ i : Nat, i + gk = a0.size ∧ s22 = .int .i64 i ∧ Aside0 (∀ j, j < a0.size → wr.cell? ⟨w.heap.size, j, none⟩ = some (.int .u8 (if j < i then xorB a0 a1 j else bt a0 j))) ∧ Aside0 (∀ j, j < a0.size → wr.frozen? ⟨w.heap.size, j, none⟩ = false) ∧ Aside0 (Below w.heap.size w wr))
  case atStart => exact ⟨0, by omega, rfl, ⟨fun j hj => by rw [HC0.out j hj, if_neg (Nat.not_lt_zero _)]⟩, HF0, HB0⟩
  case round =>
    obtain ⟨i, hi, rfl, HC, HF, HB⟩ := hrel
    by_cases hlt : i < a0.size
    · have hlt' : decide ((i : Int) < (a0.size : Int)) = true := decide_eq_true (by omega)
      have hc : wr.cell? ⟨w.heap.size, i, none⟩ = some (.int .u8 (bt a0 i)) := by rw [HC.out i hlt, if_neg (Nat.lt_irrefl _)]
      have hf : wr.frozen? ⟨w.heap.size, i, none⟩ = false := HF.out i hlt
      have hbt : ∀ h : i < a1.size, ((a1[i]'h).toNat : Int) = bt a1 (i : Int) := fun h => bt_at a1 (i : Int) (by simpa using h)
      have hsz : (i : Int) < (a1.size : Int) := by rw [HSZ.out]; omega
      have hsz2 : i < a1.size := by rw [HSZ.out]; omega
      have hgk : gk = (a0.size - (i + 1)) + 1 := by omega
      have HGK := Aside0.mk hgk
      have HI := Aside0.mk hi
      clear hgk hi
      go_wp2
      go_region
      all_goals
        go_wp2
        go_roundg (a0.size - (i + 1))
        case measure => have := HGK.out; omega
        case rel =>
          refine ⟨i + 1, by have := HI.out; omega, by go_num, ⟨fun j hj => ?_⟩, ⟨fun j hj => ?_⟩, ⟨?_⟩⟩
          · show (wr.setCell ⟨w.heap.size, i, none⟩ (.int .u8 (xorB a0 a1 i))).cell? ⟨w.heap.size, j, none⟩ = _
            by_cases hji : j = i
            · subst hji
              rw [if_pos (Nat.lt_succ_self _)]
              exact World.cell?_setCell_same _ _ _ hc
            · have h := HC.out j hj
              rw [show (if j < i + 1 then xorB a0 a1 j else bt a0 j) = (if j < i then xorB a0 a1 j else bt a0 j) by
                by_cases hl : j < i
                · rw [if_pos hl, if_pos (by omega)]
                · rw [if_neg hl, if_neg (by omega)]]
              rw [← h]
              exact World.cell?_setCell_other wr ⟨w.heap.size, i, none⟩ ⟨w.heap.size, j, none⟩ _ (fun e => hji (Eq.symm (congrArg Addr.off e)))
          · show (wr.setCell ⟨w.heap.size, i, none⟩ (.int .u8 (xorB a0 a1 i))).frozen? ⟨w.heap.size, j, none⟩ = false
            rw [World.frozen?_setCell]
            exact HF.out j hj
          · exact below_drew (below_set HB.out (Nat.le_refl _))
    · have hlt' : decide ((i : Int) < (a0.size : Int)) = false := decide_eq_false (by omega)
      obtain rfl : gk = 0 := by omega
      have hin : i = a0.size := by omega
      have hC : Kd.C (Kd.int .u8) wr (some ⟨w.heap.size, 0, none⟩) a0.size (unlikeL a0 a1 a0.size) := ⟨by simp [unlikeL], by omega, fun _ => ⟨_, rfl, fun j x hj => ⟨[.int .u8 x], rfl, rfl, fun q u hq => by
        match q, hq with
        | 0, hq =>
          obtain rfl : Value.int .u8 x = u := by simpa using hq
          have hj2 : j < a0.size := by
            have := (List.getElem?_eq_some_iff.1 hj).1
            simpa [unlikeL] using this
          rw [show ((⟨w.heap.size, 0, none⟩ : Addr).add (j * (Kd.int .u8).sz + 0)) = ⟨w.heap.size, j, none⟩ by rw [Addr.add_lit, Nat.zero_add]; show (⟨w.heap.size, j * 1 + 0, none⟩ : Addr) = _; simp]
          rw [HC.out j hj2, if_pos (by omega)]
          unfold unlikeL at hj
          rw [List.getElem?_map, List.getElem?_range hj2] at hj
          have := Option.some.inj hj
          rw [← this]
        | q + 1, hq => simp at hq⟩⟩⟩
      have kd := fun c => Kd.C_string (c := c) (P := Try.prog) Try.underlying57 Try.underlying5 Try.underlying9 hC
      clear hC
      go_wp2
      go_ret2
      exact ⟨rfl, HB.out⟩
def spec_UnlikeBits.f (a0 a1 : ByteArray) : Option (ByteArray × Bool) := if a1.size = a0.size then (if a0.size ≤ 400 then some (strOfNums (unlikeL a0 a1 a0.size), true) else some (⟨#[]⟩, false)) else some (⟨#[]⟩, false)
set_option maxHeartbeats 4000000 in
set_option maxRecDepth 100000 in
theorem spec_UnlikeBits.calls (a0 : ByteArray) (a1 : ByteArray) (r1 : ByteArray) (r2 : Bool) (w : World) (h : spec_UnlikeBits.f a0 a1 = some (r1, r2)) :
    Calls Try.prog 14 #[.string a0, .string a1] w fun e w' => e = .returned (.tuple #[.string r1, .bool r2]) ∧ Below w.heap.size w w' := by
  unfold spec_UnlikeBits.f at h
  by_cases h1 : a1.size = a0.size
  · rw [if_pos h1] at h
    by_cases h2 : a0.size ≤ 400
    · rw [if_pos h2] at h
      obtain ⟨rfl, rfl⟩ := Prod.mk.inj (Option.some.inj h)
      exact spec_UnlikeBits.walk a0 a1 w h1 h2
    · rw [if_neg h2] at h
      obtain ⟨rfl, rfl⟩ := Prod.mk.inj (Option.some.inj h)
      have h3 : ((a0.size : Int) == (a1.size : Int)) = true := beq_iff_eq.mpr (by omega)
      have h4 : ((a0.size : Int) != (a1.size : Int)) = false := bne_eq_false_iff_eq.mpr (by omega)
      have h5 : decide ((400 : Int) < (a0.size : Int)) = true := decide_eq_true (by omega)
      have h6 : (400 : Int) < (a0.size : Int) := by omega
      clear h
      go_enter Try.func14, Try.ntmps14
      go_wp2
      all_goals first
        | (go_ret2; exact ⟨rfl, Below.refl _ _⟩)
        | omega
  · rw [if_neg h1] at h
    obtain ⟨rfl, rfl⟩ := Prod.mk.inj (Option.some.inj h)
    have h3 : ((a0.size : Int) == (a1.size : Int)) = false := beq_eq_false_iff_ne.mpr (by omega)
    have h4 : ((a0.size : Int) != (a1.size : Int)) = true := bne_iff_ne.mpr (by omega)
    have h5 : ¬ (a0.size : Int) = (a1.size : Int) := by omega
    have h6 : ¬ a0.size = a1.size := by omega
    clear h h1
    go_enter Try.func14, Try.ntmps14
    go_wp2
    all_goals first
      | (go_ret2; exact ⟨rfl, Below.refl _ _⟩)
      | omega

/-! ### impl_UnlikeBits: function 15 (ours) -/
set_option maxHeartbeats 4000000 in
set_option maxRecDepth 100000 in
theorem impl_UnlikeBits.walk (a0 a1 : ByteArray) (w : World) (hs : a1.size = a0.size) (h4 : a0.size ≤ 400) :
    Calls Try.prog 15 #[.string a0, .string a1] w fun e w' => e = .returned (.tuple #[.string (strOfNums (unlikeL a0 a1 a0.size)), .bool true]) ∧ Below w.heap.size w w' := by
  have h1 : ((a0.size : Int) == (a1.size : Int)) = true := beq_iff_eq.mpr (by omega)
  have h2 : ((a0.size : Int) != (a1.size : Int)) = false := bne_eq_false_iff_eq.mpr (by omega)
  have h3 : decide ((a0.size : Int) > 400) = false := decide_eq_false (by omega)
  have h5 : decide ((400 : Int) < (a0.size : Int)) = false := decide_eq_false (by omega)
  have kc := fun (w : World) => Lib.run_convert_string_bytes (P := Try.prog) w 9 57 5 a0 Try.underlying9 Try.underlying57 Try.underlying5
  go_enter Try.func15, Try.ntmps15
  go_wp2
  clear kc
  have HB0 := Aside0.mk (bt_below w 5 a0)
  have HC0 := Aside0.mk (fun (j : Nat) (hj : j < a0.size) => bt_cell w 5 a0 j hj)
  have HF0 := Aside0.mk (fun (j : Nat) (hj : j < a0.size) => bt_frozen w 5 a0 j hj)
  generalize Lib.bytesWorld w 5 a0 = W at *
  generalize grownCap w a0.size 0 5 = cp
  have HSZ := Aside0.mk (show a1.size = a0.size by omega)
  have hn4 : a0.size ≤ 400 := by omega
  clear h1 h2 h3 h5 hs h4
  go_loopg [7, 22] a0.size (fun gk s7 s22 wr => ∃ i : Nat, i + gk = a0.size ∧ s22 = .int .i64 i ∧ Aside0 (∀ j, j < a0.size → wr.cell? ⟨w.heap.size, j, none⟩ = some (.int .u8 (if j < i then xorB a0 a1 j else bt a0 j))) ∧ Aside0 (∀ j, j < a0.size → wr.frozen? ⟨w.heap.size, j, none⟩ = false) ∧ Aside0 (Below w.heap.size w wr))
  case atStart => exact ⟨0, by omega, rfl, ⟨fun j hj => by rw [HC0.out j hj, if_neg (Nat.not_lt_zero _)]⟩, HF0, HB0⟩
  case round =>
    obtain ⟨i, hi, rfl, HC, HF, HB⟩ := hrel
    by_cases hlt : i < a0.size
    · have hlt' : decide ((i : Int) < (a0.size : Int)) = true := decide_eq_true (by omega)
      have hc : wr.cell? ⟨w.heap.size, i, none⟩ = some (.int .u8 (bt a0 i)) := by rw [HC.out i hlt, if_neg (Nat.lt_irrefl _)]
      have hf : wr.frozen? ⟨w.heap.size, i, none⟩ = false := HF.out i hlt
      have hbt : ∀ h : i < a1.size, ((a1[i]'h).toNat : Int) = bt a1 (i : Int) := fun h => bt_at a1 (i : Int) (by simpa using h)
      have hsz : (i : Int) < (a1.size : Int) := by rw [HSZ.out]; omega
      have hsz2 : i < a1.size := by rw [HSZ.out]; omega
      have hgk : gk = (a0.size - (i + 1)) + 1 := by omega
      have HGK := Aside0.mk hgk
      have HI := Aside0.mk hi
      clear hgk hi
      go_wp2
      go_region
      all_goals
        go_wp2
        go_roundg (a0.size - (i + 1))
        case measure => have := HGK.out; omega
        case rel =>
          refine ⟨i + 1, by have := HI.out; omega, by go_num, ⟨fun j hj => ?_⟩, ⟨fun j hj => ?_⟩, ⟨?_⟩⟩
          · show (wr.setCell ⟨w.heap.size, i, none⟩ (.int .u8 (xorB a0 a1 i))).cell? ⟨w.heap.size, j, none⟩ = _
            by_cases hji : j = i
            · subst hji
              rw [if_pos (Nat.lt_succ_self _)]
              exact World.cell?_setCell_same _ _ _ hc
            · have h := HC.out j hj
              rw [show (if j < i + 1 then xorB a0 a1 j else bt a0 j) = (if j < i then xorB a0 a1 j else bt a0 j) by
                by_cases hl : j < i
                · rw [if_pos hl, if_pos (by omega)]
                · rw [if_neg hl, if_neg (by omega)]]
              rw [← h]
              exact World.cell?_setCell_other wr ⟨w.heap.size, i, none⟩ ⟨w.heap.size, j, none⟩ _ (fun e => hji (Eq.symm (congrArg Addr.off e)))
          · show (wr.setCell ⟨w.heap.size, i, none⟩ (.int .u8 (xorB a0 a1 i))).frozen? ⟨w.heap.size, j, none⟩ = false
            rw [World.frozen?_setCell]
            exact HF.out j hj
          · exact below_drew (below_set HB.out (Nat.le_refl _))
    · have hlt' : decide ((i : Int) < (a0.size : Int)) = false := decide_eq_false (by omega)
      obtain rfl : gk = 0 := by omega
      have hin : i = a0.size := by omega
      have hC : Kd.C (Kd.int .u8) wr (some ⟨w.heap.size, 0, none⟩) a0.size (unlikeL a0 a1 a0.size) := ⟨by simp [unlikeL], by omega, fun _ => ⟨_, rfl, fun j x hj => ⟨[.int .u8 x], rfl, rfl, fun q u hq => by
        match q, hq with
        | 0, hq =>
          obtain rfl : Value.int .u8 x = u := by simpa using hq
          have hj2 : j < a0.size := by
            have := (List.getElem?_eq_some_iff.1 hj).1
            simpa [unlikeL] using this
          rw [show ((⟨w.heap.size, 0, none⟩ : Addr).add (j * (Kd.int .u8).sz + 0)) = ⟨w.heap.size, j, none⟩ by rw [Addr.add_lit, Nat.zero_add]; show (⟨w.heap.size, j * 1 + 0, none⟩ : Addr) = _; simp]
          rw [HC.out j hj2, if_pos (by omega)]
          unfold unlikeL at hj
          rw [List.getElem?_map, List.getElem?_range hj2] at hj
          have := Option.some.inj hj
          rw [← this]
        | q + 1, hq => simp at hq⟩⟩⟩
      have kd := fun c => Kd.C_string (c := c) (P := Try.prog) Try.underlying57 Try.underlying5 Try.underlying9 hC
      clear hC
      go_wp2
      go_ret2
      exact ⟨rfl, HB.out⟩
def impl_UnlikeBits.f (a0 a1 : ByteArray) : Option (ByteArray × Bool) := if a1.size = a0.size then (if a0.size ≤ 400 then some (strOfNums (unlikeL a0 a1 a0.size), true) else some (⟨#[]⟩, false)) else some (⟨#[]⟩, false)
set_option maxHeartbeats 4000000 in
set_option maxRecDepth 100000 in
theorem impl_UnlikeBits.calls (a0 : ByteArray) (a1 : ByteArray) (r1 : ByteArray) (r2 : Bool) (w : World) (h : impl_UnlikeBits.f a0 a1 = some (r1, r2)) :
    Calls Try.prog 15 #[.string a0, .string a1] w fun e w' => e = .returned (.tuple #[.string r1, .bool r2]) ∧ Below w.heap.size w w' := by
  unfold impl_UnlikeBits.f at h
  by_cases h1 : a1.size = a0.size
  · rw [if_pos h1] at h
    by_cases h2 : a0.size ≤ 400
    · rw [if_pos h2] at h
      obtain ⟨rfl, rfl⟩ := Prod.mk.inj (Option.some.inj h)
      exact impl_UnlikeBits.walk a0 a1 w h1 h2
    · rw [if_neg h2] at h
      obtain ⟨rfl, rfl⟩ := Prod.mk.inj (Option.some.inj h)
      have h3 : ((a0.size : Int) == (a1.size : Int)) = true := beq_iff_eq.mpr (by omega)
      have h4 : ((a0.size : Int) != (a1.size : Int)) = false := bne_eq_false_iff_eq.mpr (by omega)
      have h5 : decide ((400 : Int) < (a0.size : Int)) = true := decide_eq_true (by omega)
      have h6 : (400 : Int) < (a0.size : Int) := by omega
      clear h
      go_enter Try.func15, Try.ntmps15
      go_wp2
      all_goals first
        | (go_ret2; exact ⟨rfl, Below.refl _ _⟩)
        | omega
  · rw [if_neg h1] at h
    obtain ⟨rfl, rfl⟩ := Prod.mk.inj (Option.some.inj h)
    have h3 : ((a0.size : Int) == (a1.size : Int)) = false := beq_eq_false_iff_ne.mpr (by omega)
    have h4 : ((a0.size : Int) != (a1.size : Int)) = true := bne_iff_ne.mpr (by omega)
    have h5 : ¬ (a0.size : Int) = (a1.size : Int) := by omega
    have h6 : ¬ a0.size = a1.size := by omega
    clear h h1
    go_enter Try.func15, Try.ntmps15
    go_wp2
    all_goals first
      | (go_ret2; exact ⟨rfl, Below.refl _ _⟩)
      | omega

/-! ### laws_FnExactUnlikeBits: function 4 -/
def laws_FnExactUnlikeBits.f (a0 : ByteArray) (a1 : ByteArray) : Option (Bool) := if (a0.size : Int) > 1048576 then (some true) else (if (a1.size : Int) > 1048576 then (some true) else ((spec_UnlikeBits.f a0 a1).bind fun bt101 => ((impl_UnlikeBits.f a0 a1).bind fun bt103 => (if bt103.1.toList = bt101.1.toList then (if (bt103.2 != bt101.2) = true then (some false) else (some true)) else (some false)))))
set_option maxHeartbeats 8000000 in
set_option maxRecDepth 100000 in
theorem laws_FnExactUnlikeBits.calls (a0 : ByteArray) (a1 : ByteArray) (r : Bool) (w : World) (h : laws_FnExactUnlikeBits.f a0 a1 = some r) :
    Calls Try.prog 4 #[.string a0, .string a1] w fun e w' => e = .returned (.bool r) ∧ Below w.heap.size w w' := by
  have HB := Aside0.mk (Below.refl w.heap.size w)
  have H : (if (a0.size : Int) > 1048576 then (some true) else (if (a1.size : Int) > 1048576 then (some true) else ((spec_UnlikeBits.f a0 a1).bind fun bt101 => ((impl_UnlikeBits.f a0 a1).bind fun bt103 => (if bt103.1.toList = bt101.1.toList then (if (bt103.2 != bt101.2) = true then (some false) else (some true)) else (some false)))))) = some r := h
  clear h
  by_cases c3 : (a0.size : Int) > 1048576
  · rw [if_pos c3] at H
    have c3b0 : decide (1048576 < (a0.size : Int)) = true := decide_eq_true c3
    have c3b1 : decide (1048576 < a0.size) = true := decide_eq_true (by omega)
    clear c3
    obtain rfl := Option.some.inj H
    go_enter Try.func4, Try.ntmps4
    go_wp2
    go_ret
    exact ⟨by first | rfl | (simp [errW_none, errW_some] <;> rfl) | (simp [*, errW_none, errW_some] <;> rfl), by repeat (first | (with_reducible first | exact HB.out | apply below_alloc | apply pw_below_drewN | apply below_drew1) | exact HB.out)⟩
  · rw [if_neg c3] at H
    have c3b0 : decide (1048576 < (a0.size : Int)) = false := decide_eq_false c3
    have c3b1 : decide (1048576 < a0.size) = false := decide_eq_false (by omega)
    clear c3
    by_cases c4 : (a1.size : Int) > 1048576
    · rw [if_pos c4] at H
      have c4b0 : decide (1048576 < (a1.size : Int)) = true := decide_eq_true c4
      have c4b1 : decide (1048576 < a1.size) = true := decide_eq_true (by omega)
      clear c4
      obtain rfl := Option.some.inj H
      go_enter Try.func4, Try.ntmps4
      go_wp2
      go_ret
      exact ⟨by first | rfl | (simp [errW_none, errW_some] <;> rfl) | (simp [*, errW_none, errW_some] <;> rfl), by repeat (first | (with_reducible first | exact HB.out | apply below_alloc | apply pw_below_drewN | apply below_drew1) | exact HB.out)⟩
    · rw [if_neg c4] at H
      have c4b0 : decide (1048576 < (a1.size : Int)) = false := decide_eq_false c4
      have c4b1 : decide (1048576 < a1.size) = false := decide_eq_false (by omega)
      clear c4
      replace H := Option.bind_eq_some_iff.mp H
      obtain ⟨⟨t101, t102⟩, A50, H⟩ := H
      replace H : ((impl_UnlikeBits.f a0 a1).bind fun bt103 => (if bt103.1.toList = t101.toList then (if (bt103.2 != t102) = true then (some false) else (some true)) else (some false))) = some r := H
      have A5 := Aside0.mk A50
      clear A50
      replace H := Option.bind_eq_some_iff.mp H
      obtain ⟨⟨t103, t104⟩, A60, H⟩ := H
      replace H : (if t103.toList = t101.toList then (if (t104 != t102) = true then (some false) else (some true)) else (some false)) = some r := H
      have A6 := Aside0.mk A60
      clear A60
      by_cases c7 : t103.toList = t101.toList
      · rw [if_pos c7] at H
        have c7b0 : (t103.toList == t101.toList) = true := beq_iff_eq.mpr c7
        have c7b1 : (t103.toList != t101.toList) = false := bne_eq_false_iff_eq.mpr c7
        clear c7
        by_cases c8 : (t104 != t102) = true
        · rw [if_pos c8] at H
          have c8b0 : (t104 != t102) = true := c8
          (try (have c8b1 : decide (t104 = t102) = false := by simpa using c8))
          (try (have c8b2 : (t104 == t102) = false := by simpa using c8))
          (try (have c8b3 : ¬ (t104 = t102) := by simpa using c8))
          clear c8
          obtain rfl := Option.some.inj H
          go_enter Try.func4, Try.ntmps4
          go_wp2_with (first | ((with_reducible refine gate_callee (f := 14) rfl ?_); refine goesL_ (some 18) rfl rfl Try.func14 (by kernel_rfl) rfl #[.string a0, .string a1] rfl (by (try simp only [List.map_toArray, List.map_cons, List.map_nil]); first | done | rfl | (simp only [List.length_drop, List.length_take]; rfl)) ?_; (with_reducible refine (spec_UnlikeBits.calls a0 a1 t101 t102 _ A5.out).mono ?_); rintro e w9 ⟨rfl, hb⟩; refine ⟨_, rfl, ?_⟩; have n0_ := Aside0.mk (below_step (by repeat (first | (with_reducible first | exact HB.out | apply below_alloc | apply pw_below_drewN | apply below_drew1) | exact HB.out)) hb); clear HB; have HB := n0_; clear n0_; (try clear hb); (try clear hb2); (try clear hk); (try clear hi)) | ((with_reducible refine gate_callee (f := 15) rfl ?_); refine goesL_ (some 24) rfl rfl Try.func15 (by kernel_rfl) rfl #[.string a0, .string a1] rfl (by (try simp only [List.map_toArray, List.map_cons, List.map_nil]); first | done | rfl | (simp only [List.length_drop, List.length_take]; rfl)) ?_; (with_reducible refine (impl_UnlikeBits.calls a0 a1 t103 t104 _ A6.out).mono ?_); rintro e w10 ⟨rfl, hb⟩; refine ⟨_, rfl, ?_⟩; have n0_ := Aside0.mk (below_step (by repeat (first | (with_reducible first | exact HB.out | apply below_alloc | apply pw_below_drewN | apply below_drew1) | exact HB.out)) hb); clear HB; have HB := n0_; clear n0_; (try clear hb); (try clear hb2); (try clear hk); (try clear hi)))
          go_ret
          exact ⟨by first | rfl | (simp [errW_none, errW_some] <;> rfl) | (simp [*, errW_none, errW_some] <;> rfl), by repeat (first | (with_reducible first | exact HB.out | apply below_alloc | apply pw_below_drewN | apply below_drew1) | exact HB.out)⟩
        · rw [if_neg c8] at H
          have c8b0 : (t104 != t102) = false := by simpa using c8
          (try (have c8b1 : decide (t104 = t102) = true := by simpa using c8))
          (try (have c8b2 : (t104 == t102) = true := by simpa using c8))
          clear c8
          obtain rfl := Option.some.inj H
          go_enter Try.func4, Try.ntmps4
          go_wp2_with (first | ((with_reducible refine gate_callee (f := 14) rfl ?_); refine goesL_ (some 18) rfl rfl Try.func14 (by kernel_rfl) rfl #[.string a0, .string a1] rfl (by (try simp only [List.map_toArray, List.map_cons, List.map_nil]); first | done | rfl | (simp only [List.length_drop, List.length_take]; rfl)) ?_; (with_reducible refine (spec_UnlikeBits.calls a0 a1 t101 t102 _ A5.out).mono ?_); rintro e w11 ⟨rfl, hb⟩; refine ⟨_, rfl, ?_⟩; have n0_ := Aside0.mk (below_step (by repeat (first | (with_reducible first | exact HB.out | apply below_alloc | apply pw_below_drewN | apply below_drew1) | exact HB.out)) hb); clear HB; have HB := n0_; clear n0_; (try clear hb); (try clear hb2); (try clear hk); (try clear hi)) | ((with_reducible refine gate_callee (f := 15) rfl ?_); refine goesL_ (some 24) rfl rfl Try.func15 (by kernel_rfl) rfl #[.string a0, .string a1] rfl (by (try simp only [List.map_toArray, List.map_cons, List.map_nil]); first | done | rfl | (simp only [List.length_drop, List.length_take]; rfl)) ?_; (with_reducible refine (impl_UnlikeBits.calls a0 a1 t103 t104 _ A6.out).mono ?_); rintro e w12 ⟨rfl, hb⟩; refine ⟨_, rfl, ?_⟩; have n0_ := Aside0.mk (below_step (by repeat (first | (with_reducible first | exact HB.out | apply below_alloc | apply pw_below_drewN | apply below_drew1) | exact HB.out)) hb); clear HB; have HB := n0_; clear n0_; (try clear hb); (try clear hb2); (try clear hk); (try clear hi)))
          go_ret
          exact ⟨by first | rfl | (simp [errW_none, errW_some] <;> rfl) | (simp [*, errW_none, errW_some] <;> rfl), by repeat (first | (with_reducible first | exact HB.out | apply below_alloc | apply pw_below_drewN | apply below_drew1) | exact HB.out)⟩
      · rw [if_neg c7] at H
        have c7b0 : (t103.toList == t101.toList) = false := beq_eq_false_iff_ne.mpr c7
        have c7b1 : (t103.toList != t101.toList) = true := bne_iff_ne.mpr c7
        obtain rfl := Option.some.inj H
        go_enter Try.func4, Try.ntmps4
        go_wp2_with (first | ((with_reducible refine gate_callee (f := 14) rfl ?_); refine goesL_ (some 18) rfl rfl Try.func14 (by kernel_rfl) rfl #[.string a0, .string a1] rfl (by (try simp only [List.map_toArray, List.map_cons, List.map_nil]); first | done | rfl | (simp only [List.length_drop, List.length_take]; rfl)) ?_; (with_reducible refine (spec_UnlikeBits.calls a0 a1 t101 t102 _ A5.out).mono ?_); rintro e w13 ⟨rfl, hb⟩; refine ⟨_, rfl, ?_⟩; have n0_ := Aside0.mk (below_step (by repeat (first | (with_reducible first | exact HB.out | apply below_alloc | apply pw_below_drewN | apply below_drew1) | exact HB.out)) hb); clear HB; have HB := n0_; clear n0_; (try clear hb); (try clear hb2); (try clear hk); (try clear hi)) | ((with_reducible refine gate_callee (f := 15) rfl ?_); refine goesL_ (some 24) rfl rfl Try.func15 (by kernel_rfl) rfl #[.string a0, .string a1] rfl (by (try simp only [List.map_toArray, List.map_cons, List.map_nil]); first | done | rfl | (simp only [List.length_drop, List.length_take]; rfl)) ?_; (with_reducible refine (impl_UnlikeBits.calls a0 a1 t103 t104 _ A6.out).mono ?_); rintro e w14 ⟨rfl, hb⟩; refine ⟨_, rfl, ?_⟩; have n0_ := Aside0.mk (below_step (by repeat (first | (with_reducible first | exact HB.out | apply below_alloc | apply pw_below_drewN | apply below_drew1) | exact HB.out)) hb); clear HB; have HB := n0_; clear n0_; (try clear hb); (try clear hb2); (try clear hk); (try clear hi)))
        go_ret
        exact ⟨by first | rfl | (simp [errW_none, errW_some] <;> rfl) | (simp [*, errW_none, errW_some] <;> rfl), by repeat (first | (with_reducible first | exact HB.out | apply below_alloc | apply pw_below_drewN | apply below_drew1) | exact HB.out)⟩

/-- THE ONE PURE STATEMENT of laws_FnExactUnlikeBits: yours. -/
def laws_FnExactUnlikeBits.Pure : Prop := ∀ (a0 : ByteArray) (a1 : ByteArray), a0.size ≤ 140737488351232 → a1.size ≤ 140737488351232 → laws_FnExactUnlikeBits.f a0 a1 = some true
theorem laws_FnExactUnlikeBits.walk (P : laws_FnExactUnlikeBits.Pure) (a0 : ByteArray) (a1 : ByteArray) (w : World) (w0 : a0.size ≤ 140737488351232) (w1 : a1.size ≤ 140737488351232) :
    Calls Try.prog 4 #[.string a0, .string a1] w fun e w' => e = .returned (.bool true) ∧ Below w.heap.size w w' := by
  have h := P a0 a1 w0 w1
  refine (laws_FnExactUnlikeBits.calls a0 a1 true w h).mono ?_
  rintro e w' ⟨rfl, hd⟩
  exact ⟨rfl, hd⟩

end Go.Proofs.Ytknngaomlfdhiaa.PFnExactUnlikeBits
